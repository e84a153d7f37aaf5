/- The walk of package pack's Write. -/
import Derived.Test.YtalkheljejkpiaaDoorPack1
import Derived.Test.YtalkheljejkpiaaDoorPackLaw2
import Derived.Test.YtalkheljejkpiaaDoorObjCells
import Derived.Test.YtalkheljejkpiaaDoorObjectIds
import Derived.Test.YtalkheljejkpiaaDoorRef
import Derived.Test.YtalkheljejkpiaaDoorBas
namespace Go.Proofs.YtalkheljejkpiaaDoor
open Go.RowKit
set_option linter.unusedVariables false
set_option linter.unusedSimpArgs false

/-- Depths that are known, and zeros. -/
def Dp (deep : List Nat) (n : Nat) : List Int := deep.map (fun k : Nat => (k : Int)) ++ List.replicate (n - deep.length) 0
theorem Dp_len {deep : List Nat} {n : Nat} (h : deep.length ≤ n) : (Dp deep n).length = n := by simp [Dp]; omega
theorem Dp_at {deep : List Nat} {n i : Nat} (h : i < deep.length) : (Dp deep n).getD i 0 = ((deep.getD i 0 : Nat) : Int) := by
  unfold Dp
  rw [List.getD, List.getElem?_append_left (by simpa using h), List.getElem?_map, List.getD, List.getElem?_eq_getElem h]
  rfl
theorem Dp_snoc {deep : List Nat} {n : Nat} (h : deep.length < n) (x : Nat) : (Dp deep n).set deep.length ((x : Nat) : Int) = Dp (deep ++ [x]) n := by
  unfold Dp
  rw [List.set_append_right _ _ (by simp), List.length_map, Nat.sub_self, show n - deep.length = (n - (deep ++ [x]).length) + 1 by simp; omega, List.replicate_succ, List.set_cons_zero, List.map_append, List.append_assoc]
  rfl
theorem Dp_zero {deep : List Nat} {n : Nat} (h : deep.length < n) : Dp deep n = Dp (deep ++ [0]) n := by
  unfold Dp
  rw [show n - deep.length = (n - (deep ++ [0]).length) + 1 by simp; omega, List.replicate_succ, List.map_append, List.append_assoc]
  rfl
theorem ivs_setI (D : List Int) (i : Nat) (x : Int) : (ivs D).set i (.int .i64 x) = ivs (D.set i x) := by simp [ivs, List.map_set]
/-- A writer, and a row of depths beside it. -/
structure PkSt (w : World) (B g gd n : Nat) (v : Value) (l : List UInt8) (D : List Int) : Prop where
  wr : WrSt w B g v l 0
  own : w.ownsRow B 3 1 (.slice (some ⟨gd, 0, none⟩) n n) D.length (ivs D)
  len : D.length = n
  ne : gd ≠ g
  no : v.ownBlock ≠ some gd
theorem PkSt.lt {w : World} {B g gd n : Nat} {v : Value} {l : List UInt8} {D : List Int} (h : PkSt w B g gd n v l D) : B ≤ gd ∧ gd < w.heap.size := by
  obtain ⟨h1, ⟨h2, _⟩ | ⟨g', cap', cur, hv, hbg, hg, _⟩⟩ := h.own
  · cases h2
  · injection hv with hv _ _; injection hv with hv; injection hv with hv _ _
    rw [hv]; exact ⟨hbg, lt_of_block hg⟩
theorem PkSt.wrote {w w' : World} {B g gd n : Nat} {v : Value} {l l' : List UInt8} {D : List Int} {e : Ending} (h : PkSt w B g gd n v l D) (hg : B ≤ g) (ht : WrTo w B g v l' 0 e w') :
    e = .returned (.tuple #[]) ∧ ∃ v', PkSt w' B g gd n v' l' D ∧ Below B w w' := by
  have hz := h.lt
  obtain ⟨he, v', hs, hb, hx⟩ := ht.use hg h.wr
  obtain ⟨_, _, _, hu, _⟩ := ht
  refine ⟨he, v', ⟨hs, owns_upd h.own hu ?_, h.len, h.ne, (hx gd hz.2 h.ne h.no).2⟩, hb⟩
  intro k hk hS
  have : k = gd := by simpa [Value.ownBlock] using hk.symm
  subst this
  rcases hS with hS | hS
  · exact h.ne hS
  · exact h.no hS
theorem PkSt.below {w w' : World} {B g gd n : Nat} {v : Value} {l : List UInt8} {D : List Int} (h : PkSt w B g gd n v l D) (hb : Below w.heap.size w w') : PkSt w' B g gd n v l D :=
  ⟨h.wr.below hb, owns_upd h.own (Upd.of_below hb) (fun _ _ h => h), h.len, h.ne, h.no⟩
theorem PkSt.store {w : World} {B g gd n : Nat} {v : Value} {l : List UInt8} {D : List Int} (h : PkSt w B g gd n v l D) (i : Nat) (x : Int) : PkSt (w.setCell ⟨gd, i, none⟩ (.int .i64 x)) B g gd n v l (D.set i x) ∧ Below B w (w.setCell ⟨gd, i, none⟩ (.int .i64 x)) := by
  have hu : Upd (· = gd) w (w.setCell ⟨gd, i, none⟩ (.int .i64 x)) := (Upd.refl (· = gd) w).setCell (.inl rfl) _
  have ho := h.own
  rw [h.len] at ho
  have ho2 := own_set ho i (.int .i64 x)
  rw [ivs_setI] at ho2
  refine ⟨⟨h.wr.upd hu (fun e => h.ne e.symm) (fun k hk e => h.no (by rw [hk, e])), ?_, by rw [List.length_set]; exact h.len, h.ne, h.no⟩, hu.below h.wr.le (fun k hk => by rw [hk]; exact h.lt.1)⟩
  rw [List.length_set, h.len]; exact ho2
theorem PkSt.cells {w : World} {B g gd n : Nat} {v : Value} {l : List UInt8} {D : List Int} (h : PkSt w B g gd n v l D) {i : Nat} (hi : i < n) : w.cell? ⟨gd, i, none⟩ = some (.int .i64 (D.getD i 0)) ∧ w.frozen? ⟨gd, i, none⟩ = false := by
  have hr : rdI w (.slice (some ⟨gd, 0, none⟩) D.length n) D := by
    have := rdI_owns h.own
    unfold rdI at this ⊢
    rw [h.len] at this ⊢; exact this
  have hi' : i < D.length := by rw [h.len]; exact hi
  constructor
  · have := rdI_cl hr hi'
    rwa [Nat.zero_add] at this
  · obtain ⟨h1, ⟨h2, _⟩ | ⟨g', cap', cur, hv, hbg, hg, _⟩⟩ := h.own
    · cases h2
    · injection hv with hv _ _; injection hv with hv; injection hv with hv _ _
      subst hv
      unfold World.frozen?
      simp [hg]
/-- Beside them a choice's block. -/
structure PkC (w : World) (B g gd bb n : Nat) (v : Value) (l : List UInt8) (D : List Int) (C : Array Value) : Prop where
  st : PkSt w B g gd n v l D
  blk : w.heap[bb]? = some (.cells C 71 (0, 0))
  ng : bb ≠ g
  nd : bb ≠ gd
  nv : v.ownBlock ≠ some bb
theorem PkC.wrote {w w' : World} {B g gd bb n : Nat} {v : Value} {l l' : List UInt8} {D : List Int} {C : Array Value} {e : Ending} (h : PkC w B g gd bb n v l D C) (hg : B ≤ g) (ht : WrTo w B g v l' 0 e w') :
    e = .returned (.tuple #[]) ∧ ∃ v', PkC w' B g gd bb n v' l' D C ∧ Below B w w' := by
  have hz := h.st.lt
  obtain ⟨he, v', hs, hb, hx⟩ := ht.use hg h.st.wr
  obtain ⟨_, _, _, hu, _⟩ := ht
  obtain ⟨x1, x2⟩ := hx gd hz.2 h.st.ne h.st.no
  obtain ⟨y1, y2⟩ := hx bb (lt_of_block h.blk) h.ng h.nv
  refine ⟨he, v', ⟨⟨hs, owns_upd h.st.own hu ?_, h.st.len, h.st.ne, x2⟩, by rw [y1]; exact h.blk, h.ng, h.nd, y2⟩, hb⟩
  intro k hk hS
  have : k = gd := by simpa [Value.ownBlock] using hk.symm
  subst this
  rcases hS with hS | hS
  · exact h.st.ne hS
  · exact h.st.no hS
theorem PkC.below {w w' : World} {B g gd bb n : Nat} {v : Value} {l : List UInt8} {D : List Int} {C : Array Value} (h : PkC w B g gd bb n v l D C) (hb : Below w.heap.size w w') : PkC w' B g gd bb n v l D C :=
  ⟨h.st.below hb, blk_below h.blk hb, h.ng, h.nd, h.nv⟩
theorem PkC.store {w : World} {B g gd bb n : Nat} {v : Value} {l : List UInt8} {D : List Int} {C : Array Value} (h : PkC w B g gd bb n v l D C) (i : Nat) (x : Int) : PkC (w.setCell ⟨gd, i, none⟩ (.int .i64 x)) B g gd bb n v l (D.set i x) C ∧ Below B w (w.setCell ⟨gd, i, none⟩ (.int .i64 x)) := by
  obtain ⟨h1, h2⟩ := h.st.store i x
  exact ⟨⟨h1, blk_upd (S := (· = gd)) h.blk ((Upd.refl (· = gd) w).setCell (.inl rfl) _) h.nd, h.ng, h.nd, h.nv⟩, h2⟩
theorem PkSt.withC {w w1 w2 : World} {B g gd n : Nat} {v : Value} {l : List UInt8} {D : List Int} {C : Array Value} (h : PkSt w B g gd n v l D) (h1 : Below w.heap.size w w1) (hg : w2.heap[w1.heap.size]? = some (.cells C 71 (0, 0))) (hb : Below w1.heap.size w1 w2) : PkC w2 B g gd w1.heap.size n v l D C := by
  have h2 := h.below h1
  refine ⟨h2.below hb, hg, ?_, ?_, ?_⟩
  · have := lt_of_block h2.wr.blk; omega
  · have := h2.lt.2; omega
  · intro e; have := (h2.wr.own.lt _ e).2; omega
theorem PkC.next {w : World} {B g gd bb n : Nat} {v : Value} {l l2 : List UInt8} {D D2 : List Int} {C : Array Value} (h : PkC w B g gd bb n v l D C) (h1 : l = l2) (h2 : D = D2) : PkSt w B g gd n v l2 D2 := by subst h1 h2; exact h.st
theorem deep_0 {deep : List Nat} {c : Ch} (k : c.1 = 0) : deepCh deep c = 0 := by unfold deepCh; rw [if_pos k]
theorem deep_1 {deep : List Nat} {c : Ch} (k : c.1 = 1) : deepCh deep c = deep.getD c.2.1 0 + 1 := by unfold deepCh; rw [if_neg (by rw [k]; decide), if_pos k]
theorem deep_2 {deep : List Nat} {c : Ch} (k : c.1 = 2) : deepCh deep c = 1 := by unfold deepCh; rw [if_neg (by rw [k]; decide), if_neg (by rw [k]; decide)]
theorem made_ints (n : Nat) : (madeCells (Value.int .i64 0).cells (n * 1)).toList = ivs (Dp [] n) := by
  apply List.ext_getElem
  · simp [madeCells, Dp, ivs]
  · intro i h1 h2
    simp [madeCells, Value.cells, Dp, ivs, Nat.mod_one]
theorem PkSt.rd {w : World} {B g gd n : Nat} {v : Value} {l : List UInt8} {D : List Int} (h : PkSt w B g gd n v l D) : rdI w (.slice (some ⟨gd, 0, none⟩) n n) D := rdI_owns h.own
theorem writeF_1 {sm : ByteArray → ByteArray} {l out : List ByteArray} (h : 400 < l.length ∨ 400 < out.length) : writeF sm l out = (noB, 6) := by unfold writeF; rw [if_pos h]
theorem writeF_2 {sm : ByteArray → ByteArray} {l out : List ByteArray} {k : Nat} {e : Int} (h : ¬ (400 < l.length ∨ 400 < out.length)) (hk : k < l.length) (hj : ∀ j, j < k → rowWr l j = 0) (he : e ≠ 0) (hr : rowWr l k = e) : writeF sm l out = (noB, e) := by
  have hc : checkWr l = e := by
    unfold checkWr
    rw [firstE_at (k := k) (by rw [hr]; exact he) (Nat.zero_le _) (by omega) (fun j _ h => hj j h), hr]
  unfold writeF; rw [if_neg h, hc, if_pos he]
theorem checkWr_all {l : List ByteArray} (hj : ∀ j, j < l.length → rowWr l j = 0) : checkWr l = 0 := firstE_all (fun j _ h => hj j (by omega))
theorem writeF_3 {sm : ByteArray → ByteArray} {l out : List ByteArray} (h : ¬ (400 < l.length ∨ 400 < out.length)) (hj : checkWr l = 0) : writeF sm l out = (packB sm out l ++ sm (packB sm out l), 0) := by
  unfold writeF; rw [if_neg h, if_neg (fun k => k hj)]
theorem rowWr_1 {l : List ByteArray} {k : Nat} {e : Int} (h : (decodeF (l.getD k noB)).2 = e) (he : e ≠ 0) : rowWr l k = e := by unfold rowWr; rw [h, if_pos he]
theorem rowWr_2 {l : List ByteArray} {k : Nat} (h : (decodeF (l.getD k noB)).2 = 0) (hb : hasB (l.take k) (l.getD k noB) = true) : rowWr l k = 8 := by unfold rowWr; rw [h, if_neg (fun k => k rfl), if_pos hb]
theorem rowWr_3 {l : List ByteArray} {k : Nat} (h : (decodeF (l.getD k noB)).2 = 0) (hb : hasB (l.take k) (l.getD k noB) = false) : rowWr l k = 0 := by unfold rowWr; rw [h, if_neg (fun k => k rfl), if_neg (by rw [hb]; decide)]
theorem ch_zero {sm : ByteArray → ByteArray} {out : List ByteArray} {s : ByteArray} {c : Ch} (k : c.1 = 0) : encCh sm out s c = enc 0 ++ (enc s.size ++ s.data.toList) := by unfold encCh; rw [if_pos k]
theorem ch_one {sm : ByteArray → ByteArray} {out : List ByteArray} {s : ByteArray} {c : Ch} (k : c.1 = 1) : encCh sm out s c = enc 1 ++ (enc c.2.1 ++ encT c.2.2) := by unfold encCh; rw [if_neg (by rw [k]; decide), if_pos k]
theorem ch_two {sm : ByteArray → ByteArray} {out : List ByteArray} {s : ByteArray} {c : Ch} (k : c.1 = 2) : encCh sm out s c = enc 2 ++ ((sm (out.getD c.2.1 noB)).data.toList ++ encT c.2.2) := by unfold encCh; rw [if_neg (by rw [k]; decide), if_neg (by rw [k]; decide)]
theorem packG_all (sm : ByteArray → ByteArray) (out l : List ByteArray) (hsm : ∀ b, (sm b).size = 32) (hw : checkWr l = 0) (hl : l.length ≤ 400) {k : Nat} (hk : k ≤ l.length) : (packG sm out l k).1.length ≤ 4000000 := by
  have h1 := packG_size sm hsm hw hl (out := out) k hk
  have h2 := sizeP_bound hw k hk
  omega
set_option maxRecDepth 100000 in
set_option maxHeartbeats 3200000 in
theorem packW_any (l out : List ByteArray) (vl vo : Value) (w : World) (hl : rdS w vl l) (ho : rdS w vo out) (hsl : smalls l) (hso : smalls out) (ht : Tab w) :
    Calls Tryd.prog 10 #[vl, vo] w fun e w' => e = .returned (.tuple #[.string (writeF sumF l out).1, .int .i64 (writeF sumF l out).2]) ∧ Below w.heap.size w w' := by
  obtain ⟨F, hF⟩ : ∃ F, F = writeF sumF l out := ⟨_, rfl⟩
  rw [← hF]
  have HLN := Lib.hid (And.intro (rdS_len hl) (rdS_len ho))
  have HL := Lib.hid (fun wr (h : Below w.heap.size w wr) => hl.below h)
  have HO := Lib.hid (fun wr (h : Below w.heap.size w wr) => ho.below h)
  have HT := Lib.hid (fun wr (h : Below w.heap.size w wr) => ht.below h)
  have HSL := Lib.hid hsl
  have HSO := Lib.hid hso
  have HF := Lib.hid hF
  have HB0 := Lib.hid (Below.refl w.heap.size w)
  obtain ⟨a1, a2, rfl⟩ := rd_form hl
  obtain ⟨a5, a6, rfl⟩ := rd_form ho
  clear hl ho hsl hso ht hF
  by_cases hc1 : 400 < l.length
  · have t1 : decide ((400 : Int) < (l.length : Int)) = true := decide_eq_true (by omega)
    have t2 : decide (400 < l.length) = true := decide_eq_true hc1
    have hF := HF.out.trans (writeF_1 (.inl hc1))
    subst hF
    clear hc1
    go_enter Tryd.func10, Tryd.ntmps10
    go_wp2_with fail
    go_ret2
    exact ⟨rfl, HB0.out⟩
  · have t1 : decide ((400 : Int) < (l.length : Int)) = false := decide_eq_false (by omega)
    have t2 : decide (400 < l.length) = false := decide_eq_false hc1
    by_cases hc2 : 400 < out.length
    · have t3 : decide ((400 : Int) < (out.length : Int)) = true := decide_eq_true (by omega)
      have t4 : decide (400 < out.length) = true := decide_eq_true hc2
      have hF := HF.out.trans (writeF_1 (.inr hc2))
      subst hF
      clear hc1 hc2
      go_enter Tryd.func10, Tryd.ntmps10
      go_wp2_with fail
      go_ret2
      exact ⟨rfl, HB0.out⟩
    · have t3 : decide ((400 : Int) < (out.length : Int)) = false := decide_eq_false (by omega)
      have t4 : decide (400 < out.length) = false := decide_eq_false hc2
      have HLL := Lib.hid (show l.length ≤ 400 ∧ out.length ≤ 400 by omega)
      have HNO := Lib.hid (show ¬ (400 < l.length ∨ 400 < out.length) by omega)
      clear hc1 hc2
      go_enter Tryd.func10, Tryd.ntmps10
      go_wp2_with fail
      clear t1 t2 t3 t4
      go_loopw [27] (fun i wr => ∃ k : Nat, k ≤ l.length ∧ i = .int .i64 (k : Int) ∧ Hid (∀ j, j < k → rowWr l j = 0) ∧ Hid (Below w.heap.size w wr)) (fun i _ => l.length - (intOf i).toNat)
      case atStart => exact ⟨0, Nat.zero_le _, rfl, Lib.hid fun j hj => absurd hj (Nat.not_lt_zero _), HB0⟩
      case round =>
        clear HB0
        obtain ⟨k, hk, rfl, HALL, HB1⟩ := hrel
        by_cases hkl : k < l.length
        · have HKL := Lib.hid hkl
          have kb : decide ((k : Int) < (l.length : Int)) = true := decide_eq_true (by omega)
          have ki : (k : Int) < (l.length : Int) := by omega
          have kz : (0 : Int) ≤ (k : Int) := by omega
          obtain ⟨bl, ol, hbl, _, hcl⟩ := rdS_at' (HL.out _ HB1.out) (by omega)
          subst hbl
          have e0 := hcl k hkl
          obtain ⟨x, hx⟩ : ∃ x, x = l.getD k noB := ⟨_, rfl⟩
          rw [← hx] at e0
          have HDEC := Lib.hid (decode_any x wr (by rw [hx]; have := smalls_at HSL.out k; exact Nat.le_trans this (by decide)))
          obtain ⟨⟨o, ed⟩, hq⟩ : ∃ q, q = decodeF x := ⟨_, rfl⟩
          rw [← hq] at HDEC
          have HED := Lib.hid (show (decodeF (l.getD k noB)).2 = ed by rw [← hx, ← hq])
          obtain ⟨vt, hrun, hrt⟩ := rdS_to (HL.out _ HB1.out) k (Nat.le_of_lt hkl)
          have HRT := Lib.hid hrt
          have HX := Lib.hid hx
          have hK1 : k + 1 ≤ l.length := hkl
          clear hcl hx hkl hq hrt
          go_wp2_with fail
          (with_reducible refine HDEC.out.mono ?_)
          rintro e w2 ⟨ve, vp, rfl, re, rs, hb⟩
          have HB2 := Lib.hid (HB1.out.trans (hb.mono HB1.out.size))
          have HRT2 := Lib.hid (HRT.out.below hb)
          obtain ⟨C, hC⟩ : ∃ C : Array Value, C = (objC o ve vp).toArray := ⟨_, rfl⟩
          have hsz : C.size = 9 := by rw [hC]; rfl
          have hone : C.all (·.oneCell') = true := by rw [hC]; exact objC_one re rs
          rw [← hC]
          clear hC re rs hb HDEC e0
          by_cases hz : ed = 0
          · subst hz
            obtain ⟨hb8, hhb⟩ : ∃ b, b = hasB (l.take k) x := ⟨_, rfl⟩
            have HCT := Lib.hid (fun wr (h : Below w2.heap.size w2 wr) => containsS_any (l.take k) x vt wr (HRT2.out.below h))
            rw [← hhb] at HCT
            have HHB := Lib.hid (show hasB (l.take k) (l.getD k noB) = hb8 by rw [← HX.out, hhb])
            clear hhb
            go_wp2_with (refine wpList_store_blk (by rfl) 54 (.tmp 8) (.tmp 35) rfl w2.heap.size C rfl rfl (old := _) (heap_alloc_new _ _) (by rw [hsz]; exact info_ob) (by rw [hsz]; rfl) hone ?_; intro w3 gz uz; have hbz := below_upd ((Below.refl w2.heap.size w2).alloc (Nat.le_refl _) _) uz (Nat.le_refl _) (by simp); have HCT3 := Lib.hid (HCT.out _ hbz); have HB3 := Lib.hid (HB2.out.trans (hbz.mono HB2.out.size)); clear gz uz hbz)
            (with_reducible refine HCT3.out.mono ?_)
            rintro e w4 ⟨rfl, rfl⟩
            clear HCT3 HCT
            cases hb8 with
            | true =>
              have hF := HF.out.trans (writeF_2 HNO.out HKL.out HALL.out (by decide) (rowWr_2 HED.out HHB.out))
              subst hF
              go_wp2_with fail
              go_ret2
              exact ⟨rfl, HB3.out⟩
            | false =>
              have HRW := Lib.hid (rowWr_3 HED.out HHB.out)
              have hk4 : (k : Int) < 400 := by have := HLL.out; omega
              go_wp2_with fail
              go_roundw
              case rel =>
                refine ⟨k + 1, hK1, rfl, Lib.hid (fun j hj => ?_), HB3⟩
                by_cases hjk : j = k
                · rw [hjk]; exact HRW.out
                · exact HALL.out j (by omega)
              case measure => exact meas_step (n := l.length) _ rfl HKL.out
          · have n1 : (ed == 0) = false := beq_eq_false_iff_ne.2 hz
            have n2 : (ed != 0) = true := by rw [bne, n1]; rfl
            have hF := HF.out.trans (writeF_2 HNO.out HKL.out HALL.out hz (rowWr_1 HED.out hz))
            subst hF
            clear hz
            go_wp2_with (refine wpList_store_blk (by rfl) 54 (.tmp 8) (.tmp 35) rfl w2.heap.size C rfl rfl (old := _) (heap_alloc_new _ _) (by rw [hsz]; exact info_ob) (by rw [hsz]; rfl) hone ?_; intro w3 gz uz; have hbz := below_upd ((Below.refl w2.heap.size w2).alloc (Nat.le_refl _) _) uz (Nat.le_refl _) (by simp); have HB3 := Lib.hid (HB2.out.trans (hbz.mono HB2.out.size)); clear gz uz hbz)
            go_ret2
            exact ⟨rfl, HB3.out⟩
        · have kb : decide ((k : Int) < (l.length : Int)) = false := decide_eq_false (by omega)
          have kb2 : decide (k < l.length) = false := decide_eq_false hkl
          have HCW := Lib.hid (checkWr_all (l := l) (fun j hj => HALL.out j (by omega)))
          have hF := HF.out.trans (writeF_3 HNO.out HCW.out)
          have HF3 := Lib.hid hF
          have HPL := Lib.hid (fun k (hk : k ≤ l.length) => packG_all sumF out l sumF_size HCW.out HLL.out.1 hk)
          clear hkl hF HALL
          obtain ⟨v2, hv2⟩ : ∃ v2, v2 = Value.slice none 0 0 := ⟨_, rfl⟩
          obtain ⟨w2, hX⟩ : ∃ X, wr.alloc (.cells #[.slice none 0 0, .int .i64 0] 67) = X := ⟨_, rfl⟩
          have hbx : Below wr.heap.size wr w2 := by rw [← hX]; exact (Below.refl _ _).alloc (Nat.le_refl _) _
          have HB2 := Lib.hid (HB1.out.trans (hbx.mono HB1.out.size))
          have HBG := Lib.hid HB1.out.size
          have HS2 := Lib.hid (show WrSt w2 w.heap.size wr.heap.size v2 [] 0 from by rw [hv2]; exact ⟨by rw [← hX]; exact heap_alloc_new _ _, World.ownsRow_nil _ _ _ _, by simp [Value.ownBlock], HB2.out.size⟩)
          clear hbx hv2
          have HC3 := Lib.hid (wBytes_good HS2.out ⟨#[80]⟩ (by decide))
          go_wp2_with fail
          (with_reducible refine HC3.out.mono ?_)
          rintro e w3 hto
          obtain ⟨rfl, v3, hs3, hb3, _⟩ := hto.use HBG.out HS2.out
          have HS3 := Lib.hid hs3
          have HB3 := Lib.hid (HB2.out.trans hb3)
          clear hX HC3 hto hs3 hb3
          have HC4 := Lib.hid (wNumber_good HS3.out (l.length : Int) (by omega) (by have := HLL.out; omega) (by decide))
          go_wp2_with fail
          (with_reducible refine HC4.out.mono ?_)
          rintro e w4 hto
          obtain ⟨rfl, v4, hs4, hb4, _⟩ := hto.use HBG.out HS3.out
          have HS4 := Lib.hid hs4
          have HB4 := Lib.hid (HB3.out.trans hb4)
          clear HC4 hto hs4 hb4
          obtain ⟨ii, hi, hiz, hisz, hibt⟩ := info_parts info_int
          go_wp2_with (refine wpList_make_full _ rfl (.tmp 55) (.tmp 55) 60 rfl w.heap.size 3 ii (.int .i64 0) 1 Tryd.underlying60 hi hiz hisz .i64 .i64 _ _ l.length rfl rfl rfl rfl (by rw [hibt]; have := HLL.out; omega) (by have := HLL.out; unfold maxLen; omega) HB4.out.size ?_; intro w5 ho5 hg5; have hb5 : Below w4.heap.size w4 w5 := ⟨hg5.os, hg5.tape, hg5.output, hg5.size, fun k hk => hg5.block k hk (by simp)⟩; have HO5 := Lib.hid ho5; have HL5 := Lib.hid hb5; clear ho5 hg5 hb5 hi hiz hisz hibt)
          have HB5 := Lib.hid (HB4.out.trans (HL5.out.mono HB4.out.size))
          have HP5 := Lib.hid (show PkSt w5 w.heap.size wr.heap.size w4.heap.size l.length v4 (packG sumF out l 0).1 (Dp (packG sumF out l 0).2 l.length) from by
            have hd : (Dp (packG sumF out l 0).2 l.length).length = l.length := Dp_len (Nat.zero_le _)
            have ho := HO5.out
            rw [made_ints] at ho
            exact ⟨by have := HS4.out.below HL5.out; simpa [packG] using this, by rw [hd]; exact ho, hd, by have := lt_of_block HS4.out.blk; omega, fun e => by have := (HS4.out.own.lt _ e).2; omega⟩)
          clear HS2 HS3 HS4 HB2 HB3 HB4 HL5 HO5 HB1
          obtain ⟨g, hg⟩ : ∃ g, g = wr.heap.size := ⟨_, rfl⟩
          obtain ⟨gd, hgd⟩ : ∃ gd, gd = w4.heap.size := ⟨_, rfl⟩
          rw [← hg] at HBG HP5
          rw [← hgd] at HP5
          try rw [← hg]
          try rw [← hgd]
          clear hg hgd
          go_loopw [59] (fun i wr => ∃ (k : Nat) (v : Value), k ≤ l.length ∧ i = .int .i64 (k : Int) ∧ Hid (PkSt wr w.heap.size g gd l.length v (packG sumF out l k).1 (Dp (packG sumF out l k).2 l.length)) ∧ Hid (Below w.heap.size w wr)) (fun i _ => l.length - (intOf i).toNat)
          case atStart => exact ⟨0, v4, Nat.zero_le _, rfl, HP5, HB5⟩
          case round =>
            clear HP5 HB5
            obtain ⟨k, v, hk, rfl, HP0, HB0⟩ := hrel
            by_cases hkl : k < l.length
            · have HKL := Lib.hid hkl
              have kb : decide ((k : Int) < (l.length : Int)) = true := decide_eq_true (by omega)
              have ki : (k : Int) < (l.length : Int) := by omega
              have kz : (0 : Int) ≤ (k : Int) := by omega
              obtain ⟨bl, ol, hbl, _, hcl⟩ := rdS_at' (HL.out _ HB0.out) (by omega)
              subst hbl
              have e0 := hcl k hkl
              obtain ⟨x, hx⟩ : ∃ x, x = l.getD k noB := ⟨_, rfl⟩
              rw [← hx] at e0
              obtain ⟨L, hL⟩ : ∃ L, L = (packG sumF out l k).1 := ⟨_, rfl⟩
              obtain ⟨dp, hdp⟩ : ∃ D, D = (packG sumF out l k).2 := ⟨_, rfl⟩
              rw [← hL, ← hdp] at HP0
              have HLD := Lib.hid (show dp.length = k by rw [hdp]; exact packG_len sumF out l k)
              obtain ⟨vt, hrun, hrt⟩ := rdS_to (HL.out _ HB0.out) k (Nat.le_of_lt hkl)
              have HX8 := Lib.hid (show x.size ≤ 8192 by rw [hx]; exact decode_size (rowWr_zero HCW.out hkl).1)
              have hbest := best_any x (l.take k) dp (Dp dp l.length) out vt _ _ wr (by have := HX8.out; omega) hrt HP0.out.rd (HO.out _ HB0.out) (smalls_take HSL.out k) HSO.out ⟨by rw [List.length_take]; have := HLL.out; omega, HLL.out.2⟩ ⟨by rw [HP0.out.len, List.length_take]; omega, fun i hi => Dp_at (by rw [List.length_take] at hi; have := HLD.out; omega)⟩
              obtain ⟨⟨how, at_, tx⟩, hc⟩ : ∃ c, c = bestF x (l.take k) dp out := ⟨_, rfl⟩
              rw [← hc] at hbest
              have HCO := Lib.hid (show ChOk x (l.take k) dp out (how, at_, tx) by rw [hc]; exact bestF_ok _ _ _ _)
              have hnx : packG sumF out l (k + 1) = (L ++ encCh sumF out x (how, at_, tx), dp ++ [deepCh dp (how, at_, tx)]) := by rw [packG_succ, chF, ← hx, ← hL, ← hdp, ← hc]
              have HNX1 := Lib.hid (congrArg Prod.fst hnx)
              have HNX2 := Lib.hid (congrArg Prod.snd hnx)
              have HLB := Lib.hid (show L.length ≤ 4000000 by rw [hL]; exact HPL.out k hk)
              have hK1 : k + 1 ≤ l.length := hkl
              clear hcl hx hkl hL hdp hrt hc hnx
              go_wp2_with fail
              (with_reducible refine hbest.mono ?_)
              rintro e w6 ⟨rfl, hb6⟩
              have HL6 := Lib.hid hb6
              have HB6 := Lib.hid (HB0.out.trans (hb6.mono HB0.out.size))
              clear hb6 hbest e0 hrun
              go_wp2_with (refine wpList_store_blk (by rfl) 71 (.tmp 14) (.tmp 70) rfl w6.heap.size #[.int .i64 (how : Int), .int .i64 (at_ : Int), .string tx] rfl rfl (old := _) (heap_alloc_new _ _) (by kernel_rfl) rfl (by simp [Value.oneCell']) ?_; intro w7 gz uz; have hbz := below_upd ((Below.refl w6.heap.size w6).alloc (Nat.le_refl _) _) uz (Nat.le_refl _) (by simp); have HP7 := Lib.hid (HP0.out.withC HL6.out gz hbz); have HB7 := Lib.hid (HB6.out.trans (hbz.mono HB6.out.size)); obtain ⟨d0, d1, d2⟩ := ch_cells HP7.out.blk; clear gz uz hbz)
              clear HP0 HL6 HB6 HB0
              rcases HCO.out.kind with hk0_ | hk0_ | hk0_
              · obtain rfl : how = 0 := hk0_
                replace d0 : w7.cell? ⟨w6.heap.size, 0, none⟩ = some (.int .i64 0) := d0
                have HTX := Lib.hid (HCO.out.zero rfl)
                have hx8 := HX8.out
                have HC8 := Lib.hid (wNumber_good HP7.out.st.wr (0 : Int) (by decide) (by decide) (by have := HLB.out; (try simp only [List.length_append, toList_length]);  omega))
                go_wp2_with fail
                (with_reducible refine HC8.out.mono ?_)
                rintro e w8 hto
                obtain ⟨rfl, v8, hs8, hb8⟩ := HP7.out.wrote HBG.out hto
                have HP8 := Lib.hid hs8
                have HB8 := Lib.hid (HB7.out.trans hb8)
                clear HC8 hto hs8 hb8 d0 d1 d2
                obtain ⟨d0, d1, d2⟩ := ch_cells HP8.out.blk
                replace d0 : w8.cell? ⟨w6.heap.size, 0, none⟩ = some (.int .i64 0) := d0
                have HC9 := Lib.hid (wNumber_good HP8.out.st.wr (x.size : Int) (by omega) (by have := HX8.out; omega) (by have := HLB.out; (try simp only [List.length_append, toList_length]); have := enc_len9 (Int.toNat 0) (by decide); omega))
                go_wp2_with fail
                (with_reducible refine HC9.out.mono ?_)
                rintro e w9 hto
                obtain ⟨rfl, v9, hs9, hb9⟩ := HP8.out.wrote HBG.out hto
                have HP9 := Lib.hid hs9
                have HB9 := Lib.hid (HB8.out.trans hb9)
                clear HC9 hto hs9 hb9 d0 d1 d2
                obtain ⟨d0, d1, d2⟩ := ch_cells HP9.out.blk
                replace d0 : w9.cell? ⟨w6.heap.size, 0, none⟩ = some (.int .i64 0) := d0
                have HCa := Lib.hid (wBytes_good HP9.out.st.wr x (by have := HLB.out; (try simp only [List.length_append, toList_length]); have := enc_len9 (Int.toNat 0) (by decide); have := HX8.out; have := enc_len9 (Int.toNat (x.size : Int)) (by have := HX8.out; omega); omega))
                go_wp2_with fail
                (with_reducible refine HCa.out.mono ?_)
                rintro e wa hto
                obtain ⟨rfl, va, hsa, hba⟩ := HP9.out.wrote HBG.out hto
                have HPa := Lib.hid hsa
                have HBa := Lib.hid (HB9.out.trans hba)
                clear HCa hto hsa hba d0 d1 d2
                obtain ⟨d0, d1, d2⟩ := ch_cells HPa.out.blk
                replace d0 : wa.cell? ⟨w6.heap.size, 0, none⟩ = some (.int .i64 0) := d0
                have HPN := Lib.hid (HPa.out.next (l2 := (packG sumF out l (k + 1)).1) (D2 := Dp (packG sumF out l (k + 1)).2 l.length) (by rw [HNX1.out, ch_zero rfl]; simp [encT]) (by rw [HNX2.out]; exact (by rw [deep_0 rfl]; exact Dp_zero (by rw [HLD.out]; exact HKL.out))))
                have hk4 : (k : Int) < 400 := by have := HKL.out; have := HLL.out; omega
                clear d0 d1 d2
                go_wp2_with fail
                exact ⟨⟨k + 1, va, hK1, rfl, HPN, HBa⟩, meas_step (n := l.length) _ rfl HKL.out⟩
              · obtain rfl : how = 1 := hk0_
                replace d0 : w7.cell? ⟨w6.heap.size, 0, none⟩ = some (.int .i64 1) := d0
                have h1 := HCO.out.one rfl
                dsimp only at h1
                rw [List.length_take] at h1
                have HAT := Lib.hid (show at_ < k by omega)
                have HTX := Lib.hid (show tx.size ≤ 4096 from h1.2.2.2.1)
                obtain ⟨dv, hdv⟩ : ∃ dv, dv = dp.getD at_ 0 := ⟨_, rfl⟩
                rw [← hdv] at h1
                have HD8 := Lib.hid h1.2.1
                have HDV := Lib.hid hdv
                clear h1 hdv
                have HC8 := Lib.hid (wNumber_good HP7.out.st.wr ((1 : Nat) : Int) (by decide) (by decide) (by have := HLB.out; (try simp only [List.length_append, toList_length]);  omega))
                go_wp2_with fail
                (with_reducible refine HC8.out.mono ?_)
                rintro e w8 hto
                obtain ⟨rfl, v8, hs8, hb8⟩ := HP7.out.wrote HBG.out hto
                have HP8 := Lib.hid hs8
                have HB8 := Lib.hid (HB7.out.trans hb8)
                clear HC8 hto hs8 hb8 d0 d1 d2
                obtain ⟨d0, d1, d2⟩ := ch_cells HP8.out.blk
                replace d0 : w8.cell? ⟨w6.heap.size, 0, none⟩ = some (.int .i64 1) := d0
                have HC9 := Lib.hid (wNumber_good HP8.out.st.wr (at_ : Int) (by omega) (by have := HAT.out; have := HKL.out; have := HLL.out; omega) (by have := HLB.out; (try simp only [List.length_append, toList_length]); have := enc_len9 (Int.toNat ((1 : Nat) : Int)) (by decide); omega))
                go_wp2_with fail
                (with_reducible refine HC9.out.mono ?_)
                rintro e w9 hto
                obtain ⟨rfl, v9, hs9, hb9⟩ := HP8.out.wrote HBG.out hto
                have HP9 := Lib.hid hs9
                have HB9 := Lib.hid (HB8.out.trans hb9)
                clear HC9 hto hs9 hb9 d0 d1 d2
                obtain ⟨d0, d1, d2⟩ := ch_cells HP9.out.blk
                replace d0 : w9.cell? ⟨w6.heap.size, 0, none⟩ = some (.int .i64 1) := d0
                obtain ⟨f0, f1⟩ := HP9.out.st.cells (show at_ < l.length by have := HAT.out; have := HKL.out; omega)
                rw [Dp_at (by rw [HLD.out]; exact HAT.out), ← HDV.out] at f0
                obtain ⟨g0, g1⟩ := HP9.out.st.cells HKL.out
                have hat1 : (at_ : Int) < (l.length : Int) := by have := HAT.out; have := HKL.out; omega
                have hat0 : (0 : Int) ≤ (at_ : Int) := by omega
                have hdv8 : (dv : Int) < 8 := by have := HD8.out; omega
                have hdv0 : (0 : Int) ≤ (dv : Int) := by omega
                obtain ⟨wb, hwb⟩ : ∃ X, w9.setCell ⟨gd, k, none⟩ (.int .i64 ((dv : Int) + 1)) = X := ⟨_, rfl⟩
                have HPb := Lib.hid (show PkC wb _ _ _ _ _ _ _ _ _ from hwb ▸ (HP9.out.store k ((dv : Int) + 1)).1)
                have HBb := Lib.hid (show Below w.heap.size w wb from HB9.out.trans (hwb ▸ (HP9.out.store k ((dv : Int) + 1)).2))
                obtain ⟨d3, d4, d5⟩ := ch_cells HPb.out.blk
                have HCc := Lib.hid (wText_good HPb.out.st.wr tx HTX.out (by have := HLB.out; (try simp only [List.length_append, toList_length]); have := enc_len9 (Int.toNat ((1 : Nat) : Int)) (by decide); have := enc_len9 (Int.toNat (at_ : Int)) (by have := HAT.out; have := HKL.out; have := HLL.out; omega); omega))
                go_wp2_with fail
                (with_reducible refine HCc.out.mono ?_)
                rintro e wc hto
                obtain ⟨rfl, vc, hsc, hbc⟩ := HPb.out.wrote HBG.out hto
                have HPc := Lib.hid hsc
                have HBc := Lib.hid (HBb.out.trans hbc)
                clear HCc hto hsc hbc hwb f0 f1 g0 g1 d3 d4 d5 hat1 hat0 hdv8 hdv0
                have HPN := Lib.hid (HPc.out.next (l2 := (packG sumF out l (k + 1)).1) (D2 := Dp (packG sumF out l (k + 1)).2 l.length) (by rw [HNX1.out, ch_one rfl]; simp [encT]) (by rw [HNX2.out]; exact (by rw [deep_1 rfl, ← HDV.out, ← Dp_snoc (by rw [HLD.out]; exact HKL.out), HLD.out]; rfl)))
                have hk4 : (k : Int) < 400 := by have := HKL.out; have := HLL.out; omega
                clear d0 d1 d2
                go_wp2_with fail
                exact ⟨⟨k + 1, vc, hK1, rfl, HPN, HBc⟩, meas_step (n := l.length) _ rfl HKL.out⟩
              · obtain rfl : how = 2 := hk0_
                replace d0 : w7.cell? ⟨w6.heap.size, 0, none⟩ = some (.int .i64 2) := d0
                have h1 := HCO.out.two rfl
                dsimp only at h1
                have HAT := Lib.hid h1.1
                have HTX := Lib.hid (show tx.size ≤ 4096 from h1.2.2.1)
                clear h1
                obtain ⟨y, hy⟩ : ∃ y, y = out.getD at_ noB := ⟨_, rfl⟩
                have HY := Lib.hid hy
                obtain ⟨bo, oo, hbo, _, _⟩ := rdS_at' (HO.out _ HB7.out) (by have := HAT.out; omega)
                subst hbo
                have HOC := Lib.hid (fun wr (h : Below w.heap.size w wr) => ((rdS_cl (HO.out wr h) HAT.out).trans (by rw [← hy]) : wr.cell? ⟨bo, oo + at_, none⟩ = some (.string y)))
                clear hy
                have HC8 := Lib.hid (wNumber_good HP7.out.st.wr ((2 : Nat) : Int) (by decide) (by decide) (by have := HLB.out; (try simp only [List.length_append, toList_length]);  omega))
                go_wp2_with fail
                (with_reducible refine HC8.out.mono ?_)
                rintro e w8 hto
                obtain ⟨rfl, v8, hs8, hb8⟩ := HP7.out.wrote HBG.out hto
                have HP8 := Lib.hid hs8
                have HB8 := Lib.hid (HB7.out.trans hb8)
                clear HC8 hto hs8 hb8 d0 d1 d2
                obtain ⟨d0, d1, d2⟩ := ch_cells HP8.out.blk
                replace d0 : w8.cell? ⟨w6.heap.size, 0, none⟩ = some (.int .i64 2) := d0
                have q0 := HOC.out _ HB8.out
                have hat1 : (at_ : Int) < (out.length : Int) := by have := HAT.out; omega
                have hat0 : (0 : Int) ≤ (at_ : Int) := by omega
                have HID := Lib.hid (id_any y w8 (HT.out _ HB8.out))
                obtain ⟨sy, hsy⟩ : ∃ sy, sy = sumF y := ⟨_, rfl⟩
                rw [← hsy] at HID
                have HSY := Lib.hid hsy
                clear hsy
                go_wp2_with fail
                (with_reducible refine HID.out.mono ?_)
                rintro e w9 ⟨rfl, hb⟩
                have HP9 := Lib.hid (HP8.out.below hb)
                have HB9 := Lib.hid (HB8.out.trans (hb.mono HB8.out.size))
                clear hb HID q0 d0 d1 d2
                obtain ⟨d0, d1, d2⟩ := ch_cells HP9.out.blk
                replace d0 : w9.cell? ⟨w6.heap.size, 0, none⟩ = some (.int .i64 2) := d0
                have HS32 := Lib.hid (show sy.size = 32 by rw [HSY.out]; exact sumF_size y)
                obtain ⟨v9, hv9⟩ : ∃ v9, v9 = v8 := ⟨_, rfl⟩
                rw [← hv9] at HP9
                clear hv9
                have HCa := Lib.hid (wBytes_good HP9.out.st.wr sy (by have := HLB.out; (try simp only [List.length_append, toList_length]); have := enc_len9 (Int.toNat ((2 : Nat) : Int)) (by decide); have := HS32.out; omega))
                go_wp2_with fail
                (with_reducible refine HCa.out.mono ?_)
                rintro e wa hto
                obtain ⟨rfl, va, hsa, hba⟩ := HP9.out.wrote HBG.out hto
                have HPa := Lib.hid hsa
                have HBa := Lib.hid (HB9.out.trans hba)
                clear HCa hto hsa hba d0 d1 d2
                obtain ⟨d0, d1, d2⟩ := ch_cells HPa.out.blk
                replace d0 : wa.cell? ⟨w6.heap.size, 0, none⟩ = some (.int .i64 2) := d0
                obtain ⟨g0, g1⟩ := HPa.out.st.cells HKL.out
                obtain ⟨wb, hwb⟩ : ∃ X, wa.setCell ⟨gd, k, none⟩ (.int .i64 1) = X := ⟨_, rfl⟩
                have HPb := Lib.hid (show PkC wb _ _ _ _ _ _ _ _ _ from hwb ▸ (HPa.out.store k 1).1)
                have HBb := Lib.hid (show Below w.heap.size w wb from HBa.out.trans (hwb ▸ (HPa.out.store k 1).2))
                obtain ⟨d3, d4, d5⟩ := ch_cells HPb.out.blk
                have HCc := Lib.hid (wText_good HPb.out.st.wr tx HTX.out (by have := HLB.out; (try simp only [List.length_append, toList_length]); have := enc_len9 (Int.toNat ((2 : Nat) : Int)) (by decide); have := HS32.out; omega))
                go_wp2_with fail
                (with_reducible refine HCc.out.mono ?_)
                rintro e wc hto
                obtain ⟨rfl, vc, hsc, hbc⟩ := HPb.out.wrote HBG.out hto
                have HPc := Lib.hid hsc
                have HBc := Lib.hid (HBb.out.trans hbc)
                clear HCc hto hsc hbc hwb g0 g1 d3 d4 d5 hat1 hat0
                have HPN := Lib.hid (HPc.out.next (l2 := (packG sumF out l (k + 1)).1) (D2 := Dp (packG sumF out l (k + 1)).2 l.length) (by rw [HNX1.out, ch_two rfl, ← HY.out, ← HSY.out]; simp [encT]) (by rw [HNX2.out]; exact (by rw [deep_2 rfl, ← Dp_snoc (by rw [HLD.out]; exact HKL.out), HLD.out]; rfl)))
                have hk4 : (k : Int) < 400 := by have := HKL.out; have := HLL.out; omega
                clear d0 d1 d2
                go_wp2_with fail
                exact ⟨⟨k + 1, vc, hK1, rfl, HPN, HBc⟩, meas_step (n := l.length) _ rfl HKL.out⟩
            · have kb : decide ((k : Int) < (l.length : Int)) = false := decide_eq_false (by omega)
              have kb2 : decide (k < l.length) = false := decide_eq_false hkl
              have hkn : k = l.length := by omega
              obtain ⟨L, hL⟩ : ∃ L, L = (packG sumF out l k).1 := ⟨_, rfl⟩
              rw [← hL] at HP0
              have HPB := Lib.hid (show packB sumF out l = ⟨L.toArray⟩ by rw [hL, hkn]; rfl)
              have HLB := Lib.hid (show L.length ≤ 4000000 by rw [hL]; exact HPL.out k hk)
              clear hL hkn hkl
              have HDN := Lib.hid (wDone_any (st := (L, 0)) HP0.out.wr)
              rw [show doneV (L, (0 : Int)) = .tuple #[.string ⟨L.toArray⟩, .int .i64 0] from rfl] at HDN
              obtain ⟨z, hz⟩ : ∃ z : ByteArray, z = ⟨L.toArray⟩ := ⟨_, rfl⟩
              rw [← hz] at HDN HPB
              have HZS := Lib.hid (show z.size ≤ 4000000 by rw [hz, ← toList_length]; exact HLB.out)
              clear hz
              go_wp2_with fail
              (with_reducible refine HDN.out.mono ?_)
              rintro e wd ⟨rfl, q, rfl⟩
              have HBD := Lib.hid (below_drewN HB0.out q)
              have HSM := Lib.hid (sum_any z _ (HT.out _ HBD.out))
              obtain ⟨sz, hsz⟩ : ∃ sz, sz = sumF z := ⟨_, rfl⟩
              rw [← hsz] at HSM
              have HSZ := Lib.hid hsz
              have hs32 : sz.size = 32 := by rw [hsz]; exact sumF_size z
              have hzs := HZS.out
              clear hsz
              go_wp2_with fail
              (with_reducible refine HSM.out.mono ?_)
              rintro e we ⟨rfl, hb⟩
              have HBE := Lib.hid (HBD.out.trans (hb.mono HBD.out.size))
              clear hb HSM
              have hF := HF3.out
              rw [HPB.out, ← HSZ.out] at hF
              subst hF
              go_wp2_with fail
              go_ret2
              exact ⟨rfl, HBE.out⟩
end Go.Proofs.YtalkheljejkpiaaDoor
