/- The map of places, what Make keeps, and the walk of the closure that inserts. -/
import Derived.Test.YtnggcldpojebkaaDelta1
import Derived.Test.YtnggcldpojebkaaBlk
import Derived.Maps.OwnSet
namespace Go.Proofs.Ytnggcldpojebkaa
open Go.RowKit Go.Maps
set_option linter.unusedVariables false
set_option linter.unusedSimpArgs false

/-! The map of places. -/
def keyB (b : ByteArray) : Lit := .string b.data.toList
theorem keyB_inj {a b : ByteArray} (h : keyB a = keyB b) : a = b := by
  unfold keyB at h; injection h with h; exact bs_ext h
theorem keyB_key (b : ByteArray) : WideAt.IsKeyLit (keyB b) := trivial
/-- The map tells of the windows from the i-th on where each stands first. -/
structure Rep (D : DataW Unit) (base : ByteArray) (i : Nat) : Prop where
  map : IsMap D
  has : ∀ key, Maps.has D (keyB key) = (findFrom base key i (base.size - 7 - i)).isSome
  at_ : ∀ key k, findFrom base key i (base.size - 7 - i) = some k → ∀ z, D.atKey (keyB key) z = .lit (.int .i64 (k : Int))
theorem rep_start (base : ByteArray) : Rep (.map []) base (base.size - 7) :=
  ⟨isMap_empty, fun key => by rw [Nat.sub_self]; rfl, fun key k h => by rw [Nat.sub_self] at h; cases h⟩
theorem rep_step {D : DataW Unit} {base : ByteArray} {i : Nat} (h : Rep D base (i + 1)) (hi : i + 8 ≤ base.size) :
    Rep (D.put (keyB (base.extract i (i + 8))) (.lit (.int .i64 (i : Int)))) base i := by
  have e : base.size - 7 - i = (base.size - 7 - (i + 1)) + 1 := by omega
  refine ⟨h.map.put _ _, fun key => ?_, fun key k hk => ?_⟩
  · rw [e, findFrom]
    by_cases hw : base.extract i (i + 8) = key
    · subst hw
      rw [if_pos rfl, has_put_same h.map (keyB_key _)]; rfl
    · rw [if_neg hw, has_put_other (fun e => hw (keyB_inj e).symm)]
      exact h.has key
  · rw [e, findFrom] at hk
    by_cases hw : base.extract i (i + 8) = key
    · subst hw
      rw [if_pos rfl] at hk
      injection hk with hk
      subst hk
      intro z
      exact atKey_put_same h.map (keyB_key _) _ _
    · rw [if_neg hw] at hk
      intro z
      rw [atKey_put_other (fun e => hw (keyB_inj e).symm)]
      exact h.at_ key k hk z
theorem ownsMap_blk {P : Program} {k : TypeId} {R : Value → Option (DataW Unit × List MemPlace)} {w w' : World} {b n : Nat} {D : DataW Unit} (h : w.ownsMap P k R b n D) (e : w'.heap[b]? = w.heap[b]?) : w'.ownsMap P k R b n D := by
  obtain ⟨es, clock, h1, h2⟩ := h
  exact ⟨es, clock, by rw [e]; exact h1, h2⟩
theorem owns_elem {w : World} {base : Nat} {e : TypeId} {size : Nat} {v : Value} {n : Nat} {xs : List Value} (h : w.ownsRow base e size v n xs) {k : Nat} (hk : v.ownBlock = some k) : base ≤ k ∧ ∃ cs f, w.heap[k]? = some (.cells cs e f) := by
  rcases h.2 with ⟨rfl, _⟩ | ⟨g, cap, cur, rfl, hbg, hg, r⟩
  · cases hk
  · injection hk with hk
    subst hk
    exact ⟨hbg, _, _, hg⟩

/-! What Make keeps. -/
structure MkSt (w : World) (B gt gm g gw gf nn : Nat) (D : DataW Unit) (T : ByteArray) (fr : Nat) (v : Value) (l : List UInt8) : Prop where
  box : w.heap[gt]? = some (.cells #[.string T] 9 (0, 0))
  pw : w.heap[gw]? = some (.cells #[.pointer (some ⟨g, 0, none⟩)] 44 (0, 0))
  fr : w.heap[gf]? = some (.cells #[.int .i64 (fr : Int)] 3 (0, 0))
  map : w.ownsMap Try.prog 9 (plainElem Try.prog 3) gm nn D
  wr : WrSt w B g v l 0
  bs : B ≤ gt ∧ B ≤ gm ∧ B ≤ g ∧ B ≤ gw ∧ B ≤ gf
theorem MkSt.far {w : World} {B gt gm g gw gf nn : Nat} {D : DataW Unit} {T : ByteArray} {fr : Nat} {v : Value} {l : List UInt8} (h : MkSt w B gt gm g gw gf nn D T fr v l) :
    (¬ WrS g v gt) ∧ (¬ WrS g v gm) ∧ (¬ WrS g v gw) ∧ (¬ WrS g v gf) ∧ gf ≠ gt ∧ gf ≠ gm ∧ gf ≠ gw := by
  obtain ⟨es, ck, hm, _⟩ := h.map
  have hg := h.wr.blk
  have hb := h.box
  have hp := h.pw
  have hf := h.fr
  refine ⟨?_, ?_, ?_, ?_, ?_, ?_, ?_⟩
  · rintro (e | e)
    · rw [e, hg] at hb; simp at hb
    · obtain ⟨_, cs, f, hc⟩ := owns_elem h.wr.own e
      rw [hc] at hb; simp at hb
  · rintro (e | e)
    · rw [e, hg] at hm; simp at hm
    · obtain ⟨_, cs, f, hc⟩ := owns_elem h.wr.own e
      rw [hc] at hm; simp at hm
  · rintro (e | e)
    · rw [e, hg] at hp; simp at hp
    · obtain ⟨_, cs, f, hc⟩ := owns_elem h.wr.own e
      rw [hc] at hp; simp at hp
  · rintro (e | e)
    · rw [e, hg] at hf; simp at hf
    · obtain ⟨_, cs, f, hc⟩ := owns_elem h.wr.own e
      rw [hc] at hf; simp at hf
  · intro e; rw [e, hb] at hf; simp at hf
  · intro e; rw [e, hm] at hf; simp at hf
  · intro e; rw [e, hp] at hf; simp at hf
/-- A method of the writer leaves the rest. -/
theorem MkSt.wrote {w w' : World} {B gt gm g gw gf nn : Nat} {D : DataW Unit} {T : ByteArray} {fr : Nat} {v : Value} {l l' : List UInt8} {e : Ending} (h : MkSt w B gt gm g gw gf nn D T fr v l) (ht : WrTo w B g v l' 0 e w') :
    ∃ v', MkSt w' B gt gm g gw gf nn D T fr v' l' ∧ Below B w w' := by
  obtain ⟨f1, f2, f3, f4, _⟩ := h.far
  have hbl := h.wr.below' h.bs.2.2.1 ht
  obtain ⟨he, v', hs, hu, hv⟩ := ht
  exact ⟨v', ⟨blk_upd h.box hu f1, blk_upd h.pw hu f3, blk_upd h.fr hu f4, ownsMap_blk h.map (hu.block gm h.map.lt f2), hs, h.bs⟩, hbl⟩
theorem MkSt.drew {w : World} {B gt gm g gw gf nn : Nat} {D : DataW Unit} {T : ByteArray} {fr : Nat} {v : Value} {l : List UInt8} (h : MkSt w B gt gm g gw gf nn D T fr v l) : MkSt w.drew B gt gm g gw gf nn D T fr v l :=
  ⟨h.box, h.pw, h.fr, h.map.drew, ⟨h.wr.blk, h.wr.own.drew, h.wr.ne, h.wr.le⟩, h.bs⟩
theorem MkSt.below {w w' : World} {B gt gm g gw gf nn : Nat} {D : DataW Unit} {T : ByteArray} {fr : Nat} {v : Value} {l : List UInt8} (h : MkSt w B gt gm g gw gf nn D T fr v l) (hb : Below w.heap.size w w') : MkSt w' B gt gm g gw gf nn D T fr v l :=
  ⟨blk_below h.box hb, blk_below h.pw hb, blk_below h.fr hb, ownsMap_blk h.map (hb.block gm h.map.lt), h.wr.below hb, h.bs⟩
/-- The variable from is laid anew. -/
theorem MkSt.from_ {w : World} {B gt gm g gw gf nn : Nat} {D : DataW Unit} {T : ByteArray} {fr : Nat} {v : Value} {l : List UInt8} (h : MkSt w B gt gm g gw gf nn D T fr v l) (x : Nat) :
    MkSt (w.setCell ⟨gf, 0, none⟩ (.int .i64 (x : Int))) B gt gm g gw gf nn D T x v l ∧ Below B w (w.setCell ⟨gf, 0, none⟩ (.int .i64 (x : Int))) := by
  obtain ⟨f1, f2, f3, f4, f5, f6, f7⟩ := h.far
  have hu : Upd (· = gf) w (w.setCell ⟨gf, 0, none⟩ (.int .i64 (x : Int))) := (Upd.refl (fun k => k = gf) w).setCell (a := ⟨gf, 0, none⟩) (.inl rfl) _
  refine ⟨⟨blk_upd h.box hu (fun e => f5 e.symm), blk_upd h.pw hu (fun e => f7 e.symm), one_setCell h.fr, ownsMap_blk h.map (hu.block gm h.map.lt (fun e => f6 e.symm)), h.wr.upd hu (fun e => f4 (.inl e.symm)) (fun k hk e => f4 (.inr (e ▸ hk))), h.bs⟩, hu.below h.wr.le (fun k hk => by rw [hk]; exact h.bs.2.2.2.2)⟩
/-- WrTo, one behind the other. -/
theorem WrTo.trans {w w1 w2 : World} {B g : Nat} {v v1 : Value} {l2 : List UInt8} {e2 : Int} {en : Ending} (hu : Upd (WrS g v) w w1) (hv : v1.ownBlock = v.ownBlock ∨ ∃ k, v1.ownBlock = some k ∧ w.heap.size ≤ k) (h2 : WrTo w1 B g v1 l2 e2 en w2) : WrTo w B g v l2 e2 en w2 := by
  obtain ⟨he, v2, hs, hu2, hv2⟩ := h2
  refine ⟨he, v2, hs, hu.trans' hu2 ?_, ?_⟩
  · rintro i (e | e)
    · exact .inl (.inl e)
    · rcases hv with hv | ⟨k, hk, hk2⟩
      · exact .inl (.inr (hv ▸ e))
      · rw [hk] at e; injection e with e; exact .inr (e ▸ hk2)
  · rcases hv2 with hv2 | ⟨k, hk, hk2⟩
    · rcases hv with hv | ⟨k, hk, hk2⟩
      · exact .inl (hv2.trans hv)
      · exact .inr ⟨k, hv2.trans hk, hk2⟩
    · exact .inr ⟨k, hk, Nat.le_trans hu.size hk2⟩

theorem info_string1 : (Try.prog.info? 9).map (·.size) = some 1 := by kernel_rfl
set_option maxRecDepth 100000 in
set_option maxHeartbeats 1600000 in
theorem insert_any {w : World} {B gt gm g gw gf nn : Nat} {D : DataW Unit} {T : ByteArray} {fr : Nat} {v : Value} {l : List UInt8} (h : MkSt w B gt gm g gw gf nn D T fr v l) (to : Nat) (ht : to ≤ T.size) (hT : T.size ≤ 8192) (hl : l.length ≤ 100000) :
    Calls Try.prog 24 #[.int .i64 (to : Int), .pointer (some ⟨gf, 0, none⟩), .pointer (some ⟨gw, 0, none⟩), .pointer (some ⟨gt, 0, none⟩)] w (WrTo w B g v (l ++ insB T fr to) 0) := by
  have HM := Lib.hid h
  have cf := cell_of_one h.fr
  have cw := cell_of_one h.pw
  have ct := cell_of_one h.box
  by_cases hlt : fr < to
  · have hgt : (fr : Int) < (to : Int) := by omega
    have hgb : decide ((fr : Int) < (to : Int)) = true := by simp; omega
    have e : insB T fr to = enc (2 * (to - fr)) ++ cutL T fr to := by rw [insB, if_pos hlt]
    have HNUM := Lib.hid (wNumber_good (w := w) (B := B) (g := g) (v := v) (l := l) HM.out.wr (2 * ((to : Int) - (fr : Int))) (by omega) (by omega) (by omega))
    rw [show (2 * ((to : Int) - (fr : Int))).toNat = 2 * (to - fr) by omega] at HNUM
    have HE := Lib.hid e
    have HLT := Lib.hid hlt
    clear e h hlt
    go_enter Try.func24, Try.ntmps24
    go_wp2_with fail
    (with_reducible refine HNUM.out.mono ?_)
    rintro e w1 hto
    have H1 := Lib.hid hto
    obtain ⟨rfl, v1, hs1, hu1, hv1⟩ := hto
    obtain ⟨f1, f2, f3, f4, _⟩ := HM.out.far
    have d1 := cell_of_one (blk_upd HM.out.fr hu1 f4)
    have d2 := cell_of_one (blk_upd HM.out.pw hu1 f3)
    have d3 := cell_of_one (blk_upd HM.out.box hu1 f1)
    have HS1 := Lib.hid hs1
    have HU1 := Lib.hid hu1
    have HV1 := Lib.hid hv1
    have hhd : w1.drew.cell? ⟨gf, 0, none⟩ = some (.int .i64 (fr : Int)) ∧ w1.drew.cell? ⟨gw, 0, none⟩ = some (.pointer (some ⟨g, 0, none⟩)) ∧ w1.drew.cell? ⟨gt, 0, none⟩ = some (.string T) := ⟨d1, d2, d3⟩
    have hfr0 : (0 : Int) ≤ (fr : Int) := by omega
    have hft : (fr : Int) ≤ (to : Int) := by omega
    have htT : (to : Int) ≤ (T.size : Int) := by omega
    clear hs1 hu1 hv1 cf cw ct f1 f2 f3 f4 d1 d2 d3
    go_wp2_with fail
    refine Lone.wp_region_order [(0, false), (1, false), (2, false), (3, false), (4, false), (5, true)] (fun w' => w'.cell? ⟨gf, 0, none⟩ = some (.int .i64 (fr : Int)) ∧ w'.cell? ⟨gw, 0, none⟩ = some (.pointer (some ⟨g, 0, none⟩)) ∧ w'.cell? ⟨gt, 0, none⟩ = some (.string T)) (by kernel_rfl) (by kernel_rfl) rfl (by kernel_rfl) (by intro _ _ d _ _ h; cases d <;> exact h) (hhd) ?_; simp only [List.map_cons, List.map_nil, List.getElem?_toArray, List.getElem?_cons_zero, List.getElem?_cons_succ, Option.getD_some]
    repeat (first | (refine Lone.ro_q (by rfl) (v := ?_) ?_ ?_; rotate_left; (focus (intro w' hSw; (try dsimp only at hSw); go_simp; try with_reducible rfl)); simp only [Act.put, List.setIfInBounds_toArray, List.set_cons_zero, List.set_cons_succ]) | (refine Lone.ro_skip (by rfl) ?_; simp only [Act.put, List.setIfInBounds_toArray, List.set_cons_zero, List.set_cons_succ]))
    (refine Lone.ro_loud (by rfl) (fun K hK => ?_); go_simp)
    have HB2 := Lib.hid (wBytes_good (w := w1.drew) (B := B) (g := g) (v := v1) (l := l ++ enc (2 * (to - fr))) ⟨HS1.out.blk, HS1.out.own.drew, HS1.out.ne, HS1.out.le⟩ (T.extract fr to) (by rw [List.length_append, ByteArray.size_extract]; have := enc3 (n := 2 * (to - fr)) (by omega); omega))
    rw [cutL_extract, List.append_assoc, ← HE.out] at HB2
    (with_reducible refine HB2.out.mono ?_)
    rintro e w2 hto2
    have HFIN := Lib.hid (WrTo.trans HU1.out.drew HV1.out hto2)
    obtain ⟨rfl, _⟩ := hto2
    obtain ⟨v2, hm2, _⟩ := HM.out.wrote HFIN.out
    have hhd2 := And.intro (cell_of_one hm2.fr) (And.intro (cell_of_one hm2.pw) (cell_of_one hm2.box))
    (refine hK.out _ _ (fun w' => w'.cell? ⟨gf, 0, none⟩ = some (.int .i64 (fr : Int)) ∧ w'.cell? ⟨gw, 0, none⟩ = some (.pointer (some ⟨g, 0, none⟩)) ∧ w'.cell? ⟨gt, 0, none⟩ = some (.string T)) (.inl fun _ h => h) (hhd2) ?_; clear hK K; try simp only [Act.put, List.setIfInBounds_toArray, List.set_cons_zero, List.set_cons_succ])
    repeat (first | (refine Lone.ro_q (by rfl) (v := ?_) ?_ ?_; rotate_left; (focus (intro w' hSw; (try dsimp only at hSw); go_simp; try with_reducible rfl)); simp only [Act.put, List.setIfInBounds_toArray, List.set_cons_zero, List.set_cons_succ]) | (refine Lone.ro_skip (by rfl) ?_; simp only [Act.put, List.setIfInBounds_toArray, List.set_cons_zero, List.set_cons_succ]))
    (refine Lone.ro_nil ?_; go_wp2_with fail)
    go_end0
    exact HFIN.out
  · have hgt : ¬ (fr : Int) < (to : Int) := by omega
    have hgb : decide ((fr : Int) < (to : Int)) = false := by simp; omega
    have e : insB T fr to = [] := by rw [insB, if_neg hlt]
    rw [e, List.append_nil]
    clear e h hlt
    go_enter Try.func24, Try.ntmps24
    go_wp2_with fail
    go_end0
    exact WrTo.same HM.out.wr
end Go.Proofs.Ytnggcldpojebkaa
