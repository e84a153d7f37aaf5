/- The walk of package step's Decode. -/
import Derived.Test.YtinhjnbgblieeaaDoorStep7
import Derived.Test.YtinhjnbgblieeaaDoorRdAid
namespace Go.Proofs.YtinhjnbgblieeaaDoor
open Go.RowKit
set_option linter.unusedVariables false
set_option linter.unusedSimpArgs false

structure DecSp (w : World) (B g q : Nat) (st : ByteArray × Int) (s : Stp) (vw vs : Value) : Prop where
  rd : RdSt w g st
  sz : st.1.size ≤ 140737488355328
  blk : w.heap[q]? = some (.cells #[.string s.ref, .string s.old, .string s.new, vw, vs] 25 (0, 0))
  ow : w.ownsRow B 3 1 vw s.who.length (ivs s.who)
  os : w.ownsRow B 9 1 vs s.seals.length (svs s.seals)
  le : B ≤ g ∧ B ≤ q ∧ B ≤ w.heap.size
theorem DecSp.one {w : World} {B g q : Nat} {st : ByteArray × Int} {s : Stp} {vw vs : Value} (h : DecSp w B g q st s vw vs) : (#[Value.string s.ref, .string s.old, .string s.new, vw, vs]).all (·.oneCell') = true := by
  have h1 := owns_one h.ow
  have h2 := owns_one h.os
  simp only [List.all_toArray, List.all_cons, List.all_nil, h1, h2]
  rfl
theorem DecSp.far {w : World} {B g q : Nat} {st : ByteArray × Int} {s : Stp} {vw vs : Value} (h : DecSp w B g q st s vw vs) :
    g ≠ q ∧ vw.ownBlock ≠ some g ∧ vw.ownBlock ≠ some q ∧ vs.ownBlock ≠ some g ∧ vs.ownBlock ≠ some q ∧ (∀ k, vw.ownBlock = some k → vs.ownBlock ≠ some k) := by
  have hg := h.rd.blk
  have hq := h.blk
  refine ⟨?_, ?_, ?_, ?_, ?_, ?_⟩
  · intro e; rw [e, hq] at hg; simp at hg
  · intro e; obtain ⟨_, cs, f, hc⟩ := owns_elem h.ow e; rw [hc] at hg; simp at hg
  · intro e; obtain ⟨_, cs, f, hc⟩ := owns_elem h.ow e; rw [hc] at hq; simp at hq
  · intro e; obtain ⟨_, cs, f, hc⟩ := owns_elem h.os e; rw [hc] at hg; simp at hg
  · intro e; obtain ⟨_, cs, f, hc⟩ := owns_elem h.os e; rw [hc] at hq; simp at hq
  · intro k e1 e2
    obtain ⟨_, cs, f, hc⟩ := owns_elem h.ow e1
    obtain ⟨_, cs2, f2, hc2⟩ := owns_elem h.os e2
    rw [hc] at hc2; simp at hc2
theorem DecSp.read {w w' : World} {B g q : Nat} {st st' : ByteArray × Int} {s : Stp} {vw vs v : Value} {e : Ending} (h : DecSp w B g q st s vw vs) (ht : RdTo w g v st' e w') (hs : st'.1.size ≤ 140737488355328) :
    e = .returned v ∧ DecSp w' B g q st' s vw vs ∧ Below B w w' := by
  obtain ⟨he, hr, hu⟩ := ht
  obtain ⟨f1, f2, f3, f4, f5, _⟩ := h.far
  exact ⟨he, ⟨hr, hs, blk_upd h.blk hu (fun e => f1 e.symm), owns_upd h.ow hu (fun k hk e => f2 (e ▸ hk)), owns_upd h.os hu (fun k hk e => f4 (e ▸ hk)), h.le.1, h.le.2.1, Nat.le_trans h.le.2.2 hu.size⟩,
    hu.below h.le.2.2 (fun k hk => by rw [hk]; exact h.le.1)⟩
theorem DecSp.drew {w : World} {B g q : Nat} {st : ByteArray × Int} {s : Stp} {vw vs : Value} (h : DecSp w B g q st s vw vs) : DecSp w.drew B g q st s vw vs := ⟨⟨h.rd.blk⟩, h.sz, h.blk, h.ow.drew, h.os.drew, h.le⟩
theorem DecSp.below {w w' : World} {B g q : Nat} {st : ByteArray × Int} {s : Stp} {vw vs : Value} (h : DecSp w B g q st s vw vs) (hb : Below w.heap.size w w') : DecSp w' B g q st s vw vs :=
  ⟨h.rd.below hb, h.sz, blk_below h.blk hb, owns_below h.ow hb, owns_below h.os hb, h.le.1, h.le.2.1, Nat.le_trans h.le.2.2 hb.size⟩
theorem DecSp.appW {w w' : World} {B g q : Nat} {st : ByteArray × Int} {s s' : Stp} {vw vs vw' : Value} {l' : List Int} (h : DecSp w B g q st s vw vs) (ho : w'.ownsRow B 3 1 vw' l'.length (ivs l')) (hu : Upd (fun k => vw.ownBlock = some k) w w')
    (he : s' = { s with who := l' }) : DecSp (w'.setCell ⟨q, 3, none⟩ vw') B g q st s' vw' vs ∧ Below B w (w'.setCell ⟨q, 3, none⟩ vw') := by
  obtain ⟨f1, f2, f3, f4, f5, f6⟩ := h.far
  have hob := blk_upd h.blk hu f3
  have hrd := h.rd.upd hu f2
  have hps := owns_upd h.os hu (fun k hk e => f6 k e hk)
  have hU : Upd (fun k => k = q) w' (w'.setCell ⟨q, 3, none⟩ vw') := (Upd.refl (fun k => k = q) w').setCell (a := ⟨q, 3, none⟩) (.inl rfl) _
  have hne : ∀ k, vw'.ownBlock = some k → ¬ k = q := by
    intro k hk e
    subst e
    obtain ⟨_, cs, f, hc⟩ := owns_elem ho hk
    rw [hc] at hob; simp at hob
  have hle : B ≤ w'.heap.size := Nat.le_trans h.le.2.2 hu.size
  subst he
  refine ⟨⟨hrd.upd hU f1, h.sz, cells_setCell hob 3 vw', owns_upd ho hU hne, owns_upd hps hU (fun k hk e => f5 (e ▸ hk)), h.le.1, h.le.2.1, Nat.le_trans hle hU.size⟩, ?_⟩
  exact (hu.below h.le.2.2 (fun k hk => owns_ge h.ow hk)).trans (hU.below hle (fun k hk => by rw [hk]; exact h.le.2.1))
theorem DecSp.appS {w w' : World} {B g q : Nat} {st : ByteArray × Int} {s s' : Stp} {vw vs vs' : Value} {l' : List ByteArray} (h : DecSp w B g q st s vw vs) (ho : w'.ownsRow B 9 1 vs' l'.length (svs l')) (hu : Upd (fun k => vs.ownBlock = some k) w w')
    (he : s' = { s with seals := l' }) : DecSp (w'.setCell ⟨q, 4, none⟩ vs') B g q st s' vw vs' ∧ Below B w (w'.setCell ⟨q, 4, none⟩ vs') := by
  obtain ⟨f1, f2, f3, f4, f5, f6⟩ := h.far
  have hob := blk_upd h.blk hu f5
  have hrd := h.rd.upd hu f4
  have hes := owns_upd h.ow hu (fun k hk e => f6 k hk e)
  have hU : Upd (fun k => k = q) w' (w'.setCell ⟨q, 4, none⟩ vs') := (Upd.refl (fun k => k = q) w').setCell (a := ⟨q, 4, none⟩) (.inl rfl) _
  have hne : ∀ k, vs'.ownBlock = some k → ¬ k = q := by
    intro k hk e
    subst e
    obtain ⟨_, cs, f, hc⟩ := owns_elem ho hk
    rw [hc] at hob; simp at hob
  have hle : B ≤ w'.heap.size := Nat.le_trans h.le.2.2 hu.size
  subst he
  refine ⟨⟨hrd.upd hU f1, h.sz, cells_setCell hob 4 vs', owns_upd hes hU (fun k hk e => f3 (e ▸ hk)), owns_upd ho hU hne, h.le.1, h.le.2.1, Nat.le_trans hle hU.size⟩, ?_⟩
  exact (hu.below h.le.2.2 (fun k hk => owns_ge h.os hk)).trans (hU.below hle (fun k hk => by rw [hk]; exact h.le.2.1))
def endD (ra rb rc : ByteArray) (P : List (Int × ByteArray)) (st : ByteArray × Int) : Stp × Int :=
  if st.2 ≠ 0 ∨ 0 < st.1.size then (zeroStp, 2) else if goodS ⟨ra, rb, rc, P.map Prod.fst, P.map Prod.snd⟩ ≠ 0 then (zeroStp, goodS ⟨ra, rb, rc, P.map Prod.fst, P.map Prod.snd⟩) else (⟨ra, rb, rc, P.map Prod.fst, P.map Prod.snd⟩, 0)
theorem endD_bad {ra rb rc rr : ByteArray} {P : List (Int × ByteArray)} {er : Int} (h : er ≠ 0) : endD ra rb rc P (rr, er) = (zeroStp, 2) := by unfold endD; rw [if_pos (.inl h)]
theorem endD_left {ra rb rc rr : ByteArray} {P : List (Int × ByteArray)} {er : Int} (h : 0 < rr.size) : endD ra rb rc P (rr, er) = (zeroStp, 2) := by unfold endD; rw [if_pos (.inr h)]
theorem endD_good {ra rb rc rr : ByteArray} {P : List (Int × ByteArray)} (h : rr.size = 0) : endD ra rb rc P (rr, 0) = if goodS ⟨ra, rb, rc, P.map Prod.fst, P.map Prod.snd⟩ ≠ 0 then (zeroStp, goodS ⟨ra, rb, rc, P.map Prod.fst, P.map Prod.snd⟩) else (⟨ra, rb, rc, P.map Prod.fst, P.map Prod.snd⟩, 0) := by
  unfold endD; rw [if_neg (by simp [h])]
def restD (ra rb rc : ByteArray) (n : Nat) (st : ByteArray × Int) (P : List (Int × ByteArray)) : Stp × Int := endD ra rb rc (rowsD n st P).1 (rowsD n st P).2
theorem restD_end {ra rb rc : ByteArray} {n : Nat} {st : ByteArray × Int} {P : List (Int × ByteArray)} (h : n = 0 ∨ st.2 ≠ 0) : restD ra rb rc n st P = endD ra rb rc P st := by
  have e : rowsD n st P = (P, st) := by
    cases n with
    | zero => rfl
    | succ n => rcases h with h | h; · cases h
                rw [rowsD, if_pos h]
  unfold restD; rw [e]
theorem restD_step {ra rb rc rr y : ByteArray} {n x : Nat} {s2 s3 : ByteArray × Int} {P : List (Int × ByteArray)} (hn : 0 < n) (h1 : rNum (rr, 0) = (x, s2)) (h2 : rByt s2 32 = (y, s3)) :
    restD ra rb rc n (rr, 0) P = restD ra rb rc (n - 1) s3 (P ++ [((x : Int), y)]) := by
  obtain ⟨m, rfl⟩ : ∃ m, n = m + 1 := ⟨n - 1, by omega⟩
  have e : rowsD (m + 1) (rr, 0) P = rowsD m s3 (P ++ [((x : Int), y)]) := by rw [rowsD, if_neg (by simp), h1, h2]
  unfold restD; rw [e]; rfl
theorem decodeF_rest {b ra rb rc : ByteArray} {s1 s2 s3 s4 : ByteArray × Int} {n : Nat} (h1 : rTxt (b, 0) = (ra, s1)) (h2 : rTxt s1 = (rb, s2)) (h3 : rTxt s2 = (rc, s3)) (h4 : rNum s3 = (n, s4)) : decodeSF b = restD ra rb rc n s4 [] := by
  have k1 : dA b = (ra, s1) := h1
  have k2 : dB b = (rb, s2) := by unfold dB; rw [k1]; exact h2
  have k3 : dC b = (rc, s3) := by unfold dC; rw [k2]; exact h3
  have k4 : dN b = (n, s4) := by unfold dN; rw [k3]; exact h4
  have k5 : dR b = rowsD n s4 [] := by unfold dR; rw [k4]
  unfold decodeSF restD endD dS
  rw [k1, k2, k3, k5]
theorem rByt_32 {s3 s4 : ByteArray × Int} {id : ByteArray} (h : rByt s3 32 = (id, s4)) (h0 : s4.2 = 0) : s4.1.size + 32 ≤ s3.1.size := by
  unfold rByt at h
  split at h
  · next hne => cases h; exact absurd h0 hne
  · split at h
    · cases h; cases h0
    · next hz => cases h; simp only [ByteArray.size_extract]; omega
set_option maxRecDepth 100000 in
set_option maxHeartbeats 3200000 in
theorem decodeStp_any (b : ByteArray) (w : World) (hs : b.size ≤ 140737488355328) :
    Calls Tryd.prog 30 #[.string b] w fun e w' => ∃ vw vs, e = .returned (.tuple #[.agg #[.string (decodeSF b).1.ref, .string (decodeSF b).1.old, .string (decodeSF b).1.new, vw, vs], .int .i64 (decodeSF b).2]) ∧ w'.ownsRow w.heap.size 3 1 vw (decodeSF b).1.who.length (ivs (decodeSF b).1.who) ∧ w'.ownsRow w.heap.size 9 1 vs (decodeSF b).1.seals.length (svs (decodeSF b).1.seals) ∧ Below w.heap.size w w' := by
  obtain ⟨F, hF⟩ : ∃ F, F = decodeSF b := ⟨_, rfl⟩
  rw [← hF]
  have HF := Lib.hid hF
  clear hF
  obtain ⟨W, hW⟩ : ∃ W, w.alloc (.cells #[.string ⟨#[]⟩, .string ⟨#[]⟩, .string ⟨#[]⟩, .slice none 0 0, .slice none 0 0] 25) = W := ⟨_, rfl⟩
  have gR0 : W.heap[w.heap.size]? = some (.cells #[.string ⟨#[]⟩, .string ⟨#[]⟩, .string ⟨#[]⟩, .slice none 0 0, .slice none 0 0] 25 (0, 0)) := by rw [← hW]; exact heap_alloc_new _ _
  have hb1 : Below w.heap.size w W := by rw [← hW]; exact (Below.refl _ _).alloc (Nat.le_refl _) _
  have HW0 := Lib.hid hb1
  have HGR := Lib.hid (fun wr (h : Below W.heap.size W wr) => blk_below gR0 h)
  have HRDA := Lib.hid (read_any b W)
  clear hb1 gR0
  go_enter Tryd.func30, Tryd.ntmps30
  go_wp2_with fail
  (with_reducible refine HRDA.out.mono ?_)
  rintro e w1 ⟨rfl, hr1, hb1, hz1⟩
  have HB1 := Lib.hid hb1
  have HS1 := Lib.hid (show ((b, 0) : ByteArray × Int).1.size ≤ 140737488355328 from hs)
  obtain ⟨g, hgd⟩ : ∃ g, g = W.heap.size := ⟨_, rfl⟩
  rw [← hgd] at hr1 ⊢
  have HGB := Lib.hid hgd
  have HR1 := Lib.hid hr1
  clear hW hr1 hb1 hgd HRDA hz1
  have HC2 := Lib.hid (rText_any HR1.out (by have := HS1.out; omega))
  have hle2 := rTxt_le (b, 0)
  obtain ⟨⟨ra, st1⟩, hq2⟩ : ∃ q, q = rTxt (b, 0) := ⟨_, rfl⟩
  rw [← hq2] at HC2 hle2
  have HQ2 := Lib.hid hq2.symm
  have HS2 := Lib.hid (show st1.1.size ≤ 140737488355328 from Nat.le_trans hle2 HS1.out)
  clear hq2 hle2
  go_wp2_with fail
  (with_reducible refine HC2.out.mono ?_)
  rintro e w2 ⟨rfl, hr, hu⟩
  have HR2 := Lib.hid hr
  have HB2 := Lib.hid (HB1.out.trans (hu.below (by have := HB1.out.size; omega) (fun k hk => by have := HGB.out; omega)))
  clear hr hu HC2
  have HC3 := Lib.hid (rText_any HR2.out (by have := HS2.out; omega))
  have hle3 := rTxt_le st1
  obtain ⟨⟨rb, st2⟩, hq3⟩ : ∃ q, q = rTxt st1 := ⟨_, rfl⟩
  rw [← hq3] at HC3 hle3
  have HQ3 := Lib.hid hq3.symm
  have HS3 := Lib.hid (show st2.1.size ≤ 140737488355328 from Nat.le_trans hle3 HS2.out)
  clear hq3 hle3
  go_wp2_with fail
  (with_reducible refine HC3.out.mono ?_)
  rintro e w3 ⟨rfl, hr, hu⟩
  have HR3 := Lib.hid hr
  have HB3 := Lib.hid (HB2.out.trans (hu.below (by have := HB2.out.size; omega) (fun k hk => by have := HGB.out; omega)))
  clear hr hu HC3
  have HC4 := Lib.hid (rText_any HR3.out (by have := HS3.out; omega))
  have hle4 := rTxt_le st2
  obtain ⟨⟨rc, st3⟩, hq4⟩ : ∃ q, q = rTxt st2 := ⟨_, rfl⟩
  rw [← hq4] at HC4 hle4
  have HQ4 := Lib.hid hq4.symm
  have HS4 := Lib.hid (show st3.1.size ≤ 140737488355328 from Nat.le_trans hle4 HS3.out)
  clear hq4 hle4
  go_wp2_with fail
  (with_reducible refine HC4.out.mono ?_)
  rintro e w4 ⟨rfl, hr, hu⟩
  have HR4 := Lib.hid hr
  have HB4 := Lib.hid (HB3.out.trans (hu.below (by have := HB3.out.size; omega) (fun k hk => by have := HGB.out; omega)))
  clear hr hu HC4
  go_wp2_with (refine wpList_store_blk (by rfl) 25 (.tmp 5) (.tmp 16) rfl w4.heap.size #[.string ra, .string rb, .string rc, .slice none 0 0, .slice none 0 0] rfl rfl (old := _) (heap_alloc_new _ _) (by kernel_rfl) rfl (by simp [Value.oneCell']) ?_; intro V gz uz; have hbv := below_upd ((Below.refl w4.heap.size w4).alloc (Nat.le_refl _) _) uz (Nat.le_refl _) (by simp); have HBV := Lib.hid hbv; have HGZ := Lib.hid gz; clear gz uz hbv)
  obtain ⟨q, hqd⟩ : ∃ q, q = w4.heap.size := ⟨_, rfl⟩
  have HB5 := Lib.hid (HB4.out.trans (HBV.out.mono HB4.out.size))
  have HD5 := Lib.hid (show DecSp V W.heap.size g q st3 ⟨ra, rb, rc, [], []⟩ (.slice none 0 0) (.slice none 0 0) from ⟨HR4.out.below HBV.out, HS4.out, by rw [hqd]; exact HGZ.out, World.ownsRow_nil _ _ _ _, World.ownsRow_nil _ _ _ _, by have := HGB.out; omega, by have := HB4.out.size; omega, HB5.out.size⟩)
  rw [← hqd]
  clear hqd HGZ HBV
  have HC6 := Lib.hid (rNumber_any HD5.out.rd (by have := HD5.out.sz; unfold maxLen; omega))
  have hle6 := rNum_le st3
  obtain ⟨⟨cn, st4⟩, hq6⟩ : ∃ q, q = rNum st3 := ⟨_, rfl⟩
  rw [← hq6] at HC6 hle6
  have HQ6 := Lib.hid hq6.symm
  have hsz6 : st4.1.size ≤ 140737488355328 := Nat.le_trans hle6 HD5.out.sz
  clear hq6 hle6
  (with_reducible refine HC6.out.mono ?_)
  rintro e w6 hto
  obtain ⟨rfl, hd6, hb6⟩ := HD5.out.read hto hsz6
  have HD6 := Lib.hid hd6
  have HB6 := Lib.hid (HB5.out.trans hb6)
  clear hto hd6 hb6 HC6 hsz6
  obtain ⟨c0, c1, c2, c3, c4, z3, z4⟩ := stp_cells HD6.out.blk
  have hc62 : cn < 4611686018427387904 := by have := rNum_62 st3; rw [HQ6.out] at this; exact this
  have HFT := Lib.hid (HF.out.trans (decodeF_rest HQ2.out HQ3.out HQ4.out HQ6.out))
  clear HF HQ2 HQ3 HQ4 HQ6 HR1 HR2 HR3 HR4 HB1 HB2 HB3 HB4 HS1 HS2 HS3 HS4
  go_wp2_with fail
  go_loopw [6] (fun i wr => ∃ (n : Nat) (st : ByteArray × Int) (P : List (Int × ByteArray)) (A : List Int) (Z : List ByteArray) (vw vs : Value), Hid (A = P.map Prod.fst ∧ Z = P.map Prod.snd) ∧ i = .int .i64 (n : Int) ∧ n < 4611686018427387904 ∧ Hid (st.2 = 0 → P.length * 32 + st.1.size ≤ 140737488355328) ∧ P.length ≤ 4398046511105 ∧ Hid (DecSp wr W.heap.size g q st ⟨ra, rb, rc, A, Z⟩ vw vs) ∧ Hid (F = restD ra rb rc n st P) ∧ Hid (Below W.heap.size W wr)) (fun i _ => (intOf i).toNat)
  case atStart => exact ⟨cn, st4, [], [], [], .slice none 0 0, .slice none 0 0, Lib.hid ⟨rfl, rfl⟩, rfl, hc62, Lib.hid (fun _ => by have := HD6.out.sz; simpa using this), by simp, HD6, HFT, HB6⟩
  case round =>
    clear HD6 HB6 HFT HD5 HB5 c0 c1 c2 c3 c4 z3 z4
    obtain ⟨n, st, P, A, Z, vw, vs, HAZ, rfl, hn62, HSZ, hPl, HD7, HFL, HB7⟩ := hrel
    obtain ⟨rr, er⟩ := st
    obtain ⟨c0, c1, c2, c3, c4, z3, z4⟩ := stp_cells HD7.out.blk
    by_cases hpos : 0 < n
    · have hpi : decide ((0 : Int) < (n : Int)) = true := decide_eq_true (by omega)
      have hpn : decide (0 < n) = true := decide_eq_true hpos
      have HPOS := Lib.hid hpos
      clear hpos
      have HCa := Lib.hid (rBad_any HD7.out.rd)
      go_wp2_with fail
      (with_reducible refine HCa.out.mono ?_)
      rintro e w0 ⟨rfl, rfl⟩
      clear HCa
      by_cases he0 : er = 0
      · subst he0
        have HLE := Lib.hid (show P.length * 32 + rr.size ≤ 140737488355328 from HSZ.out rfl)
        have HAL := Lib.hid (show A.length = P.length ∧ Z.length = P.length by rw [HAZ.out.1, HAZ.out.2]; simp)
        have HPL := Lib.hid (show (P.length + 1) * 16 ≤ 140737488355328 by have := HLE.out; omega)
        obtain ⟨vw', hvw⟩ : ∃ v, v = vw := ⟨_, rfl⟩
        clear hvw vw'
        have HD8d := Lib.hid HD7.out.drew
        have HB8d := Lib.hid HB7.out.drew
        have HC8 := Lib.hid (rNumber_any HD8d.out.rd (by have := HD8d.out.sz; unfold maxLen; omega))
        have hle8 := rNum_le (rr, 0)
        obtain ⟨⟨x, s2⟩, hq8⟩ : ∃ q, q = rNum (rr, 0) := ⟨_, rfl⟩
        rw [← hq8] at HC8 hle8
        have HQ8 := Lib.hid hq8.symm
        have hsz8 : s2.1.size ≤ 140737488355328 := Nat.le_trans hle8 HD8d.out.sz
        clear hq8 hle8
        go_wp2_with fail
        refine Lone.wp_region_order [(0, false), (1, false), (2, false), (3, true), (4, true), (5, true), (6, false), (7, true)] (fun w' => w'.cell? ⟨q, 3, none⟩ = some vw) (by kernel_rfl) (by kernel_rfl) rfl (by kernel_rfl) (by intro _ _ d _ _ h; cases d <;> exact h) (c3) ?_; simp only [List.map_cons, List.map_nil, List.getElem?_toArray, List.getElem?_cons_zero, List.getElem?_cons_succ, Option.getD_some]
        repeat (first | (refine Lone.ro_q (by rfl) (v := ?_) ?_ ?_; rotate_left; (focus (intro w' hSw; (try dsimp only at hSw); go_simp; try with_reducible rfl)); simp only [Act.put, List.setIfInBounds_toArray, List.set_cons_zero, List.set_cons_succ]) | (refine Lone.ro_skip (by rfl) ?_; simp only [Act.put, List.setIfInBounds_toArray, List.set_cons_zero, List.set_cons_succ]))
        (refine Lone.ro_loud (by rfl) (fun K hK => ?_); go_simp)
        (with_reducible refine HC8.out.mono ?_)
        rintro e w8 hto
        obtain ⟨rfl, hd8, hb8⟩ := HD8d.out.read hto hsz8
        have HD8 := Lib.hid hd8
        have HB8 := Lib.hid (HB8d.out.trans hb8)
        clear hto hd8 hb8 HC8 hsz8
        clear c0 c1 c2 c3 c4 z3 z4
        obtain ⟨c0, c1, c2, c3, c4, z3, z4⟩ := stp_cells HD8.out.blk
        (refine hK.out _ _ (fun w' => w'.cell? ⟨q, 3, none⟩ = some vw) (.inl fun _ h => h) (c3) ?_; clear hK K; try simp only [Act.put, List.setIfInBounds_toArray, List.set_cons_zero, List.set_cons_succ])
        repeat (first | (refine Lone.ro_q (by rfl) (v := ?_) ?_ ?_; rotate_left; (focus (intro w' hSw; (try dsimp only at hSw); go_simp; try with_reducible rfl)); simp only [Act.put, List.setIfInBounds_toArray, List.set_cons_zero, List.set_cons_succ]) | (refine Lone.ro_skip (by rfl) ?_; simp only [Act.put, List.setIfInBounds_toArray, List.set_cons_zero, List.set_cons_succ]))
        (refine Lone.ro_loud (by rfl) (fun K hK => ?_); go_simp)
        have HDa := Lib.hid (HD8.out.below (w' := w8.alloc (.cells #[.int .i64 (x : Int)] 3)) ((Below.refl _ _).alloc (Nat.le_refl _) _))
        (refine hK.out _ _ (fun w' => w'.cell? ⟨q, 3, none⟩ = some vw) (.inl fun _ h => h) ((stp_cells HDa.out.blk).2.2.2.1) ?_; clear hK K; try simp only [Act.put, List.setIfInBounds_toArray, List.set_cons_zero, List.set_cons_succ])
        repeat (first | (refine Lone.ro_q (by rfl) (v := ?_) ?_ ?_; rotate_left; (focus (intro w' hSw; (try dsimp only at hSw); go_simp; try with_reducible rfl)); simp only [Act.put, List.setIfInBounds_toArray, List.set_cons_zero, List.set_cons_succ]) | (refine Lone.ro_skip (by rfl) ?_; simp only [Act.put, List.setIfInBounds_toArray, List.set_cons_zero, List.set_cons_succ]))
        refine Lone.ro_loud (by rfl) (fun K hK => ?_)
        refine wp_append1u (.tmp 29) (.tmp 32) 22 rfl info_int Tryd.underlying22 rfl (by decide) HD8.out.ow HB8.out.size rfl (by have := HPL.out; have := HAL.out; show (A.length + 1) * 8 ≤ 140737488355328; omega) rfl rfl ?_
        intro v' w' hown' hupd'
        have HOW := Lib.hid (show w'.ownsRow W.heap.size 3 1 v' (A ++ [(x : Int)]).length (ivs (A ++ [(x : Int)])) by rw [ivs_append, List.length_append]; exact hown')
        have HUP := Lib.hid hupd'
        obtain ⟨ao6, cp6, rfl⟩ := owns_slice HOW.out
        clear c0 c1 c2 c3 c4 z3 z4
        obtain ⟨c0, c1, c2, c3, c4, z3, z4⟩ := stp_cells (blk_upd HD8.out.blk HUP.out HD8.out.far.2.2.1)
        clear hown' hupd' HDa
        (refine hK.out _ _ (fun w' => w'.cell? ⟨q, 3, none⟩ = some vw) (.inl fun _ h => h) (c3) ?_; clear hK K; try simp only [Act.put, List.setIfInBounds_toArray, List.set_cons_zero, List.set_cons_succ])
        repeat (first | (refine Lone.ro_q (by rfl) (v := ?_) ?_ ?_; rotate_left; (focus (intro w' hSw; (try dsimp only at hSw); go_simp; try with_reducible rfl)); simp only [Act.put, List.setIfInBounds_toArray, List.set_cons_zero, List.set_cons_succ]) | (refine Lone.ro_skip (by rfl) ?_; simp only [Act.put, List.setIfInBounds_toArray, List.set_cons_zero, List.set_cons_succ]))
        (refine Lone.ro_loud (by rfl) (fun K hK => ?_); go_simp)
        (refine hK.out _ _ (fun _ => True) (.inr (by kernel_rfl)) (trivial) ?_; clear hK K; try simp only [Act.put, List.setIfInBounds_toArray, List.set_cons_zero, List.set_cons_succ])
        have hap := HD8.out.appW (s' := ⟨ra, rb, rc, A ++ [(x : Int)], Z⟩) HOW.out HUP.out rfl
        simp only [List.length_append, List.length_cons, List.length_nil, Nat.zero_add] at hap
        obtain ⟨w9, hw9⟩ : ∃ W, w'.setCell ⟨q, 3, none⟩ (.slice ao6 (A ++ [(x : Int)]).length cp6) = W := ⟨_, rfl⟩
        simp only [List.length_append, List.length_cons, List.length_nil, Nat.zero_add] at hw9
        rw [hw9] at hap ⊢
        have HD9 := Lib.hid hap.1
        have HB9 := Lib.hid (HB8.out.trans hap.2)
        clear hap hw9 HOW HUP HD8 HB8 HD8d HB8d
        clear c0 c1 c2 c3 c4 z3 z4
        obtain ⟨c0, c1, c2, c3, c4, z3, z4⟩ := stp_cells HD9.out.blk
        (refine Lone.ro_nil ?_; go_wp2_with fail)
        have HD9d := Lib.hid HD9.out.drew
        have HB9d := Lib.hid HB9.out.drew
        have HC10 := Lib.hid (rBytes_any HD9d.out.rd (by have := HD9d.out.sz; omega) 32)
        have hle10 := rByt_le s2 32
        obtain ⟨⟨y, s3⟩, hq10⟩ : ∃ q, q = rByt s2 32 := ⟨_, rfl⟩
        rw [← hq10] at HC10 hle10
        have HQ10 := Lib.hid hq10.symm
        have hsz10 : s3.1.size ≤ 140737488355328 := Nat.le_trans hle10 HD9d.out.sz
        clear hq10 hle10
        refine Lone.wp_region_order [(0, false), (1, false), (2, false), (3, true), (4, true), (5, true), (6, false), (7, true)] (fun w' => w'.cell? ⟨q, 4, none⟩ = some vs) (by kernel_rfl) (by kernel_rfl) rfl (by kernel_rfl) (by intro _ _ d _ _ h; cases d <;> exact h) (c4) ?_; simp only [List.map_cons, List.map_nil, List.getElem?_toArray, List.getElem?_cons_zero, List.getElem?_cons_succ, Option.getD_some]
        repeat (first | (refine Lone.ro_q (by rfl) (v := ?_) ?_ ?_; rotate_left; (focus (intro w' hSw; (try dsimp only at hSw); go_simp; try with_reducible rfl)); simp only [Act.put, List.setIfInBounds_toArray, List.set_cons_zero, List.set_cons_succ]) | (refine Lone.ro_skip (by rfl) ?_; simp only [Act.put, List.setIfInBounds_toArray, List.set_cons_zero, List.set_cons_succ]))
        (refine Lone.ro_loud (by rfl) (fun K hK => ?_); go_simp)
        (with_reducible refine HC10.out.mono ?_)
        rintro e w10 hto
        obtain ⟨rfl, hd10, hb10⟩ := HD9d.out.read hto hsz10
        have HD10 := Lib.hid hd10
        have HB10 := Lib.hid (HB9d.out.trans hb10)
        clear hto hd10 hb10 HC10 hsz10
        clear c0 c1 c2 c3 c4 z3 z4
        obtain ⟨c0, c1, c2, c3, c4, z3, z4⟩ := stp_cells HD10.out.blk
        (refine hK.out _ _ (fun w' => w'.cell? ⟨q, 4, none⟩ = some vs) (.inl fun _ h => h) (c4) ?_; clear hK K; try simp only [Act.put, List.setIfInBounds_toArray, List.set_cons_zero, List.set_cons_succ])
        repeat (first | (refine Lone.ro_q (by rfl) (v := ?_) ?_ ?_; rotate_left; (focus (intro w' hSw; (try dsimp only at hSw); go_simp; try with_reducible rfl)); simp only [Act.put, List.setIfInBounds_toArray, List.set_cons_zero, List.set_cons_succ]) | (refine Lone.ro_skip (by rfl) ?_; simp only [Act.put, List.setIfInBounds_toArray, List.set_cons_zero, List.set_cons_succ]))
        (refine Lone.ro_loud (by rfl) (fun K hK => ?_); go_simp)
        have HDa := Lib.hid (HD10.out.below (w' := w10.alloc (.cells #[.string y] 9)) ((Below.refl _ _).alloc (Nat.le_refl _) _))
        (refine hK.out _ _ (fun w' => w'.cell? ⟨q, 4, none⟩ = some vs) (.inl fun _ h => h) ((stp_cells HDa.out.blk).2.2.2.2.1) ?_; clear hK K; try simp only [Act.put, List.setIfInBounds_toArray, List.set_cons_zero, List.set_cons_succ])
        repeat (first | (refine Lone.ro_q (by rfl) (v := ?_) ?_ ?_; rotate_left; (focus (intro w' hSw; (try dsimp only at hSw); go_simp; try with_reducible rfl)); simp only [Act.put, List.setIfInBounds_toArray, List.set_cons_zero, List.set_cons_succ]) | (refine Lone.ro_skip (by rfl) ?_; simp only [Act.put, List.setIfInBounds_toArray, List.set_cons_zero, List.set_cons_succ]))
        refine Lone.ro_loud (by rfl) (fun K hK => ?_)
        refine wp_append1u (.tmp 36) (.tmp 39) 23 rfl info_string Tryd.underlying23 rfl (by decide) HD10.out.os HB10.out.size rfl (by have := HPL.out; have := HAL.out; show (Z.length + 1) * 16 ≤ 140737488355328; omega) rfl rfl ?_
        intro v' w' hown' hupd'
        have HOW := Lib.hid (show w'.ownsRow W.heap.size 9 1 v' (Z ++ [y]).length (svs (Z ++ [y])) by rw [svs_append, List.length_append]; exact hown')
        have HUP := Lib.hid hupd'
        obtain ⟨ao6, cp6, rfl⟩ := owns_slice HOW.out
        clear c0 c1 c2 c3 c4 z3 z4
        obtain ⟨c0, c1, c2, c3, c4, z3, z4⟩ := stp_cells (blk_upd HD10.out.blk HUP.out HD10.out.far.2.2.2.2.1)
        clear hown' hupd' HDa
        (refine hK.out _ _ (fun w' => w'.cell? ⟨q, 4, none⟩ = some vs) (.inl fun _ h => h) (c4) ?_; clear hK K; try simp only [Act.put, List.setIfInBounds_toArray, List.set_cons_zero, List.set_cons_succ])
        repeat (first | (refine Lone.ro_q (by rfl) (v := ?_) ?_ ?_; rotate_left; (focus (intro w' hSw; (try dsimp only at hSw); go_simp; try with_reducible rfl)); simp only [Act.put, List.setIfInBounds_toArray, List.set_cons_zero, List.set_cons_succ]) | (refine Lone.ro_skip (by rfl) ?_; simp only [Act.put, List.setIfInBounds_toArray, List.set_cons_zero, List.set_cons_succ]))
        (refine Lone.ro_loud (by rfl) (fun K hK => ?_); go_simp)
        (refine hK.out _ _ (fun _ => True) (.inr (by kernel_rfl)) (trivial) ?_; clear hK K; try simp only [Act.put, List.setIfInBounds_toArray, List.set_cons_zero, List.set_cons_succ])
        have hap := HD10.out.appS (s' := ⟨ra, rb, rc, A ++ [(x : Int)], Z ++ [y]⟩) HOW.out HUP.out rfl
        simp only [List.length_append, List.length_cons, List.length_nil, Nat.zero_add] at hap
        obtain ⟨w12, hw9⟩ : ∃ W, w'.setCell ⟨q, 4, none⟩ (.slice ao6 (Z ++ [y]).length cp6) = W := ⟨_, rfl⟩
        simp only [List.length_append, List.length_cons, List.length_nil, Nat.zero_add] at hw9
        rw [hw9] at hap ⊢
        have HD12 := Lib.hid hap.1
        have HB12 := Lib.hid (HB10.out.trans hap.2)
        clear hap hw9 HOW HUP HD10 HB10 HD9d HB9d
        clear c0 c1 c2 c3 c4 z3 z4
        obtain ⟨c0, c1, c2, c3, c4, z3, z4⟩ := stp_cells HD12.out.blk
        (refine Lone.ro_nil ?_; go_wp2_with fail)
        have HF2 := Lib.hid (HFL.out.trans (restD_step HPOS.out HQ8.out HQ10.out))
        have HAZ2 := Lib.hid (show A ++ [(x : Int)] = (P ++ [((x : Int), y)]).map Prod.fst ∧ Z ++ [y] = (P ++ [((x : Int), y)]).map Prod.snd by rw [List.map_append, List.map_append, HAZ.out.1, HAZ.out.2]; exact ⟨rfl, rfl⟩)
        have HS4 := Lib.hid (show s3.2 = 0 → (P ++ [((x : Int), y)]).length * 32 + s3.1.size ≤ 140737488355328 from fun h0 => by have a1 := rByt_32 HQ10.out h0; have a2 := rNum_le (rr, 0); rw [HQ8.out] at a2; have a3 : s2.1.size ≤ rr.size := a2; have a4 := HLE.out; rw [List.length_append]; show (P.length + 1) * 32 + _ ≤ _; omega)
        skip
        exact ⟨⟨n - 1, s3, P ++ [((x : Int), y)], A ++ [(x : Int)], Z ++ [y], _, _, HAZ2, by first | rfl | (have := HPOS.out; go_num), by omega, HS4, by have := HLE.out; simp; omega, HD12, HF2, HB12⟩, by have := HPOS.out; simp [intOf]; omega⟩
      · have h1 : (er == 0) = false := beq_eq_false_iff_ne.2 he0
        have h2 : (er != 0) = true := by rw [bne, h1]; rfl
        have HRAW := Lib.hid (HFL.out.trans ((restD_end (.inr he0)).trans (endD_bad he0)))
        have hF := HRAW.out
        subst hF
        clear he0
        have HCb := Lib.hid (rBad_any HD7.out.rd)
        go_wp2_with fail
        (with_reducible refine HCb.out.mono ?_)
        rintro e w0 ⟨rfl, rfl⟩
        clear HCb
        have gR := HGR.out _ HB7.out
        obtain ⟨r0, r1, r2, r3, r4, y3, y4⟩ := stp_cells gR
        go_wp2_with (refine wpList_store_blk (by rfl) 25 (.tmp 2) (.tmp 50) rfl w.heap.size #[.string ⟨#[]⟩, .string ⟨#[]⟩, .string ⟨#[]⟩, .slice none 0 0, .slice none 0 0] rfl rfl (old := _) gR (by kernel_rfl) rfl (by simp [Value.oneCell']) ?_; intro wz gz uz)
        clear r0 r1 r2 r3 r4 y3 y4
        obtain ⟨r0, r1, r2, r3, r4, _, _⟩ := stp_cells gz
        refine bodyPost_ret (v := .tuple #[.agg #[.string ⟨#[]⟩, .string ⟨#[]⟩, .string ⟨#[]⟩, .slice none 0 0, .slice none 0 0], .int .i64 (2)]) ?_ rfl ⟨.slice none 0 0, .slice none 0 0, rfl, World.ownsRow_nil _ _ _ _, World.ownsRow_nil _ _ _ _, below_upd (HW0.out.trans (HB7.out.mono HW0.out.size)) uz (Nat.le_refl _) (by have := HW0.out.size; have := HB7.out.size; omega)⟩
        simp [results, Tryd.f30, go_sem, zeroStp, noB, r0, r1, r2, r3, r4]
    · have hpi : decide ((0 : Int) < (n : Int)) = false := decide_eq_false (by omega)
      have hpn : decide (0 < n) = false := decide_eq_false hpos
      have HRAW := Lib.hid (HFL.out.trans (restD_end (.inl (by omega))))
      clear hpos
      have HCb := Lib.hid (rBad_any HD7.out.rd)
      go_wp2_with fail
      (with_reducible refine HCb.out.mono ?_)
      rintro e w0 ⟨rfl, rfl⟩
      clear HCb
      by_cases her : er = 0
      · subst her
        have HCl := Lib.hid (rLeft_any HD7.out.rd)
        go_wp2_with fail
        (with_reducible refine HCl.out.mono ?_)
        rintro e w0 ⟨rfl, rfl⟩
        clear HCl
        by_cases hleft : 0 < rr.size
        · have hF := HRAW.out.trans (endD_left hleft)
          subst hF
          have h1 : decide ((0 : Int) < (rr.size : Int)) = true := decide_eq_true (by omega)
          have h2 : decide (0 < rr.size) = true := decide_eq_true hleft
          clear hleft
          have gR := HGR.out _ HB7.out
          obtain ⟨r0, r1, r2, r3, r4, y3, y4⟩ := stp_cells gR
          go_wp2_with (refine wpList_store_blk (by rfl) 25 (.tmp 2) (.tmp 50) rfl w.heap.size #[.string ⟨#[]⟩, .string ⟨#[]⟩, .string ⟨#[]⟩, .slice none 0 0, .slice none 0 0] rfl rfl (old := _) gR (by kernel_rfl) rfl (by simp [Value.oneCell']) ?_; intro wz gz uz)
          clear r0 r1 r2 r3 r4 y3 y4
          obtain ⟨r0, r1, r2, r3, r4, _, _⟩ := stp_cells gz
          refine bodyPost_ret (v := .tuple #[.agg #[.string ⟨#[]⟩, .string ⟨#[]⟩, .string ⟨#[]⟩, .slice none 0 0, .slice none 0 0], .int .i64 (2)]) ?_ rfl ⟨.slice none 0 0, .slice none 0 0, rfl, World.ownsRow_nil _ _ _ _, World.ownsRow_nil _ _ _ _, below_upd (HW0.out.trans (HB7.out.mono HW0.out.size)) uz (Nat.le_refl _) (by have := HW0.out.size; have := HB7.out.size; omega)⟩
          simp [results, Tryd.f30, go_sem, zeroStp, noB, r0, r1, r2, r3, r4]
        · have h1 : decide ((0 : Int) < (rr.size : Int)) = false := decide_eq_false (by omega)
          have h2 : decide (0 < rr.size) = false := decide_eq_false hleft
          have hfg := HRAW.out.trans (endD_good (by omega))
          rw [← HAZ.out.1, ← HAZ.out.2] at hfg
          have HFG := Lib.hid hfg
          clear hfg
          clear hleft
          obtain ⟨e1, e2, vwf⟩ := rd_form (rdI_owns HD7.out.ow)
          obtain ⟨e3, e4, vsf⟩ := rd_form (rdS_owns HD7.out.os)
          subst vwf vsf
          have hgd := goodStp_any (⟨ra, rb, rc, A, Z⟩ : Stp) _ _ _ (rdI_owns HD7.out.ow) (rdS_owns HD7.out.os)
          obtain ⟨gq, hgq⟩ : ∃ e : Int, e = goodS (⟨ra, rb, rc, A, Z⟩ : Stp) := ⟨_, rfl⟩
          rw [← hgq] at hgd HFG
          clear hgq
          go_wp2_with fail
          (with_reducible refine hgd.mono ?_)
          rintro e w9 ⟨rfl, hb9⟩
          have HB9 := Lib.hid (HB7.out.trans (hb9.mono HD7.out.le.2.2))
          have HD9 := Lib.hid (HD7.out.below hb9)
          clear hb9 hgd
          clear c0 c1 c2 c3 c4 z3 z4
          obtain ⟨c0, c1, c2, c3, c4, z3, z4⟩ := stp_cells HD9.out.blk
          by_cases hg0 : gq = 0
          · have hF := HFG.out.trans (if_neg (by simpa using hg0))
            subst hF hg0
            have gR := HGR.out _ HB9.out
            have h1c := HD9.out.one
            go_wp2_with (refine wpList_store_blk (by rfl) 25 (.tmp 2) (.tmp 57) rfl w.heap.size #[.string ra, .string rb, .string rc, .slice e1 A.length e2, .slice e3 Z.length e4] rfl rfl (old := _) gR (by kernel_rfl) rfl (by simp [Value.oneCell']) ?_; intro wz gz uz)
            obtain ⟨r0, r1, r2, r3, r4, _, _⟩ := stp_cells gz
            have hlt : w.heap.size < W.heap.size := lt_of_block (HGR.out _ (Below.refl _ _))
            refine bodyPost_ret (v := .tuple #[.agg #[.string ra, .string rb, .string rc, .slice e1 A.length e2, .slice e3 Z.length e4], .int .i64 0]) ?_ rfl ⟨_, _, rfl, owns_base (owns_upd HD9.out.ow uz (fun k hk e => by have := owns_ge HD9.out.ow hk; omega)) HW0.out.size, owns_base (owns_upd HD9.out.os uz (fun k hk e => by have := owns_ge HD9.out.os hk; omega)) HW0.out.size, below_upd (HW0.out.trans (HB9.out.mono HW0.out.size)) uz (Nat.le_refl _) (by have := HW0.out.size; have := HB9.out.size; omega)⟩
            simp [results, Tryd.f30, go_sem, r0, r1, r2, r3, r4]
          · have h3 : (gq == 0) = false := beq_eq_false_iff_ne.2 hg0
            have h4 : (gq != 0) = true := by rw [bne, h3]; rfl
            have hF := HFG.out.trans (if_pos hg0)
            subst hF
            clear hg0
            have gR := HGR.out _ HB9.out
            obtain ⟨r0, r1, r2, r3, r4, y3, y4⟩ := stp_cells gR
            go_wp2_with (refine wpList_store_blk (by rfl) 25 (.tmp 2) (.tmp 55) rfl w.heap.size #[.string ⟨#[]⟩, .string ⟨#[]⟩, .string ⟨#[]⟩, .slice none 0 0, .slice none 0 0] rfl rfl (old := _) gR (by kernel_rfl) rfl (by simp [Value.oneCell']) ?_; intro wz gz uz)
            clear r0 r1 r2 r3 r4 y3 y4
            obtain ⟨r0, r1, r2, r3, r4, _, _⟩ := stp_cells gz
            refine bodyPost_ret (v := .tuple #[.agg #[.string ⟨#[]⟩, .string ⟨#[]⟩, .string ⟨#[]⟩, .slice none 0 0, .slice none 0 0], .int .i64 (gq)]) ?_ rfl ⟨.slice none 0 0, .slice none 0 0, rfl, World.ownsRow_nil _ _ _ _, World.ownsRow_nil _ _ _ _, below_upd (HW0.out.trans (HB9.out.mono HW0.out.size)) uz (Nat.le_refl _) (by have := HW0.out.size; have := HB9.out.size; omega)⟩
            simp [results, Tryd.f30, go_sem, zeroStp, noB, r0, r1, r2, r3, r4]
      · have h1 : (er == 0) = false := beq_eq_false_iff_ne.2 her
        have h2 : (er != 0) = true := by rw [bne, h1]; rfl
        have hF := HRAW.out.trans (endD_bad her)
        subst hF
        clear her
        have gR := HGR.out _ HB7.out
        obtain ⟨r0, r1, r2, r3, r4, y3, y4⟩ := stp_cells gR
        go_wp2_with (refine wpList_store_blk (by rfl) 25 (.tmp 2) (.tmp 50) rfl w.heap.size #[.string ⟨#[]⟩, .string ⟨#[]⟩, .string ⟨#[]⟩, .slice none 0 0, .slice none 0 0] rfl rfl (old := _) gR (by kernel_rfl) rfl (by simp [Value.oneCell']) ?_; intro wz gz uz)
        clear r0 r1 r2 r3 r4 y3 y4
        obtain ⟨r0, r1, r2, r3, r4, _, _⟩ := stp_cells gz
        refine bodyPost_ret (v := .tuple #[.agg #[.string ⟨#[]⟩, .string ⟨#[]⟩, .string ⟨#[]⟩, .slice none 0 0, .slice none 0 0], .int .i64 (2)]) ?_ rfl ⟨.slice none 0 0, .slice none 0 0, rfl, World.ownsRow_nil _ _ _ _, World.ownsRow_nil _ _ _ _, below_upd (HW0.out.trans (HB7.out.mono HW0.out.size)) uz (Nat.le_refl _) (by have := HW0.out.size; have := HB7.out.size; omega)⟩
        simp [results, Tryd.f30, go_sem, zeroStp, noB, r0, r1, r2, r3, r4]
end Go.Proofs.YtinhjnbgblieeaaDoor
