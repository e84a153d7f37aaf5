/- The walk of object.Encode. -/
import Derived.Test.YtmjnohblifihmaaObject3
import Derived.Test.YtmjnohblifihmaaWireBytes
namespace Go.Proofs.Ytmjnohblifihmaa
open Go.RowKit
set_option linter.unusedVariables false
set_option linter.unusedSimpArgs false

theorem WrTo.use {w w' : World} {B g : Nat} {v : Value} {l l' : List UInt8} {e e' : Int} {en : Ending} (h : WrTo w B g v l' e' en w') (hg : B ≤ g) (hst : WrSt w B g v l e) :
    en = .returned (.tuple #[]) ∧ ∃ v', WrSt w' B g v' l' e' ∧ Below B w w' ∧ ∀ xb, xb < w.heap.size → xb ≠ g → v.ownBlock ≠ some xb → (w'.heap[xb]? = w.heap[xb]? ∧ v'.ownBlock ≠ some xb) := by
  have hb := hst.below' hg h
  obtain ⟨he, v', hs, hu, hv⟩ := h
  refine ⟨he, v', hs, hb, fun xb hx h1 h2 => ⟨hu.block xb hx (fun e => e.elim h1 h2), fun e => ?_⟩⟩
  rcases hv with hv | ⟨k, hk, hk2⟩
  · exact h2 (hv ▸ e)
  · rw [hk] at e; injection e with e; omega
theorem three_cells {w : World} {b : Nat} {x y z : Value} {t : TypeId} (h : w.heap[b]? = some (.cells #[x, y, z] t (0, 0))) : w.cell? ⟨b, 0, none⟩ = some x ∧ w.cell? ⟨b, 1, none⟩ = some y ∧ w.cell? ⟨b, 2, none⟩ = some z := by
  refine ⟨?_, ?_, ?_⟩ <;> simp [World.cell?, h]
theorem owns_elem {w : World} {base : Nat} {e : TypeId} {size : Nat} {v : Value} {n : Nat} {xs : List Value} (h : w.ownsRow base e size v n xs) {k : Nat} (hk : v.ownBlock = some k) : base ≤ k ∧ ∃ cs f, w.heap[k]? = some (.cells cs e f) := by
  rcases h.2 with ⟨rfl, _⟩ | ⟨g, cap, cur, rfl, hbg, hg, r⟩
  · cases hk
  · injection hk with hk
    subst hk
    exact ⟨hbg, _, _, hg⟩
theorem wText_enc {w : World} {B g : Nat} {v : Value} {l : List UInt8} (hst : WrSt w B g v l 0) (t : ByteArray) (ht : t.size ≤ 4096) (hl : l.length + 4105 ≤ 140737488355328) :
    Calls Try.prog 13 #[.pointer (some ⟨g, 0, none⟩), .string t] w (WrTo w B g v (l ++ encT t) 0) := wText_good hst t ht hl
theorem encodeF_1 {o : Obj} (h : goodF o ≠ 0) : encodeF o = (noB, goodF o) := by unfold encodeF; rw [if_pos h]
theorem encodeF_2 {o : Obj} (h : goodF o = 0) (h2 : 8192 < (encO o).length) : encodeF o = (noB, 1) := by unfold encodeF; rw [if_neg (fun hc => hc h), if_pos h2]
theorem encodeF_3 {o : Obj} (h : goodF o = 0) (h2 : ¬ 8192 < (encO o).length) : encodeF o = (⟨(encO o).toArray⟩, 0) := by unfold encodeF; rw [if_neg (fun hc => hc h), if_neg h2]
theorem enc9 {n : Nat} (h : n < 4611686018427387904) : (enc n).length ≤ 9 := enc_len9 n h
theorem encEs_length {l : List Ent} (h : ∀ x ∈ l, x.name.size ≤ 60 ∧ x.id.size = 32) : (encEs l).length ≤ l.length * 110 := by
  induction l with
  | nil => simp [encEs]
  | cons x l ih =>
    have h1 := ih (fun y hy => h y (by simp [hy]))
    obtain ⟨h2, h3⟩ := h x (by simp)
    have h4 := enc9 (n := x.name.size) (by omega)
    have h5 := enc9 (n := if x.dir then 1 else 0) (by split <;> omega)
    rw [show encEs (x :: l) = encE x ++ encEs l by simp [encEs], List.length_append, encE, encT]
    simp only [List.length_append, toList_length, List.length_cons]
    omega
theorem encP_length {l : List ByteArray} (h : ∀ x ∈ l, x.size = 32) : (encP l).length ≤ l.length * 32 := by
  induction l with
  | nil => simp [encP]
  | cons x l ih =>
    have h1 := ih (fun y hy => h y (by simp [hy]))
    have h2 := h x (by simp)
    rw [show encP (x :: l) = x.data.toList ++ encP l by simp [encP], List.length_append, toList_length, List.length_cons]
    omega
theorem encT_length {s : ByteArray} (h : s.size ≤ 4096) : (encT s).length ≤ 4105 := by
  have := enc9 (n := s.size) (by omega)
  rw [encT, List.length_append, toList_length]; omega
theorem encO_length {o : Obj} (g : GoodO o) : (encO o).length ≤ 50000 := by
  obtain ⟨k1, k4⟩ := g.kind
  have h0 := enc9 (n := o.kind.toNat) (by omega)
  have h1 := encT_length g.data
  have h2 := encT_length g.who
  have h3 := encT_length g.note
  have h4 := encEs_length g.ent
  have h5 := encP_length g.par
  have h6 := g.ents
  have h7 := g.pars
  have h8 := enc9 (n := o.ents.length) (by omega)
  have h9 := enc9 (n := o.pars.length) (by omega)
  have h10 := enc9 (n := o.time.toNat) (by have := g.time; omega)
  rw [encO, List.length_append]
  unfold bodyO
  split
  · omega
  · split
    · rw [List.length_append]; omega
    · split
      · rename_i hk
        have := g.tree hk
        simp only [List.length_append, toList_length]; omega
      · split
        · rename_i hk
          have := g.target hk
          simp only [List.length_append, toList_length]; omega
        · simp; omega
set_option maxRecDepth 100000 in
set_option maxHeartbeats 3200000 in
theorem encode_any (o : Obj) (ve vp : Value) (w : World) (he : rdE w ve o.ents) (hp : rdS w vp o.pars) :
    Calls Try.prog 6 #[.agg (objC o ve vp).toArray] w fun e w' => e = .returned (.tuple #[.string (encodeF o).1, .int .i64 (encodeF o).2]) ∧ Below w.heap.size w w' := by
  obtain ⟨F, hF⟩ : ∃ F, F = encodeF o := ⟨_, rfl⟩
  rw [← hF]
  have HF := Lib.hid hF
  obtain ⟨ae, ce, rfl⟩ := rd_form he
  obtain ⟨ap, cp, rfl⟩ := rdS_form hp
  have HGD := Lib.hid (fun (w' : World) (h1 : rdE w' (.slice ae o.ents.length ce) o.ents) (h2 : rdS w' (.slice ap o.pars.length cp) o.pars) => ogood_any o _ _ w' h1 h2)
  obtain ⟨C, hC⟩ : ∃ C : Array Value, C = (objC o (.slice ae o.ents.length ce) (.slice ap o.pars.length cp)).toArray := ⟨_, rfl⟩
  rw [← hC] at HGD ⊢
  have HOBC := Lib.hid (fun (wr : World) (h : wr.heap[w.heap.size]? = some (.cells C 25 (0, 0))) => ob_cells hC h)
  have hsz : C.size = 9 := by rw [hC]; rfl
  have g0 : (w.alloc (.cells C 25)).heap[w.heap.size]? = some (.cells C 25 (0, 0)) := heap_alloc_new _ _
  have hb1 : Below w.heap.size w (w.alloc (.cells C 25)) := (Below.refl _ _).alloc (Nat.le_refl _) _
  have HEN := Lib.hid (he.below hb1)
  have HPR := Lib.hid (hp.below hb1)
  have HW0 := Lib.hid hb1
  obtain ⟨W, hW⟩ : ∃ W, w.alloc (.cells C 25) = W := ⟨_, rfl⟩
  rw [hW] at g0 HEN HPR HW0
  have HG := Lib.hid (fun wr (h : Below W.heap.size W wr) => blk_below g0 h)
  have HGC := Lib.hid (HGD.out W HEN.out HPR.out)
  obtain ⟨e0, he0⟩ : ∃ e, e = goodF o := ⟨_, rfl⟩
  rw [← he0] at HGC
  have HGE := Lib.hid he0
  obtain ⟨E, hE⟩ : ∃ E, E = encO o := ⟨_, rfl⟩
  have HED := Lib.hid hE
  clear hF hC he hp hb1 HGD he0 hE
  go_enter Try.func6, Try.ntmps6
  go_wp2_with (first | (refine wpList_load_blk rfl 25 (.tmp 1) rfl w.heap.size rfl (.agg C) rfl g0 Try.underlying25 rfl (by rw [hsz]; exact info_ob) ?_))
  (with_reducible refine HGC.out.mono ?_)
  rintro e w1 ⟨rfl, hb⟩
  have HB1 := Lib.hid hb
  clear hb hW g0 HGC
  by_cases hge : e0 = 0
  · subst hge
    have HGO := Lib.hid (goodF_good HGE.out.symm)
    have HG0 := Lib.hid HGE.out.symm
    have HBIG := Lib.hid (show E.length ≤ 50000 by rw [HED.out]; exact encO_length HGO.out)
    obtain ⟨kind, data, ents, tree, pars, who, note, time, target⟩ := o
    obtain ⟨hk1, hk4⟩ := HGO.out.kind
    simp only at hk1 hk4
    have hsW : W.heap.size ≤ w1.heap.size := HB1.out.size
    obtain ⟨X, hX⟩ : ∃ X, w1.alloc (.cells #[.slice none 0 0, .int .i64 0] 41) = X := ⟨_, rfl⟩
    have hbx : Below W.heap.size W X := by rw [← hX]; exact HB1.out.alloc hsW _
    have HB2 := Lib.hid hbx
    have HBG := Lib.hid hsW
    have HS2 := Lib.hid (show WrSt X W.heap.size w1.heap.size (.slice none 0 0) [] 0 from ⟨by rw [← hX]; exact heap_alloc_new _ _, World.ownsRow_nil _ _ _ _, by simp [Value.ownBlock], hbx.size⟩)
    obtain ⟨c0, c1, c2, c3, c4, c5, c6, c7, c8⟩ := HOBC.out _ (HG.out _ HB2.out)
    rcases (by omega : kind = 1 ∨ kind = 2 ∨ kind = 3 ∨ kind = 4) with hk | hk | hk | hk
    · have hkk := hk
      have f1 : (kind == 1) = true := by rw [hk]; rfl
      have f2 : (kind == 2) = false := by rw [hk]; rfl
      have f3 : (kind == 3) = false := by rw [hk]; rfl
      have f4 : (kind == 4) = false := by rw [hk]; rfl
      have HK := Lib.hid hk
      clear hk hkk
      have HE2 := Lib.hid (show E = [] ++ (enc kind.toNat ++ (encT data ++ [])) by rw [HED.out, encO, bodyO, if_pos (by exact HK.out)]; simp)
      have HC3 := Lib.hid (wNumber_good HS2.out (kind) (by omega) (by omega) (by have h := HBIG.out; rw [HE2.out, List.length_append] at h; omega))
      go_wp2_with fail
      (with_reducible refine HC3.out.mono ?_)
      rintro e w3 hto
      obtain ⟨rfl, v3, hs3, hb3, hx3⟩ := hto.use HBG.out HS2.out
      have HB3 := Lib.hid (HB2.out.trans hb3)
      have HS3 := Lib.hid hs3
      have HX3 := Lib.hid hx3
      have HE3 := Lib.hid (HE2.out.trans (List.append_assoc _ _ _).symm)
      clear hs3 hb3 hx3 HC3 hto
      clear c0 c1 c2 c3 c4 c5 c6 c7 c8
      obtain ⟨c0, c1, c2, c3, c4, c5, c6, c7, c8⟩ := HOBC.out _ (HG.out _ HB3.out)
      have HC4 := Lib.hid (wText_enc HS3.out data HGO.out.data (by have h := HBIG.out; rw [HE3.out, List.length_append] at h; omega))
      go_wp2_with fail
      (with_reducible refine HC4.out.mono ?_)
      rintro e w4 hto
      obtain ⟨rfl, v4, hs4, hb4, hx4⟩ := hto.use HBG.out HS3.out
      have HB4 := Lib.hid (HB3.out.trans hb4)
      have HS4 := Lib.hid hs4
      have HX4 := Lib.hid hx4
      have HE4 := Lib.hid (HE3.out.trans (List.append_assoc _ _ _).symm)
      clear hs4 hb4 hx4 HC4 hto
      clear c0 c1 c2 c3 c4 c5 c6 c7 c8
      obtain ⟨c0, c1, c2, c3, c4, c5, c6, c7, c8⟩ := HOBC.out _ (HG.out _ HB4.out)
      have HEE := Lib.hid (HE4.out.trans (List.append_nil _))
      have hfin := HS4.out
      rw [← HEE.out] at hfin
      have HDN := Lib.hid (wDone_any (st := (E, 0)) hfin)
      rw [show doneV (E, (0 : Int)) = .tuple #[.string ⟨E.toArray⟩, .int .i64 0] from rfl] at HDN
      have hsz : (⟨E.toArray⟩ : ByteArray).size = E.length := by rw [← toList_length]
      obtain ⟨z, hz⟩ : ∃ z : ByteArray, z = ⟨E.toArray⟩ := ⟨_, rfl⟩
      rw [← hz] at HDN hsz
      have HZ := Lib.hid hz
      clear hfin hz
      go_wp2_with fail
      (with_reducible refine HDN.out.mono ?_)
      rintro e wd ⟨rfl, q, rfl⟩
      have HBD := Lib.hid (HW0.out.trans ((below_drewN HB4.out q).mono HW0.out.size))
      by_cases hbig : 8192 < E.length
      · have f1 : decide ((8192 : Int) < (z.size : Int)) = true := decide_eq_true (by omega)
        have f2 : decide (8192 < z.size) = true := decide_eq_true (by omega)
        have hF := HF.out.trans (encodeF_2 HG0.out (by rw [← HED.out]; exact hbig))
        subst hF
        clear hbig hsz
        go_wp2_with fail
        go_ret2
        exact ⟨rfl, HBD.out⟩
      · have f1 : decide ((8192 : Int) < (z.size : Int)) = false := decide_eq_false (by omega)
        have f2 : decide (8192 < z.size) = false := decide_eq_false (by omega)
        have hF := HF.out.trans (encodeF_3 HG0.out (by rw [← HED.out]; exact hbig))
        subst hF
        clear hbig hsz
        go_wp2_with fail
        go_ret2
        exact ⟨by rw [HZ.out, HED.out]; rfl, HBD.out⟩
    · have hkk := hk
      have f1 : (kind == 1) = false := by rw [hk]; rfl
      have f2 : (kind == 2) = true := by rw [hk]; rfl
      have f3 : (kind == 3) = false := by rw [hk]; rfl
      have f4 : (kind == 4) = false := by rw [hk]; rfl
      have HK := Lib.hid hk
      clear hk hkk
      have HE2 := Lib.hid (show E = [] ++ (enc kind.toNat ++ (enc ents.length ++ encEs ents)) by rw [HED.out, encO, bodyO, if_neg (by intro h; have := HK.out; simp only at h; omega), if_pos (by exact HK.out)]; simp)
      have hEl : ents.length ≤ 64 := HGO.out.ents
      have HC3 := Lib.hid (wNumber_good HS2.out (kind) (by omega) (by omega) (by have h := HBIG.out; rw [HE2.out, List.length_append] at h; omega))
      go_wp2_with fail
      (with_reducible refine HC3.out.mono ?_)
      rintro e w3 hto
      obtain ⟨rfl, v3, hs3, hb3, hx3⟩ := hto.use HBG.out HS2.out
      have HB3 := Lib.hid (HB2.out.trans hb3)
      have HS3 := Lib.hid hs3
      have HX3 := Lib.hid hx3
      have HE3 := Lib.hid (HE2.out.trans (List.append_assoc _ _ _).symm)
      clear hs3 hb3 hx3 HC3 hto
      clear c0 c1 c2 c3 c4 c5 c6 c7 c8
      obtain ⟨c0, c1, c2, c3, c4, c5, c6, c7, c8⟩ := HOBC.out _ (HG.out _ HB3.out)
      have HC4 := Lib.hid (wNumber_good HS3.out ((ents.length : Int)) (by omega) (by omega) (by have h := HBIG.out; rw [HE3.out, List.length_append] at h; omega))
      rw [show ((ents.length : Int)).toNat = ents.length by first | rfl | omega] at HC4
      go_wp2_with fail
      (with_reducible refine HC4.out.mono ?_)
      rintro e w4 hto
      obtain ⟨rfl, v4, hs4, hb4, hx4⟩ := hto.use HBG.out HS3.out
      have HB4 := Lib.hid (HB3.out.trans hb4)
      have HS4 := Lib.hid hs4
      have HX4 := Lib.hid hx4
      have HE4 := Lib.hid (HE3.out.trans (List.append_assoc _ _ _).symm)
      clear hs4 hb4 hx4 HC4 hto
      clear c0 c1 c2 c3 c4 c5 c6 c7 c8
      obtain ⟨c0, c1, c2, c3, c4, c5, c6, c7, c8⟩ := HOBC.out _ (HG.out _ HB4.out)
      go_wp2_with fail
      have HM4 := Lib.hid HS4.out
      go_loopw [42] (fun i wr => ∃ (k : Nat) (v : Value) (l : List UInt8), i = .int .i64 (k : Int) ∧ k ≤ ents.length ∧ WrSt wr W.heap.size w1.heap.size v l 0 ∧ E = l ++ encEs (ents.drop k) ∧ Below W.heap.size W wr) (fun i _ => ents.length - (intOf i).toNat)
      case atStart => exact ⟨0, v4, _, rfl, Nat.zero_le _, HS4.out, by rw [List.drop_zero]; exact HE4.out, HB4.out⟩
      case round =>
        clear HS2 HS3 HS4 HE2 HE3 HE4 HX3 HX4 HM4 c0 c1 c2 c3 c4 c5 c6 c7 c8
        obtain ⟨k, v, l, rfl, hk, hs, hE, hB⟩ := hrel
        have HSr := Lib.hid hs
        have HEr := Lib.hid hE
        have HBr := Lib.hid hB
        clear hs hE hB
        obtain ⟨c0, c1, c2, c3, c4, c5, c6, c7, c8⟩ := HOBC.out _ (HG.out _ HBr.out)
        by_cases hlt : k < ents.length
        · have hki : (k : Int) < (ents.length : Int) := by omega
          have hkb : decide ((k : Int) < (ents.length : Int)) = true := decide_eq_true hki
          have hkn : decide (k < ents.length) = true := decide_eq_true hlt
          have hk0 : (0 : Int) ≤ (k : Int) := by omega
          obtain ⟨b, off, hae, hblt, hcell⟩ := rdE_at HEN.out (by omega)
          obtain ⟨x, hx⟩ : ∃ x, x = ents.getD k zeroE := ⟨_, rfl⟩
          obtain ⟨d0, d1, d2⟩ := hcell k hlt
          rw [← hx] at d0 d1 d2
          rw [← HBr.out.cell (p := ⟨b, off + k * 3, none⟩) hblt] at d0
          rw [← HBr.out.cell (p := ⟨b, off + k * 3 + 1, none⟩) hblt] at d1
          rw [← HBr.out.cell (p := ⟨b, off + k * 3 + 2, none⟩) hblt] at d2
          subst hae
          have hxm : x ∈ ents := by rw [hx, getD_of _ _ _ hlt]; exact List.getElem_mem hlt
          obtain ⟨hn60, hi32⟩ := HGO.out.ent x hxm
          have hdrop : ents.drop k = x :: ents.drop (k + 1) := by rw [hx, getD_of _ _ _ hlt]; exact List.drop_eq_getElem_cons hlt
          have hEa : E = l ++ (encT x.name ++ (enc (if x.dir then 1 else 0) ++ (x.id.data.toList ++ encEs (ents.drop (k + 1))))) := by rw [HEr.out, hdrop]; simp [encEs, encE]
          obtain ⟨nm, dr, xi⟩ := x
          simp only at d0 d1 d2 hn60 hi32 hEa
          have HN60 := Lib.hid hn60
          have HI32 := Lib.hid hi32
          have HEa := Lib.hid hEa
          have HLTE := Lib.hid hlt
          obtain ⟨V, hV⟩ : ∃ V, wr.alloc (.cells #[.string nm, .bool dr, .string xi] 45) = V := ⟨_, rfl⟩
          have hbv : Below wr.heap.size wr V := by rw [← hV]; exact (Below.refl _ _).alloc (Nat.le_refl _) _
          have gxa : V.heap[wr.heap.size]? = some (.cells #[.string nm, .bool dr, .string xi] 45 (0, 0)) := by rw [← hV]; exact heap_alloc_new _ _
          obtain ⟨e0, e1, e2⟩ := three_cells gxa
          have HSa := Lib.hid (HSr.out.below hbv)
          have HBa := Lib.hid (HBr.out.trans (hbv.mono HBr.out.size))
          have HNG := Lib.hid (show wr.heap.size ≠ w1.heap.size from fun e => by have := lt_of_block HSr.out.blk; omega)
          have HNOa := Lib.hid (show v.ownBlock ≠ some wr.heap.size from fun e => by obtain ⟨_, cs, f, hc⟩ := owns_elem HSr.out.own e; have := lt_of_block hc; omega)
          have cva := HOBC.out _ (HG.out _ HBa.out)
          clear hx hcell hxm hdrop hbv hEa hn60 hi32
          have HCb := Lib.hid (wText_enc HSa.out nm (by have := HN60.out; omega) (by have h := HBIG.out; rw [HEa.out, List.length_append] at h; omega))
          go_wp2_with fail
          (with_reducible refine HCb.out.mono ?_)
          rintro e wb hto
          obtain ⟨rfl, vb, hsb, hbb, hxb⟩ := hto.use HBG.out HSa.out
          have HBb := Lib.hid (HBa.out.trans hbb)
          have HSb := Lib.hid hsb
          have HXb := Lib.hid hxb
          have HEb := Lib.hid (HEa.out.trans (List.append_assoc _ _ _).symm)
          clear hsb hbb hxb HCb hto
          have hqb := HXb.out wr.heap.size (lt_of_block gxa) HNG.out HNOa.out
          have gxb := hqb.1.trans gxa
          have HNOb := Lib.hid hqb.2
          clear e0 e1 e2 hqb
          obtain ⟨e0, e1, e2⟩ := three_cells gxb
          clear c0 c1 c2 c3 c4 c5 c6 c7 c8
          obtain ⟨c0, c1, c2, c3, c4, c5, c6, c7, c8⟩ := HOBC.out _ (HG.out _ HBb.out)
          cases dr with
          | false =>
            have HEb' := HEb
            clear HEb
            have HEb := Lib.hid (show E = (l ++ encT nm) ++ (enc 0 ++ (xi.data.toList ++ encEs (ents.drop (k + 1)))) from HEb'.out)
            clear HEb'
            have HCc := Lib.hid (wNumber_good HSb.out ((0 : Int)) (by omega) (by omega) (by have h := HBIG.out; rw [HEb.out, List.length_append] at h; omega))
            rw [show ((0 : Int)).toNat = 0 by first | rfl | omega] at HCc
            go_wp2_with fail
            (with_reducible refine HCc.out.mono ?_)
            rintro e wc hto
            obtain ⟨rfl, vc, hsc, hbc, hxc⟩ := hto.use HBG.out HSb.out
            have HBc := Lib.hid (HBb.out.trans hbc)
            have HSc := Lib.hid hsc
            have HXc := Lib.hid hxc
            have HEc := Lib.hid (HEb.out.trans (List.append_assoc _ _ _).symm)
            clear hsc hbc hxc HCc hto
            have hqc := HXc.out wr.heap.size (lt_of_block gxb) HNG.out HNOb.out
            have gxc := hqc.1.trans gxb
            have HNOc := Lib.hid hqc.2
            clear e0 e1 e2 hqc
            obtain ⟨e0, e1, e2⟩ := three_cells gxc
            clear c0 c1 c2 c3 c4 c5 c6 c7 c8
            obtain ⟨c0, c1, c2, c3, c4, c5, c6, c7, c8⟩ := HOBC.out _ (HG.out _ HBc.out)
            have HCd := Lib.hid (wBytes_good HSc.out xi (by have h := HBIG.out; rw [HEc.out, List.length_append] at h; have := HI32.out; omega))
            go_wp2_with fail
            (with_reducible refine HCd.out.mono ?_)
            rintro e wd hto
            obtain ⟨rfl, vd, hsd, hbd, hxd⟩ := hto.use HBG.out HSc.out
            have HBd := Lib.hid (HBc.out.trans hbd)
            have HSd := Lib.hid hsd
            have HXd := Lib.hid hxd
            have HEd := Lib.hid (HEc.out.trans (List.append_assoc _ _ _).symm)
            clear hsd hbd hxd HCd hto
            clear c0 c1 c2 c3 c4 c5 c6 c7 c8
            obtain ⟨c0, c1, c2, c3, c4, c5, c6, c7, c8⟩ := HOBC.out _ (HG.out _ HBd.out)
            go_wp2_with fail
            exact ⟨⟨k + 1, vd, _, by first | rfl | go_num, by have := HLTE.out; omega, HSd.out, HEd.out, HBd.out⟩, by have := HLTE.out; simp [intOf]; omega⟩
          | true =>
            have HEb' := HEb
            clear HEb
            have HEb := Lib.hid (show E = (l ++ encT nm) ++ (enc 1 ++ (xi.data.toList ++ encEs (ents.drop (k + 1)))) from HEb'.out)
            clear HEb'
            have HCc := Lib.hid (wNumber_good HSb.out ((1 : Int)) (by omega) (by omega) (by have h := HBIG.out; rw [HEb.out, List.length_append] at h; omega))
            rw [show ((1 : Int)).toNat = 1 by first | rfl | omega] at HCc
            go_wp2_with fail
            (with_reducible refine HCc.out.mono ?_)
            rintro e wc hto
            obtain ⟨rfl, vc, hsc, hbc, hxc⟩ := hto.use HBG.out HSb.out
            have HBc := Lib.hid (HBb.out.trans hbc)
            have HSc := Lib.hid hsc
            have HXc := Lib.hid hxc
            have HEc := Lib.hid (HEb.out.trans (List.append_assoc _ _ _).symm)
            clear hsc hbc hxc HCc hto
            have hqc := HXc.out wr.heap.size (lt_of_block gxb) HNG.out HNOb.out
            have gxc := hqc.1.trans gxb
            have HNOc := Lib.hid hqc.2
            clear e0 e1 e2 hqc
            obtain ⟨e0, e1, e2⟩ := three_cells gxc
            clear c0 c1 c2 c3 c4 c5 c6 c7 c8
            obtain ⟨c0, c1, c2, c3, c4, c5, c6, c7, c8⟩ := HOBC.out _ (HG.out _ HBc.out)
            have HCd := Lib.hid (wBytes_good HSc.out xi (by have h := HBIG.out; rw [HEc.out, List.length_append] at h; have := HI32.out; omega))
            go_wp2_with fail
            (with_reducible refine HCd.out.mono ?_)
            rintro e wd hto
            obtain ⟨rfl, vd, hsd, hbd, hxd⟩ := hto.use HBG.out HSc.out
            have HBd := Lib.hid (HBc.out.trans hbd)
            have HSd := Lib.hid hsd
            have HXd := Lib.hid hxd
            have HEd := Lib.hid (HEc.out.trans (List.append_assoc _ _ _).symm)
            clear hsd hbd hxd HCd hto
            clear c0 c1 c2 c3 c4 c5 c6 c7 c8
            obtain ⟨c0, c1, c2, c3, c4, c5, c6, c7, c8⟩ := HOBC.out _ (HG.out _ HBd.out)
            go_wp2_with fail
            exact ⟨⟨k + 1, vd, _, by first | rfl | go_num, by have := HLTE.out; omega, HSd.out, HEd.out, HBd.out⟩, by have := HLTE.out; simp [intOf]; omega⟩
        · have hkn : k = ents.length := by omega
          subst hkn
          have hkb : decide ((ents.length : Int) < (ents.length : Int)) = false := by simp
          have HEz := Lib.hid (show E = l ++ [] by rw [HEr.out, List.drop_length]; rfl)
          have HSz := Lib.hid HSr.out
          have HBz := Lib.hid HBr.out
          clear hlt hk HEr HSr
          have HEE := Lib.hid (HEz.out.trans (List.append_nil _))
          have hfin := HSz.out
          rw [← HEE.out] at hfin
          have HDN := Lib.hid (wDone_any (st := (E, 0)) hfin)
          rw [show doneV (E, (0 : Int)) = .tuple #[.string ⟨E.toArray⟩, .int .i64 0] from rfl] at HDN
          have hsz : (⟨E.toArray⟩ : ByteArray).size = E.length := by rw [← toList_length]
          obtain ⟨z, hz⟩ : ∃ z : ByteArray, z = ⟨E.toArray⟩ := ⟨_, rfl⟩
          rw [← hz] at HDN hsz
          have HZ := Lib.hid hz
          clear hfin hz
          go_wp2_with fail
          (with_reducible refine HDN.out.mono ?_)
          rintro e wd ⟨rfl, q, rfl⟩
          have HBD := Lib.hid (HW0.out.trans ((below_drewN HBz.out q).mono HW0.out.size))
          by_cases hbig : 8192 < E.length
          · have f1 : decide ((8192 : Int) < (z.size : Int)) = true := decide_eq_true (by omega)
            have f2 : decide (8192 < z.size) = true := decide_eq_true (by omega)
            have hF := HF.out.trans (encodeF_2 HG0.out (by rw [← HED.out]; exact hbig))
            subst hF
            clear hbig hsz
            go_wp2_with fail
            go_ret2
            exact ⟨rfl, HBD.out⟩
          · have f1 : decide ((8192 : Int) < (z.size : Int)) = false := decide_eq_false (by omega)
            have f2 : decide (8192 < z.size) = false := decide_eq_false (by omega)
            have hF := HF.out.trans (encodeF_3 HG0.out (by rw [← HED.out]; exact hbig))
            subst hF
            clear hbig hsz
            go_wp2_with fail
            go_ret2
            exact ⟨by rw [HZ.out, HED.out]; rfl, HBD.out⟩
    · have hkk := hk
      have f1 : (kind == 1) = false := by rw [hk]; rfl
      have f2 : (kind == 2) = false := by rw [hk]; rfl
      have f3 : (kind == 3) = true := by rw [hk]; rfl
      have f4 : (kind == 4) = false := by rw [hk]; rfl
      have HK := Lib.hid hk
      clear hk hkk
      have HE2 := Lib.hid (show E = [] ++ (enc kind.toNat ++ (tree.data.toList ++ (enc pars.length ++ (encP pars ++ (encT who ++ (enc time.toNat ++ (encT note ++ []))))))) by rw [HED.out, encO, bodyO, if_neg (by intro h; have := HK.out; simp only at h; omega), if_neg (by intro h; have := HK.out; simp only at h; omega), if_pos (by exact HK.out)]; simp)
      have hPl : pars.length ≤ 4 := HGO.out.pars
      obtain ⟨ht0, ht1⟩ : 0 ≤ time ∧ time < 1099511627776 := HGO.out.time
      have HC3 := Lib.hid (wNumber_good HS2.out (kind) (by omega) (by omega) (by have h := HBIG.out; rw [HE2.out, List.length_append] at h; omega))
      go_wp2_with fail
      (with_reducible refine HC3.out.mono ?_)
      rintro e w3 hto
      obtain ⟨rfl, v3, hs3, hb3, hx3⟩ := hto.use HBG.out HS2.out
      have HB3 := Lib.hid (HB2.out.trans hb3)
      have HS3 := Lib.hid hs3
      have HX3 := Lib.hid hx3
      have HE3 := Lib.hid (HE2.out.trans (List.append_assoc _ _ _).symm)
      clear hs3 hb3 hx3 HC3 hto
      clear c0 c1 c2 c3 c4 c5 c6 c7 c8
      obtain ⟨c0, c1, c2, c3, c4, c5, c6, c7, c8⟩ := HOBC.out _ (HG.out _ HB3.out)
      have HC4 := Lib.hid (wBytes_good HS3.out tree (by have h := HBIG.out; rw [HE3.out, List.length_append] at h; have := (show tree.size = 32 from HGO.out.tree HK.out); omega))
      go_wp2_with fail
      (with_reducible refine HC4.out.mono ?_)
      rintro e w4 hto
      obtain ⟨rfl, v4, hs4, hb4, hx4⟩ := hto.use HBG.out HS3.out
      have HB4 := Lib.hid (HB3.out.trans hb4)
      have HS4 := Lib.hid hs4
      have HX4 := Lib.hid hx4
      have HE4 := Lib.hid (HE3.out.trans (List.append_assoc _ _ _).symm)
      clear hs4 hb4 hx4 HC4 hto
      clear c0 c1 c2 c3 c4 c5 c6 c7 c8
      obtain ⟨c0, c1, c2, c3, c4, c5, c6, c7, c8⟩ := HOBC.out _ (HG.out _ HB4.out)
      have HC5 := Lib.hid (wNumber_good HS4.out ((pars.length : Int)) (by omega) (by omega) (by have h := HBIG.out; rw [HE4.out, List.length_append] at h; omega))
      rw [show ((pars.length : Int)).toNat = pars.length by first | rfl | omega] at HC5
      go_wp2_with fail
      (with_reducible refine HC5.out.mono ?_)
      rintro e w5 hto
      obtain ⟨rfl, v5, hs5, hb5, hx5⟩ := hto.use HBG.out HS4.out
      have HB5 := Lib.hid (HB4.out.trans hb5)
      have HS5 := Lib.hid hs5
      have HX5 := Lib.hid hx5
      have HE5 := Lib.hid (HE4.out.trans (List.append_assoc _ _ _).symm)
      clear hs5 hb5 hx5 HC5 hto
      clear c0 c1 c2 c3 c4 c5 c6 c7 c8
      obtain ⟨c0, c1, c2, c3, c4, c5, c6, c7, c8⟩ := HOBC.out _ (HG.out _ HB5.out)
      go_wp2_with fail
      go_loopw [74] (fun i wr => ∃ (k : Nat) (v : Value) (l : List UInt8), i = .int .i64 (k : Int) ∧ k ≤ pars.length ∧ WrSt wr W.heap.size w1.heap.size v l 0 ∧ E = l ++ (encP (pars.drop k) ++ (encT who ++ (enc time.toNat ++ (encT note ++ [])))) ∧ Below W.heap.size W wr) (fun i _ => pars.length - (intOf i).toNat)
      case atStart => exact ⟨0, v5, _, rfl, Nat.zero_le _, HS5.out, by rw [List.drop_zero]; exact HE5.out, HB5.out⟩
      case round =>
        clear HS2 HS3 HS4 HS5 HE2 HE3 HE4 HE5 HX3 HX4 HX5 c0 c1 c2 c3 c4 c5 c6 c7 c8
        obtain ⟨k, v, l, rfl, hk, hs, hE, hB⟩ := hrel
        have HSr := Lib.hid hs
        have HEr := Lib.hid hE
        have HBr := Lib.hid hB
        clear hs hE hB
        obtain ⟨c0, c1, c2, c3, c4, c5, c6, c7, c8⟩ := HOBC.out _ (HG.out _ HBr.out)
        by_cases hlt : k < pars.length
        · have hki : (k : Int) < (pars.length : Int) := by omega
          have hkb : decide ((k : Int) < (pars.length : Int)) = true := decide_eq_true hki
          have hkn : decide (k < pars.length) = true := decide_eq_true hlt
          have hk0 : (0 : Int) ≤ (k : Int) := by omega
          obtain ⟨b, off, cap, hv, hblt, hcell⟩ := rdS_all HPR.out (by omega)
          injection hv with hae _ hce
          subst hae
          obtain ⟨x, hx⟩ : ∃ x, x = pars.getD k ⟨#[]⟩ := ⟨_, rfl⟩
          have d0 := hcell k hlt
          rw [← hx, ← HBr.out.cell (p := ⟨b, off + k, none⟩) hblt] at d0
          have hxm : x ∈ pars := by rw [hx, getD_of _ _ _ hlt]; exact List.getElem_mem hlt
          have HI32 := Lib.hid (HGO.out.par x hxm)
          have hdrop : pars.drop k = x :: pars.drop (k + 1) := by rw [hx, getD_of _ _ _ hlt]; exact List.drop_eq_getElem_cons hlt
          have HEa := Lib.hid (show E = l ++ (x.data.toList ++ (encP (pars.drop (k + 1)) ++ (encT who ++ (enc time.toNat ++ (encT note ++ []))))) by rw [HEr.out, hdrop]; simp [encP])
          have HSa := Lib.hid HSr.out
          have HBa := Lib.hid HBr.out
          have HLTE := Lib.hid hlt
          clear hx hcell hxm hdrop hce
          have HCb := Lib.hid (wBytes_good HSa.out x (by have h := HBIG.out; rw [HEa.out, List.length_append] at h; have := HI32.out; omega))
          go_wp2_with fail
          (with_reducible refine HCb.out.mono ?_)
          rintro e wb hto
          obtain ⟨rfl, vb, hsb, hbb, hxb⟩ := hto.use HBG.out HSa.out
          have HBb := Lib.hid (HBa.out.trans hbb)
          have HSb := Lib.hid hsb
          have HXb := Lib.hid hxb
          have HEb := Lib.hid (HEa.out.trans (List.append_assoc _ _ _).symm)
          clear hsb hbb hxb HCb hto
          clear c0 c1 c2 c3 c4 c5 c6 c7 c8
          obtain ⟨c0, c1, c2, c3, c4, c5, c6, c7, c8⟩ := HOBC.out _ (HG.out _ HBb.out)
          go_wp2_with fail
          exact ⟨⟨k + 1, vb, _, by first | rfl | go_num, by have := HLTE.out; omega, HSb.out, HEb.out, HBb.out⟩, by have := HLTE.out; simp [intOf]; omega⟩
        · have hkn : k = pars.length := by omega
          subst hkn
          have hkb : decide ((pars.length : Int) < (pars.length : Int)) = false := by simp
          have HEz := Lib.hid (show E = l ++ (encT who ++ (enc time.toNat ++ (encT note ++ []))) by rw [HEr.out, List.drop_length]; rfl)
          have HSz := Lib.hid HSr.out
          have HBz := Lib.hid HBr.out
          clear hlt hk HEr HSr
          have HC6 := Lib.hid (wText_enc HSz.out who HGO.out.who (by have h := HBIG.out; rw [HEz.out, List.length_append] at h; omega))
          go_wp2_with fail
          (with_reducible refine HC6.out.mono ?_)
          rintro e w6 hto
          obtain ⟨rfl, v6, hs6, hb6, hx6⟩ := hto.use HBG.out HSz.out
          have HB6 := Lib.hid (HBz.out.trans hb6)
          have HS6 := Lib.hid hs6
          have HX6 := Lib.hid hx6
          have HE6 := Lib.hid (HEz.out.trans (List.append_assoc _ _ _).symm)
          clear hs6 hb6 hx6 HC6 hto
          clear c0 c1 c2 c3 c4 c5 c6 c7 c8
          obtain ⟨c0, c1, c2, c3, c4, c5, c6, c7, c8⟩ := HOBC.out _ (HG.out _ HB6.out)
          have HC7 := Lib.hid (wNumber_good HS6.out (time) (by omega) (by omega) (by have h := HBIG.out; rw [HE6.out, List.length_append] at h; omega))
          go_wp2_with fail
          (with_reducible refine HC7.out.mono ?_)
          rintro e w7 hto
          obtain ⟨rfl, v7, hs7, hb7, hx7⟩ := hto.use HBG.out HS6.out
          have HB7 := Lib.hid (HB6.out.trans hb7)
          have HS7 := Lib.hid hs7
          have HX7 := Lib.hid hx7
          have HE7 := Lib.hid (HE6.out.trans (List.append_assoc _ _ _).symm)
          clear hs7 hb7 hx7 HC7 hto
          clear c0 c1 c2 c3 c4 c5 c6 c7 c8
          obtain ⟨c0, c1, c2, c3, c4, c5, c6, c7, c8⟩ := HOBC.out _ (HG.out _ HB7.out)
          have HC8 := Lib.hid (wText_enc HS7.out note HGO.out.note (by have h := HBIG.out; rw [HE7.out, List.length_append] at h; omega))
          go_wp2_with fail
          (with_reducible refine HC8.out.mono ?_)
          rintro e w8 hto
          obtain ⟨rfl, v8, hs8, hb8, hx8⟩ := hto.use HBG.out HS7.out
          have HB8 := Lib.hid (HB7.out.trans hb8)
          have HS8 := Lib.hid hs8
          have HX8 := Lib.hid hx8
          have HE8 := Lib.hid (HE7.out.trans (List.append_assoc _ _ _).symm)
          clear hs8 hb8 hx8 HC8 hto
          clear c0 c1 c2 c3 c4 c5 c6 c7 c8
          obtain ⟨c0, c1, c2, c3, c4, c5, c6, c7, c8⟩ := HOBC.out _ (HG.out _ HB8.out)
          have HEE := Lib.hid (HE8.out.trans (List.append_nil _))
          have hfin := HS8.out
          rw [← HEE.out] at hfin
          have HDN := Lib.hid (wDone_any (st := (E, 0)) hfin)
          rw [show doneV (E, (0 : Int)) = .tuple #[.string ⟨E.toArray⟩, .int .i64 0] from rfl] at HDN
          have hsz : (⟨E.toArray⟩ : ByteArray).size = E.length := by rw [← toList_length]
          obtain ⟨z, hz⟩ : ∃ z : ByteArray, z = ⟨E.toArray⟩ := ⟨_, rfl⟩
          rw [← hz] at HDN hsz
          have HZ := Lib.hid hz
          clear hfin hz
          go_wp2_with fail
          (with_reducible refine HDN.out.mono ?_)
          rintro e wd ⟨rfl, q, rfl⟩
          have HBD := Lib.hid (HW0.out.trans ((below_drewN HB8.out q).mono HW0.out.size))
          by_cases hbig : 8192 < E.length
          · have f1 : decide ((8192 : Int) < (z.size : Int)) = true := decide_eq_true (by omega)
            have f2 : decide (8192 < z.size) = true := decide_eq_true (by omega)
            have hF := HF.out.trans (encodeF_2 HG0.out (by rw [← HED.out]; exact hbig))
            subst hF
            clear hbig hsz
            go_wp2_with fail
            go_ret2
            exact ⟨rfl, HBD.out⟩
          · have f1 : decide ((8192 : Int) < (z.size : Int)) = false := decide_eq_false (by omega)
            have f2 : decide (8192 < z.size) = false := decide_eq_false (by omega)
            have hF := HF.out.trans (encodeF_3 HG0.out (by rw [← HED.out]; exact hbig))
            subst hF
            clear hbig hsz
            go_wp2_with fail
            go_ret2
            exact ⟨by rw [HZ.out, HED.out]; rfl, HBD.out⟩
    · have hkk := hk
      have f1 : (kind == 1) = false := by rw [hk]; rfl
      have f2 : (kind == 2) = false := by rw [hk]; rfl
      have f3 : (kind == 3) = false := by rw [hk]; rfl
      have f4 : (kind == 4) = true := by rw [hk]; rfl
      have HK := Lib.hid hk
      clear hk hkk
      have HE2 := Lib.hid (show E = [] ++ (enc kind.toNat ++ (target.data.toList ++ (encT who ++ (encT note ++ [])))) by rw [HED.out, encO, bodyO, if_neg (by intro h; have := HK.out; simp only at h; omega), if_neg (by intro h; have := HK.out; simp only at h; omega), if_neg (by intro h; have := HK.out; simp only at h; omega), if_pos (by exact HK.out)]; simp)
      have HC3 := Lib.hid (wNumber_good HS2.out (kind) (by omega) (by omega) (by have h := HBIG.out; rw [HE2.out, List.length_append] at h; omega))
      go_wp2_with fail
      (with_reducible refine HC3.out.mono ?_)
      rintro e w3 hto
      obtain ⟨rfl, v3, hs3, hb3, hx3⟩ := hto.use HBG.out HS2.out
      have HB3 := Lib.hid (HB2.out.trans hb3)
      have HS3 := Lib.hid hs3
      have HX3 := Lib.hid hx3
      have HE3 := Lib.hid (HE2.out.trans (List.append_assoc _ _ _).symm)
      clear hs3 hb3 hx3 HC3 hto
      clear c0 c1 c2 c3 c4 c5 c6 c7 c8
      obtain ⟨c0, c1, c2, c3, c4, c5, c6, c7, c8⟩ := HOBC.out _ (HG.out _ HB3.out)
      have HC4 := Lib.hid (wBytes_good HS3.out target (by have h := HBIG.out; rw [HE3.out, List.length_append] at h; have := (show target.size = 32 from HGO.out.target HK.out); omega))
      go_wp2_with fail
      (with_reducible refine HC4.out.mono ?_)
      rintro e w4 hto
      obtain ⟨rfl, v4, hs4, hb4, hx4⟩ := hto.use HBG.out HS3.out
      have HB4 := Lib.hid (HB3.out.trans hb4)
      have HS4 := Lib.hid hs4
      have HX4 := Lib.hid hx4
      have HE4 := Lib.hid (HE3.out.trans (List.append_assoc _ _ _).symm)
      clear hs4 hb4 hx4 HC4 hto
      clear c0 c1 c2 c3 c4 c5 c6 c7 c8
      obtain ⟨c0, c1, c2, c3, c4, c5, c6, c7, c8⟩ := HOBC.out _ (HG.out _ HB4.out)
      have HC5 := Lib.hid (wText_enc HS4.out who HGO.out.who (by have h := HBIG.out; rw [HE4.out, List.length_append] at h; omega))
      go_wp2_with fail
      (with_reducible refine HC5.out.mono ?_)
      rintro e w5 hto
      obtain ⟨rfl, v5, hs5, hb5, hx5⟩ := hto.use HBG.out HS4.out
      have HB5 := Lib.hid (HB4.out.trans hb5)
      have HS5 := Lib.hid hs5
      have HX5 := Lib.hid hx5
      have HE5 := Lib.hid (HE4.out.trans (List.append_assoc _ _ _).symm)
      clear hs5 hb5 hx5 HC5 hto
      clear c0 c1 c2 c3 c4 c5 c6 c7 c8
      obtain ⟨c0, c1, c2, c3, c4, c5, c6, c7, c8⟩ := HOBC.out _ (HG.out _ HB5.out)
      have HC6 := Lib.hid (wText_enc HS5.out note HGO.out.note (by have h := HBIG.out; rw [HE5.out, List.length_append] at h; omega))
      go_wp2_with fail
      (with_reducible refine HC6.out.mono ?_)
      rintro e w6 hto
      obtain ⟨rfl, v6, hs6, hb6, hx6⟩ := hto.use HBG.out HS5.out
      have HB6 := Lib.hid (HB5.out.trans hb6)
      have HS6 := Lib.hid hs6
      have HX6 := Lib.hid hx6
      have HE6 := Lib.hid (HE5.out.trans (List.append_assoc _ _ _).symm)
      clear hs6 hb6 hx6 HC6 hto
      clear c0 c1 c2 c3 c4 c5 c6 c7 c8
      obtain ⟨c0, c1, c2, c3, c4, c5, c6, c7, c8⟩ := HOBC.out _ (HG.out _ HB6.out)
      have HEE := Lib.hid (HE6.out.trans (List.append_nil _))
      have hfin := HS6.out
      rw [← HEE.out] at hfin
      have HDN := Lib.hid (wDone_any (st := (E, 0)) hfin)
      rw [show doneV (E, (0 : Int)) = .tuple #[.string ⟨E.toArray⟩, .int .i64 0] from rfl] at HDN
      have hsz : (⟨E.toArray⟩ : ByteArray).size = E.length := by rw [← toList_length]
      obtain ⟨z, hz⟩ : ∃ z : ByteArray, z = ⟨E.toArray⟩ := ⟨_, rfl⟩
      rw [← hz] at HDN hsz
      have HZ := Lib.hid hz
      clear hfin hz
      go_wp2_with fail
      (with_reducible refine HDN.out.mono ?_)
      rintro e wd ⟨rfl, q, rfl⟩
      have HBD := Lib.hid (HW0.out.trans ((below_drewN HB6.out q).mono HW0.out.size))
      by_cases hbig : 8192 < E.length
      · have f1 : decide ((8192 : Int) < (z.size : Int)) = true := decide_eq_true (by omega)
        have f2 : decide (8192 < z.size) = true := decide_eq_true (by omega)
        have hF := HF.out.trans (encodeF_2 HG0.out (by rw [← HED.out]; exact hbig))
        subst hF
        clear hbig hsz
        go_wp2_with fail
        go_ret2
        exact ⟨rfl, HBD.out⟩
      · have f1 : decide ((8192 : Int) < (z.size : Int)) = false := decide_eq_false (by omega)
        have f2 : decide (8192 < z.size) = false := decide_eq_false (by omega)
        have hF := HF.out.trans (encodeF_3 HG0.out (by rw [← HED.out]; exact hbig))
        subst hF
        clear hbig hsz
        go_wp2_with fail
        go_ret2
        exact ⟨by rw [HZ.out, HED.out]; rfl, HBD.out⟩
  · have hF := HF.out.trans (encodeF_1 (by rw [← HGE.out]; exact hge))
    rw [← HGE.out] at hF
    have f1 : (e0 == 0) = false := beq_eq_false_iff_ne.2 hge
    have f2 : (e0 != 0) = true := by rw [bne, f1]; rfl
    subst hF
    clear hge
    go_wp2_with fail
    go_ret2
    exact ⟨rfl, HW0.out.trans (HB1.out.mono HW0.out.size)⟩
end Go.Proofs.Ytmjnohblifihmaa
