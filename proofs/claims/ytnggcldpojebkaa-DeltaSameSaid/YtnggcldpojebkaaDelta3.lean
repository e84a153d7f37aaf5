/- The walk of delta.Make. -/
import Derived.Test.YtnggcldpojebkaaDelta2
import Derived.Maps.OwnOps
namespace Go.Proofs.Ytnggcldpojebkaa
open Go.RowKit Go.Maps Go.WideMaps
set_option linter.unusedVariables false
set_option linter.unusedSimpArgs false

theorem lawS : Keyed Try.prog 9 := string_keyed Try.underlying9
theorem zeroI (w : World) : (zeroValue 3).run Try.prog w = .ok (.int .i64 0) w := by kernel_rfl
theorem keyB_of (b : ByteArray) (h : b.size ≤ maxLen) : keyOf Try.prog 9 (.string b) = some (keyB b) := keyOf_string_mk Try.underlying9 h
theorem win_size (b : ByteArray) (i : Nat) : (b.extract i (i + 8)).size ≤ maxLen := by rw [ByteArray.size_extract]; unfold maxLen; omega

set_option maxRecDepth 100000 in
set_option maxHeartbeats 3200000 in
theorem make_good (base T : ByteArray) (w : World) (hb : base.size ≤ 8192) (hT : T.size ≤ 8192) :
    Calls Try.prog 9 #[.string base, .string T] w fun e w' => e = .returned (.tuple #[.string (makeD base T), .int .i64 0]) ∧ Below w.heap.size w w' := by
  have hb1 : ¬ (8192 : Int) < (base.size : Int) := by omega
  have hT1 : ¬ (8192 : Int) < (T.size : Int) := by omega
  have hmm := @run_makeMap Try.prog
  go_enter Try.func9, Try.ntmps9
  go_wp2_with fail
  go_loopw [7] (fun i wr => ∃ (j : Nat) (D : DataW Unit) (x : Int), i = .int .i64 x ∧ j ≤ base.size - 7 ∧ Rep D base j ∧ (x = (j : Int) - 1 ∨ (j = 0 ∧ -9 ≤ x ∧ x < 0)) ∧ wr.ownsMap Try.prog 9 (plainElem Try.prog 3) (w.heap.size + 1) (base.size - 7 - j) D ∧ Below (w.heap.size + 1) (w.alloc (.cells #[.string T] 9)) wr) (fun i _ => (intOf i + 1).toNat)
  case atStart =>
    refine ⟨base.size - 7, .map [], _, rfl, Nat.le_refl _, rep_start base, by omega, ?_, ?_⟩
    · rw [Nat.sub_self]; have := World.ownsMap_made (H := Unit) (w.alloc (.cells #[.string T] 9)) Try.prog 9 (plainElem Try.prog 3); simpa using this
    · have := (Below.refl (w.heap.size + 1) (w.alloc (.cells #[.string T] 9))).alloc (by simp) (.map #[] 0); simpa using this
  case round =>
    obtain ⟨j, D, x, rfl, hj, hrep, hx, hown, hB⟩ := hrel
    have HREP := Lib.hid hrep
    have HOWN := Lib.hid hown
    have HB := Lib.hid hB
    clear hrep hown hB
    by_cases hx0 : 0 ≤ x
    · obtain ⟨k, rfl⟩ : ∃ k, j = k + 1 := ⟨j - 1, by omega⟩
      obtain rfl : x = (k : Int) := by omega
      have hk8 : (k : Int) + 8 ≤ (base.size : Int) := by omega
      have hkey := keyB_of (base.extract k (k + 8)) (win_size base k)
      have HJ := Lib.hid hj
      clear hx hj
      go_wp2_with (first
        | (at_mapUpdate; refine wpList_mapUpdate_own _ rfl _ _ _ 43 rfl 9 3 lawS Try.underlying43 _ (w.heap.size + 1) (base.size - 7 - (k + 1)) _ rfl HOWN.out (by unfold maxLen; omega) _ _ _ rfl rfl hkey _ [] (plainElem_int Try.underlying3 (WalkArith.wf_i64 (by omega))) ?_; intro w1 hown1 hgrow1))
      refine ⟨⟨k, _, _, rfl, by have := HJ.out; omega, rep_step HREP.out (by omega), .inl rfl, hown1.mono (by have := HJ.out; omega), HB.out.grown hgrow1 (by have := HB.out.size; simp at this; omega) (fun i hi => by cases hi; exact Nat.le_refl _)⟩, by first | (simp [intOf]; done) | (simp [intOf]; omega)⟩
    · obtain rfl : j = 0 := by omega
      have hx1 : x < 0 := by omega
      clear hx0 hx hj
      have hwr : w.heap.size + 1 < wr.heap.size := HOWN.out.lt
      obtain ⟨X, hX⟩ : ∃ X, X = (wr.alloc (.cells #[.slice none 0 0, .int .i64 0] 47)).alloc (.cells #[.pointer (some ⟨wr.heap.size, 0, none⟩)] 44) := ⟨_, rfl⟩
      have hwx : Below wr.heap.size wr X := by rw [hX]; exact ((Below.refl _ wr).alloc (Nat.le_refl _) _).alloc (by simp) _
      have hxs : X.heap.size = wr.heap.size + 2 := by rw [hX]; simp
      have hg0 : X.heap[wr.heap.size]? = some (.cells #[.slice none 0 0, .int .i64 0] 47 (0, 0)) := by rw [hX, Below.heap_alloc _ _ _ (by simp)]; exact heap_alloc_new _ _
      have hgw0 : X.heap[wr.heap.size + 1]? = some (.cells #[.pointer (some ⟨wr.heap.size, 0, none⟩)] 44 (0, 0)) := by rw [hX]; have := heap_alloc_new (wr.alloc (.cells #[.slice none 0 0, .int .i64 0] 47)) (.cells #[.pointer (some ⟨wr.heap.size, 0, none⟩)] 44); simpa using this
      have hbx0 : (w.alloc (.cells #[.string T] 9)).heap[w.heap.size]? = some (.cells #[.string T] 9 (0, 0)) := heap_alloc_new _ _
      have hbx1 : X.heap[w.heap.size]? = some (.cells #[.string T] 9 (0, 0)) := by
        rw [hwx.block _ (by omega), HB.out.block _ (by omega)]; exact hbx0
      have hmp1 := ownsMap_blk HOWN.out (hwx.block _ hwr)
      have hw0 : WrSt X w.heap.size wr.heap.size (.slice none 0 0) [] 0 := ⟨hg0, World.ownsRow_nil _ _ _ _, by simp [Value.ownBlock], by omega⟩
      have hbel : Below w.heap.size w X := (((Below.refl _ w).alloc (Nat.le_refl _) _).trans (HB.out.mono (Nat.le_succ _))).trans (hwx.mono (by omega))
      have HN1 := Lib.hid (wNumber_good hw0 (base.size : Int) (by omega) (by omega) (by simp))
      rw [Int.toNat_natCast, List.nil_append] at HN1
      clear hw0 hwx hg0 hbx0
      go_wp2_with fail
      rw [← hX]
      (with_reducible refine HN1.out.mono ?_)
      rintro e w1 ⟨rfl, v1, hs1, hu1, hv1⟩
      have hS0 : ∀ k, k ≠ wr.heap.size → ¬ WrS wr.heap.size (.slice none 0 0) k := fun k hk e => e.elim hk (fun e => by cases e)
      have hgw1 := blk_upd hgw0 hu1 (hS0 _ (by omega))
      have hbx2 := blk_upd hbx1 hu1 (hS0 _ (by omega))
      have hmp2 := ownsMap_blk hmp1 (hu1.block _ (by omega) (hS0 _ (by omega)))
      have hbel1 : Below w.heap.size w w1 := hbel.trans (hu1.below (by omega) (fun k hk => by rcases hk with hk | hk; omega; cases hk))
      have HN2 := Lib.hid (wNumber_good hs1 (T.size : Int) (by omega) (by omega) (by have := enc2 hb; omega))
      rw [Int.toNat_natCast] at HN2
      have cw1 := cell_of_one hgw1
      have cb1 := cell_of_one hbx2
      clear hgw0 hbx1 hmp1 hbel hX HB HOWN hs1
      go_wp2_with fail
      (with_reducible refine HN2.out.mono ?_)
      rintro e w2 ⟨rfl, v2, hs2, hu2, hv2⟩
      have hne : ∀ k, k < wr.heap.size + 2 → k ≠ wr.heap.size → ¬ WrS wr.heap.size v1 k := fun k hk hk2 e => e.elim hk2 (fun e => by
        rcases hv1 with hv1 | ⟨k1, h1, h2⟩
        · rw [hv1] at e; cases e
        · rw [h1] at e; injection e with e; omega)
      have hgw2 := blk_upd hgw1 hu2 (hne _ (by omega) (by omega))
      have hbx3 := blk_upd hbx2 hu2 (hne _ (by omega) (by omega))
      have hmp3 := ownsMap_blk hmp2 (hu2.block _ (by have := hu1.size; omega) (hne _ (by omega) (by omega)))
      have hbel2 : Below w.heap.size w w2 := hbel1.trans (hu2.below (by have := hu1.size; omega) (fun k hk => by
        rcases hk with hk | hk
        · omega
        · rcases hv1 with hv1 | ⟨k1, h1, h2⟩
          · rw [hv1] at hk; cases hk
          · rw [h1] at hk; injection hk with hk; omega))
      have hsz2 : w.heap.size + 2 ≤ w2.heap.size := by have := hu1.size; have := hu2.size; omega
      have hst : MkSt (w2.alloc (.cells #[.int .i64 ((0 : Nat) : Int)] 3)) w.heap.size w.heap.size (w.heap.size + 1) wr.heap.size (wr.heap.size + 1) w2.heap.size (base.size - 7 - 0) D T 0 v2 (enc base.size ++ enc T.size) :=
        ⟨by rw [Below.heap_alloc _ _ _ (by omega)]; exact hbx3, by rw [Below.heap_alloc _ _ _ (lt_of_block hgw2)]; exact hgw2, heap_alloc_new _ _, hmp3.alloc _, hs2.below ((Below.refl _ w2).alloc (Nat.le_refl _) _), by omega⟩
      have hbel3 : Below w.heap.size w (w2.alloc (.cells #[.int .i64 ((0 : Nat) : Int)] 3)) := hbel2.alloc (by omega) _
      have HST := Lib.hid (And.intro hst hbel3)
      have HSZ := Lib.hid (And.intro hwr hsz2)
      have hmf : ∀ (fn : Fn) (first cap : Array Value) (w : World), (Instr.makeFunc fn first cap).run Try.prog w = .ok (.func fn first cap) w := fun _ _ _ _ => rfl
      clear hgw1 hbx2 hmp2 hbel1 hu1 hv1 hu2 hv2 hne hgw2 hbx3 hmp3 hbel2 hsz2 hst hbel3 hs2 hS0 cw1 cb1 HN1 HN2 hxs hmm hwr
      go_wp2_with fail
      have hlen0 := makeD_le hb hT
      rw [← toList_length] at hlen0
      have hfull : (makeD base T).data.toList = enc base.size ++ enc T.size ++ makeL base T 0 0 := by rw [makeD, toList_mk, List.append_assoc]
      have HD : Hid (makeD base T = ⟨(makeD base T).data.toList.toArray⟩) := Lib.hid (mk_toList _).symm
      obtain ⟨full, hfl⟩ : ∃ full, full = (makeD base T).data.toList := ⟨_, rfl⟩
      rw [← hfl] at hlen0 hfull HD
      have HFULL := Lib.hid hfull
      have HLEN := Lib.hid hlen0
      clear hfull hlen0 hfl
      generalize wr.heap.size = g at HST HSZ ⊢
      generalize w2.heap.size = gf at HST HSZ ⊢
      go_loopw [11] (fun i wl => ∃ (k fr : Nat) (v : Value) (l : List UInt8), i = .int .i64 (k : Int) ∧ fr ≤ k ∧ k ≤ T.size ∧ full = l ++ makeL base T k fr ∧ MkSt wl w.heap.size w.heap.size (w.heap.size + 1) g (g + 1) gf (base.size - 7 - 0) D T fr v l ∧ Below w.heap.size w wl) (fun i _ => T.size - (intOf i).toNat)
      case atStart => exact ⟨0, 0, v2, _, rfl, Nat.le_refl _, Nat.zero_le _, HFULL.out, HST.out.1, HST.out.2⟩
      case round =>
        clear HST HFULL
        obtain ⟨k, fr, v, l, rfl, hfk, hkT, hfu, hst, hB⟩ := hrel
        have hl : l.length ≤ 100000 := by have := HLEN.out; rw [hfu, List.length_append] at this; omega
        have HFU := Lib.hid hfu
        have HST := Lib.hid hst
        have HB := Lib.hid hB
        have cb := cell_of_one hst.box
        have cw := cell_of_one hst.pw
        clear hfu hst hB
        by_cases hlt : k + 8 ≤ T.size
        · have hlti : (k : Int) + 8 ≤ (T.size : Int) := by omega
          have hltb : decide ((k : Int) + 8 ≤ (T.size : Int)) = true := by simp; omega
          have hkey := keyB_of (T.extract k (k + 8)) (win_size T k)
          cases hf : findF base (T.extract k (k + 8)) with
          | none =>
            have hh : Maps.has D (keyB (T.extract k (k + 8))) = false := by rw [HREP.out.has]; show (findF base (T.extract k (k + 8))).isSome = false; rw [hf]; rfl
            have hm : matchF base T k = none := by unfold matchF; rw [hf]
            have HFU2 := Lib.hid (HFU.out.trans (by rw [makeL_none hlt hm]))
            clear hf hm hlt
            go_wp2_with (first | (at_lookup; refine wpList_lookup_own_ok_int _ rfl _ _ 43 rfl 9 3 .i64 lawS Try.underlying43 Try.underlying3 (zeroI _) (w.heap.size + 1) _ D rfl HST.out.map _ _ rfl hkey ?_; intro c hat hwc))
            exact ⟨⟨k + 1, fr, v, l, rfl, by omega, by omega, HFU2.out, HST.out, HB.out⟩, by simp [intOf]; omega⟩
          | some kk =>
            have hk8 := findF_some hf
            have hh : Maps.has D (keyB (T.extract k (k + 8))) = true := by rw [HREP.out.has]; show (findF base (T.extract k (k + 8))).isSome = true; rw [hf]; rfl
            have HAT := Lib.hid (HREP.out.at_ (T.extract k (k + 8)) kk hf)
            have hS18 : wr.drew.cell? ⟨w.heap.size, 0, none⟩ = some (.string T) := cb
            have hkki : (kk : Int) ≤ (base.size : Int) := by omega
            have hkki0 : (0 : Int) ≤ (kk : Int) := by omega
            have hki : (k : Int) ≤ (T.size : Int) := by omega
            have hki0 : (0 : Int) ≤ (k : Int) := by omega
            obtain ⟨n, hn⟩ : ∃ n, n = sameL (base.data.toList.drop kk) (T.data.toList.drop k) := ⟨_, rfl⟩
            have HSM := Lib.hid (sameD_any (base.extract kk base.size) (T.extract k T.size) wr.drew (by rw [ByteArray.size_extract]; omega) (by rw [ByteArray.size_extract]; omega))
            rw [toList_drop, toList_drop, ← hn] at HSM
            have hm : matchF base T k = if n < 12 then none else some (kk, n) := by unfold matchF; rw [hf, hn]
            have HM := Lib.hid hm
            have HLT := Lib.hid hlt
            clear hf hm hlt hn
            go_wp2_with (first | (at_lookup; refine wpList_lookup_own_ok_int _ rfl _ _ 43 rfl 9 3 .i64 lawS Try.underlying43 Try.underlying3 (zeroI _) (w.heap.size + 1) _ D rfl HST.out.map _ _ rfl hkey ?_; intro c hat hwc; obtain rfl : c = (kk : Int) := (Lit.int.inj (DataW.lit.inj ((HAT.out (.lit (.int .i64 0))).symm.trans hat))).2.symm; clear hat hwc))
            refine Lone.wp_region_order [(0, false), (1, false), (2, false), (3, false), (4, false), (5, false), (6, true), (7, false)] (fun w' => w'.cell? ⟨w.heap.size, 0, none⟩ = some (.string T)) (by kernel_rfl) (by kernel_rfl) rfl (by kernel_rfl) (by intro _ _ d _ _ h; cases d <;> exact h) (hS18) ?_; simp only [List.map_cons, List.map_nil, List.getElem?_toArray, List.getElem?_cons_zero, List.getElem?_cons_succ, Option.getD_some]
            repeat (first | (refine Lone.ro_q (by rfl) (v := ?_) ?_ ?_; rotate_left; (focus (intro w' hSw; (try dsimp only at hSw); go_simp; try with_reducible rfl)); simp only [Act.put, List.setIfInBounds_toArray, List.set_cons_zero, List.set_cons_succ]) | (refine Lone.ro_skip (by rfl) ?_; simp only [Act.put, List.setIfInBounds_toArray, List.set_cons_zero, List.set_cons_succ]))
            (refine Lone.ro_loud (by rfl) (fun K hK => ?_); go_simp)
            (with_reducible refine HSM.out.mono ?_)
            rintro e w3 ⟨rfl, hb3⟩
            have HST3 := Lib.hid (HST.out.drew.below hb3)
            have HB3 := Lib.hid (HB.out.drew.trans (hb3.mono HB.out.drew.size))
            have cb3 := cell_of_one HST3.out.box
            have cw3 := cell_of_one HST3.out.pw
            clear hb3 hS18 cb cw
            (refine hK.out _ _ (fun w' => w'.cell? ⟨w.heap.size, 0, none⟩ = some (.string T)) (.inl fun _ h => h) (cb3) ?_; clear hK K; try simp only [Act.put, List.setIfInBounds_toArray, List.set_cons_zero, List.set_cons_succ])
            repeat (first | (refine Lone.ro_q (by rfl) (v := ?_) ?_ ?_; rotate_left; (focus (intro w' hSw; (try dsimp only at hSw); go_simp; try with_reducible rfl)); simp only [Act.put, List.setIfInBounds_toArray, List.set_cons_zero, List.set_cons_succ]) | (refine Lone.ro_skip (by rfl) ?_; simp only [Act.put, List.setIfInBounds_toArray, List.set_cons_zero, List.set_cons_succ]))
            refine Lone.ro_nil ?_
            by_cases h12 : n < 12
            · have hni : (n : Int) < 12 := by omega
              have hnb : decide ((n : Int) < 12) = true := by simp; omega
              have hm := HM.out
              rw [if_pos h12] at hm
              have HFU2 := Lib.hid (HFU.out.trans (by rw [makeL_none HLT.out hm]))
              clear hm h12
              go_wp2_with fail
              exact ⟨⟨k + 1, fr, v, l, rfl, by omega, by omega, HFU2.out, HST3.out, HB3.out⟩, by simp [intOf]; omega⟩
            · have hni : ¬ (n : Int) < 12 := by omega
              have hnb : decide ((n : Int) < 12) = false := by simp; omega
              have hm := HM.out
              rw [if_neg h12] at hm
              obtain ⟨_, hnT, hnb2, _⟩ := matchF_some hm
              have HFU2 := Lib.hid (HFU.out.trans (by rw [makeL_some HLT.out hm]))
              have HINS := Lib.hid (insert_any HST3.out k hkT hT hl)
              clear hm h12
              go_wp2_with fail
              (with_reducible refine HINS.out.mono ?_)
              rintro e w4 hto
              obtain ⟨v4, hm4, hb4⟩ := HST3.out.wrote hto
              have HB4 := Lib.hid (HB3.out.trans hb4)
              have cw4 := cell_of_one hm4.pw
              have hl4 : (l ++ insB T fr k).length ≤ 100000 := by have := HLEN.out; rw [HFU2.out] at this; simp only [List.length_append] at this ⊢; omega
              have HN4 := Lib.hid (wNumber_good hm4.wr (2 * (n : Int) + 1) (by omega) (by omega) (by omega))
              rw [show (2 * (n : Int) + 1).toNat = 2 * n + 1 by omega] at HN4
              have HM4 := Lib.hid hm4
              obtain ⟨rfl, _⟩ := hto
              clear hm4 hb4 cb3 cw3
              go_wp2_with fail
              (with_reducible refine HN4.out.mono ?_)
              rintro e w5 hto
              obtain ⟨v5, hm5, hb5⟩ := HM4.out.wrote hto
              have HB5 := Lib.hid (HB4.out.trans hb5)
              have cw5 := cell_of_one hm5.pw
              have HN5 := Lib.hid (wNumber_good hm5.wr (kk : Int) (by omega) (by omega) (by rw [List.length_append]; have := enc3 (n := 2 * n + 1) (by omega); omega))
              rw [Int.toNat_natCast] at HN5
              have HM5 := Lib.hid hm5
              obtain ⟨rfl, _⟩ := hto
              clear hm5 hb5 cw4 hl4
              go_wp2_with fail
              (with_reducible refine HN5.out.mono ?_)
              rintro e w6 hto
              obtain ⟨v6, hm6, hb6⟩ := HM5.out.wrote hto
              have HB6 := Lib.hid (HB5.out.trans hb6)
              have cf6 := cell_of_one hm6.fr
              have ff6 := free_of_one hm6.fr
              obtain ⟨hm7, hb7⟩ := hm6.from_ (k + n)
              have HM7 := Lib.hid hm7
              have HB7 := Lib.hid (HB6.out.trans hb7)
              obtain ⟨rfl, _⟩ := hto
              clear hm6 hm7 hb6 hb7 cw5
              go_wp2_with fail
              rw [show (k : Int) + (n : Int) = ((k + n : Nat) : Int) by omega]
              exact ⟨⟨k + n, k + n, v6, _, rfl, Nat.le_refl _, by omega, by rw [HFU2.out]; simp only [List.append_assoc], HM7.out, HB7.out⟩, by simp [intOf]; omega⟩
        · have hex := makeL_end (base := base) (fr := fr) hlt
          have hlti : ¬ (k : Int) + 8 ≤ (T.size : Int) := by omega
          have hltb : decide ((k : Int) + 8 ≤ (T.size : Int)) = false := by simp; omega
          have hltn : decide (k + 8 ≤ T.size) = false := by simp; omega
          have HINS := Lib.hid (insert_any HST.out T.size (Nat.le_refl _) hT hl)
          rw [← hex, ← HFU.out] at HINS
          clear hlt hex
          go_wp2_with fail
          (with_reducible refine HINS.out.mono ?_)
          rintro e w5 hto
          obtain ⟨v5, hm5, hb5⟩ := HST.out.wrote hto
          have HB5 := Lib.hid (HB.out.trans hb5)
          have HDN := Lib.hid (wDone_any (st := (full, 0)) hm5.wr)
          rw [show doneV (full, (0 : Int)) = .tuple #[.string ⟨full.toArray⟩, .int .i64 0] from rfl] at HDN
          have cw5 := cell_of_one hm5.pw
          obtain ⟨rfl, _⟩ := hto
          clear hb5 cb cw
          go_wp2_with fail
          (with_reducible refine HDN.out.mono ?_)
          rintro e w6 ⟨rfl, q, rfl⟩
          go_wp2_with fail
          go_ret2
          exact ⟨by rw [HD.out]; rfl, below_drewN HB5.out q⟩
set_option maxRecDepth 100000 in
set_option maxHeartbeats 3200000 in
theorem make_any (base T : ByteArray) (w : World) (hb : base.size ≤ 9223372036854775807) (hT : T.size ≤ 9223372036854775807) :
    Calls Try.prog 9 #[.string base, .string T] w fun e w' => e = .returned (.tuple #[.string (makeF base T).1, .int .i64 (makeF base T).2]) ∧ Below w.heap.size w w' := by
  by_cases h1 : base.size ≤ 8192
  · by_cases h2 : T.size ≤ 8192
    · have e : makeF base T = (makeD base T, 0) := by unfold makeF; rw [if_pos ⟨h1, h2⟩]
      rw [e]; exact make_good base T w h1 h2
    · have e : makeF base T = (⟨#[]⟩, 1) := by unfold makeF; rw [if_neg (by omega)]
      rw [e]
      have hb1 : ¬ (8192 : Int) < (base.size : Int) := by omega
      have hT1 : (8192 : Int) < (T.size : Int) := by omega
      have hb2 : decide ((8192 : Int) < (base.size : Int)) = false := by simp; omega
      have hT2 : decide ((8192 : Int) < (T.size : Int)) = true := by simp; omega
      clear h1 h2 e
      go_enter Try.func9, Try.ntmps9
      go_wp2_with fail
      go_ret2
      exact ⟨rfl, (Below.refl _ _).alloc (Nat.le_refl _) _⟩
  · have e : makeF base T = (⟨#[]⟩, 1) := by unfold makeF; rw [if_neg (by omega)]
    rw [e]
    have hb1 : (8192 : Int) < (base.size : Int) := by omega
    have hb2 : decide ((8192 : Int) < (base.size : Int)) = true := by simp; omega
    clear h1 e
    go_enter Try.func9, Try.ntmps9
    go_wp2_with fail
    go_ret2
    exact ⟨rfl, (Below.refl _ _).alloc (Nat.le_refl _) _⟩
end Go.Proofs.Ytnggcldpojebkaa
