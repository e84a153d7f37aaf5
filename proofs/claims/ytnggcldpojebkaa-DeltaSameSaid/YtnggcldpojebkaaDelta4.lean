/- The walk of delta.Apply. -/
import Derived.Test.YtnggcldpojebkaaDelta2
import Derived.Test.YtnggcldpojebkaaWireReader
namespace Go.Proofs.Ytnggcldpojebkaa
open Go.RowKit
set_option linter.unusedVariables false
set_option linter.unusedSimpArgs false

/-- How much a reader has left. -/
def restOf (w : World) (g : Nat) : Nat := match w.cell? ⟨g, 0, none⟩ with
  | some (.string s) => s.size
  | _ => 0
theorem restOf_st {w : World} {g : Nat} {st : ByteArray × Int} (h : RdSt w g st) : restOf w g = st.1.size := by
  unfold restOf; rw [(cell_of_two h.blk).1]
theorem rdst_own {w w' : World} {B g : Nat} {v : Value} {l : List UInt8} (h : w.ownsRow B 5 1 v l.length (bvs l)) (hg : v.ownBlock ≠ some g) (hu : Upd (fun k => k = g) w w') : w'.ownsRow B 5 1 v l.length (bvs l) :=
  owns_upd h hu (fun k hk e => hg (e ▸ hk))
theorem stepF_even {base : ByteArray} {will : Nat} {st : ByteArray} {l : List UInt8} {op : Nat} {s1 s2 : ByteArray × Int} {x : ByteArray} (hq : rNum (st, 0) = (op, s1)) (hp : rByt s1 ((op / 2 : Nat) : Int) = (x, s2)) (h : op % 2 = 0) :
    stepF base will st l = endS will (op / 2) s2 (l ++ x.data.toList) := by
  unfold stepF; rw [hq]; simp only; rw [if_pos h, hp]
theorem stepF_range {base : ByteArray} {will : Nat} {st : ByteArray} {l : List UInt8} {op k : Nat} {s1 s2 : ByteArray × Int} (hq : rNum (st, 0) = (op, s1)) (hp : rNum s1 = (k, s2)) (h : ¬ op % 2 = 0) (h2 : s2.2 = 0 ∧ (base.size < k ∨ base.size - k < op / 2)) :
    stepF base will st l = .inl (⟨#[]⟩, 3) := by
  unfold stepF; rw [hq]; simp only; rw [if_neg h, hp]; simp only; rw [if_pos h2]
theorem stepF_odd {base : ByteArray} {will : Nat} {st : ByteArray} {l : List UInt8} {op k : Nat} {s1 s2 : ByteArray × Int} (hq : rNum (st, 0) = (op, s1)) (hp : rNum s1 = (k, s2)) (h : ¬ op % 2 = 0) (h2 : ¬ (s2.2 = 0 ∧ (base.size < k ∨ base.size - k < op / 2))) :
    stepF base will st l = endS will (op / 2) s2 (if s2.2 = 0 ∧ op / 2 ≤ will then l ++ cutL base k (k + op / 2) else l) := by
  unfold stepF; rw [hq]; simp only; rw [if_neg h, hp]; simp only; rw [if_neg h2]
theorem rNum_62 (x : ByteArray × Int) : (rNum x).1 < 4611686018427387904 := by
  unfold rNum
  split
  · show 0 < 4611686018427387904; omega
  · cases hg : get x.1.data.toList with
    | none => show 0 < 4611686018427387904; omega
    | some p => exact (get_some hg).1
theorem rByt_out (x : ByteArray × Int) (n : Int) : (rByt x n).1.size ≤ x.1.size := by
  unfold rByt
  split
  · exact Nat.zero_le _
  · split
    · exact Nat.zero_le _
    · simp only [ByteArray.size_extract]; omega
theorem ne_blk {v v' : Value} {g N : Nat} (h : v.ownBlock ≠ some g) (hb : v'.ownBlock = v.ownBlock ∨ v'.ownBlock = some N) (hg : g < N) : v'.ownBlock ≠ some g := by
  rcases hb with hb | hb
  · rw [hb]; exact h
  · rw [hb]; intro e; injection e with e; omega
theorem endS_bad {will n : Nat} {st : ByteArray × Int} {l : List UInt8} (h : ¬ (st.2 = 0 ∧ n ≠ 0 ∧ n ≤ will ∧ l.length ≤ will)) : endS will n st l = .inl (⟨#[]⟩, 2) := by
  unfold endS
  rw [if_pos]
  apply Classical.byContradiction
  intro hc
  simp only [not_or, ne_eq, Decidable.not_not] at hc
  exact h ⟨hc.1, hc.2.1, by omega, by omega⟩
theorem tdiv2 (n : Nat) : ((n : Int)).tdiv 2 = ((n / 2 : Nat) : Int) := by rw [Int.tdiv_eq_ediv_of_nonneg (by omega)]; omega
theorem tmod2 (n : Nat) : ((n : Int)).tmod 2 = ((n % 2 : Nat) : Int) := by rw [Int.tmod_eq_emod_of_nonneg (by omega)]; omega

set_option maxRecDepth 100000 in
set_option maxHeartbeats 3200000 in
theorem apply_any (base d : ByteArray) (w : World) (hb : base.size ≤ 140737488355328) (hd : d.size ≤ 70368744177664) :
    Calls Try.prog 11 #[.string base, .string d] w fun e w' => e = .returned (.tuple #[.string (applyF base d).1, .int .i64 (applyF base d).2]) ∧ Below w.heap.size w w' := by
  obtain ⟨F, hF⟩ : ∃ F, F = applyF base d := ⟨_, rfl⟩
  rw [← hF]
  have HF := Lib.hid hF
  have HDS := Lib.hid hd
  clear hF
  go_enter Try.func11, Try.ntmps11
  go_wp2_with fail
  (with_reducible refine (read_any d w).mono ?_)
  rintro e w1 ⟨rfl, hr1, hb1, hz1⟩
  have HB1 := Lib.hid hb1
  have HN1 := Lib.hid (rNumber_any hr1 (by simp only; unfold maxLen; omega))
  have hle1 := rNum_le (d, 0)
  obtain ⟨q1, hq1⟩ : ∃ q, q = rNum (d, 0) := ⟨_, rfl⟩
  rw [← hq1] at HN1 hle1
  have HQ1 := Lib.hid hq1
  obtain ⟨was, s1⟩ := q1
  generalize hg : w.heap.size = g at *
  clear hr1 hb1 hq1
  go_wp2_with fail
  (with_reducible refine HN1.out.mono ?_)
  rintro e w2 ⟨rfl, hr2, hu2⟩
  have HB2 := Lib.hid (HB1.out.trans (hu2.below (by omega) (fun k hk => by omega)))
  have HN2 := Lib.hid (rNumber_any hr2 (by have h : s1.1.size ≤ d.size := hle1; unfold maxLen; omega))
  have hle2 := rNum_le s1
  obtain ⟨q2, hq2⟩ : ∃ q, q = rNum s1 := ⟨_, rfl⟩
  rw [← hq2] at hle2
  rw [← hq2] at HN2
  have HQ2 := Lib.hid hq2
  obtain ⟨will, s2⟩ := q2
  clear hr2 hu2 hq2
  go_wp2_with fail
  (with_reducible refine HN2.out.mono ?_)
  rintro e w3 ⟨rfl, hr3, hu3⟩
  have HB3 := Lib.hid (HB2.out.trans (hu3.below (by have := HB2.out.size; omega) (fun k hk => by omega)))
  have HR3 := Lib.hid hr3
  obtain ⟨r2, e2⟩ := s2
  clear hr3 hu3
  go_wp2_with fail
  (with_reducible refine (rBad_any HR3.out).mono ?_)
  rintro e w0 ⟨rfl, rfl⟩
  have hle : r2.size ≤ d.size := Nat.le_trans hle2 hle1
  clear hle1 hle2
  have hA : F = if e2 ≠ 0 then (⟨#[]⟩, 2) else if was ≠ base.size then (⟨#[]⟩, 11) else if 8192 < will then (⟨#[]⟩, 1) else applyL base will r2 [] := by
    rw [HF.out, applyF, ← HQ1.out]; simp only; rw [← HQ2.out]
  have HA := Lib.hid hA
  clear hA
  by_cases he2 : e2 = 0
  · subst he2
    by_cases hwas : was = base.size
    · have hw1 : ((was : Int) == (base.size : Int)) = true := by simp; omega
      have hw2 : ((was : Int) != (base.size : Int)) = false := by simp; omega
      by_cases hwill : will ≤ 8192
      · have hA := HA.out
        rw [if_neg (by simp), if_neg (by omega), if_neg (by omega)] at hA
        have hwi : ¬ (8192 : Int) < (will : Int) := by omega
        have hwb : decide ((8192 : Int) < (will : Int)) = false := by simp; omega
        have HA2 := Lib.hid hA
        clear hA HA hwas
        have HB3' := Lib.hid (show Below g w w3 from HB3.out)
        go_wp2_with fail
        go_loopw [9] (fun v wl => ∃ (st : ByteArray) (l : List UInt8), RdSt wl g (st, 0) ∧ wl.ownsRow g 5 1 v l.length (bvs l) ∧ v.ownBlock ≠ some g ∧ l.length ≤ will ∧ st.size ≤ d.size ∧ F = applyL base will st l ∧ Below g w wl) (fun _ wl => restOf wl g)
        case atStart => exact ⟨r2, [], HR3.out, World.ownsRow_nil _ _ _ _, by simp [Value.ownBlock], Nat.zero_le _, hle, HA2.out, HB3'.out⟩
        case round =>
          clear HR3 HA2 HB3' HB3 HB2 HB1 HN1 HN2
          rename_i v9
          obtain ⟨st, l, hr, ho, hne, hlw, hsd, hF, hB⟩ := hrel
          have HR := Lib.hid hr
          have HO := Lib.hid ho
          have HNE := Lib.hid hne
          have HFL := Lib.hid hF
          have HB := Lib.hid hB
          obtain ⟨ao, cp, rfl⟩ := owns_slice ho
          clear hr ho hne hF hB
          by_cases hpos : 0 < st.size
          · have hpi : (0 : Int) < (st.size : Int) := by omega
            have hpb : decide ((0 : Int) < (st.size : Int)) = true := by simp; omega
            go_wp2_with fail
            (with_reducible refine (rLeft_any HR.out).mono ?_)
            rintro e w0 ⟨rfl, rfl⟩
            have HN := Lib.hid (rNumber_any HR.out (by show st.size ≤ _; unfold maxLen; omega))
            have hlq := rNum_le (st, 0)
            have h62 := rNum_62 (st, 0)
            obtain ⟨q, hq⟩ : ∃ q, q = rNum (st, 0) := ⟨_, rfl⟩
            rw [← hq] at HN hlq h62
            obtain ⟨op, s1⟩ := q
            obtain ⟨n, hn⟩ : ∃ n, n = op / 2 := ⟨_, rfl⟩
            have hls : s1.1.size ≤ st.size := hlq
            have hwr : wrap64 ((op : Int) / 2) = (n : Int) := by rw [IntWalk.wrap64_in _ (by have h : op < 4611686018427387904 := h62; omega)]; omega
            have hn61 : n < 4611686018427387904 := Nat.lt_of_le_of_lt (by rw [hn]; exact Nat.div_le_self _ _) h62
            have HQ := Lib.hid hq.symm
            have hdv : ((op : Int)).tdiv 2 = (n : Int) := by rw [tdiv2, hn]
            have HNN := Lib.hid hn
            clear hlq hq h62 hn hdv
            go_wp2_with fail
            (with_reducible refine HN.out.mono ?_)
            rintro e w4 ⟨rfl, hr4, hu4⟩
            have HR4 := Lib.hid hr4
            have HO4 := Lib.hid (rdst_own HO.out HNE.out hu4)
            have HB4 := Lib.hid (HB.out.trans (hu4.below (by have := HB.out.size; omega) (fun k hk => by omega)))
            have hmd : ((op : Int)).tmod 2 = ((op % 2 : Nat) : Int) := tmod2 op
            clear hr4 hu4 HN
            by_cases hpar : op % 2 = 0
            · rw [hpar] at hmd
              have HBY := Lib.hid (rBytes_any HR4.out (by omega) (n : Int))
              have hlb := rByt_le s1 (n : Int)
              have hxo := rByt_out s1 (n : Int)
              obtain ⟨p, hp⟩ : ∃ p, p = rByt s1 (n : Int) := ⟨_, rfl⟩
              rw [← hp] at HBY hlb hxo
              obtain ⟨x, s2⟩ := p
              have hxs : x.size ≤ 70368744177664 := Nat.le_trans hxo (by omega)
              have hls2 : s2.1.size ≤ st.size := Nat.le_trans hlb hls
              have HSF := Lib.hid (stepF_even (base := base) (will := will) (l := l) (x := x) (s2 := s2) HQ.out (by rw [← HNN.out]; exact hp.symm) hpar)
              rw [← HNN.out] at HSF
              obtain ⟨L, hL⟩ : ∃ L, L = l ++ x.data.toList := ⟨_, rfl⟩
              rw [← hL] at HSF
              have HL := Lib.hid hL
              clear hlb hp hpar hL hxo
              go_wp2_with fail
              (with_reducible refine HBY.out.mono ?_)
              rintro e w5 ⟨rfl, hr5, hu5⟩
              have HR5 := Lib.hid hr5
              have HO5 := Lib.hid (rdst_own HO4.out HNE.out hu5)
              have HB5 := Lib.hid (HB4.out.trans (hu5.below (by have := HB4.out.size; omega) (fun k hk => by omega)))
              clear hr5 hu5 HBY
              obtain ⟨r6, e6⟩ := s2
              go_wp2_with (first | (at_builtin; refine wpList_append_str (S := fun k => (Value.slice ao l.length cp).ownBlock = some k) rfl _ _ 45 9 rfl info_u8 Try.underlying45 Try.underlying9 HO5.out (Upd.refl _ _) (by have := HB5.out.size; omega) (by omega) (fun k hk => .inl hk) rfl rfl ?_; intro v6 w6 hown6 hgrow6 hupd6 hblk6; rw [← HL.out] at hown6; obtain ⟨ao6, cp6, hv6⟩ := owns_slice hown6; subst hv6; have HO6 := Lib.hid hown6; have HR6 := Lib.hid (HR5.out.upd hupd6 (fun e => HNE.out e)); have HNE6 := Lib.hid (ne_blk HNE.out hblk6 (lt_of_block HR5.out.blk)); have HB6 := Lib.hid (HB5.out.trans (hupd6.below (by have := HB5.out.size; omega) (fun k hk => (owns_elem HO5.out hk).1))); clear hown6 hgrow6 hupd6 hblk6))
              go_wp2_with fail
              (with_reducible refine (rBad_any HR6.out).mono ?_)
              rintro e w0 ⟨rfl, rfl⟩
              by_cases hok : e6 = 0 ∧ n ≠ 0 ∧ n ≤ will ∧ L.length ≤ will
              · obtain ⟨he6, hn0, hnw, hlw6⟩ := hok
                subst he6
                have h1 : ((n : Int) == 0) = false := beq_eq_false_iff_ne.2 (by omega)
                have h2 : ¬ (will : Int) < (n : Int) := by omega
                have h2b : decide ((will : Int) < (n : Int)) = false := decide_eq_false h2
                have h2n : decide (will < n) = false := decide_eq_false (by omega)
                have h3 : ¬ (will : Int) < (L.length : Int) := by omega
                have h3b : decide ((will : Int) < (L.length : Int)) = false := decide_eq_false h3
                have h3n : decide (will < L.length) = false := decide_eq_false (by omega)
                have hs : stepF base will st l = .inr (r6, L) := by rw [HSF.out]; unfold endS; rw [if_neg]; simp only [not_or, ne_eq, Decidable.not_not]; exact ⟨trivial, hn0, by omega, by omega⟩
                have HF2 := Lib.hid (HFL.out.trans (applyL_step hpos hs))
                have HLT := Lib.hid (show r6.size < st.size from (stepF_inr hs).1)
                have HLW := Lib.hid hlw6
                clear hs hn0 hnw hlw6
                go_wp2_with fail
                exact ⟨⟨r6, L, HR6.out, HO6.out, HNE6.out, HLW.out, by have := HLT.out; omega, HF2.out, HB6.out⟩, by rw [restOf_st HR6.out, restOf_st HR.out]; exact HLT.out⟩
              · have hF2 : F = (⟨#[]⟩, 2) := HFL.out.trans (applyL_out hpos (by rw [HSF.out]; exact endS_bad hok))
                subst hF2
                by_cases he6 : e6 = 0
                · subst he6
                  by_cases hn0 : n = 0
                  · have h1 : ((n : Int) == 0) = true := by rw [hn0]; rfl
                    clear hok hn0
                    go_wp2_with fail
                    go_ret2
                    exact ⟨rfl, hg ▸ HB6.out⟩
                  · have h1 : ((n : Int) == 0) = false := beq_eq_false_iff_ne.2 (by omega)
                    by_cases hnw : n ≤ will
                    · have h2 : ¬ (will : Int) < (n : Int) := by omega
                      have h2b : decide ((will : Int) < (n : Int)) = false := decide_eq_false h2
                      have h2n : decide (will < n) = false := decide_eq_false (by omega)
                      have hlw6 : ¬ L.length ≤ will := fun h => hok ⟨rfl, hn0, hnw, h⟩
                      have h3 : (will : Int) < (L.length : Int) := by omega
                      have h3b : decide ((will : Int) < (L.length : Int)) = true := decide_eq_true h3
                      have h3n : decide (will < L.length) = true := decide_eq_true (by omega)
                      clear hok hn0 hnw hlw6
                      go_wp2_with fail
                      go_ret2
                      exact ⟨rfl, hg ▸ HB6.out⟩
                    · have h2 : (will : Int) < (n : Int) := by omega
                      have h2b : decide ((will : Int) < (n : Int)) = true := decide_eq_true h2
                      have h2n : decide (will < n) = true := decide_eq_true (by omega)
                      clear hok hn0 hnw
                      go_wp2_with fail
                      go_ret2
                      exact ⟨rfl, hg ▸ HB6.out⟩
                · have h1 : (e6 == 0) = false := beq_eq_false_iff_ne.2 he6
                  have h2 : (e6 != 0) = true := by rw [bne, h1]; rfl
                  clear hok he6
                  go_wp2_with fail
                  go_ret2
                  exact ⟨rfl, hg ▸ HB6.out⟩
            · rw [show op % 2 = 1 by omega] at hmd
              have HN5 := Lib.hid (rNumber_any HR4.out (by have : s1.1.size ≤ st.size := hls; unfold maxLen; omega))
              have hlb := rNum_le s1
              have h62 := rNum_62 s1
              obtain ⟨p, hp⟩ : ∃ p, p = rNum s1 := ⟨_, rfl⟩
              rw [← hp] at HN5 hlb h62
              obtain ⟨k, r6, e6⟩ := p
              have hk62 : k < 4611686018427387904 := h62
              have hls2 : r6.size ≤ st.size := Nat.le_trans hlb hls
              have HP := Lib.hid hp.symm
              have HPAR := Lib.hid hpar
              clear hlb hp hpar h62
              go_wp2_with fail
              (with_reducible refine HN5.out.mono ?_)
              rintro e w5 ⟨rfl, hr5, hu5⟩
              have HR5 := Lib.hid hr5
              have HO5 := Lib.hid (rdst_own HO4.out HNE.out hu5)
              have HB5 := Lib.hid (HB4.out.trans (hu5.below (by have := HB4.out.size; omega) (fun k hk => by omega)))
              clear hr5 hu5 HN5
              go_wp2_with fail
              (with_reducible refine (rBad_any HR5.out).mono ?_)
              rintro e w0 ⟨rfl, rfl⟩
              by_cases he6 : e6 = 0
              · subst he6
                by_cases hrg : base.size < k ∨ base.size - k < n
                · have hF2 : F = (⟨#[]⟩, 3) := HFL.out.trans (applyL_out hpos (stepF_range HQ.out HP.out HPAR.out ⟨rfl, by rw [← HNN.out]; exact hrg⟩))
                  subst hF2
                  by_cases hk : base.size < k
                  · have h1 : (base.size : Int) < (k : Int) := by omega
                    have h1b : decide ((base.size : Int) < (k : Int)) = true := decide_eq_true h1
                    have h1n : decide (base.size < k) = true := decide_eq_true hk
                    clear hk hrg
                    go_wp2_with fail
                    go_ret2
                    exact ⟨rfl, hg ▸ HB5.out⟩
                  · have h1 : ¬ (base.size : Int) < (k : Int) := by omega
                    have h1b : decide ((base.size : Int) < (k : Int)) = false := decide_eq_false h1
                    have h1n : decide (base.size < k) = false := decide_eq_false hk
                    have h2 : (base.size : Int) - (k : Int) < (n : Int) := by omega
                    have h2b : decide ((base.size : Int) - (k : Int) < (n : Int)) = true := decide_eq_true h2
                    clear hk hrg
                    go_wp2_with fail
                    go_ret2
                    exact ⟨rfl, hg ▸ HB5.out⟩
                · have hkb : k ≤ base.size := by omega
                  have hkn : k + n ≤ base.size := by omega
                  have h1 : ¬ (base.size : Int) < (k : Int) := by omega
                  have h1b : decide ((base.size : Int) < (k : Int)) = false := decide_eq_false h1
                  have h1n : decide (base.size < k) = false := decide_eq_false (by omega)
                  have h2 : ¬ (base.size : Int) - (k : Int) < (n : Int) := by omega
                  have h2b : decide ((base.size : Int) - (k : Int) < (n : Int)) = false := decide_eq_false h2
                  have hsf := stepF_odd (base := base) (will := will) (l := l) HQ.out HP.out HPAR.out (by rw [← HNN.out]; exact fun h => hrg h.2)
                  rw [← HNN.out] at hsf
                  clear hrg
                  by_cases hnw : n ≤ will
                  · rw [if_pos ⟨rfl, hnw⟩, ← cutL_extract] at hsf
                    obtain ⟨L, hL⟩ : ∃ L, L = l ++ (base.extract k (k + n)).data.toList := ⟨_, rfl⟩
                    rw [← hL] at hsf
                    have HL := Lib.hid hL
                    have HSF := Lib.hid hsf
                    have h3 : (n : Int) ≤ (will : Int) := by omega
                    have h3b : decide ((n : Int) ≤ (will : Int)) = true := decide_eq_true h3
                    have h3n : decide (n ≤ will) = true := decide_eq_true hnw
                    have hk0 : (0 : Int) ≤ (k : Int) := by omega
                    have hkn2 : (k : Int) + (n : Int) ≤ (base.size : Int) := by omega
                    have hsz : (base.extract k (k + n)).size ≤ 8192 := by rw [ByteArray.size_extract]; omega
                    clear hsf hL
                    go_wp2_with fail
                    (with_reducible refine (rBad_any HR5.out).mono ?_)
                    rintro e w0 ⟨rfl, rfl⟩
                    clear hnw
                    go_wp2_with (first | (at_builtin; refine wpList_append_str (S := fun k => (Value.slice ao l.length cp).ownBlock = some k) rfl _ _ 45 9 rfl info_u8 Try.underlying45 Try.underlying9 HO5.out (Upd.refl _ _) (by have := HB5.out.size; omega) (by omega) (fun k hk => .inl hk) rfl rfl ?_; intro v6 w6 hown6 hgrow6 hupd6 hblk6; rw [← HL.out] at hown6; obtain ⟨ao6, cp6, hv6⟩ := owns_slice hown6; subst hv6; have HO6 := Lib.hid hown6; have HR6 := Lib.hid (HR5.out.upd hupd6 (fun e => HNE.out e)); have HNE6 := Lib.hid (ne_blk HNE.out hblk6 (lt_of_block HR5.out.blk)); have HB6 := Lib.hid (HB5.out.trans (hupd6.below (by have := HB5.out.size; omega) (fun k hk => (owns_elem HO5.out hk).1))); clear hown6 hgrow6 hupd6 hblk6))
                    go_wp2_with fail
                    (with_reducible refine (rBad_any HR6.out).mono ?_)
                    rintro e w0 ⟨rfl, rfl⟩
                    by_cases hok : (0 : Int) = 0 ∧ n ≠ 0 ∧ n ≤ will ∧ L.length ≤ will
                    · obtain ⟨he6, hn0, hnw, hlw6⟩ := hok
                      clear he6
                      have h1 : ((n : Int) == 0) = false := beq_eq_false_iff_ne.2 (by omega)
                      have h2 : ¬ (will : Int) < (n : Int) := by omega
                      have h2b : decide ((will : Int) < (n : Int)) = false := decide_eq_false h2
                      have h2n : decide (will < n) = false := decide_eq_false (by omega)
                      have h3 : ¬ (will : Int) < (L.length : Int) := by omega
                      have h3b : decide ((will : Int) < (L.length : Int)) = false := decide_eq_false h3
                      have h3n : decide (will < L.length) = false := decide_eq_false (by omega)
                      have hs : stepF base will st l = .inr (r6, L) := by rw [HSF.out]; unfold endS; rw [if_neg]; simp only [not_or, ne_eq, Decidable.not_not]; exact ⟨trivial, hn0, by omega, by omega⟩
                      have HF2 := Lib.hid (HFL.out.trans (applyL_step hpos hs))
                      have HLT := Lib.hid (show r6.size < st.size from (stepF_inr hs).1)
                      have HLW := Lib.hid hlw6
                      clear hs hn0 hnw hlw6
                      go_wp2_with fail
                      exact ⟨⟨r6, L, HR6.out, HO6.out, HNE6.out, HLW.out, by have := HLT.out; omega, HF2.out, HB6.out⟩, by rw [restOf_st HR6.out, restOf_st HR.out]; exact HLT.out⟩
                    · have hF2 : F = (⟨#[]⟩, 2) := HFL.out.trans (applyL_out hpos (by rw [HSF.out]; exact endS_bad hok))
                      subst hF2
                      by_cases hn0 : n = 0
                      · have h1 : ((n : Int) == 0) = true := by rw [hn0]; rfl
                        clear hok hn0
                        go_wp2_with fail
                        go_ret2
                        exact ⟨rfl, hg ▸ HB6.out⟩
                      · have h1 : ((n : Int) == 0) = false := beq_eq_false_iff_ne.2 (by omega)
                        by_cases hnw : n ≤ will
                        · have h2 : ¬ (will : Int) < (n : Int) := by omega
                          have h2b : decide ((will : Int) < (n : Int)) = false := decide_eq_false h2
                          have h2n : decide (will < n) = false := decide_eq_false (by omega)
                          have hlw6 : ¬ L.length ≤ will := fun h => hok ⟨rfl, hn0, hnw, h⟩
                          have h3 : (will : Int) < (L.length : Int) := by omega
                          have h3b : decide ((will : Int) < (L.length : Int)) = true := decide_eq_true h3
                          have h3n : decide (will < L.length) = true := decide_eq_true (by omega)
                          clear hok hn0 hnw hlw6
                          go_wp2_with fail
                          go_ret2
                          exact ⟨rfl, hg ▸ HB6.out⟩
                        · have h2 : (will : Int) < (n : Int) := by omega
                          have h2b : decide ((will : Int) < (n : Int)) = true := decide_eq_true h2
                          have h2n : decide (will < n) = true := decide_eq_true (by omega)
                          clear hok hn0 hnw
                          go_wp2_with fail
                          go_ret2
                          exact ⟨rfl, hg ▸ HB6.out⟩
                  · rw [if_neg (fun h => hnw h.2)] at hsf
                    have hF2 : F = (⟨#[]⟩, 2) := HFL.out.trans (applyL_out hpos (by rw [hsf]; unfold endS; rw [if_pos (.inr (.inr (.inl (by omega))))]))
                    subst hF2
                    have h3 : ¬ (n : Int) ≤ (will : Int) := by omega
                    have h3b : decide ((n : Int) ≤ (will : Int)) = false := decide_eq_false h3
                    have h3n : decide (n ≤ will) = false := decide_eq_false hnw
                    have h4 : (will : Int) < (n : Int) := by omega
                    have h4b : decide ((will : Int) < (n : Int)) = true := decide_eq_true h4
                    have h4n : decide (will < n) = true := decide_eq_true (by omega)
                    have h5 : ((n : Int) == 0) = false := beq_eq_false_iff_ne.2 (by omega)
                    clear hsf hnw
                    go_wp2_with fail
                    (with_reducible refine (rBad_any HR5.out).mono ?_)
                    rintro e w0 ⟨rfl, rfl⟩
                    go_wp2_with fail
                    (with_reducible refine (rBad_any HR5.out).mono ?_)
                    rintro e w0 ⟨rfl, rfl⟩
                    go_wp2_with fail
                    go_ret2
                    exact ⟨rfl, hg ▸ HB5.out⟩
              · have hsf := stepF_odd (base := base) (will := will) (l := l) HQ.out HP.out HPAR.out (fun h => he6 h.1)
                have hF2 : F = (⟨#[]⟩, 2) := HFL.out.trans (applyL_out hpos (by rw [hsf]; unfold endS; rw [if_pos (.inl he6)]))
                subst hF2
                have h1 : (e6 == 0) = false := beq_eq_false_iff_ne.2 he6
                have h2 : (e6 != 0) = true := by rw [bne, h1]; rfl
                clear hsf he6
                go_wp2_with fail
                (with_reducible refine (rBad_any HR5.out).mono ?_)
                rintro e w0 ⟨rfl, rfl⟩
                go_wp2_with fail
                (with_reducible refine (rBad_any HR5.out).mono ?_)
                rintro e w0 ⟨rfl, rfl⟩
                go_wp2_with fail
                go_ret2
                exact ⟨rfl, hg ▸ HB5.out⟩
          · have hz : st.size = 0 := by omega
            have hFe := HFL.out.trans (applyL_end hz)
            have hpi : ¬ (0 : Int) < (st.size : Int) := by omega
            have hpb : decide ((0 : Int) < (st.size : Int)) = false := decide_eq_false (by omega)
            have hpn : decide (0 < st.size) = false := decide_eq_false (by omega)
            clear hpos
            go_wp2_with fail
            (with_reducible refine (rLeft_any HR.out).mono ?_)
            rintro e w0 ⟨rfl, rfl⟩
            by_cases hlen : l.length = will
            · rw [if_pos hlen] at hFe
              have h1 : ((l.length : Int) == (will : Int)) = true := by rw [hlen]; exact beq_self_eq_true _
              have h2 : ((l.length : Int) != (will : Int)) = false := by rw [bne, h1]; rfl
              subst hFe
              clear hlen
              go_wp2_with (first | (refine wpList_bytes_string rfl _ 45 9 5 rfl Try.underlying45 Try.underlying5 Try.underlying9 (rdRow_of_owns HO.out) rfl ?_))
              go_ret2
              exact ⟨rfl, hg ▸ HB.out⟩
            · rw [if_neg hlen] at hFe
              have h1 : ((l.length : Int) == (will : Int)) = false := beq_eq_false_iff_ne.2 (fun e => hlen (by omega))
              have h2 : ((l.length : Int) != (will : Int)) = true := by rw [bne, h1]; rfl
              subst hFe
              clear hlen
              go_wp2_with fail
              go_ret2
              exact ⟨rfl, hg ▸ HB.out⟩
      · have hA := HA.out
        rw [if_neg (by simp), if_neg (by omega), if_pos (by omega)] at hA
        have hwi : (8192 : Int) < (will : Int) := by omega
        have hwb : decide ((8192 : Int) < (will : Int)) = true := by simp; omega
        subst hA
        clear HA hwill hwas
        go_wp2_with fail
        go_ret2
        exact ⟨rfl, hg ▸ HB3.out⟩
    · have hA := HA.out
      rw [if_neg (by simp), if_pos hwas] at hA
      have hw1 : ((was : Int) == (base.size : Int)) = false := by simp; omega
      have hw2 : ((was : Int) != (base.size : Int)) = true := by simp; omega
      subst hA
      clear HA hwas
      go_wp2_with fail
      go_ret2
      exact ⟨rfl, hg ▸ HB3.out⟩
  · have hA := HA.out
    rw [if_pos he2] at hA
    have h1 : (e2 == 0) = false := by simpa using he2
    have h2 : (e2 != 0) = true := by simpa using he2
    subst hA
    clear HA he2
    go_wp2_with fail
    go_ret2
    exact ⟨rfl, hg ▸ HB3.out⟩
end Go.Proofs.Ytnggcldpojebkaa
