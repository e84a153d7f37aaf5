/- The walk of StoreOnward. -/
import Derived.Test.YtalkheljejkpiaaDoorStore3
import Derived.Test.YtalkheljejkpiaaDoorStore2
import Derived.Test.YtalkheljejkpiaaDoorPack3
namespace Go.Proofs.YtalkheljejkpiaaDoor
open Go.RowKit Go.Maps
set_option linter.unusedVariables false
set_option linter.unusedSimpArgs false

theorem wp_mapUpdate_own {H : Type} {P : Program} {w : World} {o : Oper} {a : Act} {K : Act → World → Prop} {Q : Exit → Act → World → Prop}
    (m x v : Operand) (t : TypeId) (hop : o.op = Op.mapUpdate t m x v)
    (k e : TypeId) (KL : Keyed P k) (ht : P.underlying t = some (.map k e)) (R : Value → Option (DataW H × List MemPlace)) (b n : Nat) (D : DataW H)
    (hm : a.eval m = .map (some b)) (hown : w.ownsMap P k R b n D) (hn : n < maxLen) (key val : Value) (kl : Lit) (hx : a.eval x = key) (hv : a.eval v = val) (hkey : keyOf P k key = some kl)
    (d : DataW H) (ps : List MemPlace) (hval : R val = some (d, ps))
    (hK : ∀ w', w'.ownsMap P k R b (n + 1) (D.put kl d) → w.grownBy w' (some b) → K (a.put o.dst undef) w') : o.wp P a w K Q := by
  obtain ⟨w', hrun, r1, r2⟩ := hown.update KL ht hn hkey hval
  unfold Oper.wp
  simp [execOp, hop, hm, hx, hv, hrun, Result.andThen]
  exact hK w' r1 r2
/-- What the map tells of an id. -/
noncomputable def byG (l : List ByteArray) (id : ByteArray) : ByteArray × Int := match byF sumF l id with
  | some s => (s, 0)
  | none => (nilB, 7)
theorem byF_in {l : List ByteArray} {k s : ByteArray} (h : byF sumF l k = some s) : s ∈ l := by
  have key : ∀ (m : List ByteArray) (a : Option ByteArray), m.foldl (fun a s => if sumF s = k then some s else a) a = some s → s ∈ m ∨ a = some s := by
    intro m
    induction m with
    | nil => intro a h; exact .inr h
    | cons y m ih =>
      intro a h
      rcases ih _ h with h | h
      · exact .inl (by simp [h])
      · dsimp only at h
        split at h
        · injection h with h; exact .inl (by simp [h])
        · exact .inr h
  rcases key l none h with h | h
  · exact h
  · cases h
theorem byG_size {l : List ByteArray} (h : smalls l) (x : ByteArray) : (byG l x).1.size ≤ 140737488355328 := by
  unfold byG
  cases hb : byF sumF l x with
  | none => exact Nat.zero_le _
  | some s => exact h s (byF_in hb)
noncomputable def parsO (s : ByteArray) : List ByteArray := if (decodeF s).2 = 0 then (decodeF s).1.pars else []
theorem parsO_len (s : ByteArray) : (parsO s).length ≤ 4 := by
  unfold parsO
  split
  · next h =>
    have := decode_ok (s := s) (o := (decodeF s).1) (by rw [← h])
    exact (goodF_good this.1).pars
  · exact Nat.zero_le _
theorem flat_len : ∀ l : List ByteArray, (l.flatMap parsO).length ≤ l.length * 4
  | [] => Nat.le_refl _
  | x :: l => by
    have := flat_len l
    have := parsO_len x
    simp only [List.flatMap_cons, List.length_append, List.length_cons]; omega
theorem kids_flat {l : List ByteArray} {z y : ByteArray} (h : y ∈ kids (byG l) z) : y ∈ l.flatMap parsO := by
  by_cases k : (byG l z).2 = 0 ∧ (decodeF (byG l z).1).2 = 0 ∧ (decodeF (byG l z).1).1.kind = 3
  · rw [kids_good k] at h
    cases hb : byF sumF l z with
    | none =>
      have : (byG l z).2 = 7 := by unfold byG; rw [hb]
      rw [this] at k; exact absurd k.1 (by decide)
    | some s =>
      have e : byG l z = (s, 0) := by unfold byG; rw [hb]
      rw [e] at h k
      exact List.mem_flatMap.2 ⟨s, byF_in hb, by unfold parsO; rw [if_pos k.2.1]; exact h⟩
  · rw [kids_none k] at h; cases h
theorem onward_law {l : List ByteArray} (hl : l.length ≤ 80) {a b c : ByteArray} (h1 : desF (byG l) a b = true) (h2 : desF (byG l) b c = true) : desF (byG l) a c = true :=
  des_trans (U := l.flatMap parsO) (by have := flat_len l; omega) (fun z y => kids_flat) h1 h2
theorem GetOk.mono {fid : FuncId} {caps : Array Value} {w w' : World} {g : ByteArray → ByteArray × Int} (h : GetOk fid caps w g) (hb : Below w.heap.size w w') : GetOk fid caps w' g :=
  fun W id hW hi => h W id (hb.trans (hW.mono hb.size)) hi
set_option maxRecDepth 100000 in
set_option maxHeartbeats 3200000 in
theorem onward_clo {w : World} {bb gm n : Nat} {D : DataW Unit} {l : List ByteArray} (hg : w.heap[bb]? = some (.cells #[.map (some gm)] 46 (0, 0))) (hm : ownsS w gm n D) (hr : RepS D (byF sumF l)) : GetOk 24 #[.pointer (some ⟨bb, 0, none⟩)] w (byG l) := by
  intro W id hW hi
  have hgW := blk_below hg hW
  have c0 := cell_one hgW
  have hlk := look_str (ownsMap_blk hm (hW.block gm hm.lt)) hr id (by unfold maxLen; omega)
  obtain ⟨F, hF⟩ : ∃ F, F = byG l id := ⟨_, rfl⟩
  rw [← hF]
  cases hb : byF sumF l id with
  | none =>
    rw [hb] at hlk
    simp only [Option.getD_none, Option.isSome_none] at hlk
    obtain rfl : F = (nilB, 7) := by rw [hF]; unfold byG; rw [hb]
    clear hF hb hg hm hr hgW hW hi
    go_enter Tryd.func24, Tryd.ntmps24
    go_wp2_with fail
    go_ret2
    exact ⟨rfl, Below.refl _ _⟩
  | some s =>
    rw [hb] at hlk
    simp only [Option.getD_some, Option.isSome_some] at hlk
    obtain rfl : F = (s, 0) := by rw [hF]; unfold byG; rw [hb]
    clear hF hb hg hm hr hgW hW hi
    go_enter Tryd.func24, Tryd.ntmps24
    go_wp2_with fail
    go_ret2
    exact ⟨rfl, Below.refl _ _⟩
set_option maxRecDepth 100000 in
set_option maxHeartbeats 3200000 in
theorem storeOnward_walk {w : World} (ht : Tab w) (v0 : Value) (len0 : Nat) (z0 : List ByteArray) (f0 : rdRow w 1 v0 len0 (z0.map .string)) (g0 : ∀ s ∈ z0, s.size ≤ 140737488351232) (m0 : len0 * 16 ≤ 140737488351232) (a : ByteArray) (fa : a.size ≤ 140737488351232) (b : ByteArray) (fb : b.size ≤ 140737488351232) (c : ByteArray) (fc : c.size ≤ 140737488351232) :
    Calls Tryd.prog 7 #[v0, .string a, .string b, .string c] w fun e w' => e = .returned (.bool true) ∧ Below w.heap.size w w' := by
  obtain ⟨hr0, hs0, hm0⟩ := rdS_in f0 g0 m0
  have HT := Lib.hid (fun wr (h : Below w.heap.size w wr) => ht.below h)
  have HZ := Lib.hid (fun wr (h : Below w.heap.size w wr) => hr0.below h)
  have HSZ := Lib.hid hs0
  have HFA := Lib.hid (And.intro fa (And.intro fb fc))
  have HLN := Lib.hid (rdS_len hr0)
  obtain ⟨a1, a2_, rfl⟩ := rd_form hr0
  clear f0 g0 m0 hr0 hs0 hm0 fa fb fc
  obtain ⟨W, hW⟩ : ∃ W, ((w.alloc (.map #[] 0)).alloc (.cells #[.map none] 46)).setCell ⟨w.heap.size + 1, 0, none⟩ (.map (some w.heap.size)) = W := ⟨_, rfl⟩
  have hbW : Below w.heap.size w W := by rw [← hW]; exact (((Below.refl _ _).alloc (Nat.le_refl _) _).alloc (by simp) _).setCell (p := ⟨w.heap.size + 1, 0, none⟩) (Nat.le_succ _) _
  have hm0 : ownsS W w.heap.size 0 (.map []) := by
    rw [← hW]
    have h1 := World.ownsMap_made (H := Unit) w Tryd.prog 9 (plainElem Tryd.prog 9)
    exact (h1.alloc _).setCell (by simp) _
  have hgW : W.heap[w.heap.size + 1]? = some (.cells #[.map (some w.heap.size)] 46 (0, 0)) := by
    rw [← hW]; exact one_setCell (heap_new (by simp))
  have HG0 := Lib.hid hgW
  have HM0 := Lib.hid hm0
  have HB0 := Lib.hid hbW
  have hmm := @run_makeMap Tryd.prog
  clear hgW hm0 hbW ht
  go_enter Tryd.func7, Tryd.ntmps7
  go_wp2_with fail
  clear hmm
  go_loopw [10] (fun i wr => ∃ (k : Nat) (D : DataW Unit), k ≤ z0.length ∧ k ≤ 80 ∧ i = .int .i64 (k : Int) ∧ Hid (RepS D (byF sumF (z0.take k))) ∧ Hid (ownsS wr w.heap.size k D) ∧ Hid (wr.heap[w.heap.size + 1]? = some (.cells #[.map (some w.heap.size)] 46 (0, 0))) ∧ Hid (Below w.heap.size w wr)) (fun i _ => 80 - (intOf i).toNat)
  case atStart => exact ⟨0, .map [], Nat.zero_le _, Nat.zero_le _, rfl, Lib.hid repS_start, HM0, HG0, HB0⟩
  case round =>
    clear HG0 HM0 HB0 hW
    obtain ⟨k, D, hk, hk8, rfl, HREP, HMP, HG, HB1⟩ := hrel
    by_cases hk2 : k < z0.length ∧ k < 80
    · have HKL := Lib.hid hk2
      have kb : decide ((k : Int) < (z0.length : Int)) = true := decide_eq_true (by omega)
      have kb2 : decide ((k : Int) < 80) = true := decide_eq_true (by omega)
      have ki : (k : Int) < (z0.length : Int) := by omega
      have kn : k < z0.length := by omega
      have kz : (0 : Int) ≤ (k : Int) := by omega
      obtain ⟨bl, ol, hbl, _, hcl⟩ := rdS_at' (HZ.out _ HB1.out) (by omega)
      subst hbl
      obtain ⟨x, hx⟩ : ∃ x, x = z0.getD k noB := ⟨_, rfl⟩
      have HXC := Lib.hid (fun wr (h : Below w.heap.size w wr) => ((rdS_cl (HZ.out wr h) kn).trans (by rw [← hx]) : wr.cell? ⟨bl, ol + k, none⟩ = some (.string x)))
      have hxm : x.size ≤ maxLen := by rw [hx]; exact Nat.le_trans (smalls_at HSZ.out k) (by decide)
      obtain ⟨y, hy⟩ : ∃ y, y = sumF x := ⟨_, rfl⟩
      have HID := Lib.hid (fun wr (h : Below w.heap.size w wr) => id_any x wr (HT.out wr h))
      rw [← hy] at HID
      have hkey : keyOf Tryd.prog 9 (.string y) = some (keyB y) := keyB_of y (by rw [hy, sumF_size]; decide)
      have HR2 := Lib.hid (show RepS (D.put (keyB y) (.lit (.string x.data.toList))) (byF sumF (z0.take (k + 1))) from repS_put HREP.out y x (fun key => by rw [← take_snocD kn, byF_snoc, ← hx, ← hy]))
      have hkm : k < maxLen := by unfold maxLen; omega
      have HBd := Lib.hid (below_drew HB1.out)
      have HGd := Lib.hid (show wr.drew.heap[w.heap.size + 1]? = some (.cells #[.map (some w.heap.size)] 46 (0, 0)) from HG.out)
      have HMd := Lib.hid (show ownsS wr.drew w.heap.size k D from HMP.out.drew)
      have e0 := HXC.out _ HBd.out
      have m0 := cell_one HGd.out
      clear hcl hx hy hk2
      go_wp2_with fail
      refine Lone.wp_region_order [(0, false), (1, false), (2, false), (3, false), (4, false), (6, false), (7, false), (8, false), (9, false), (5, true), (10, true)] (fun w' => w'.cell? ⟨w.heap.size + 1, 0, none⟩ = some (.map (some w.heap.size)) ∧ w'.cell? ⟨bl, ol + k, none⟩ = some (.string x)) (by kernel_rfl) (by kernel_rfl) rfl (by kernel_rfl) (by intro _ _ d _ _ h; cases d <;> exact h) (⟨m0, e0⟩) ?_; simp only [List.map_cons, List.map_nil, List.getElem?_toArray, List.getElem?_cons_zero, List.getElem?_cons_succ, Option.getD_some]
      repeat (first | (refine Lone.ro_q (by rfl) (v := ?_) ?_ ?_; rotate_left; (focus (intro w' hSw; (try dsimp only at hSw); go_simp; try with_reducible rfl)); simp only [Act.put, List.setIfInBounds_toArray, List.set_cons_zero, List.set_cons_succ]) | (refine Lone.ro_skip (by rfl) ?_; simp only [Act.put, List.setIfInBounds_toArray, List.set_cons_zero, List.set_cons_succ]))
      (refine Lone.ro_loud (by rfl) (fun K hK => ?_); go_simp)
      (with_reducible refine (HID.out _ HBd.out).mono ?_)
      rintro e w4 ⟨rfl, hb⟩
      have HB4 := Lib.hid (HBd.out.trans (hb.mono HBd.out.size))
      have HM4 := Lib.hid (ownsMap_blk HMd.out (hb.block _ HMd.out.lt))
      have HG4 := Lib.hid (blk_below HGd.out hb)
      clear hb HID e0 m0
      have e0 := HXC.out _ HB4.out
      have m0 := cell_one HG4.out
      (refine hK.out _ _ (fun w' => w'.cell? ⟨w.heap.size + 1, 0, none⟩ = some (.map (some w.heap.size)) ∧ w'.cell? ⟨bl, ol + k, none⟩ = some (.string x)) (.inl fun _ h => h) (⟨m0, e0⟩) ?_; clear hK K; try simp only [Act.put, List.setIfInBounds_toArray, List.set_cons_zero, List.set_cons_succ])
      try repeat (first | (refine Lone.ro_q (by rfl) (v := ?_) ?_ ?_; rotate_left; (focus (intro w' hSw; (try dsimp only at hSw); go_simp; try with_reducible rfl)); simp only [Act.put, List.setIfInBounds_toArray, List.set_cons_zero, List.set_cons_succ]) | (refine Lone.ro_skip (by rfl) ?_; simp only [Act.put, List.setIfInBounds_toArray, List.set_cons_zero, List.set_cons_succ]))
      (refine Lone.ro_loud (by rfl) (fun K hK => ?_))
      refine wp_mapUpdate_own _ _ _ 46 rfl 9 9 lawS Tryd.underlying46 _ w.heap.size k _ rfl HM4.out hkm _ _ _ rfl rfl hkey _ [] (plainElem_string Tryd.underlying9 hxm) ?_
      intro w5 hown5 hgrow5
      have HB5 := Lib.hid (HB4.out.grown hgrow5 HB4.out.size (fun j hj => by injection hj with hj; omega))
      have HG5 := Lib.hid (show w5.heap[w.heap.size + 1]? = some (.cells #[.map (some w.heap.size)] 46 (0, 0)) by rw [hgrow5.block _ (lt_of_block HG4.out) (by simp)]; exact HG4.out)
      have HM5 := Lib.hid hown5
      clear hown5 hgrow5 e0 m0
      (refine hK.out _ _ (fun _ => True) (.inr (by kernel_rfl)) (trivial) ?_; clear hK K; try simp only [Act.put, List.setIfInBounds_toArray, List.set_cons_zero, List.set_cons_succ])
      refine Lone.ro_nil ?_
      go_wp2_with fail
      exact ⟨⟨k + 1, _, by have := HKL.out; omega, by have := HKL.out; omega, rfl, HR2, HM5, HG5, HB5⟩, meas_step (n := 80) _ rfl (by have := HKL.out; omega)⟩
    · by_cases hk3 : k < z0.length
      · have hk80 : ¬ k < 80 := fun h => hk2 ⟨hk3, h⟩
        have kb : decide ((k : Int) < (z0.length : Int)) = true := decide_eq_true (by omega)
        have kb3 : decide (k < z0.length) = true := decide_eq_true hk3
        have kb2 : decide ((k : Int) < 80) = false := decide_eq_false (by omega)
        have kb4 : decide (k < 80) = false := decide_eq_false hk80
        clear hk2 hk3 hk80
        have HLK := Lib.hid (show (z0.take k).length ≤ 80 by rw [List.length_take]; omega)
        obtain ⟨lk, hlk⟩ : ∃ lk, lk = z0.take k := ⟨_, rfl⟩
        rw [← hlk] at HREP HLK
        have HSK := Lib.hid (show smalls lk by rw [hlk]; exact smalls_take HSZ.out k)
        have HCL := Lib.hid (onward_clo HG.out HMP.out HREP.out)
        clear hlk
        have HDE := Lib.hid (fun wx (h : Below w.heap.size w wx) (x y : ByteArray) (hx : GetOk 24 #[.pointer (some ⟨w.heap.size + 1, 0, none⟩)] wx (byG lk)) (hz : x.size ≤ 140737488355328) => descends_any 24 #[.pointer (some ⟨w.heap.size + 1, 0, none⟩)] (byG lk) (enters_of Tryd.func24 (by kernel_rfl) rfl) x y wx hx (byG_size HSK.out) hz)
        obtain ⟨dx, hdx⟩ : ∃ d, d = desF (byG lk) a b := ⟨_, rfl⟩
        obtain ⟨dy, hdy⟩ : ∃ d, d = desF (byG lk) b c := ⟨_, rfl⟩
        obtain ⟨dz, hdz⟩ : ∃ d, d = desF (byG lk) a c := ⟨_, rfl⟩
        have HLAW := Lib.hid (show dx = true → dy = true → dz = true by rw [hdx, hdy, hdz]; exact onward_law HLK.out)
        have HDX := Lib.hid hdx
        have HDY := Lib.hid hdy
        have HDZ := Lib.hid hdz
        clear hdx hdy hdz
        have HB2 := HB1
        have HCL2 := HCL
        have hc3 := HDE.out wr HB2.out a b HCL2.out (by have := HFA.out; omega)
        rw [← HDX.out] at hc3
        have HC := Lib.hid hc3
        clear hc3
        go_wp2_with fail
        (with_reducible refine HC.out.mono ?_)
        rintro e w3 ⟨rfl, hb⟩
        have HB3 := Lib.hid (HB2.out.trans (hb.mono HB2.out.size))
        have HCL3 := Lib.hid (HCL2.out.mono hb)
        clear HC hb
        have hc4 := HDE.out w3 HB3.out b c HCL3.out (by have := HFA.out; omega)
        rw [← HDY.out] at hc4
        have HC := Lib.hid hc4
        clear hc4
        go_wp2_with fail
        (with_reducible refine HC.out.mono ?_)
        rintro e w4 ⟨rfl, hb⟩
        have HB4 := Lib.hid (HB3.out.trans (hb.mono HB3.out.size))
        have HCL4 := Lib.hid (HCL3.out.mono hb)
        clear HC hb
        have hc5 := HDE.out w4 HB4.out a c HCL4.out (by have := HFA.out; omega)
        rw [← HDZ.out] at hc5
        have HC := Lib.hid hc5
        clear hc5
        go_wp2_with fail
        (with_reducible refine HC.out.mono ?_)
        rintro e w5 ⟨rfl, hb⟩
        have HB5 := Lib.hid (HB4.out.trans (hb.mono HB4.out.size))
        have HCL5 := Lib.hid (HCL4.out.mono hb)
        clear HC hb
        have hc6 := HDE.out w5 HB5.out a a HCL5.out (by have := HFA.out; omega)
        rw [des_self] at hc6
        have HC := Lib.hid hc6
        clear hc6
        go_wp2_with fail
        (with_reducible refine HC.out.mono ?_)
        rintro e w6 ⟨rfl, hb⟩
        have HB6 := Lib.hid (HB5.out.trans (hb.mono HB5.out.size))
        have HCL6 := Lib.hid (HCL5.out.mono hb)
        clear HC hb
        clear HDX HDY HDZ
        cases dx with
        | false =>
          have HC := Lib.hid (stores_any w6 (HT.out _ HB6.out))
          go_wp2_with fail
          (with_reducible refine HC.out.mono ?_)
          rintro e w7 ⟨rfl, hb⟩
          have HB7 := Lib.hid (HB6.out.trans (hb.mono HB6.out.size))
          clear HC hb
          go_wp2_with fail
          go_ret
          exact ⟨rfl, HB7.out⟩
        | true =>
          cases dy with
          | false =>
            have HC := Lib.hid (stores_any w6 (HT.out _ HB6.out))
            go_wp2_with fail
            (with_reducible refine HC.out.mono ?_)
            rintro e w7 ⟨rfl, hb⟩
            have HB7 := Lib.hid (HB6.out.trans (hb.mono HB6.out.size))
            clear HC hb
            go_wp2_with fail
            go_ret
            exact ⟨rfl, HB7.out⟩
          | true =>
            obtain rfl : dz = true := HLAW.out rfl rfl
            have HC := Lib.hid (stores_any w6 (HT.out _ HB6.out))
            go_wp2_with fail
            (with_reducible refine HC.out.mono ?_)
            rintro e w7 ⟨rfl, hb⟩
            have HB7 := Lib.hid (HB6.out.trans (hb.mono HB6.out.size))
            clear HC hb
            go_wp2_with fail
            go_ret
            exact ⟨rfl, HB7.out⟩
      · have kb : decide ((k : Int) < (z0.length : Int)) = false := decide_eq_false (by omega)
        have kb3 : decide (k < z0.length) = false := decide_eq_false hk3
        clear hk2 hk3
        have HLK := Lib.hid (show (z0.take k).length ≤ 80 by rw [List.length_take]; omega)
        obtain ⟨lk, hlk⟩ : ∃ lk, lk = z0.take k := ⟨_, rfl⟩
        rw [← hlk] at HREP HLK
        have HSK := Lib.hid (show smalls lk by rw [hlk]; exact smalls_take HSZ.out k)
        have HCL := Lib.hid (onward_clo HG.out HMP.out HREP.out)
        clear hlk
        have HDE := Lib.hid (fun wx (h : Below w.heap.size w wx) (x y : ByteArray) (hx : GetOk 24 #[.pointer (some ⟨w.heap.size + 1, 0, none⟩)] wx (byG lk)) (hz : x.size ≤ 140737488355328) => descends_any 24 #[.pointer (some ⟨w.heap.size + 1, 0, none⟩)] (byG lk) (enters_of Tryd.func24 (by kernel_rfl) rfl) x y wx hx (byG_size HSK.out) hz)
        obtain ⟨dx, hdx⟩ : ∃ d, d = desF (byG lk) a b := ⟨_, rfl⟩
        obtain ⟨dy, hdy⟩ : ∃ d, d = desF (byG lk) b c := ⟨_, rfl⟩
        obtain ⟨dz, hdz⟩ : ∃ d, d = desF (byG lk) a c := ⟨_, rfl⟩
        have HLAW := Lib.hid (show dx = true → dy = true → dz = true by rw [hdx, hdy, hdz]; exact onward_law HLK.out)
        have HDX := Lib.hid hdx
        have HDY := Lib.hid hdy
        have HDZ := Lib.hid hdz
        clear hdx hdy hdz
        have HB2 := HB1
        have HCL2 := HCL
        have hc3 := HDE.out wr HB2.out a b HCL2.out (by have := HFA.out; omega)
        rw [← HDX.out] at hc3
        have HC := Lib.hid hc3
        clear hc3
        go_wp2_with fail
        (with_reducible refine HC.out.mono ?_)
        rintro e w3 ⟨rfl, hb⟩
        have HB3 := Lib.hid (HB2.out.trans (hb.mono HB2.out.size))
        have HCL3 := Lib.hid (HCL2.out.mono hb)
        clear HC hb
        have hc4 := HDE.out w3 HB3.out b c HCL3.out (by have := HFA.out; omega)
        rw [← HDY.out] at hc4
        have HC := Lib.hid hc4
        clear hc4
        go_wp2_with fail
        (with_reducible refine HC.out.mono ?_)
        rintro e w4 ⟨rfl, hb⟩
        have HB4 := Lib.hid (HB3.out.trans (hb.mono HB3.out.size))
        have HCL4 := Lib.hid (HCL3.out.mono hb)
        clear HC hb
        have hc5 := HDE.out w4 HB4.out a c HCL4.out (by have := HFA.out; omega)
        rw [← HDZ.out] at hc5
        have HC := Lib.hid hc5
        clear hc5
        go_wp2_with fail
        (with_reducible refine HC.out.mono ?_)
        rintro e w5 ⟨rfl, hb⟩
        have HB5 := Lib.hid (HB4.out.trans (hb.mono HB4.out.size))
        have HCL5 := Lib.hid (HCL4.out.mono hb)
        clear HC hb
        have hc6 := HDE.out w5 HB5.out a a HCL5.out (by have := HFA.out; omega)
        rw [des_self] at hc6
        have HC := Lib.hid hc6
        clear hc6
        go_wp2_with fail
        (with_reducible refine HC.out.mono ?_)
        rintro e w6 ⟨rfl, hb⟩
        have HB6 := Lib.hid (HB5.out.trans (hb.mono HB5.out.size))
        have HCL6 := Lib.hid (HCL5.out.mono hb)
        clear HC hb
        clear HDX HDY HDZ
        cases dx with
        | false =>
          have HC := Lib.hid (stores_any w6 (HT.out _ HB6.out))
          go_wp2_with fail
          (with_reducible refine HC.out.mono ?_)
          rintro e w7 ⟨rfl, hb⟩
          have HB7 := Lib.hid (HB6.out.trans (hb.mono HB6.out.size))
          clear HC hb
          go_wp2_with fail
          go_ret
          exact ⟨rfl, HB7.out⟩
        | true =>
          cases dy with
          | false =>
            have HC := Lib.hid (stores_any w6 (HT.out _ HB6.out))
            go_wp2_with fail
            (with_reducible refine HC.out.mono ?_)
            rintro e w7 ⟨rfl, hb⟩
            have HB7 := Lib.hid (HB6.out.trans (hb.mono HB6.out.size))
            clear HC hb
            go_wp2_with fail
            go_ret
            exact ⟨rfl, HB7.out⟩
          | true =>
            obtain rfl : dz = true := HLAW.out rfl rfl
            have HC := Lib.hid (stores_any w6 (HT.out _ HB6.out))
            go_wp2_with fail
            (with_reducible refine HC.out.mono ?_)
            rintro e w7 ⟨rfl, hb⟩
            have HB7 := Lib.hid (HB6.out.trans (hb.mono HB6.out.size))
            clear HC hb
            go_wp2_with fail
            go_ret
            exact ⟨rfl, HB7.out⟩
end Go.Proofs.YtalkheljejkpiaaDoor
