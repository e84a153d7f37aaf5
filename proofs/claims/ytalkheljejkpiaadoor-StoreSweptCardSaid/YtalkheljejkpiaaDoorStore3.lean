/- The walk of package store's Descends. -/
import Derived.Test.YtalkheljejkpiaaDoorDesLaw
import Derived.Test.YtalkheljejkpiaaDoorQueue
import Derived.Test.YtalkheljejkpiaaDoorObjCells
import Derived.Test.YtalkheljejkpiaaDoorDlt
import Derived.Test.YtalkheljejkpiaaDoorInts
namespace Go.Proofs.YtalkheljejkpiaaDoor
open Go.RowKit Go.Maps
set_option linter.unusedVariables false
set_option linter.unusedSimpArgs false

/-- What a closure that tells bytes of ids does. -/
def GetOk (fid : FuncId) (caps : Array Value) (w0 : World) (g : ByteArray → ByteArray × Int) : Prop :=
  ∀ (W : World) (id : ByteArray), Below w0.heap.size w0 W → id.size ≤ 140737488355328 → Calls Tryd.prog fid (#[.string id] ++ caps) W fun e W' => e = .returned (.tuple #[.string (g id).1, .int .i64 (g id).2]) ∧ Below W.heap.size W W'
/-- A set of strings tells what has been seen. -/
structure RepB (D : DataW Unit) (seen : List ByteArray) : Prop where
  map : IsMap D
  has : ∀ key, Maps.has D (keyB key) = hasB seen key
  at_ : ∀ key, hasB seen key = true → ∀ z, D.atKey (keyB key) z = .lit (.bool true)
  siz : Maps.size D = seen.length
  nod : seen.Nodup
theorem repB_start : RepB (.map []) [] := ⟨isMap_empty, fun _ => rfl, (fun _ h => by cases h), rfl, List.nodup_nil⟩
theorem hasB_snoc (seen : List ByteArray) (x key : ByteArray) : hasB (seen ++ [x]) key = (hasB seen key || decide (x = key)) := by simp [hasB]
theorem repB_put {D : DataW Unit} {seen : List ByteArray} (h : RepB D seen) (ht : Tidy D) (x : ByteArray) (hx : hasB seen x = false) : RepB (D.put (keyB x) (.lit (.bool true))) (seen ++ [x]) := by
  refine ⟨h.map.put _ _, fun key => ?_, fun key hk z => ?_, ?_, List.nodup_append.2 ⟨h.nod, by simp, fun a ha b hb => by rw [List.mem_singleton.1 hb]; exact fun e => by rw [← e, hasB_iff.2 ha] at hx; cases hx⟩⟩
  · rw [hasB_snoc]
    by_cases hw : x = key
    · subst hw; rw [has_put_same h.map (keyB_key _)]; simp
    · rw [has_put_other (fun e => hw (keyB_inj e).symm), h.has, decide_eq_false hw, Bool.or_false]
  · rw [hasB_snoc] at hk
    by_cases hw : x = key
    · subst hw; exact atKey_put_same h.map (keyB_key _) _ _
    · rw [decide_eq_false hw, Bool.or_false] at hk
      rw [atKey_put_other (fun e => hw (keyB_inj e).symm)]
      exact h.at_ key hk z
  · rw [size_put ht, h.has, hx, if_neg (by decide), h.siz, List.length_append]; rfl
abbrev ownsB (w : World) (b n : Nat) (D : DataW Unit) : Prop := w.ownsMap Tryd.prog 9 (plainElem Tryd.prog 4) b n D
theorem zeroB (w : World) : (zeroValue 4).run Tryd.prog w = .ok (.bool false) w := by kernel_rfl
set_option maxRecDepth 100000 in
theorem look_bool {w : World} {b n : Nat} {D : DataW Unit} {seen : List ByteArray} (h : ownsB w b n D) (r : RepB D seen) (key : ByteArray) (hk : key.size ≤ maxLen) :
    (Instr.lookup 94 (.map (some b)) (.string key) false).run Tryd.prog w = .ok (.bool (hasB seen key)) w := by
  obtain ⟨v, ps, hrun, hv⟩ := h.lookup lawS Tryd.underlying94 (zeroB w) (plainElem_bool Tryd.underlying4 false) (keyB_of key hk)
  rw [hrun]
  have hs : ∀ {s : Bool}, plainElem (H := Unit) Tryd.prog 4 v = some (.lit (.bool s), ps) → v = .bool s := by
    intro s hv
    simp only [plainElem, Tryd.underlying4] at hv
    cases v <;> simp at hv
    rw [hv.1]
  cases hf : hasB seen key with
  | false =>
    have h0 : Maps.has D (keyB key) = false := by rw [r.has, hf]
    rw [atKey_of_not_has h0] at hv
    rw [hs hv]
  | true =>
    rw [r.at_ key hf] at hv
    rw [hs hv]
/-- How many a map holds. -/
def mapLen (w : World) (b : Nat) : Nat := match w.heap[b]? with
  | some (.map es _) => es.size
  | _ => 0
theorem mapLen_eq {w : World} {b n : Nat} {D : DataW Unit} {seen : List ByteArray} (h : ownsB w b n D) (r : RepB D seen) : mapLen w b = seen.length := by
  rw [← r.siz]
  obtain ⟨es, clock, hb, F, _, rfl⟩ := h
  unfold mapLen
  rw [hb]
  show es.size = _
  rw [size_eq, length_read]
theorem tailS_run (w : World) {ao : Option Addr} {n cap : Nat} (h1 : 1 ≤ n) (h2 : n ≤ cap) : (Instr.sliceAt 22 (.slice ao n cap) (some (.int .i64 1)) none none).run Tryd.prog w = .ok (sliced ao 1 n cap 1) w := by
  obtain ⟨i, hi, hs⟩ := Option.map_eq_some_iff.1 size_string
  have ht := Tryd.underlying22
  have hel := elem_eq ht
  have ht' : Tryd.prog.underlying 22 = some (.slice (Tryd.prog.elem 22)) := by rw [hel]; exact ht
  have := run_slice_l (P := Tryd.prog) w 22 ao n cap ht' .i64 1 (by omega) (by omega)
  rw [run_sliceAt_slice _ _ _ _ _ _ ht']
  simp only [Int.toNat_one] at this
  rw [this]
  simp [sizeOf, typeInfo, hel, hi, hs]
theorem obC_cells {w : World} {b : Nat} {o : ObjS} {ve vp : Value} {t : TypeId} {fr : Nat × Nat} (h : w.heap[b]? = some (.cells (objC o ve vp).toArray t fr)) : w.cell? ⟨b, 0, none⟩ = some (.int .i64 o.kind) ∧ w.cell? ⟨b, 4, none⟩ = some vp := by
  constructor <;> simp [World.cell?, h, objC]
/-- What Descends keeps. -/
structure DesSt (w : World) (B gm : Nat) (D : DataW Unit) (seen work : List ByteArray) (vq : Value) : Prop where
  mp : ownsB w gm seen.length D
  rep : RepB D seen
  q : ownsT w B 9 vq work.length (svs work)
  bs : B ≤ gm ∧ B ≤ w.heap.size
  sz : smalls work
section
variable {w w' : World} {B gm : Nat} {D : DataW Unit} {seen work : List ByteArray} {vq : Value} {x : ByteArray}
theorem DesSt.below (h : DesSt w B gm D seen work vq) (hb : Below w.heap.size w w') : DesSt w' B gm D seen work vq :=
  ⟨ownsMap_blk h.mp (hb.block gm h.mp.lt), h.rep, h.q.below hb, ⟨h.bs.1, Nat.le_trans h.bs.2 hb.size⟩, h.sz⟩
theorem DesSt.cut {ao : Option Addr} {n cap : Nat} (h : DesSt w B gm D seen (x :: work) (.slice ao n cap)) (hn : n = work.length + 1) : DesSt w B gm D seen work (sliced ao 1 n cap 1) := by
  subst hn
  exact ⟨h.mp, h.rep, h.q.tail, h.bs, fun y hy => h.sz y (by simp [hy])⟩
theorem DesSt.put (h : DesSt w B gm D seen work vq) (hx : hasB seen x = false) (hm : ownsB w' gm (seen.length + 1) (D.put (keyB x) (.lit (.bool true)))) (hg : w.grownBy w' (some gm)) : DesSt w' B gm (D.put (keyB x) (.lit (.bool true))) (seen ++ [x]) work vq ∧ Below B w w' := by
  have hu : Upd (· = gm) w w' := ⟨hg.os, hg.tape, hg.output, hg.size, fun k hk hn => hg.block k hk (fun e => hn (by injection e))⟩
  refine ⟨⟨by rw [List.length_append]; exact hm, repB_put h.rep (h.mp.tidy lawS) x hx, h.q.kept hu (fun k cs hk _ e => ?_), ⟨h.bs.1, Nat.le_trans h.bs.2 hg.size⟩, h.sz⟩, hu.below h.bs.2 (fun k hk => by rw [hk]; exact h.bs.1)⟩
  obtain ⟨es, cl, hb, _⟩ := h.mp
  rw [e, hb] at hk; cases hk
theorem DesSt.app (h : DesSt w B gm D seen work vq) {ys : List ByteArray} {v' : Value} (ho : ownsT w' B 9 v' (work.length + ys.length) (svs work ++ svs ys)) (hu : Upd (fun k => B ≤ k ∧ ∃ cs, w.heap[k]? = some (.cells cs 9 (0, 0))) w w') (hy : smalls ys) : DesSt w' B gm D seen (work ++ ys) v' ∧ Below B w w' := by
  refine ⟨⟨ownsMap_blk h.mp (hu.block gm h.mp.lt (fun ⟨_, cs, hk⟩ => ?_)), h.rep, by rw [List.length_append, svs, List.map_append]; exact ho, ⟨h.bs.1, Nat.le_trans h.bs.2 hu.size⟩, fun s hs => (List.mem_append.1 hs).elim (h.sz s) (hy s)⟩, hu.below h.bs.2 (fun k hk => hk.1)⟩
  obtain ⟨es, cl, hb, _⟩ := h.mp
  rw [hb] at hk; cases hk
end
theorem svs_one5 {ss : List ByteArray} : ∀ y ∈ svs ss, y.oneCell' = true := by
  intro y hy
  obtain ⟨s, _, rfl⟩ := List.mem_map.1 hy
  rfl
def qLen : Value → Nat
  | .slice _ n _ => n
  | _ => 0
set_option maxRecDepth 100000 in
set_option maxHeartbeats 3200000 in
theorem descends_any (fid : FuncId) (caps : Array Value) (g : ByteArray → ByteArray × Int) (eg : ∀ args w, (callFunc fid args).run Tryd.prog w = .ok (.enter fid args) w) (id fr : ByteArray) (w : World) (hcl : GetOk fid caps w g) (hgs : ∀ x, (g x).1.size ≤ 140737488355328) (hid : id.size ≤ 140737488355328) :
    Calls Tryd.prog 25 #[.func (.func fid) #[] caps, .string id, .string fr] w fun e w' => e = .returned (.bool (desF g id fr)) ∧ Below w.heap.size w w' := by
  obtain ⟨F, hF⟩ : ∃ F, F = desF g id fr := ⟨_, rfl⟩
  rw [← hF]
  have HF := Lib.hid hF
  have HCL := Lib.hid hcl
  have HGS := Lib.hid hgs
  have hmm := @run_makeMap Tryd.prog
  obtain ⟨W, hW⟩ : ∃ W, (w.alloc (.map #[] 0)).alloc (.cells #[.string id] 9) = W := ⟨_, rfl⟩
  have hbW : Below w.heap.size w W := by rw [← hW]; exact ((Below.refl _ _).alloc (Nat.le_refl _) _).alloc (by simp) _
  have hq0 : W.ownsRow w.heap.size 9 1 (.slice (some ⟨w.heap.size + 1, 0, none⟩) 1 1) 1 [.string id] := by
    rw [← hW]
    have := owns_new (w.alloc (.map #[] 0)) id
    refine ⟨rfl, .inr ⟨w.heap.size + 1, 1, #[.string id], rfl, by omega, heap_new (by simp), Nat.le_refl _, by decide, rfl, rfl⟩⟩
  have hm0 : ownsB W w.heap.size 0 (.map []) := by
    rw [← hW]
    have h1 := World.ownsMap_made (H := Unit) w Tryd.prog 9 (plainElem Tryd.prog 4)
    exact h1.alloc _
  have HD0 := Lib.hid (show DesSt W w.heap.size w.heap.size (.map []) [] [id] (.slice (some ⟨w.heap.size + 1, 0, none⟩) 1 1) from ⟨hm0, repB_start, ownsT_of hq0, ⟨Nat.le_refl _, hbW.size⟩, fun s hs => by rw [List.mem_singleton.1 hs]; exact hid⟩)
  have HB0 := Lib.hid hbW
  clear hF hcl hgs hid hbW hq0 hm0
  go_enter Tryd.func25, Tryd.ntmps25
  go_wp2_with fail
  clear hmm
  obtain ⟨gm, hgm⟩ : ∃ gm, gm = w.heap.size := ⟨_, rfl⟩
  go_loopw [8] (fun vq wr => ∃ (seen work : List ByteArray) (D : DataW Unit) (n : Nat), Hid (DesSt wr w.heap.size w.heap.size D seen work vq) ∧ Hid (F = desG g fr n seen work) ∧ Hid (muD seen work < n) ∧ Hid (seen.length ≤ 400 ∧ n ≤ 2002) ∧ Hid (Below w.heap.size w wr)) (fun vq wr => (400 - mapLen wr w.heap.size) * 5 + qLen vq)
  case atStart => exact ⟨[], [id], .map [], 2002, HD0, HF, Lib.hid (by show (400 - 0) * 5 + 1 < 2002; decide), Lib.hid ⟨Nat.zero_le _, Nat.le_refl _⟩, HB0⟩
  case round =>
    clear HD0 HB0 hgm
    obtain ⟨seen, work, D, n, HDS, HFG, HMU, HSL, HB⟩ := hrel
    obtain ⟨m, rfl⟩ : ∃ m, n = m + 1 := ⟨n - 1, by have := HMU.out; omega⟩
    cases work with
    | nil =>
      obtain ⟨ao, cap, rfl⟩ := HDS.out.q.form
      have z1 : decide ((0 : Int) < ((0 : Nat) : Int)) = false := by decide
      have hF := HFG.out.trans (show desG g fr (m + 1) seen [] = false from rfl)
      subst hF
      go_wp2_with fail
      go_ret
      exact ⟨rfl, HB.out⟩
    | cons x rest =>
      obtain ⟨ao, cap, hv⟩ := HDS.out.q.form
      subst hv
      have hq := HDS.out.q
      obtain ⟨N, hN⟩ : ∃ N, N = rest.length + 1 := ⟨_, rfl⟩
      have HN := Lib.hid hN
      skip
      obtain ⟨gq, oq, hao, _, e0⟩ := ownsT.at (x := .string x) (xs := svs rest) hq
      subst hao
      have hlen := fun ty => HDS.out.mp.len Tryd.underlying94 ty
      rw [HDS.out.rep.siz] at hlen
      have hxs : x.size ≤ 140737488355328 := HDS.out.sz x (by simp)
      have HXS := Lib.hid hxs
      have hlook := look_bool HDS.out.mp HDS.out.rep x (by unfold maxLen; omega)
      have hkey : keyOf Tryd.prog 9 (.string x) = some (keyB x) := keyB_of x (by unfold maxLen; omega)
      have hcapN : rest.length + 1 ≤ cap := by
        obtain ⟨_, ⟨_, hv, hn⟩ | ⟨_, _, _, _, hv, _, _, hn, _⟩⟩ := hq
        · simp at hn
        · injection hv with _ _ hv; rw [hv]; simpa using hn
      have htail := fun wx => tailS_run wx (ao := some ⟨gq, oq, none⟩) (n := rest.length + 1) (cap := cap) (by omega) hcapN
      have hcut := HDS.out.cut (ao := some ⟨gq, oq, none⟩) (n := (x :: rest).length) (cap := cap) rfl
      obtain ⟨vt, hvt⟩ : ∃ vt, vt = sliced (some ⟨gq, oq, none⟩) 1 (rest.length + 1) cap 1 := ⟨_, rfl⟩
      simp only [List.length_cons] at hcut
      rw [← hvt] at hcut
      simp only [← hvt] at htail
      have HCU := Lib.hid hcut
      have HRB := Lib.hid (show rest.length ≤ 2002 by have := HMU.out; have := HSL.out.2; unfold muD at *; simp only [List.length_cons] at *; omega)
      have HSL2 := Lib.hid (show seen.length ≤ 400 ∧ m ≤ 2002 from ⟨HSL.out.1, by have := HSL.out.2; omega⟩)
      have z1 : decide ((0 : Int) < ((rest.length : Int) + 1)) = true := decide_eq_true (by omega)
      have z2 : (0 : Int) < (rest.length : Int) + 1 := by omega
      clear hq hcut hvt hcapN hxs hN HN N
      obtain ⟨a9, c9, hv9⟩ := HCU.out.q.form
      subst hv9
      by_cases h4 : 400 ≤ seen.length
      · have t1 : decide ((seen.length : Int) < 400) = false := decide_eq_false (by omega)
        have t2 : decide (seen.length < 400) = false := decide_eq_false (by omega)
        have hF := HFG.out.trans (show desG g fr (m + 1) seen (x :: rest) = false by unfold desG; rw [if_pos h4])
        subst hF
        clear h4
        go_wp2_with fail
        go_ret
        exact ⟨rfl, HB.out⟩
      · have t1 : decide ((seen.length : Int) < 400) = true := decide_eq_true (by omega)
        have t2 : decide (seen.length < 400) = true := decide_eq_true (by omega)
        have H4 := Lib.hid h4
        clear h4
        by_cases hxf : x = fr
        · have q1 : (x.toList == fr.toList) = true := by rw [hxf]; exact beq_yes _
          have hF := HFG.out.trans (show desG g fr (m + 1) seen (x :: rest) = true by unfold desG; rw [if_neg H4.out, if_pos hxf])
          subst hF
          clear hxf
          go_wp2_with fail
          go_ret
          exact ⟨rfl, HB.out⟩
        · have q1 : (x.toList == fr.toList) = false := beq_no hxf
          have HXF := Lib.hid hxf
          clear hxf
          obtain ⟨hs, hhs⟩ : ∃ hs, hs = hasB seen x := ⟨_, rfl⟩
          rw [← hhs] at hlook
          have HHS := Lib.hid hhs.symm
          clear hhs
          cases hs with
          | true =>
            have HFN := Lib.hid (HFG.out.trans (show desG g fr (m + 1) seen (x :: rest) = desG g fr m seen rest by rw [desG, if_neg H4.out, if_neg HXF.out, if_pos HHS.out]))
            have HMN := Lib.hid (show muD seen rest < m by have := HMU.out; unfold muD at this ⊢; simp only [List.length_cons] at this; omega)
            go_wp2_with fail
            exact ⟨⟨seen, rest, D, m, HCU, HFN, HMN, HSL2, HB⟩, by show _ + qLen _ < _ + qLen _; simp only [qLen, List.length_cons]; omega⟩
          | false =>
            have HFN0 := Lib.hid (HFG.out.trans (show desG g fr (m + 1) seen (x :: rest) = desG g fr m (seen ++ [x]) (rest ++ kids g x) by rw [desG, if_neg H4.out, if_neg HXF.out, if_neg (by rw [HHS.out]; decide)]))
            have HMN0 := Lib.hid (show muD (seen ++ [x]) (rest ++ kids g x) < m by have := HMU.out; have := H4.out; have := kids_len g x; unfold muD at *; simp only [List.length_cons, List.length_append, List.length_nil] at *; omega)
            have HSN := Lib.hid (show (seen ++ [x]).length ≤ 400 ∧ m ≤ 2002 from ⟨by have := H4.out; simp only [List.length_append, List.length_cons, List.length_nil]; omega, HSL2.out.2⟩)
            have HML := Lib.hid (mapLen_eq HDS.out.mp HDS.out.rep)
            have hnm : seen.length < maxLen := by have := H4.out; unfold maxLen; omega
            obtain ⟨⟨s, e⟩, hg⟩ : ∃ q, q = g x := ⟨_, rfl⟩
            have HG := Lib.hid hg.symm
            have HSZ := Lib.hid (show s.size ≤ 140737488355328 by have := HGS.out x; rw [← hg] at this; exact this)
            clear hg
            go_wp2_with (first | (at_mapUpdate; refine wpList_mapUpdate_own _ rfl _ _ _ 94 rfl 9 4 lawS Tryd.underlying94 _ w.heap.size seen.length D rfl HCU.out.mp hnm _ _ _ rfl rfl hkey _ [] (plainElem_bool Tryd.underlying4 true) ?_; intro w2 hown2 hgrow2; obtain ⟨hd2, hb2⟩ := HCU.out.put HHS.out hown2 hgrow2; have HD2 := Lib.hid hd2; have HB2 := Lib.hid (HB.out.trans hb2); clear hown2 hgrow2 hd2 hb2 e0 hlen hlook htail hkey hnm))
            have hcall := HCL.out w2 x HB2.out HXS.out
            rw [HG.out] at hcall
            have HC := Lib.hid hcall
            clear hcall
            (with_reducible refine HC.out.mono ?_)
            rintro e3 w3 ⟨rfl, hb⟩
            have HD3 := Lib.hid (HD2.out.below hb)
            have HB3 := Lib.hid (HB2.out.trans (hb.mono HB2.out.size))
            clear HC hb
            by_cases he : e = 0
            · subst he
              have HDEC := Lib.hid (decode_any s w3 (by have := HSZ.out; omega))
              obtain ⟨⟨o, ed⟩, hq⟩ : ∃ q, q = decodeF s := ⟨_, rfl⟩
              rw [← hq] at HDEC
              have HED := Lib.hid hq.symm
              clear hq
              go_wp2_with fail
              (with_reducible refine HDEC.out.mono ?_)
              rintro e4 w4 ⟨ve, vp, rfl, re, rs, hb⟩
              have HD4 := Lib.hid (HD3.out.below hb)
              have HB4 := Lib.hid (HB3.out.trans (hb.mono HB3.out.size))
              have RP4 := Lib.hid rs
              obtain ⟨C, hC⟩ : ∃ C : Array Value, C = (objC o ve vp).toArray := ⟨_, rfl⟩
              have hsz : C.size = 9 := by rw [hC]; rfl
              have hone : C.all (·.oneCell') = true := by rw [hC]; exact objC_one re rs
              rw [← hC]
              have HCC := Lib.hid hC
              clear hC re rs hb HDEC
              by_cases hz : ed = 0
              · subst hz
                by_cases hk3 : o.kind = 3
                · have HK := Lib.hid (show kids g x = o.pars by rw [kids_good (by rw [HG.out]; dsimp only; rw [HED.out]; exact ⟨rfl, rfl, hk3⟩), HG.out]; dsimp only; rw [HED.out])
                  have hp4 := kids_len g x
                  have HSP := Lib.hid (show smalls o.pars from fun y hy => by rw [← HK.out] at hy; rw [kids_32 hy]; decide)
                  rw [HK.out] at HFN0 HMN0 hp4
                  have n1 : (o.kind == 3) = true := beq_iff_eq.2 hk3
                  have HP4 := Lib.hid hp4
                  skip
                  clear hk3
                  obtain ⟨a8, c8, hv8⟩ := rd_form RP4.out
                  subst hv8
                  have hby : (rest.length + o.pars.length) * 16 ≤ 140737488355328 := by have := HRB.out; have := HP4.out; omega
                  go_wp2_with (first | (refine wpList_store_blk (by rfl) 54 (.tmp 12) (.tmp 49) rfl w4.heap.size C rfl rfl (old := _) (heap_alloc_new _ _) (by rw [hsz]; exact info_ob) (by rw [hsz]; rfl) hone ?_; intro w5 gy uy; have hbz := below_upd ((Below.refl w4.heap.size w4).alloc (Nat.le_refl _) _) uy (Nat.le_refl _) (by simp); have HB5 := Lib.hid (HB4.out.trans (hbz.mono HB4.out.size)); have HD5 := Lib.hid (HD4.out.below hbz); have RP5 := Lib.hid (RP4.out.below hbz); have hgy := gy; rw [HCC.out] at hgy; obtain ⟨d0, d4⟩ := obC_cells hgy; clear gy hgy uy hbz) | (at_builtin; (refine wpList_append_T (base := w.heap.size) (by rfl) _ _ 22 rfl info_string Tryd.underlying22 rfl HD5.out.q RP5.out svs_one5 hby (by unfold maxLen; omega) HD5.out.bs.2 rfl rfl ?_; intro v6 w6 ho6 hu6; obtain ⟨hd6, hb6⟩ := HD5.out.app ho6 hu6 HSP.out; have HD6 := Lib.hid hd6; have HB6 := Lib.hid (HB5.out.trans hb6); clear ho6 hu6 hd6 hb6)))
                  obtain ⟨a7, c7, hv7⟩ := HD6.out.q.form
                  exact ⟨⟨seen ++ [x], rest ++ o.pars, _, m, HD6, HFN0, HMN0, HSN, HB6⟩, by rw [mapLen_eq HD6.out.mp HD6.out.rep, HML.out]; subst hv7; show _ + qLen _ < _ + qLen _; have := H4.out; have := HP4.out; simp only [qLen, List.length_append, List.length_cons, List.length_nil]; omega⟩
                · have HK := Lib.hid (show kids g x = [] from kids_none (by rw [HG.out]; dsimp only; rw [HED.out]; exact fun h => hk3 h.2.2))
                  rw [HK.out, List.append_nil] at HFN0 HMN0
                  have HFN := HFN0
                  have HMN := HMN0
                  have n1 : (o.kind == 3) = false := beq_eq_false_iff_ne.2 hk3
                  clear hk3
                  go_wp2_with (refine wpList_store_blk (by rfl) 54 (.tmp 12) (.tmp 49) rfl w4.heap.size C rfl rfl (old := _) (heap_alloc_new _ _) (by rw [hsz]; exact info_ob) (by rw [hsz]; rfl) hone ?_; intro w5 gy uy; have hbz := below_upd ((Below.refl w4.heap.size w4).alloc (Nat.le_refl _) _) uy (Nat.le_refl _) (by simp); have HB5 := Lib.hid (HB4.out.trans (hbz.mono HB4.out.size)); have HD5 := Lib.hid (HD4.out.below hbz); have RP5 := Lib.hid (RP4.out.below hbz); have hgy := gy; rw [HCC.out] at hgy; obtain ⟨d0, d4⟩ := obC_cells hgy; clear gy hgy uy hbz)
                  exact ⟨⟨seen ++ [x], rest, _, m, HD5, HFN, HMN, HSN, HB5⟩, by rw [mapLen_eq HD5.out.mp HD5.out.rep, HML.out]; show _ + qLen _ < _ + qLen _; have := H4.out; simp only [qLen, List.length_append, List.length_cons, List.length_nil]; omega⟩
              · have HK := Lib.hid (show kids g x = [] from kids_none (by rw [HG.out]; dsimp only; rw [HED.out]; exact fun h => hz h.2.1))
                rw [HK.out, List.append_nil] at HFN0 HMN0
                have HFN := HFN0
                have HMN := HMN0
                have n1 : (ed == 0) = false := beq_eq_false_iff_ne.2 hz
                have n2 : (ed != 0) = true := by rw [bne, n1]; rfl
                clear hz
                go_wp2_with (refine wpList_store_blk (by rfl) 54 (.tmp 12) (.tmp 49) rfl w4.heap.size C rfl rfl (old := _) (heap_alloc_new _ _) (by rw [hsz]; exact info_ob) (by rw [hsz]; rfl) hone ?_; intro w5 gy uy; have hbz := below_upd ((Below.refl w4.heap.size w4).alloc (Nat.le_refl _) _) uy (Nat.le_refl _) (by simp); have HB5 := Lib.hid (HB4.out.trans (hbz.mono HB4.out.size)); have HD5 := Lib.hid (HD4.out.below hbz); have RP5 := Lib.hid (RP4.out.below hbz); have hgy := gy; rw [HCC.out] at hgy; obtain ⟨d0, d4⟩ := obC_cells hgy; clear gy hgy uy hbz)
                exact ⟨⟨seen ++ [x], rest, _, m, HD5, HFN, HMN, HSN, HB5⟩, by rw [mapLen_eq HD5.out.mp HD5.out.rep, HML.out]; show _ + qLen _ < _ + qLen _; have := H4.out; simp only [qLen, List.length_append, List.length_cons, List.length_nil]; omega⟩
            · have HK := Lib.hid (show kids g x = [] from kids_none (by rw [HG.out]; exact fun h => he h.1))
              rw [HK.out, List.append_nil] at HFN0 HMN0
              have HFN := HFN0
              have HMN := HMN0
              have n1 : (e == 0) = false := beq_eq_false_iff_ne.2 he
              have n2 : (e != 0) = true := by rw [bne, n1]; rfl
              clear he
              go_wp2_with fail
              exact ⟨⟨seen ++ [x], rest, _, m, HD3, HFN, HMN, HSN, HB3⟩, by rw [mapLen_eq HD3.out.mp HD3.out.rep, HML.out]; show _ + qLen _ < _ + qLen _; have := H4.out; simp only [qLen, List.length_append, List.length_cons, List.length_nil]; omega⟩
end Go.Proofs.YtalkheljejkpiaaDoor
