/- Steps in cells of their own; the walk of the keep's steps. -/
import Derived.Test.YtinhjnbgblieeaaDoorStep5
import Derived.Test.YtinhjnbgblieeaaDoorSumSealed
namespace Go.Proofs.YtinhjnbgblieeaaDoor
open Go.RowKit
set_option linter.unusedVariables false
set_option linter.unusedSimpArgs false

theorem own_store {w w' : World} {base g : Nat} {e t : TypeId} {size : Nat} {v : Value} {n : Nat} {xs : List Value} {cs : Array Value} {fr : Nat × Nat} (h : w.ownsRow base e size v n xs) (hu : Upd (· = g) w w') (hg : w.heap[g]? = some (.cells cs t fr)) (hne : e ≠ t) : w'.ownsRow base e size v n xs := by
  refine ⟨h.1, ?_⟩
  rcases h.2 with h | ⟨b, cap, cur, rfl, hbg, hb, r⟩
  · exact .inl h
  · refine .inr ⟨b, cap, cur, rfl, hbg, ?_, r⟩
    have hn : b ≠ g := fun k => by subst k; rw [hg] at hb; injection hb with hb; injection hb with h1 h2; exact hne h2.symm
    rw [hu.block b (Array.getElem?_eq_some_iff.1 hb).1 hn]
    exact hb
/-- A step in a block of its own, its rows in memory from base on. -/
structure StpOwn (w : World) (base g : Nat) (s : Stp) (vw vs : Value) : Prop where
  blk : w.heap[g]? = some (.cells #[.string s.ref, .string s.old, .string s.new, vw, vs] 25 (0, 0))
  ow : w.ownsRow base 3 1 vw s.who.length (ivs s.who)
  os : w.ownsRow base 9 1 vs s.seals.length (svs s.seals)
theorem StpOwn.below {w w' : World} {base g : Nat} {s : Stp} {vw vs : Value} (h : StpOwn w base g s vw vs) (hb : Below w.heap.size w w') : StpOwn w' base g s vw vs :=
  ⟨blk_below h.blk hb, owns_below h.ow hb, owns_below h.os hb⟩
theorem StpOwn.upd {w w' : World} {base g k : Nat} {s : Stp} {vw vs : Value} {cs : Array Value} {fr : Nat × Nat} (h : StpOwn w base g s vw vs) (hu : Upd (· = k) w w') (hk : w.heap[k]? = some (.cells cs 25 fr)) (hn : g ≠ k) : StpOwn w' base g s vw vs :=
  ⟨blk_upd h.blk hu hn, own_store h.ow hu hk (by decide), own_store h.os hu hk (by decide)⟩
theorem rdS_two {w : World} {n : Nat} {x y : ByteArray} (h : w.heap[n]? = some (.cells #[.string x, .string y] 9 (0, 0))) : rdS w (.slice (some ⟨n, 0, none⟩) 2 2) [x, y] := by
  refine ⟨rfl, some ⟨n, 0, none⟩, 2, rfl, Nat.le_refl _, by decide, (fun h => by cases h), fun b hb j u hu => ?_⟩
  obtain rfl := Option.some.inj hb
  have hj : j < 2 := by have := (List.getElem?_eq_some_iff.1 hu).1; simpa [svs] using this
  match j, hj with
  | 0, _ =>
    have : u = .string x := by simpa [svs] using hu.symm
    subst this
    simp [World.cell?, Addr.add, h]
  | 1, _ =>
    have : u = .string y := by simpa [svs] using hu.symm
    subst this
    simp [World.cell?, Addr.add, h]
def stp0 : Stp := ⟨⟨#[97]⟩, ⟨#[]⟩, ⟨#[48, 49, 50, 51, 52, 53, 54, 55, 56, 57, 97, 98, 99, 100, 101, 102, 48, 49, 50, 51, 52, 53, 54, 55, 56, 57, 97, 98, 99, 100, 101, 102]⟩, [], []⟩
def bdy0 : ByteArray := bodyB 0 stp0
def stp1 : Stp := ⟨⟨#[97]⟩, ⟨#[]⟩, ⟨#[48, 49, 50, 51, 52, 53, 54, 55, 56, 57, 97, 98, 99, 100, 101, 102, 48, 49, 50, 51, 52, 53, 54, 55, 56, 57, 97, 98, 99, 100, 101, 102]⟩, [1], [sealF ⟨#[107]⟩ bdy0]⟩
theorem head0 : headOk stp0 = true := by kernel_rfl
theorem goodP_nil : GoodP [] := ⟨List.Pairwise.nil, by simp, by simp⟩
theorem sign0 : signF sealF stp0 0 1 ⟨#[107]⟩ = (stp1, 0) :=
  sign_good sealF head0 goodP_nil ⟨#[107]⟩ (by omega) (by omega)
theorem check0 : checkF sealF [⟨#[]⟩, ⟨#[107]⟩] 1 0 stp1 = 0 := by
  have h := check_rows sealF (signers := [⟨#[]⟩, ⟨#[107]⟩]) (need := 1) (at_ := 0) head0 (P := [(1, sealF ⟨#[107]⟩ bdy0)])
    (goodP_nil.ins (p := (1, sealF ⟨#[107]⟩ bdy0)) (by decide) (sealF_size _ _) (fun _ h => by cases h)) (by omega)
    (fun p hp => by obtain rfl := List.mem_singleton.1 hp; exact ⟨by decide, rfl⟩)
  exact h
set_option maxRecDepth 100000 in
set_option maxHeartbeats 3200000 in
theorem steps_any (w : World) (ht : Tab w) : Calls Tryd.prog 12 #[] w fun e w' => e = .returned (.bool true) ∧ Below w.heap.size w w' := by
  have HT := Lib.hid ht
  clear ht
  have hsg := signStp_any stp0 0 1 ⟨#[107]⟩ (.slice none 0 0) (.slice none 0 0) w (rdI_nil _) (rdS_nil0 _) (by decide) HT.out
  rw [sign0] at hsg
  have HSG := Lib.hid hsg
  clear hsg
  go_enter Tryd.func12, Tryd.ntmps12
  go_wp2_with fail
  refine HSG.out.mono ?_
  rintro e w1 ⟨uw, us, rfl, how, hos, hb⟩
  clear HSG
  have HB1 := Lib.hid hb
  obtain ⟨aw, cw, rfl⟩ := rd_form (rdRow_of_owns (show w1.ownsRow w.heap.size 3 1 uw 1 (ivs stp1.who) from how))
  obtain ⟨as_, cs_, rfl⟩ := rd_form (rdRow_of_owns (show w1.ownsRow w.heap.size 9 1 us 1 (svs stp1.seals) from hos))
  have HOW := Lib.hid how
  have HOS := Lib.hid hos
  clear how hos hb
  have e0 : ((1 : Int) == 1) = true := rfl
  go_wp2_with (refine wpList_store_blk (by rfl) 25 (.tmp 1) (.tmp 6) rfl w1.heap.size #[.string stp1.ref, .string stp1.old, .string stp1.new, .slice aw 1 cw, .slice as_ 1 cs_] rfl rfl (old := _) (heap_alloc_new _ _) (by kernel_rfl) rfl (by simp [Value.oneCell']) ?_; intro wz hgz huz; have HBZ := Lib.hid (below_upd ((Below.refl w1.heap.size w1).alloc (Nat.le_refl _) _) huz (Nat.le_refl _) (by simp)); obtain ⟨c0, c1, c2, c3, c4, _, _⟩ := stp_cells hgz; clear huz; obtain ⟨k0, k1, k2, k3, k4, _, _⟩ := stp_cells (blk_below hgz ((Below.refl wz.heap.size wz).alloc (Nat.le_refl _) (.cells #[.string ⟨#[]⟩, .string ⟨#[107]⟩] 9))))
  have HZ := Lib.hid (fun wr (h : Below w1.heap.size w1 wr) => HB1.out.trans (h.mono HB1.out.size))
  have hba := HBZ.out.alloc HBZ.out.size (.cells #[.string ⟨#[]⟩, .string ⟨#[107]⟩] 9)
  have HBA := Lib.hid hba
  have hck := checkStp_any [⟨#[]⟩, ⟨#[107]⟩] [] 1 0 stp1 _ (.slice none 0 0) (.slice aw 1 cw) (.slice as_ 1 cs_) _ (rdS_two (heap_alloc_new wz (.cells #[.string ⟨#[]⟩, .string ⟨#[107]⟩] 9))) (rdS_nil0 _) ((rdI_owns HOW.out).below HBA.out) ((rdS_owns HOS.out).below HBA.out) (fun n hn => by match n, hn with | 0, _ => decide | 1, _ => decide) (HT.out.below (HZ.out _ HBA.out))
  rw [check0] at hck
  refine hck.mono ?_
  rintro e w5 ⟨rfl, hb⟩
  have HB5 := Lib.hid (HBA.out.trans (hb.mono HBA.out.size))
  clear hb hba hck c0 c1 c2 c3 c4 k0 k1 k2 k3 k4
  go_wp2_with fail
  go_ret
  exact ⟨rfl, HZ.out _ HB5.out⟩
end Go.Proofs.YtinhjnbgblieeaaDoor
