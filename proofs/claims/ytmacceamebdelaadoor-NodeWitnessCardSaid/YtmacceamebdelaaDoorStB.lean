/- Texts put together: Step4 Step5 Step6 StepEnc Step7 Step8 Stps. -/
import Derived.Test.YtmacceamebdelaaDoorStA
import Derived.Test.YtmacceamebdelaaDoorSha
import Derived.Test.YtmacceamebdelaaDoorBas
/-! Step4 -/
namespace Go.Proofs.YtmacceamebdelaaDoor
open Go.RowKit
set_option linter.unusedVariables false
set_option linter.unusedSimpArgs false

theorem goodS_who {s : Stp} (h : goodS s = 0) (j : Nat) (hj : j < s.who.length) : ∃ n : Nat, n < 8 ∧ s.who.getD j 0 = (n : Int) := by
  obtain ⟨hh, P, hP, hs⟩ := goodS_inv h
  have e : s.who = P.map Prod.fst := congrArg Stp.who hs
  rw [e] at hj ⊢
  have hj' : j < P.length := by simpa using hj
  rw [getD_map _ _ _ _ hj']
  have := hP.rng P[j] (List.getElem_mem hj')
  exact ⟨P[j].1.toNat, by omega, by omega⟩
section
variable {sl : ByteArray → ByteArray → ByteArray} {sg : List ByteArray} {bd : ByteArray} {s : Stp} {k n : Nat} {need at_ : Int}
theorem rowC_z (h : s.who.getD k 0 = (n : Int)) (h1 : n < sg.length) (h2 : sl (sg.getD n noB) bd = s.seals.getD k noB) : rowC sl sg bd s k = 0 := by
  unfold rowC
  rw [h, if_neg]
  rintro (e | e)
  · omega
  · exact e (by simpa using h2)
theorem rowC_t (h : s.who.getD k 0 = (n : Int)) (h2 : sl (sg.getD n noB) bd ≠ s.seals.getD k noB) : rowC sl sg bd s k = 13 := by
  unfold rowC
  rw [h, if_pos (.inr (by simpa using h2))]
theorem checkF_1 (h : goodS s ≠ 0) : checkF sl sg need at_ s = goodS s := by unfold checkF; rw [if_pos h]
theorem checkF_2 (h : goodS s = 0) (h2 : (bodyF at_ s).2 ≠ 0) : checkF sl sg need at_ s = (bodyF at_ s).2 := by unfold checkF; rw [if_neg (fun k => k h), if_pos h2]
theorem checkF_3 (h : goodS s = 0) (h2 : (bodyF at_ s).2 = 0) (hk : k < s.who.length) (ha : ∀ j, j < k → rowC sl sg (bodyF at_ s).1 s j = 0) (h13 : rowC sl sg (bodyF at_ s).1 s k = 13) : checkF sl sg need at_ s = 13 := by
  have he := firstE_at (f := rowC sl sg (bodyF at_ s).1 s) (k := k) (by rw [h13]; decide) (k0 := 0) (c := s.who.length) (Nat.zero_le _) (by omega) (fun j _ hj => ha j hj)
  unfold checkF; rw [if_neg (fun k => k h), if_neg (fun k => k h2), if_pos (by rw [he, h13]; decide), he, h13]
theorem checkF_4 (h : goodS s = 0) (h2 : (bodyF at_ s).2 = 0) (ha : ∀ j, j < s.who.length → rowC sl sg (bodyF at_ s).1 s j = 0) : checkF sl sg need at_ s = if (s.who.length : Int) < need then 13 else 0 := by
  have he := firstE_all (f := rowC sl sg (bodyF at_ s).1 s) (k0 := 0) (c := s.who.length) (fun j _ hj => ha j (by omega))
  unfold checkF; rw [if_neg (fun k => k h), if_neg (fun k => k h2), if_neg (fun k => k he)]
end
end Go.Proofs.YtmacceamebdelaaDoor
/-! Step5 -/
namespace Go.Proofs.YtmacceamebdelaaDoor
open Go.RowKit
set_option linter.unusedVariables false
set_option linter.unusedSimpArgs false

theorem stp_ext {a b : Stp} (h0 : a.ref = b.ref) (h1 : a.old = b.old) (h2 : a.new = b.new) (h3 : a.who = b.who) (h4 : a.seals = b.seals) : a = b := by
  cases a; cases b
  simp only at h0 h1 h2 h3 h4
  subst h0 h1 h2 h3 h4
  rfl
theorem eq_of_getI {ss tt : List Int} (hl : ss.length = tt.length) (h : ∀ j, j < ss.length → ss.getD j 0 = tt.getD j 0) : ss = tt := by
  apply List.ext_getElem hl
  intro i h1 h2
  have := h i h1
  rwa [List.getD, List.getD, List.getElem?_eq_getElem h1, List.getElem?_eq_getElem h2] at this
end Go.Proofs.YtmacceamebdelaaDoor
/-! Step6 -/
namespace Go.Proofs.YtmacceamebdelaaDoor
open Go.RowKit
set_option linter.unusedVariables false
set_option linter.unusedSimpArgs false

theorem own_store {w w' : World} {base g : Nat} {e t : TypeId} {size : Nat} {v : Value} {n : Nat} {xs : List Value} {cs : Array Value} {fr : Nat × Nat} (h : w.ownsRow base e size v n xs) (hu : Upd (· = g) w w') (hg : w.heap[g]? = some (.cells cs t fr)) (hne : e ≠ t) : w'.ownsRow base e size v n xs := by
  refine ⟨h.1, ?_⟩
  rcases h.2 with h | ⟨b, cap, cur, rfl, hbg, hb, r⟩
  · exact .inl h
  · refine .inr ⟨b, cap, cur, rfl, hbg, ?_, r⟩
    have hn : b ≠ g := fun k => by subst k; rw [hg] at hb; injection hb with hb; injection hb with h1 h2; exact hne h2.symm
    rw [hu.block b (Array.getElem?_eq_some_iff.1 hb).1 hn]
    exact hb
/-- A step in a block of its own, its rows in memory from base on. -/
structure StpOwn (w : World) (base g : Nat) (s : Stp) (vw vs : Value) : Prop where
  blk : w.heap[g]? = some (.cells #[.string s.ref, .string s.old, .string s.new, vw, vs] 141 (0, 0))
  ow : w.ownsRow base 3 1 vw s.who.length (ivs s.who)
  os : w.ownsRow base 9 1 vs s.seals.length (svs s.seals)
theorem StpOwn.below {w w' : World} {base g : Nat} {s : Stp} {vw vs : Value} (h : StpOwn w base g s vw vs) (hb : Below w.heap.size w w') : StpOwn w' base g s vw vs :=
  ⟨blk_below h.blk hb, owns_below h.ow hb, owns_below h.os hb⟩
theorem StpOwn.upd {w w' : World} {base g k : Nat} {s : Stp} {vw vs : Value} {cs : Array Value} {fr : Nat × Nat} (h : StpOwn w base g s vw vs) (hu : Upd (· = k) w w') (hk : w.heap[k]? = some (.cells cs 141 fr)) (hn : g ≠ k) : StpOwn w' base g s vw vs :=
  ⟨blk_upd h.blk hu hn, own_store h.ow hu hk (by decide), own_store h.os hu hk (by decide)⟩
theorem rdS_two {w : World} {n : Nat} {x y : ByteArray} (h : w.heap[n]? = some (.cells #[.string x, .string y] 9 (0, 0))) : rdS w (.slice (some ⟨n, 0, none⟩) 2 2) [x, y] := by
  refine ⟨rfl, some ⟨n, 0, none⟩, 2, rfl, Nat.le_refl _, by decide, (fun h => by cases h), fun b hb j u hu => ?_⟩
  obtain rfl := Option.some.inj hb
  have hj : j < 2 := by have := (List.getElem?_eq_some_iff.1 hu).1; simpa [svs] using this
  match j, hj with
  | 0, _ =>
    have : u = .string x := by simpa [svs] using hu.symm
    subst this
    simp [World.cell?, Addr.add, h]
  | 1, _ =>
    have : u = .string y := by simpa [svs] using hu.symm
    subst this
    simp [World.cell?, Addr.add, h]
def stp0 : Stp := ⟨⟨#[97]⟩, ⟨#[]⟩, ⟨#[48, 49, 50, 51, 52, 53, 54, 55, 56, 57, 97, 98, 99, 100, 101, 102, 48, 49, 50, 51, 52, 53, 54, 55, 56, 57, 97, 98, 99, 100, 101, 102]⟩, [], []⟩
def bdy0 : ByteArray := bodyB 0 stp0
def stp1 : Stp := ⟨⟨#[97]⟩, ⟨#[]⟩, ⟨#[48, 49, 50, 51, 52, 53, 54, 55, 56, 57, 97, 98, 99, 100, 101, 102, 48, 49, 50, 51, 52, 53, 54, 55, 56, 57, 97, 98, 99, 100, 101, 102]⟩, [1], [sealF ⟨#[107]⟩ bdy0]⟩
theorem head0 : headOk stp0 = true := by kernel_rfl
theorem goodP_nil : GoodP [] := ⟨List.Pairwise.nil, by simp, by simp⟩
theorem sign0 : signF sealF stp0 0 1 ⟨#[107]⟩ = (stp1, 0) :=
  sign_good sealF head0 goodP_nil ⟨#[107]⟩ (by omega) (by omega)
theorem check0 : checkF sealF [⟨#[]⟩, ⟨#[107]⟩] 1 0 stp1 = 0 := by
  have h := check_rows sealF (signers := [⟨#[]⟩, ⟨#[107]⟩]) (need := 1) (at_ := 0) head0 (P := [(1, sealF ⟨#[107]⟩ bdy0)])
    (goodP_nil.ins (p := (1, sealF ⟨#[107]⟩ bdy0)) (by decide) (sealF_size _ _) (fun _ h => by cases h)) (by omega)
    (fun p hp => by obtain rfl := List.mem_singleton.1 hp; exact ⟨by decide, rfl⟩)
  exact h
end Go.Proofs.YtmacceamebdelaaDoor
/-! StepEnc -/
namespace Go.Proofs.YtmacceamebdelaaDoor
set_option linter.unusedVariables false
set_option linter.unusedSimpArgs false

def encPP (P : List (Int × ByteArray)) : List UInt8 := P.flatMap fun p => enc p.1.toNat ++ p.2.data.toList
def encS (s : Stp) : List UInt8 := encT s.ref ++ (encT s.old ++ (encT s.new ++ (enc s.who.length ++ encPP (s.who.zip s.seals))))
def encodeSF (s : Stp) : ByteArray × Int := if goodS s ≠ 0 then (noB, goodS s) else (⟨(encS s).toArray⟩, 0)
def rowsD : Nat → ByteArray × Int → List (Int × ByteArray) → List (Int × ByteArray) × (ByteArray × Int)
  | 0, st, l => (l, st)
  | n + 1, st, l => if st.2 ≠ 0 then (l, st) else rowsD n (rByt (rNum st).2 32).2 (l ++ [(((rNum st).1 : Int), (rByt (rNum st).2 32).1)])
def dA (b : ByteArray) : ByteArray × (ByteArray × Int) := rTxt (b, 0)
def dB (b : ByteArray) : ByteArray × (ByteArray × Int) := rTxt (dA b).2
def dC (b : ByteArray) : ByteArray × (ByteArray × Int) := rTxt (dB b).2
def dN (b : ByteArray) : Nat × (ByteArray × Int) := rNum (dC b).2
def dR (b : ByteArray) : List (Int × ByteArray) × (ByteArray × Int) := rowsD (dN b).1 (dN b).2 []
def dS (b : ByteArray) : Stp := ⟨(dA b).1, (dB b).1, (dC b).1, (dR b).1.map Prod.fst, (dR b).1.map Prod.snd⟩
def decodeSF (b : ByteArray) : Stp × Int :=
  if (dR b).2.2 ≠ 0 ∨ 0 < (dR b).2.1.size then (zeroStp, 2) else if goodS (dS b) ≠ 0 then (zeroStp, goodS (dS b)) else (dS b, 0)

theorem rowsD_fwd : ∀ (P : List (Int × ByteArray)) (s : ByteArray) (l : List (Int × ByteArray)) (y : List UInt8), (∀ p ∈ P, (0 ≤ p.1 ∧ p.1 < 4611686018427387904) ∧ p.2.size = 32) → s.data.toList = encPP P ++ y →
    ∃ s', rowsD P.length (s, 0) l = (l ++ P, (s', 0)) ∧ s'.data.toList = y
  | [], s, l, y, _, hs => ⟨s, by simp [rowsD], by simpa [encPP] using hs⟩
  | (n, x) :: P, s, l, y, hx, hs => by
    obtain ⟨⟨h0, h1⟩, h2⟩ := hx (n, x) (by simp)
    simp only at h0 h1 h2
    have e : s.data.toList = enc n.toNat ++ (x.data.toList ++ (encPP P ++ y)) := by rw [hs]; simp [encPP]
    obtain ⟨s2, a2, e2⟩ := rNum_fwd (by omega) e
    obtain ⟨s3, a3, e3⟩ := rByt_fwd h2 e2
    obtain ⟨s4, h4, e4⟩ := rowsD_fwd P s3 (l ++ [(n, x)]) y (fun z hz => hx z (by simp [hz])) e3
    refine ⟨s4, ?_, e4⟩
    rw [List.length_cons, rowsD, if_neg (by simp), a2]
    simp only
    rw [a3]
    simp only
    rw [show ((n.toNat : Nat) : Int) = n by omega, h4]
    simp
theorem rowsD_ok : ∀ (n : Nat) (st : ByteArray × Int) (l : List (Int × ByteArray)), (rowsD n st l).2.2 = 0 → st.2 = 0
  | 0, st, l, h0 => h0
  | n + 1, st, l, h0 => by
    apply Classical.byContradiction; intro he
    rw [rowsD, if_pos he] at h0
    exact he h0
theorem rowsD_bwd : ∀ (n : Nat) (s : ByteArray) (l : List (Int × ByteArray)), (rowsD n (s, 0) l).2.2 = 0 → ∃ l2, (rowsD n (s, 0) l).1 = l ++ l2 ∧ l2.length = n ∧ s.data.toList = encPP l2 ++ (rowsD n (s, 0) l).2.1.data.toList
  | 0, s, l, h0 => ⟨[], by simp [rowsD], rfl, by simp [encPP, rowsD]⟩
  | n + 1, s, l, h0 => by
    rw [rowsD, if_neg (by simp)] at h0 ⊢
    have k3 := rowsD_ok n _ _ h0
    have k2 := rByt_ok k3
    have b2 := rNum_bwd k2
    rw [pair0 k2] at k3 h0 ⊢
    have b3 := rByt_bwd k3
    rw [pair0 k3] at h0 ⊢
    obtain ⟨l2, e1, e2, e3⟩ := rowsD_bwd n _ _ h0
    refine ⟨(((rNum (s, 0)).1 : Int), (rByt ((rNum (s, 0)).2.1, 0) 32).1) :: l2, by rw [e1]; simp, by rw [List.length_cons, e2], ?_⟩
    rw [show encPP ((((rNum (s, 0)).1 : Int), (rByt ((rNum (s, 0)).2.1, 0) 32).1) :: l2) = enc (rNum (s, 0)).1 ++ ((rByt ((rNum (s, 0)).2.1, 0) 32).1.data.toList ++ encPP l2) by simp [encPP]]
    rw [b2.1, b3.1, e3]
    simp only [List.append_assoc]
theorem zip_stp (s : Stp) (P : List (Int × ByteArray)) : (stpOf s P).who.zip (stpOf s P).seals = P := by
  unfold stpOf
  simp only
  rw [← List.unzip_fst, ← List.unzip_snd]
  exact List.zip_unzip P
theorem dec_fwd {s : Stp} (h : goodS s = 0) {b : ByteArray} {y : List UInt8} (hb : b.data.toList = encS s ++ y) : dS b = s ∧ (dR b).2.2 = 0 ∧ (dR b).2.1.data.toList = y := by
  obtain ⟨hh, P, hP, hs⟩ := goodS_inv h
  have hz : s.who.zip s.seals = P := by rw [hs]; exact zip_stp s P
  have hl : s.who.length = P.length := by rw [hs]; simp [stpOf]
  have h1 : s.ref.size ≤ 60 := by
    have := hh; unfold headOk namedR at this; simp only [Bool.and_eq_true, decide_eq_true_eq] at this; exact this.1.1
  have h2 : s.old.size ≤ 32 := by
    have := hh; unfold headOk idOk at this; simp only [Bool.and_eq_true, Bool.or_eq_true, decide_eq_true_eq] at this; omega
  have h3 : s.new.size ≤ 32 := by
    have := hh; unfold headOk idOk at this; simp only [Bool.and_eq_true, Bool.or_eq_true, decide_eq_true_eq] at this; omega
  have hlen := hP.len
  have e0 : b.data.toList = encT s.ref ++ (encT s.old ++ (encT s.new ++ (enc P.length ++ (encPP P ++ y)))) := by rw [hb, encS, hz, hl]; simp
  obtain ⟨s1, a1, e1⟩ := rTxt_fwd (by omega) e0
  obtain ⟨s2, a2, e2⟩ := rTxt_fwd (by omega) e1
  obtain ⟨s3, a3, e3⟩ := rTxt_fwd (by omega) e2
  obtain ⟨s4, a4, e4⟩ := rNum_fwd (by omega) e3
  obtain ⟨s5, a5, e5⟩ := rowsD_fwd P s4 [] y (fun p hp => ⟨by have := hP.rng p hp; omega, hP.siz p hp⟩) e4
  have k1 : dA b = (s.ref, (s1, 0)) := a1
  have k2 : dB b = (s.old, (s2, 0)) := by unfold dB; rw [k1]; exact a2
  have k3 : dC b = (s.new, (s3, 0)) := by unfold dC; rw [k2]; exact a3
  have k4 : dN b = (P.length, (s4, 0)) := by unfold dN; rw [k3]; exact a4
  have k5 : dR b = (P, (s5, 0)) := by unfold dR; rw [k4]; simpa using a5
  refine ⟨?_, by rw [k5], by rw [k5]; exact e5⟩
  unfold dS
  rw [k1, k2, k3, k5]
  exact hs.symm
theorem decS_enc {s : Stp} (h : goodS s = 0) : decodeSF ⟨(encS s).toArray⟩ = (s, 0) := by
  obtain ⟨h1, h2, h3⟩ := dec_fwd h (b := ⟨(encS s).toArray⟩) (y := []) (by simp)
  have hz : (dR ⟨(encS s).toArray⟩).2.1.size = 0 := by rw [← toList_length, h3]; rfl
  unfold decodeSF
  rw [h1, h2, hz, h]
  simp
theorem decS_more {s : Stp} {x : ByteArray} (h : goodS s = 0) (hx : 0 < x.size) : decodeSF ((⟨(encS s).toArray⟩ : ByteArray) ++ x) = (zeroStp, 2) := by
  obtain ⟨h1, h2, h3⟩ := dec_fwd h (b := (⟨(encS s).toArray⟩ : ByteArray) ++ x) (y := x.data.toList) (by rw [toList_append])
  have hz : (dR ((⟨(encS s).toArray⟩ : ByteArray) ++ x)).2.1.size = x.size := by rw [← toList_length, h3, toList_length]
  unfold decodeSF
  rw [if_pos (.inr (by rw [hz]; exact hx))]
theorem decS_ok {b : ByteArray} (h : (decodeSF b).2 = 0) : decodeSF b = (dS b, 0) ∧ goodS (dS b) = 0 ∧ encS (dS b) = b.data.toList := by
  unfold decodeSF at h ⊢
  by_cases c : (dR b).2.2 ≠ 0 ∨ 0 < (dR b).2.1.size
  · rw [if_pos c] at h; exact absurd h (by decide)
  · rw [if_neg c] at h ⊢
    by_cases g : goodS (dS b) ≠ 0
    · rw [if_pos g] at h; exact absurd h g
    · rw [if_neg g]
      have g0 : goodS (dS b) = 0 := by simpa using g
      refine ⟨rfl, g0, ?_⟩
      have hb2 : (dR b).2.2 = 0 := by simp only [not_or] at c; simpa using c.1
      have hz : (dR b).2.1.size = 0 := by simp only [not_or] at c; omega
      have k4 : (dN b).2.2 = 0 := rowsD_ok _ _ _ hb2
      have k3 : (dC b).2.2 = 0 := rNum_ok k4
      have k2 : (dB b).2.2 = 0 := rTxt_ok k3
      have k1 : (dA b).2.2 = 0 := rTxt_ok k2
      have b1 := rTxt_bwd (s := b) k1
      have b2 := rTxt_bwd (s := (dA b).2.1) (by rw [← pair0 k1]; exact k2)
      have b3 := rTxt_bwd (s := (dB b).2.1) (by rw [← pair0 k2]; exact k3)
      have b4 := rNum_bwd (s := (dC b).2.1) (by rw [← pair0 k3]; exact k4)
      obtain ⟨l2, e1, e2, e3⟩ := rowsD_bwd (dN b).1 (dN b).2.1 [] (by rw [← pair0 k4]; exact hb2)
      rw [← pair0 k1] at b2
      rw [← pair0 k2] at b3
      rw [← pair0 k3] at b4
      rw [← pair0 k4] at e1 e3
      have e1' : (dR b).1 = l2 := e1.trans (List.nil_append _)
      have hn : (dS b).who.length = (dN b).1 := by unfold dS; simp only [List.length_map]; rw [e1', e2]
      have hzz : (dS b).who.zip (dS b).seals = (dR b).1 := zip_stp (dS b) (dR b).1
      unfold encS
      rw [hn, hzz, e1']
      have c1 : b.data.toList = encT (dS b).ref ++ (dA b).2.1.data.toList := b1.1
      have c2 : (dA b).2.1.data.toList = encT (dS b).old ++ (dB b).2.1.data.toList := b2.1
      have c3 : (dB b).2.1.data.toList = encT (dS b).new ++ (dC b).2.1.data.toList := b3.1
      have c4 : (dC b).2.1.data.toList = enc (dN b).1 ++ (dN b).2.1.data.toList := b4.1
      have c5 : (dN b).2.1.data.toList = encPP l2 ++ (dR b).2.1.data.toList := e3
      have c6 : (dR b).2.1.data.toList = [] := by apply List.eq_nil_of_length_eq_zero; rw [toList_length]; exact hz
      rw [c1, c2, c3, c4, c5, c6, List.append_nil]
theorem decS_bad {b : ByteArray} (h : (decodeSF b).2 ≠ 0) : (decodeSF b).1 = zeroStp := by
  unfold decodeSF at h ⊢
  by_cases c : (dR b).2.2 ≠ 0 ∨ 0 < (dR b).2.1.size
  · rw [if_pos c]
  · rw [if_neg c] at h ⊢
    by_cases g : goodS (dS b) ≠ 0
    · rw [if_pos g]
    · rw [if_neg g] at h; exact absurd rfl h
theorem encPP_length {P : List (Int × ByteArray)} (h : GoodP P) : (encPP P).length ≤ 8 * 41 := by
  have key : ∀ Q : List (Int × ByteArray), (∀ p ∈ Q, (0 ≤ p.1 ∧ p.1 < 8) ∧ p.2.size = 32) → (encPP Q).length ≤ Q.length * 41 := by
    intro Q
    induction Q with
    | nil => intro _; simp [encPP]
    | cons p Q ih =>
      intro hq
      have hp := hq p (by simp)
      have := ih (fun x hx => hq x (by simp [hx]))
      have e := enc_len9 p.1.toNat (by omega)
      rw [show encPP (p :: Q) = enc p.1.toNat ++ (p.2.data.toList ++ encPP Q) by simp [encPP]]
      simp only [List.length_append, List.length_cons, toList_length, hp.2]
      omega
  have := key P (fun p hp => ⟨h.rng p hp, h.siz p hp⟩)
  have := h.len
  omega
theorem encS_inj {s t : Stp} (h : goodS s = 0) (g : goodS t = 0) (e : encS s = encS t) : s = t := by
  have a := decS_enc h
  have b := decS_enc g
  rw [e, b] at a
  exact (congrArg Prod.fst a).symm
end Go.Proofs.YtmacceamebdelaaDoor
/-! Step7 -/
namespace Go.Proofs.YtmacceamebdelaaDoor
open Go.RowKit
set_option linter.unusedVariables false
set_option linter.unusedSimpArgs false

theorem encPP_step {s : Stp} {P : List (Int × ByteArray)} (hs : s = stpOf s P) (hP : GoodP P) {k : Nat} (h : k < P.length) :
    encPP (P.drop k) = enc (s.who.getD k 0).toNat ++ ((s.seals.getD k noB).data.toList ++ encPP (P.drop (k + 1))) ∧ (0 ≤ s.who.getD k 0 ∧ s.who.getD k 0 < 8) ∧ (s.seals.getD k noB).size = 32 := by
  have e1 : s.who.getD k 0 = P[k].1 := by rw [hs]; exact getD_map _ _ _ _ h
  have e2 : s.seals.getD k noB = P[k].2 := by rw [hs]; exact getD_map _ _ _ _ h
  rw [e1, e2]
  refine ⟨?_, hP.rng _ (List.getElem_mem h), hP.siz _ (List.getElem_mem h)⟩
  rw [List.drop_eq_getElem_cons h]
  rw [show encPP (P[k] :: P.drop (k + 1)) = (enc P[k].1.toNat ++ P[k].2.data.toList) ++ encPP (P.drop (k + 1)) from rfl, List.append_assoc]
theorem encS_length {s : Stp} (h : goodS s = 0) : (encS s).length ≤ 600 := by
  obtain ⟨hh, P, hP, hs⟩ := goodS_inv h
  obtain ⟨h1, h2, h3⟩ := head_sizes hh
  have hz : s.who.zip s.seals = P := by rw [hs]; exact zip_stp s P
  have hl : s.who.length = P.length := by rw [hs]; simp [stpOf]
  have e0 := hP.len
  have e1 := enc9 (n := s.who.length) (by omega)
  have e2 := enc9 (n := s.ref.size) (by omega)
  have e3 := enc9 (n := s.old.size) (by omega)
  have e4 := enc9 (n := s.new.size) (by omega)
  have e5 := encPP_length hP
  unfold encS
  rw [hz]
  simp only [encT, List.length_append, toList_length]
  omega
theorem encF_1 {s : Stp} (h : goodS s ≠ 0) : encodeSF s = (noB, goodS s) := by unfold encodeSF; rw [if_pos h]
theorem encF_2 {s : Stp} (h : goodS s = 0) : encodeSF s = (⟨(encS s).toArray⟩, 0) := by unfold encodeSF; rw [if_neg (fun k => k h)]
end Go.Proofs.YtmacceamebdelaaDoor
/-! Step8 -/
namespace Go.Proofs.YtmacceamebdelaaDoor
open Go.RowKit
set_option linter.unusedVariables false
set_option linter.unusedSimpArgs false

structure DecSp (w : World) (B g q : Nat) (st : ByteArray × Int) (s : Stp) (vw vs : Value) : Prop where
  rd : RdSt w g st
  sz : st.1.size ≤ 140737488355328
  blk : w.heap[q]? = some (.cells #[.string s.ref, .string s.old, .string s.new, vw, vs] 141 (0, 0))
  ow : w.ownsRow B 3 1 vw s.who.length (ivs s.who)
  os : w.ownsRow B 9 1 vs s.seals.length (svs s.seals)
  le : B ≤ g ∧ B ≤ q ∧ B ≤ w.heap.size
theorem DecSp.one {w : World} {B g q : Nat} {st : ByteArray × Int} {s : Stp} {vw vs : Value} (h : DecSp w B g q st s vw vs) : (#[Value.string s.ref, .string s.old, .string s.new, vw, vs]).all (·.oneCell') = true := by
  have h1 := owns_one h.ow
  have h2 := owns_one h.os
  simp only [List.all_toArray, List.all_cons, List.all_nil, h1, h2]
  rfl
theorem DecSp.far {w : World} {B g q : Nat} {st : ByteArray × Int} {s : Stp} {vw vs : Value} (h : DecSp w B g q st s vw vs) :
    g ≠ q ∧ vw.ownBlock ≠ some g ∧ vw.ownBlock ≠ some q ∧ vs.ownBlock ≠ some g ∧ vs.ownBlock ≠ some q ∧ (∀ k, vw.ownBlock = some k → vs.ownBlock ≠ some k) := by
  have hg := h.rd.blk
  have hq := h.blk
  refine ⟨?_, ?_, ?_, ?_, ?_, ?_⟩
  · intro e; rw [e, hq] at hg; simp at hg
  · intro e; obtain ⟨_, cs, f, hc⟩ := owns_elem h.ow e; rw [hc] at hg; simp at hg
  · intro e; obtain ⟨_, cs, f, hc⟩ := owns_elem h.ow e; rw [hc] at hq; simp at hq
  · intro e; obtain ⟨_, cs, f, hc⟩ := owns_elem h.os e; rw [hc] at hg; simp at hg
  · intro e; obtain ⟨_, cs, f, hc⟩ := owns_elem h.os e; rw [hc] at hq; simp at hq
  · intro k e1 e2
    obtain ⟨_, cs, f, hc⟩ := owns_elem h.ow e1
    obtain ⟨_, cs2, f2, hc2⟩ := owns_elem h.os e2
    rw [hc] at hc2; simp at hc2
theorem DecSp.read {w w' : World} {B g q : Nat} {st st' : ByteArray × Int} {s : Stp} {vw vs v : Value} {e : Ending} (h : DecSp w B g q st s vw vs) (ht : RdTo w g v st' e w') (hs : st'.1.size ≤ 140737488355328) :
    e = .returned v ∧ DecSp w' B g q st' s vw vs ∧ Below B w w' := by
  obtain ⟨he, hr, hu⟩ := ht
  obtain ⟨f1, f2, f3, f4, f5, _⟩ := h.far
  exact ⟨he, ⟨hr, hs, blk_upd h.blk hu (fun e => f1 e.symm), owns_upd h.ow hu (fun k hk e => f2 (e ▸ hk)), owns_upd h.os hu (fun k hk e => f4 (e ▸ hk)), h.le.1, h.le.2.1, Nat.le_trans h.le.2.2 hu.size⟩,
    hu.below h.le.2.2 (fun k hk => by rw [hk]; exact h.le.1)⟩
theorem DecSp.drew {w : World} {B g q : Nat} {st : ByteArray × Int} {s : Stp} {vw vs : Value} (h : DecSp w B g q st s vw vs) : DecSp w.drew B g q st s vw vs := ⟨⟨h.rd.blk⟩, h.sz, h.blk, h.ow.drew, h.os.drew, h.le⟩
theorem DecSp.below {w w' : World} {B g q : Nat} {st : ByteArray × Int} {s : Stp} {vw vs : Value} (h : DecSp w B g q st s vw vs) (hb : Below w.heap.size w w') : DecSp w' B g q st s vw vs :=
  ⟨h.rd.below hb, h.sz, blk_below h.blk hb, owns_below h.ow hb, owns_below h.os hb, h.le.1, h.le.2.1, Nat.le_trans h.le.2.2 hb.size⟩
theorem DecSp.appW {w w' : World} {B g q : Nat} {st : ByteArray × Int} {s s' : Stp} {vw vs vw' : Value} {l' : List Int} (h : DecSp w B g q st s vw vs) (ho : w'.ownsRow B 3 1 vw' l'.length (ivs l')) (hu : Upd (fun k => vw.ownBlock = some k) w w')
    (he : s' = { s with who := l' }) : DecSp (w'.setCell ⟨q, 3, none⟩ vw') B g q st s' vw' vs ∧ Below B w (w'.setCell ⟨q, 3, none⟩ vw') := by
  obtain ⟨f1, f2, f3, f4, f5, f6⟩ := h.far
  have hob := blk_upd h.blk hu f3
  have hrd := h.rd.upd hu f2
  have hps := owns_upd h.os hu (fun k hk e => f6 k e hk)
  have hU : Upd (fun k => k = q) w' (w'.setCell ⟨q, 3, none⟩ vw') := (Upd.refl (fun k => k = q) w').setCell (a := ⟨q, 3, none⟩) (.inl rfl) _
  have hne : ∀ k, vw'.ownBlock = some k → ¬ k = q := by
    intro k hk e
    subst e
    obtain ⟨_, cs, f, hc⟩ := owns_elem ho hk
    rw [hc] at hob; simp at hob
  have hle : B ≤ w'.heap.size := Nat.le_trans h.le.2.2 hu.size
  subst he
  refine ⟨⟨hrd.upd hU f1, h.sz, cells_setCell hob 3 vw', owns_upd ho hU hne, owns_upd hps hU (fun k hk e => f5 (e ▸ hk)), h.le.1, h.le.2.1, Nat.le_trans hle hU.size⟩, ?_⟩
  exact (hu.below h.le.2.2 (fun k hk => owns_ge h.ow hk)).trans (hU.below hle (fun k hk => by rw [hk]; exact h.le.2.1))
theorem DecSp.appS {w w' : World} {B g q : Nat} {st : ByteArray × Int} {s s' : Stp} {vw vs vs' : Value} {l' : List ByteArray} (h : DecSp w B g q st s vw vs) (ho : w'.ownsRow B 9 1 vs' l'.length (svs l')) (hu : Upd (fun k => vs.ownBlock = some k) w w')
    (he : s' = { s with seals := l' }) : DecSp (w'.setCell ⟨q, 4, none⟩ vs') B g q st s' vw vs' ∧ Below B w (w'.setCell ⟨q, 4, none⟩ vs') := by
  obtain ⟨f1, f2, f3, f4, f5, f6⟩ := h.far
  have hob := blk_upd h.blk hu f5
  have hrd := h.rd.upd hu f4
  have hes := owns_upd h.ow hu (fun k hk e => f6 k hk e)
  have hU : Upd (fun k => k = q) w' (w'.setCell ⟨q, 4, none⟩ vs') := (Upd.refl (fun k => k = q) w').setCell (a := ⟨q, 4, none⟩) (.inl rfl) _
  have hne : ∀ k, vs'.ownBlock = some k → ¬ k = q := by
    intro k hk e
    subst e
    obtain ⟨_, cs, f, hc⟩ := owns_elem ho hk
    rw [hc] at hob; simp at hob
  have hle : B ≤ w'.heap.size := Nat.le_trans h.le.2.2 hu.size
  subst he
  refine ⟨⟨hrd.upd hU f1, h.sz, cells_setCell hob 4 vs', owns_upd hes hU (fun k hk e => f3 (e ▸ hk)), owns_upd ho hU hne, h.le.1, h.le.2.1, Nat.le_trans hle hU.size⟩, ?_⟩
  exact (hu.below h.le.2.2 (fun k hk => owns_ge h.os hk)).trans (hU.below hle (fun k hk => by rw [hk]; exact h.le.2.1))
def endD (ra rb rc : ByteArray) (P : List (Int × ByteArray)) (st : ByteArray × Int) : Stp × Int :=
  if st.2 ≠ 0 ∨ 0 < st.1.size then (zeroStp, 2) else if goodS ⟨ra, rb, rc, P.map Prod.fst, P.map Prod.snd⟩ ≠ 0 then (zeroStp, goodS ⟨ra, rb, rc, P.map Prod.fst, P.map Prod.snd⟩) else (⟨ra, rb, rc, P.map Prod.fst, P.map Prod.snd⟩, 0)
theorem endD_bad {ra rb rc rr : ByteArray} {P : List (Int × ByteArray)} {er : Int} (h : er ≠ 0) : endD ra rb rc P (rr, er) = (zeroStp, 2) := by unfold endD; rw [if_pos (.inl h)]
theorem endD_left {ra rb rc rr : ByteArray} {P : List (Int × ByteArray)} {er : Int} (h : 0 < rr.size) : endD ra rb rc P (rr, er) = (zeroStp, 2) := by unfold endD; rw [if_pos (.inr h)]
theorem endD_good {ra rb rc rr : ByteArray} {P : List (Int × ByteArray)} (h : rr.size = 0) : endD ra rb rc P (rr, 0) = if goodS ⟨ra, rb, rc, P.map Prod.fst, P.map Prod.snd⟩ ≠ 0 then (zeroStp, goodS ⟨ra, rb, rc, P.map Prod.fst, P.map Prod.snd⟩) else (⟨ra, rb, rc, P.map Prod.fst, P.map Prod.snd⟩, 0) := by
  unfold endD; rw [if_neg (by simp [h])]
def restD (ra rb rc : ByteArray) (n : Nat) (st : ByteArray × Int) (P : List (Int × ByteArray)) : Stp × Int := endD ra rb rc (rowsD n st P).1 (rowsD n st P).2
theorem restD_end {ra rb rc : ByteArray} {n : Nat} {st : ByteArray × Int} {P : List (Int × ByteArray)} (h : n = 0 ∨ st.2 ≠ 0) : restD ra rb rc n st P = endD ra rb rc P st := by
  have e : rowsD n st P = (P, st) := by
    cases n with
    | zero => rfl
    | succ n => rcases h with h | h; · cases h
                rw [rowsD, if_pos h]
  unfold restD; rw [e]
theorem restD_step {ra rb rc rr y : ByteArray} {n x : Nat} {s2 s3 : ByteArray × Int} {P : List (Int × ByteArray)} (hn : 0 < n) (h1 : rNum (rr, 0) = (x, s2)) (h2 : rByt s2 32 = (y, s3)) :
    restD ra rb rc n (rr, 0) P = restD ra rb rc (n - 1) s3 (P ++ [((x : Int), y)]) := by
  obtain ⟨m, rfl⟩ : ∃ m, n = m + 1 := ⟨n - 1, by omega⟩
  have e : rowsD (m + 1) (rr, 0) P = rowsD m s3 (P ++ [((x : Int), y)]) := by rw [rowsD, if_neg (by simp), h1, h2]
  unfold restD; rw [e]; rfl
theorem decodeF_rest {b ra rb rc : ByteArray} {s1 s2 s3 s4 : ByteArray × Int} {n : Nat} (h1 : rTxt (b, 0) = (ra, s1)) (h2 : rTxt s1 = (rb, s2)) (h3 : rTxt s2 = (rc, s3)) (h4 : rNum s3 = (n, s4)) : decodeSF b = restD ra rb rc n s4 [] := by
  have k1 : dA b = (ra, s1) := h1
  have k2 : dB b = (rb, s2) := by unfold dB; rw [k1]; exact h2
  have k3 : dC b = (rc, s3) := by unfold dC; rw [k2]; exact h3
  have k4 : dN b = (n, s4) := by unfold dN; rw [k3]; exact h4
  have k5 : dR b = rowsD n s4 [] := by unfold dR; rw [k4]
  unfold decodeSF restD endD dS
  rw [k1, k2, k3, k5]
theorem rByt_32 {s3 s4 : ByteArray × Int} {id : ByteArray} (h : rByt s3 32 = (id, s4)) (h0 : s4.2 = 0) : s4.1.size + 32 ≤ s3.1.size := by
  unfold rByt at h
  split at h
  · next hne => cases h; exact absurd h0 hne
  · split at h
    · cases h; cases h0
    · next hz => cases h; simp only [ByteArray.size_extract]; omega
end Go.Proofs.YtmacceamebdelaaDoor
/-! Stps -/
namespace Go.Proofs.YtmacceamebdelaaDoor
open Go.RowKit
set_option linter.unusedVariables false
set_option linter.unusedSimpArgs false

/-- A step with the values of its rows. -/
structure Stv where
  s : Stp
  vw : Value
  vs : Value
def zeroStv : Stv := ⟨zeroStp, .slice none 0 0, .slice none 0 0⟩
def stvC (t : Stv) : List Value := [.string t.s.ref, .string t.s.old, .string t.s.new, t.vw, t.vs]
theorem stvC_len (t : Stv) : (stvC t).length = 5 := rfl
/-- A slice reads as a list of steps. -/
structure RdT (w : World) (v : Value) (L : List Stv) : Prop where
  row : rdG 5 stvC w v L
  sub : ∀ t ∈ L, rdI w t.vw t.s.who ∧ rdS w t.vs t.s.seals
def rdT (w : World) (v : Value) (l : List Stp) : Prop := ∃ L : List Stv, L.map Stv.s = l ∧ RdT w v L
theorem RdT.below {w w' : World} {v : Value} {L : List Stv} (h : RdT w v L) (hb : Below w.heap.size w w') : RdT w' v L :=
  ⟨h.row.below hb, fun t ht => ⟨(h.sub t ht).1.below hb, (h.sub t ht).2.below hb⟩⟩
theorem rdT.below {w w' : World} {v : Value} {l : List Stp} (h : rdT w v l) (hb : Below w.heap.size w w') : rdT w' v l := by
  obtain ⟨L, h1, h2⟩ := h
  exact ⟨L, h1, h2.below hb⟩
theorem rdT_nil (w : World) : rdT w (.slice none 0 0) [] := ⟨[], rfl, rdG_nil w, fun _ h => by cases h⟩
theorem rdT_form {w : World} {v : Value} {l : List Stp} (h : rdT w v l) : ∃ ao cap, v = .slice ao l.length cap := by
  obtain ⟨L, rfl, h1, _⟩ := h
  rw [List.length_map]
  exact rd_form h1
theorem rdT_len {w : World} {v : Value} {l : List Stp} (h : rdT w v l) : l.length ≤ 9223372036854775807 := by
  obtain ⟨L, rfl, h1, _⟩ := h
  rw [List.length_map]
  exact rdG_len h1
theorem stv_getD (L : List Stv) (k : Nat) : (L.getD k zeroStv).s = (L.map Stv.s).getD k zeroStp := by
  rw [List.getD, List.getD, List.getElem?_map]
  cases L[k]? <;> rfl
/-- The cells of an element, in the walk's spelling. -/
theorem RdT.at {w : World} {ao : Option Addr} {n cap : Nat} {L : List Stv} (h : RdT w (.slice ao n cap) L) {k : Nat} (hk : k < L.length) :
    ∃ b off, ao = some ⟨b, off, none⟩ ∧ w.cell? ⟨b, off + k * 5, none⟩ = some (.string (L.getD k zeroStv).s.ref) ∧ w.cell? ⟨b, off + k * 5 + 1, none⟩ = some (.string (L.getD k zeroStv).s.old) ∧ w.cell? ⟨b, off + k * 5 + 2, none⟩ = some (.string (L.getD k zeroStv).s.new) ∧ w.cell? ⟨b, off + k * 5 + 3, none⟩ = some (L.getD k zeroStv).vw ∧ w.cell? ⟨b, off + k * 5 + 4, none⟩ = some (L.getD k zeroStv).vs ∧
      rdI w (L.getD k zeroStv).vw (L.getD k zeroStv).s.who ∧ rdS w (L.getD k zeroStv).vs (L.getD k zeroStv).s.seals := by
  obtain ⟨b, off, h1, _, hc⟩ := rdG_at stvC_len (by decide) zeroStv h.row (by omega)
  have hm : L.getD k zeroStv ∈ L := by rw [List.getD, List.getElem?_eq_getElem hk]; exact List.getElem_mem hk
  refine ⟨b, off, h1, ?_, ?_, ?_, ?_, ?_, h.sub _ hm⟩
  · exact hc k hk 0 _ rfl
  · rw [Nat.add_assoc]; exact hc k hk 1 _ rfl
  · rw [Nat.add_assoc]; exact hc k hk 2 _ rfl
  · rw [Nat.add_assoc]; exact hc k hk 3 _ rfl
  · rw [Nat.add_assoc]; exact hc k hk 4 _ rfl
theorem size_step : (Tryd.prog.info? 141).map (·.size) = some 5 := by kernel_rfl
theorem rdT_to {w : World} {v : Value} {l : List Stp} (hr : rdT w v l) (n : Nat) (hn : n ≤ l.length) :
    ∃ v', (∀ w' : World, (Instr.sliceAt 48 v none (some (.int .i64 (n : Int))) none).run Tryd.prog w' = .ok v' w') ∧ rdT w v' (l.take n) := by
  obtain ⟨L, rfl, h1, h2⟩ := hr
  rw [List.length_map] at hn
  obtain ⟨v', h3, h4⟩ := rdG_to stvC_len Tryd.underlying48 size_step h1 n hn
  exact ⟨v', h3, L.take n, by rw [List.map_take], h4, fun t ht => h2 t (List.mem_of_mem_take ht)⟩
theorem rdT_from {w : World} {v : Value} {l : List Stp} (hr : rdT w v l) (n : Nat) (hn : n ≤ l.length) :
    ∃ v', (∀ w' : World, (Instr.sliceAt 48 v (some (.int .i64 (n : Int))) none none).run Tryd.prog w' = .ok v' w') ∧ rdT w v' (l.drop n) := by
  obtain ⟨L, rfl, h1, h2⟩ := hr
  rw [List.length_map] at hn
  obtain ⟨v', h3, h4⟩ := rdG_from stvC_len Tryd.underlying48 size_step h1 n hn
  exact ⟨v', h3, L.drop n, by rw [List.map_drop], h4, fun t ht => h2 t (List.mem_of_mem_drop ht)⟩
end Go.Proofs.YtmacceamebdelaaDoor
