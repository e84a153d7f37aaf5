/- Steps as bytes, in plain Lean: Encode and Decode, and their laws. -/
import Derived.Test.YtinhjnbgblieeaaDoorStepLaw
namespace Go.Proofs.YtinhjnbgblieeaaDoor
set_option linter.unusedVariables false
set_option linter.unusedSimpArgs false

def encPP (P : List (Int × ByteArray)) : List UInt8 := P.flatMap fun p => enc p.1.toNat ++ p.2.data.toList
def encS (s : Stp) : List UInt8 := encT s.ref ++ (encT s.old ++ (encT s.new ++ (enc s.who.length ++ encPP (s.who.zip s.seals))))
def encodeSF (s : Stp) : ByteArray × Int := if goodS s ≠ 0 then (noB, goodS s) else (⟨(encS s).toArray⟩, 0)
def rowsD : Nat → ByteArray × Int → List (Int × ByteArray) → List (Int × ByteArray) × (ByteArray × Int)
  | 0, st, l => (l, st)
  | n + 1, st, l => if st.2 ≠ 0 then (l, st) else rowsD n (rByt (rNum st).2 32).2 (l ++ [(((rNum st).1 : Int), (rByt (rNum st).2 32).1)])
def dA (b : ByteArray) : ByteArray × (ByteArray × Int) := rTxt (b, 0)
def dB (b : ByteArray) : ByteArray × (ByteArray × Int) := rTxt (dA b).2
def dC (b : ByteArray) : ByteArray × (ByteArray × Int) := rTxt (dB b).2
def dN (b : ByteArray) : Nat × (ByteArray × Int) := rNum (dC b).2
def dR (b : ByteArray) : List (Int × ByteArray) × (ByteArray × Int) := rowsD (dN b).1 (dN b).2 []
def dS (b : ByteArray) : Stp := ⟨(dA b).1, (dB b).1, (dC b).1, (dR b).1.map Prod.fst, (dR b).1.map Prod.snd⟩
def decodeSF (b : ByteArray) : Stp × Int :=
  if (dR b).2.2 ≠ 0 ∨ 0 < (dR b).2.1.size then (zeroStp, 2) else if goodS (dS b) ≠ 0 then (zeroStp, goodS (dS b)) else (dS b, 0)

theorem rowsD_fwd : ∀ (P : List (Int × ByteArray)) (s : ByteArray) (l : List (Int × ByteArray)) (y : List UInt8), (∀ p ∈ P, (0 ≤ p.1 ∧ p.1 < 4611686018427387904) ∧ p.2.size = 32) → s.data.toList = encPP P ++ y →
    ∃ s', rowsD P.length (s, 0) l = (l ++ P, (s', 0)) ∧ s'.data.toList = y
  | [], s, l, y, _, hs => ⟨s, by simp [rowsD], by simpa [encPP] using hs⟩
  | (n, x) :: P, s, l, y, hx, hs => by
    obtain ⟨⟨h0, h1⟩, h2⟩ := hx (n, x) (by simp)
    simp only at h0 h1 h2
    have e : s.data.toList = enc n.toNat ++ (x.data.toList ++ (encPP P ++ y)) := by rw [hs]; simp [encPP]
    obtain ⟨s2, a2, e2⟩ := rNum_fwd (by omega) e
    obtain ⟨s3, a3, e3⟩ := rByt_fwd h2 e2
    obtain ⟨s4, h4, e4⟩ := rowsD_fwd P s3 (l ++ [(n, x)]) y (fun z hz => hx z (by simp [hz])) e3
    refine ⟨s4, ?_, e4⟩
    rw [List.length_cons, rowsD, if_neg (by simp), a2]
    simp only
    rw [a3]
    simp only
    rw [show ((n.toNat : Nat) : Int) = n by omega, h4]
    simp
theorem rowsD_ok : ∀ (n : Nat) (st : ByteArray × Int) (l : List (Int × ByteArray)), (rowsD n st l).2.2 = 0 → st.2 = 0
  | 0, st, l, h0 => h0
  | n + 1, st, l, h0 => by
    apply Classical.byContradiction; intro he
    rw [rowsD, if_pos he] at h0
    exact he h0
theorem rowsD_bwd : ∀ (n : Nat) (s : ByteArray) (l : List (Int × ByteArray)), (rowsD n (s, 0) l).2.2 = 0 → ∃ l2, (rowsD n (s, 0) l).1 = l ++ l2 ∧ l2.length = n ∧ s.data.toList = encPP l2 ++ (rowsD n (s, 0) l).2.1.data.toList
  | 0, s, l, h0 => ⟨[], by simp [rowsD], rfl, by simp [encPP, rowsD]⟩
  | n + 1, s, l, h0 => by
    rw [rowsD, if_neg (by simp)] at h0 ⊢
    have k3 := rowsD_ok n _ _ h0
    have k2 := rByt_ok k3
    have b2 := rNum_bwd k2
    rw [pair0 k2] at k3 h0 ⊢
    have b3 := rByt_bwd k3
    rw [pair0 k3] at h0 ⊢
    obtain ⟨l2, e1, e2, e3⟩ := rowsD_bwd n _ _ h0
    refine ⟨(((rNum (s, 0)).1 : Int), (rByt ((rNum (s, 0)).2.1, 0) 32).1) :: l2, by rw [e1]; simp, by rw [List.length_cons, e2], ?_⟩
    rw [show encPP ((((rNum (s, 0)).1 : Int), (rByt ((rNum (s, 0)).2.1, 0) 32).1) :: l2) = enc (rNum (s, 0)).1 ++ ((rByt ((rNum (s, 0)).2.1, 0) 32).1.data.toList ++ encPP l2) by simp [encPP]]
    rw [b2.1, b3.1, e3]
    simp only [List.append_assoc]
theorem zip_stp (s : Stp) (P : List (Int × ByteArray)) : (stpOf s P).who.zip (stpOf s P).seals = P := by
  unfold stpOf
  simp only
  rw [← List.unzip_fst, ← List.unzip_snd]
  exact List.zip_unzip P
theorem dec_fwd {s : Stp} (h : goodS s = 0) {b : ByteArray} {y : List UInt8} (hb : b.data.toList = encS s ++ y) : dS b = s ∧ (dR b).2.2 = 0 ∧ (dR b).2.1.data.toList = y := by
  obtain ⟨hh, P, hP, hs⟩ := goodS_inv h
  have hz : s.who.zip s.seals = P := by rw [hs]; exact zip_stp s P
  have hl : s.who.length = P.length := by rw [hs]; simp [stpOf]
  have h1 : s.ref.size ≤ 60 := by
    have := hh; unfold headOk namedR at this; simp only [Bool.and_eq_true, decide_eq_true_eq] at this; exact this.1.1
  have h2 : s.old.size ≤ 32 := by
    have := hh; unfold headOk idOk at this; simp only [Bool.and_eq_true, Bool.or_eq_true, decide_eq_true_eq] at this; omega
  have h3 : s.new.size ≤ 32 := by
    have := hh; unfold headOk idOk at this; simp only [Bool.and_eq_true, Bool.or_eq_true, decide_eq_true_eq] at this; omega
  have hlen := hP.len
  have e0 : b.data.toList = encT s.ref ++ (encT s.old ++ (encT s.new ++ (enc P.length ++ (encPP P ++ y)))) := by rw [hb, encS, hz, hl]; simp
  obtain ⟨s1, a1, e1⟩ := rTxt_fwd (by omega) e0
  obtain ⟨s2, a2, e2⟩ := rTxt_fwd (by omega) e1
  obtain ⟨s3, a3, e3⟩ := rTxt_fwd (by omega) e2
  obtain ⟨s4, a4, e4⟩ := rNum_fwd (by omega) e3
  obtain ⟨s5, a5, e5⟩ := rowsD_fwd P s4 [] y (fun p hp => ⟨by have := hP.rng p hp; omega, hP.siz p hp⟩) e4
  have k1 : dA b = (s.ref, (s1, 0)) := a1
  have k2 : dB b = (s.old, (s2, 0)) := by unfold dB; rw [k1]; exact a2
  have k3 : dC b = (s.new, (s3, 0)) := by unfold dC; rw [k2]; exact a3
  have k4 : dN b = (P.length, (s4, 0)) := by unfold dN; rw [k3]; exact a4
  have k5 : dR b = (P, (s5, 0)) := by unfold dR; rw [k4]; simpa using a5
  refine ⟨?_, by rw [k5], by rw [k5]; exact e5⟩
  unfold dS
  rw [k1, k2, k3, k5]
  exact hs.symm
theorem decS_enc {s : Stp} (h : goodS s = 0) : decodeSF ⟨(encS s).toArray⟩ = (s, 0) := by
  obtain ⟨h1, h2, h3⟩ := dec_fwd h (b := ⟨(encS s).toArray⟩) (y := []) (by simp)
  have hz : (dR ⟨(encS s).toArray⟩).2.1.size = 0 := by rw [← toList_length, h3]; rfl
  unfold decodeSF
  rw [h1, h2, hz, h]
  simp
theorem decS_more {s : Stp} {x : ByteArray} (h : goodS s = 0) (hx : 0 < x.size) : decodeSF ((⟨(encS s).toArray⟩ : ByteArray) ++ x) = (zeroStp, 2) := by
  obtain ⟨h1, h2, h3⟩ := dec_fwd h (b := (⟨(encS s).toArray⟩ : ByteArray) ++ x) (y := x.data.toList) (by rw [toList_append])
  have hz : (dR ((⟨(encS s).toArray⟩ : ByteArray) ++ x)).2.1.size = x.size := by rw [← toList_length, h3, toList_length]
  unfold decodeSF
  rw [if_pos (.inr (by rw [hz]; exact hx))]
theorem decS_ok {b : ByteArray} (h : (decodeSF b).2 = 0) : decodeSF b = (dS b, 0) ∧ goodS (dS b) = 0 ∧ encS (dS b) = b.data.toList := by
  unfold decodeSF at h ⊢
  by_cases c : (dR b).2.2 ≠ 0 ∨ 0 < (dR b).2.1.size
  · rw [if_pos c] at h; exact absurd h (by decide)
  · rw [if_neg c] at h ⊢
    by_cases g : goodS (dS b) ≠ 0
    · rw [if_pos g] at h; exact absurd h g
    · rw [if_neg g]
      have g0 : goodS (dS b) = 0 := by simpa using g
      refine ⟨rfl, g0, ?_⟩
      have hb2 : (dR b).2.2 = 0 := by simp only [not_or] at c; simpa using c.1
      have hz : (dR b).2.1.size = 0 := by simp only [not_or] at c; omega
      have k4 : (dN b).2.2 = 0 := rowsD_ok _ _ _ hb2
      have k3 : (dC b).2.2 = 0 := rNum_ok k4
      have k2 : (dB b).2.2 = 0 := rTxt_ok k3
      have k1 : (dA b).2.2 = 0 := rTxt_ok k2
      have b1 := rTxt_bwd (s := b) k1
      have b2 := rTxt_bwd (s := (dA b).2.1) (by rw [← pair0 k1]; exact k2)
      have b3 := rTxt_bwd (s := (dB b).2.1) (by rw [← pair0 k2]; exact k3)
      have b4 := rNum_bwd (s := (dC b).2.1) (by rw [← pair0 k3]; exact k4)
      obtain ⟨l2, e1, e2, e3⟩ := rowsD_bwd (dN b).1 (dN b).2.1 [] (by rw [← pair0 k4]; exact hb2)
      rw [← pair0 k1] at b2
      rw [← pair0 k2] at b3
      rw [← pair0 k3] at b4
      rw [← pair0 k4] at e1 e3
      have e1' : (dR b).1 = l2 := e1.trans (List.nil_append _)
      have hn : (dS b).who.length = (dN b).1 := by unfold dS; simp only [List.length_map]; rw [e1', e2]
      have hzz : (dS b).who.zip (dS b).seals = (dR b).1 := zip_stp (dS b) (dR b).1
      unfold encS
      rw [hn, hzz, e1']
      have c1 : b.data.toList = encT (dS b).ref ++ (dA b).2.1.data.toList := b1.1
      have c2 : (dA b).2.1.data.toList = encT (dS b).old ++ (dB b).2.1.data.toList := b2.1
      have c3 : (dB b).2.1.data.toList = encT (dS b).new ++ (dC b).2.1.data.toList := b3.1
      have c4 : (dC b).2.1.data.toList = enc (dN b).1 ++ (dN b).2.1.data.toList := b4.1
      have c5 : (dN b).2.1.data.toList = encPP l2 ++ (dR b).2.1.data.toList := e3
      have c6 : (dR b).2.1.data.toList = [] := by apply List.eq_nil_of_length_eq_zero; rw [toList_length]; exact hz
      rw [c1, c2, c3, c4, c5, c6, List.append_nil]
theorem decS_bad {b : ByteArray} (h : (decodeSF b).2 ≠ 0) : (decodeSF b).1 = zeroStp := by
  unfold decodeSF at h ⊢
  by_cases c : (dR b).2.2 ≠ 0 ∨ 0 < (dR b).2.1.size
  · rw [if_pos c]
  · rw [if_neg c] at h ⊢
    by_cases g : goodS (dS b) ≠ 0
    · rw [if_pos g]
    · rw [if_neg g] at h; exact absurd rfl h
theorem encPP_length {P : List (Int × ByteArray)} (h : GoodP P) : (encPP P).length ≤ 8 * 41 := by
  have key : ∀ Q : List (Int × ByteArray), (∀ p ∈ Q, (0 ≤ p.1 ∧ p.1 < 8) ∧ p.2.size = 32) → (encPP Q).length ≤ Q.length * 41 := by
    intro Q
    induction Q with
    | nil => intro _; simp [encPP]
    | cons p Q ih =>
      intro hq
      have hp := hq p (by simp)
      have := ih (fun x hx => hq x (by simp [hx]))
      have e := enc_len9 p.1.toNat (by omega)
      rw [show encPP (p :: Q) = enc p.1.toNat ++ (p.2.data.toList ++ encPP Q) by simp [encPP]]
      simp only [List.length_append, List.length_cons, toList_length, hp.2]
      omega
  have := key P (fun p hp => ⟨h.rng p hp, h.siz p hp⟩)
  have := h.len
  omega
theorem encS_inj {s t : Stp} (h : goodS s = 0) (g : goodS t = 0) (e : encS s = encS t) : s = t := by
  have a := decS_enc h
  have b := decS_enc g
  rw [e, b] at a
  exact (congrArg Prod.fst a).symm
end Go.Proofs.YtinhjnbgblieeaaDoor
