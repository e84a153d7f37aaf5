/- Disks in plain Lean: files in the order of their names; what each step upon a disk comes to; their laws. -/
import Derived.Test.YtinhjnbgblieeaaDoorKit
import Derived.Lib.Bytealg
namespace Go.Proofs.YtinhjnbgblieeaaDoor
set_option linter.unusedVariables false
set_option linter.unusedSimpArgs false

/-! The order of texts. -/
theorem bl_irr : ∀ a : List UInt8, Op.bytesLess a a = false
  | [] => rfl
  | x :: a => by simp [Op.bytesLess, bl_irr a]
theorem bl_trans : ∀ a b c : List UInt8, Op.bytesLess a b = true → Op.bytesLess b c = true → Op.bytesLess a c = true
  | _, _, [], _, h => by simp [Op.bytesLess] at h
  | _, [], _ :: _, h, _ => by simp [Op.bytesLess] at h
  | [], _ :: _, _ :: _, _, _ => rfl
  | x :: a, y :: b, z :: c, h, k => by
    simp only [Op.bytesLess, Bool.or_eq_true, decide_eq_true_eq, Bool.and_eq_true, beq_iff_eq] at h k ⊢
    rcases h with h | ⟨rfl, h⟩
    · rcases k with k | ⟨rfl, k⟩
      · exact .inl (UInt8.lt_trans h k)
      · exact .inl h
    · rcases k with k | ⟨rfl, k⟩
      · exact .inl k
      · exact .inr ⟨rfl, bl_trans a b c h k⟩
theorem bl_tri : ∀ a b : List UInt8, Op.bytesLess a b = true ∨ a = b ∨ Op.bytesLess b a = true
  | [], [] => .inr (.inl rfl)
  | [], _ :: _ => .inl rfl
  | _ :: _, [] => .inr (.inr rfl)
  | x :: a, y :: b => by
    simp only [Op.bytesLess, Bool.or_eq_true, decide_eq_true_eq, Bool.and_eq_true, beq_iff_eq, List.cons.injEq]
    by_cases h : x = y
    · subst h
      rcases bl_tri a b with h | h | h
      · exact .inl (.inr ⟨rfl, h⟩)
      · exact .inr (.inl ⟨rfl, h⟩)
      · exact .inr (.inr (.inr ⟨rfl, h⟩))
    · rcases UInt8.lt_or_lt_of_ne h with h' | h'
      · exact .inl (.inl h')
      · exact .inr (.inr (.inl h'))
theorem cmp_bl : ∀ a b : List UInt8, Lib.compareBytes a b = if Op.bytesLess a b = true then -1 else if a = b then 0 else 1
  | [], [] => rfl
  | [], _ :: _ => rfl
  | _ :: _, [] => rfl
  | x :: a, y :: b => by
    simp only [Op.bytesLess, Lib.compareBytes, Bool.or_eq_true, decide_eq_true_eq, Bool.and_eq_true, beq_iff_eq, List.cons.injEq]
    by_cases h : x = y
    · subst h
      simp [UInt8.lt_irrefl, cmp_bl a b]
    · rcases UInt8.lt_or_lt_of_ne h with h' | h'
      · simp [h']
      · have : ¬ x < y := fun k => absurd (UInt8.lt_trans k h') (UInt8.lt_irrefl _)
        simp [h, h', this]
/-- The order of names. -/
def lt (a b : ByteArray) : Prop := Op.bytesLess a.toList b.toList = true
instance (a b : ByteArray) : Decidable (lt a b) := inferInstanceAs (Decidable (_ = true))
theorem toList_inj {s t : ByteArray} (h : s.toList = t.toList) : s = t := by
  rw [ByteArray.toList_eq, ByteArray.toList_eq] at h
  exact bs_ext h
theorem lt_irr (a : ByteArray) : ¬ lt a a := by simp [lt, bl_irr]
theorem lt_trans {a b c : ByteArray} (h : lt a b) (k : lt b c) : lt a c := bl_trans _ _ _ h k
theorem lt_tri (a b : ByteArray) : lt a b ∨ a = b ∨ lt b a := (bl_tri a.toList b.toList).imp id (Or.imp toList_inj id)
theorem lt_asym {a b : ByteArray} (h : lt a b) : ¬ lt b a := fun k => lt_irr a (lt_trans h k)
theorem lt_ne {a b : ByteArray} (h : lt a b) : a ≠ b := fun e => lt_irr b (e ▸ h)
theorem not_lt {a b : ByteArray} (h : ¬ lt a b) : a = b ∨ lt b a := (lt_tri a b).resolve_left h
theorem cmp_lt (a b : ByteArray) : Lib.compareBytes a.data.toList b.data.toList = if lt a b then -1 else if a = b then 0 else 1 := by
  rw [cmp_bl, ← ByteArray.toList_eq, ← ByteArray.toList_eq]
  unfold lt
  by_cases h : a = b
  · subst h; simp
  · have : ¬ a.toList = b.toList := fun e => h (toList_inj e)
    simp [h, this]

/-! Lists that are sorted by a name. -/
section
variable {α : Type} (nm : α → ByteArray)
def Srt (l : List α) : Prop := l.Pairwise (fun f g => lt (nm f) (nm g))
def getL (n : ByteArray) (l : List α) : Option α := l.find? (fun f => decide (nm f = n))
def putL (f : α) : List α → List α
  | [] => [f]
  | x :: l => if nm x = nm f then f :: l else if lt (nm x) (nm f) then x :: putL f l else f :: x :: l
def delL (n : ByteArray) (l : List α) : List α := l.filter (fun f => decide (nm f ≠ n))
def idxL (n : ByteArray) (l : List α) : Nat := (l.takeWhile (fun f => decide (lt (nm f) n))).length
theorem getL_put (m : ByteArray) (f : α) : ∀ l : List α, getL nm m (putL nm f l) = if m = nm f then some f else getL nm m l
  | [] => by by_cases h : m = nm f <;> simp [getL, putL, h, eq_comm]
  | x :: l => by
    have ih := getL_put m f l
    unfold putL
    split
    · rename_i h
      by_cases hm : m = nm f
      · simp [getL, hm]
      · have h1 : ¬ nm f = m := fun e => hm e.symm
        simp [getL, hm, h1, h]
    · rename_i h
      split
      · by_cases hm : m = nm f
        · rw [if_pos hm] at ih ⊢
          have h1 : ¬ nm x = m := fun e => h (e.trans hm)
          unfold getL at ih ⊢
          rw [List.find?_cons, ih]
          simp [h1]
        · rw [if_neg hm] at ih ⊢
          unfold getL at ih ⊢
          rw [List.find?_cons, List.find?_cons, ih]
      · by_cases hm : m = nm f
        · simp [getL, hm]
        · have h1 : ¬ nm f = m := fun e => hm e.symm
          simp [getL, hm, h1]
theorem getL_del (n m : ByteArray) : ∀ l : List α, getL nm n (delL nm m l) = if n = m then none else getL nm n l
  | [] => by simp [getL, delL]
  | x :: l => by
    have ih := getL_del n m l
    unfold getL delL at ih ⊢
    by_cases hx : nm x = m
    · rw [List.filter_cons_of_neg (by simpa using hx), ih]
      by_cases h : n = m
      · simp [h]
      · have h1 : ¬ nm x = n := fun e => h (e.symm.trans hx)
        simp [h, h1]
    · rw [List.filter_cons_of_pos (by simpa using hx), List.find?_cons, List.find?_cons, ih]
      by_cases h : n = m
      · have h1 : ¬ nm x = n := fun e => hx (e.trans h)
        simp [h, hx]
      · simp [h]
theorem getL_some {n : ByteArray} {l : List α} {f : α} (h : getL nm n l = some f) : f ∈ l ∧ nm f = n := ⟨List.mem_of_find?_eq_some h, by simpa using List.find?_some h⟩
theorem getL_none {n : ByteArray} {l : List α} (h : getL nm n l = none) : ∀ f ∈ l, nm f ≠ n := fun f hf => by simpa using List.find?_eq_none.1 h f hf
/-- A sorted list is parted by a name. -/
theorem parted (n : ByteArray) : ∀ l : List α, Srt nm l → ∃ a b, (∀ x ∈ a, lt (nm x) n) ∧ (∀ x ∈ b, lt n (nm x)) ∧ ((l = a ++ b ∧ getL nm n l = none) ∨ ∃ f, nm f = n ∧ l = a ++ f :: b ∧ getL nm n l = some f)
  | [], _ => ⟨[], [], by simp, by simp, .inl ⟨rfl, rfl⟩⟩
  | x :: l, h => by
    have hx := (List.pairwise_cons.1 h).1
    rcases lt_tri (nm x) n with h1 | h1 | h1
    · obtain ⟨a, b, ha, hb, hab⟩ := parted n l (List.pairwise_cons.1 h).2
      have hne := lt_ne h1
      refine ⟨x :: a, b, ?_, hb, ?_⟩
      · intro y hy
        rcases List.mem_cons.1 hy with rfl | hy
        · exact h1
        · exact ha y hy
      · rcases hab with ⟨rfl, hg⟩ | ⟨f, hf, rfl, hg⟩
        · exact .inl ⟨rfl, by simpa [getL, hne] using hg⟩
        · exact .inr ⟨f, hf, rfl, by simpa [getL, hne] using hg⟩
    · exact ⟨[], l, by simp, fun y hy => h1 ▸ hx y hy, .inr ⟨x, h1, rfl, by simp [getL, h1]⟩⟩
    · refine ⟨[], x :: l, by simp, ?_, .inl ⟨rfl, ?_⟩⟩
      · intro y hy
        rcases List.mem_cons.1 hy with rfl | hy
        · exact h1
        · exact lt_trans h1 (hx y hy)
      · refine List.find?_eq_none.2 ?_
        intro y hy
        rcases List.mem_cons.1 hy with rfl | hy
        · simpa using (lt_ne h1).symm
        · simpa using (lt_ne (lt_trans h1 (hx y hy))).symm
theorem put_parted {f : α} {n : ByteArray} (hf : nm f = n) : ∀ (a b : List α), (∀ x ∈ a, lt (nm x) n) → (∀ x ∈ b, lt n (nm x)) → putL nm f (a ++ b) = a ++ f :: b
  | [], [], _, _ => rfl
  | [], y :: b, _, hb => by
    have h1 := hb y (by simp)
    have h2 : ¬ nm y = nm f := fun e => lt_ne h1 (hf.symm.trans e.symm)
    have h3 : ¬ lt (nm y) (nm f) := hf ▸ lt_asym h1
    simp [putL, h2, h3]
  | x :: a, b, ha, hb => by
    have h1 : lt (nm x) (nm f) := hf ▸ ha x (by simp)
    have ih := put_parted hf a b (fun y hy => ha y (by simp [hy])) hb
    simp [putL, h1, lt_ne h1, ih]
theorem put_parted' {f g : α} {n : ByteArray} (hf : nm f = n) (hg : nm g = n) : ∀ (a b : List α), (∀ x ∈ a, lt (nm x) n) → (∀ x ∈ b, lt n (nm x)) → putL nm f (a ++ g :: b) = a ++ f :: b
  | [], b, _, hb => by simp [putL, hf, hg]
  | x :: a, b, ha, hb => by
    have h1 : lt (nm x) (nm f) := hf ▸ ha x (by simp)
    have ih := put_parted' hf hg a b (fun y hy => ha y (by simp [hy])) hb
    simp [putL, h1, lt_ne h1, ih]
theorem filter_all {n : ByteArray} {a : List α} (h : ∀ x ∈ a, nm x ≠ n) : delL nm n a = a := List.filter_eq_self.2 (fun x hx => by simpa using h x hx)
theorem del_parted {g : α} {n : ByteArray} (hg : nm g = n) (a b : List α) (ha : ∀ x ∈ a, lt (nm x) n) (hb : ∀ x ∈ b, lt n (nm x)) : delL nm n (a ++ g :: b) = a ++ b := by
  have h1 := filter_all nm (fun x hx => lt_ne (ha x hx))
  have h2 := filter_all nm (fun x hx => (lt_ne (hb x hx)).symm)
  unfold delL at h1 h2 ⊢
  rw [List.filter_append, List.filter_cons_of_neg (by simpa using hg), h1, h2]
theorem idx_parted {n : ByteArray} {a b : List α} (ha : ∀ x ∈ a, lt (nm x) n) (hb : ∀ x, b.head? = some x → ¬ lt (nm x) n) : idxL nm n (a ++ b) = a.length := by
  unfold idxL
  induction a with
  | nil =>
    cases b with
    | nil => rfl
    | cons y b => simp [hb y rfl]
  | cons x a ih => simpa [ha x (by simp)] using ih (fun y hy => ha y (by simp [hy]))
/-- All that the code does at a found place. -/
theorem at_none {n : ByteArray} {l : List α} (hs : Srt nm l) (hg : getL nm n l = none) : idxL nm n l ≤ l.length ∧ (∀ f, nm f = n → l.take (idxL nm n l) ++ f :: l.drop (idxL nm n l) = putL nm f l) := by
  obtain ⟨a, b, ha, hb, ⟨rfl, _⟩ | ⟨f, _, _, h⟩⟩ := parted nm n l hs
  · have hi : idxL nm n (a ++ b) = a.length := idx_parted nm ha (fun x hx => lt_asym (hb x (List.mem_of_mem_head? (by simp [hx]))))
    refine ⟨by simp [hi], fun f hf => ?_⟩
    rw [hi, put_parted nm hf a b ha hb]; simp
  · rw [hg] at h; cases h
theorem at_some {n : ByteArray} {l : List α} {f : α} (hs : Srt nm l) (hg : getL nm n l = some f) : idxL nm n l < l.length ∧ l[idxL nm n l]? = some f ∧
    (∀ g, nm g = n → l.take (idxL nm n l) ++ g :: l.drop (idxL nm n l + 1) = putL nm g l) ∧ l.take (idxL nm n l) ++ l.drop (idxL nm n l + 1) = delL nm n l := by
  obtain ⟨a, b, ha, hb, ⟨_, h⟩ | ⟨f', hf', rfl, h⟩⟩ := parted nm n l hs
  · rw [hg] at h; cases h
  · rw [hg] at h
    obtain rfl := Option.some.inj h
    have hi : idxL nm n (a ++ f :: b) = a.length := idx_parted nm ha (fun x hx => by obtain rfl : f = x := by simpa using hx
                                                                                     rw [hf']; exact lt_irr n)
    rw [hi]
    refine ⟨by simp, by simp, fun g hg' => ?_, ?_⟩
    · rw [put_parted' nm hg' hf' a b ha hb]; simp
    · rw [del_parted nm hf' a b ha hb]; simp
theorem srt_put {f : α} {l : List α} (hs : Srt nm l) : Srt nm (putL nm f l) := by
  obtain ⟨a, b, ha, hb, ⟨rfl, _⟩ | ⟨g, hg, rfl, _⟩⟩ := parted nm (nm f) l hs
  · rw [put_parted nm rfl a b ha hb]
    unfold Srt at hs ⊢
    rw [List.pairwise_append] at hs ⊢
    refine ⟨hs.1, List.pairwise_cons.2 ⟨hb, hs.2.1⟩, fun x hx y hy => ?_⟩
    rcases List.mem_cons.1 hy with rfl | hy
    · exact ha x hx
    · exact hs.2.2 x hx y hy
  · rw [put_parted' nm rfl hg a b ha hb]
    unfold Srt at hs ⊢
    rw [List.pairwise_append] at hs ⊢
    refine ⟨hs.1, List.pairwise_cons.2 ⟨hb, (List.pairwise_cons.1 hs.2.1).2⟩, fun x hx y hy => ?_⟩
    rcases List.mem_cons.1 hy with rfl | hy
    · exact ha x hx
    · exact hs.2.2 x hx y (List.mem_cons_of_mem _ hy)
theorem srt_del {n : ByteArray} {l : List α} (hs : Srt nm l) : Srt nm (delL nm n l) := List.Pairwise.sublist List.filter_sublist hs
theorem mem_put {f x : α} : ∀ {l : List α}, x ∈ putL nm f l → x = f ∨ x ∈ l
  | [], h => .inl (by simpa [putL] using h)
  | y :: l, h => by
    unfold putL at h
    split at h
    · rcases List.mem_cons.1 h with h | h
      · exact .inl h
      · exact .inr (by simp [h])
    · split at h
      · rcases List.mem_cons.1 h with h | h
        · exact .inr (by simp [h])
        · exact (mem_put h).imp id (fun h => by simp [h])
      · rcases List.mem_cons.1 h with h | h
        · exact .inl h
        · exact .inr h
theorem mem_del {n : ByteArray} {x : α} {l : List α} (h : x ∈ delL nm n l) : x ∈ l := (List.mem_filter.1 h).1
theorem len_put_none {f : α} {l : List α} (hs : Srt nm l) (hg : getL nm (nm f) l = none) : (putL nm f l).length = l.length + 1 := by
  have h := at_none nm hs hg
  rw [← h.2 f rfl]
  simp
  omega
theorem len_put_some {f g : α} {l : List α} (hs : Srt nm l) (hg : getL nm (nm f) l = some g) : (putL nm f l).length = l.length := by
  have h := at_some nm hs hg
  rw [← h.2.2.1 f rfl]
  simp
  omega
theorem len_del_some {n : ByteArray} {g : α} {l : List α} (hs : Srt nm l) (hg : getL nm n l = some g) : (delL nm n l).length + 1 = l.length := by
  have h := at_some nm hs hg
  rw [← h.2.2.2]
  simp
  omega
/-- Two sorted lists that answer alike are one. -/
theorem srt_ext : ∀ {l m : List α}, Srt nm l → Srt nm m → (∀ n, getL nm n l = getL nm n m) → l = m
  | [], [], _, _, _ => rfl
  | [], y :: m, _, _, h => by have := h (nm y); simp [getL] at this
  | x :: l, [], _, _, h => by have := h (nm x); simp [getL] at this
  | x :: l, y :: m, hl, hm, h => by
    have h1 := (List.pairwise_cons.1 hl).1
    have h2 := (List.pairwise_cons.1 hm).1
    have hxy : x = y := by
      have hx := h (nm x)
      have hy := h (nm y)
      by_cases e : nm x = nm y
      · simpa [getL, e] using hx
      · rcases lt_tri (nm x) (nm y) with k | k | k
        · exfalso
          rw [show getL nm (nm x) (x :: l) = some x by simp [getL]] at hx
          obtain ⟨hin, _⟩ := getL_some nm hx.symm
          rcases List.mem_cons.1 hin with rfl | hin
          · exact e rfl
          · exact lt_asym k (h2 x hin)
        · exact absurd k e
        · exfalso
          rw [show getL nm (nm y) (y :: m) = some y by simp [getL]] at hy
          obtain ⟨hin, _⟩ := getL_some nm hy
          rcases List.mem_cons.1 hin with rfl | hin
          · exact e rfl
          · exact lt_asym k (h1 y hin)
    subst hxy
    have : l = m := srt_ext (List.pairwise_cons.1 hl).2 (List.pairwise_cons.1 hm).2 (fun n => by
      have hn := h n
      by_cases e : nm x = n
      · subst e
        have e1 : getL nm (nm x) l = none := List.find?_eq_none.2 (fun y hy => by simpa using (lt_ne (h1 y hy)).symm)
        have e2 : getL nm (nm x) m = none := List.find?_eq_none.2 (fun y hy => by simpa using (lt_ne (h2 y hy)).symm)
        rw [e1, e2]
      · simpa [getL, e] using hn)
    rw [this]
end

/-! Disks. -/
structure Fil where
  name : ByteArray
  safe : ByteArray
  tail : ByteArray
structure Dsk where
  files : List Fil
  fuse : Int
def nilB : ByteArray := ⟨#[]⟩
abbrev fget := getL Fil.name
abbrev fput := putL Fil.name
abbrev fdel := delL Fil.name
abbrev fidx := idxL Fil.name
abbrev FSrt := Srt Fil.name
section
variable (nm : ByteArray → Bool)
structure GoodL (l : List Fil) : Prop where
  len : l.length ≤ 400
  srt : FSrt l
  name : ∀ f ∈ l, nm f.name = true
  size : ∀ f ∈ l, f.safe.size + f.tail.size ≤ 1048576
open Classical in
noncomputable def stepD (d : Dsk) (op : List Fil → List Fil × Int) : Dsk × Int :=
  if ¬ GoodL nm d.files then (d, 3) else if d.fuse = 0 then (d, 12) else if (op d.files).2 ≠ 0 then (d, (op d.files).2) else (⟨(op d.files).1, if 0 < d.fuse then d.fuse - 1 else d.fuse⟩, 0)
def writeO (name s : ByteArray) (l : List Fil) : List Fil × Int :=
  if nm name = false then (l, 2) else
  match fget name l with
  | none => if 400 ≤ l.length then (l, 6) else if 1048576 < s.size then (l, 1) else (fput ⟨name, nilB, s⟩ l, 0)
  | some f => if 1048576 < s.size + f.safe.size + f.tail.size then (l, 1) else (fput ⟨name, f.safe, f.tail ++ s⟩ l, 0)
def syncO (name : ByteArray) (l : List Fil) : List Fil × Int :=
  match fget name l with
  | none => (l, 7)
  | some f => (fput ⟨name, f.safe ++ f.tail, nilB⟩ l, 0)
def removeO (name : ByteArray) (l : List Fil) : List Fil × Int :=
  match fget name l with
  | none => (l, 7)
  | some f => (fdel name l, 0)
def renameO (frm to : ByteArray) (l : List Fil) : List Fil × Int :=
  if nm to = false then (l, 2) else
  match fget frm l with
  | none => (l, 7)
  | some f => (fput ⟨to, f.safe, f.tail⟩ (fdel frm l), 0)
noncomputable def writeD (d : Dsk) (name s : ByteArray) := stepD nm d (writeO nm name s)
noncomputable def syncD (d : Dsk) (name : ByteArray) := stepD nm d (syncO name)
noncomputable def removeD (d : Dsk) (name : ByteArray) := stepD nm d (removeO name)
noncomputable def renameD (d : Dsk) (frm to : ByteArray) := stepD nm d (renameO nm frm to)
open Classical in
noncomputable def readD (d : Dsk) (name : ByteArray) : ByteArray × Int :=
  if ¬ GoodL nm d.files then (nilB, 3) else match fget name d.files with
  | none => (nilB, 7)
  | some f => (f.safe ++ f.tail, 0)
def crashFil (keep : Nat) (f : Fil) : Fil := ⟨f.name, f.safe ++ f.tail.extract 0 (min keep f.tail.size), nilB⟩
open Classical in
noncomputable def crashD (d : Dsk) (keep : Int) : Dsk × Int :=
  if ¬ GoodL nm d.files ∨ keep < 0 then (d, 3) else (⟨d.files.map (crashFil keep.toNat), -1⟩, 0)
def dotNew : ByteArray := ⟨#[46, 110, 101, 119]⟩
open Classical in
noncomputable def saveD (d : Dsk) (name s : ByteArray) : Dsk × Int :=
  if ¬ GoodL nm d.files then (d, 3) else
  if nm name = false ∨ nm (name ++ dotNew) = false then (d, 2) else
  let r := if fget (name ++ dotNew) d.files = none then (d, 0) else removeD nm d (name ++ dotNew)
  if r.2 ≠ 0 then r else
  if (writeD nm r.1 (name ++ dotNew) s).2 ≠ 0 then writeD nm r.1 (name ++ dotNew) s else
  if (syncD nm (writeD nm r.1 (name ++ dotNew) s).1 (name ++ dotNew)).2 ≠ 0 then syncD nm (writeD nm r.1 (name ++ dotNew) s).1 (name ++ dotNew) else
  renameD nm (syncD nm (writeD nm r.1 (name ++ dotNew) s).1 (name ++ dotNew)).1 (name ++ dotNew) name
variable {nm}
theorem fput_inv {l : List Fil} {f : Fil} (h : GoodL nm l) (hn : nm f.name = true) (hs : f.safe.size + f.tail.size ≤ 1048576) (hl : fget f.name l ≠ none ∨ l.length < 400) : GoodL nm (fput f l) := by
  refine ⟨?_, srt_put _ h.srt, fun x hx => ?_, fun x hx => ?_⟩
  · cases hg : fget f.name l with
    | none => have := len_put_none Fil.name h.srt hg; have := hl.resolve_left (fun k => k hg); unfold fput; omega
    | some g => have := len_put_some Fil.name h.srt hg; have := h.len; unfold fput; omega
  · rcases mem_put _ hx with rfl | hx
    · exact hn
    · exact h.name x hx
  · rcases mem_put _ hx with rfl | hx
    · exact hs
    · exact h.size x hx
theorem fdel_inv {l : List Fil} {n : ByteArray} (h : GoodL nm l) : GoodL nm (fdel n l) :=
  ⟨Nat.le_trans (List.length_filter_le _ _) h.len, srt_del _ h.srt, fun x hx => h.name x (mem_del _ hx), fun x hx => h.size x (mem_del _ hx)⟩
theorem size_nil : nilB.size = 0 := rfl
theorem write_inv {l : List Fil} {name s : ByteArray} (h : GoodL nm l) (he : (writeO nm name s l).2 = 0) : GoodL nm (writeO nm name s l).1 := by
  unfold writeO at he ⊢
  split
  · rename_i h1; rw [if_pos h1] at he; exact absurd he (by simp)
  · rename_i h1
    rw [if_neg h1] at he
    cases hg : fget name l with
    | none =>
      rw [hg] at he
      simp only at he ⊢
      split
      · rename_i h2; rw [if_pos h2] at he; exact absurd he (by simp)
      · rename_i h2
        rw [if_neg h2] at he
        split
        · rename_i h3; rw [if_pos h3] at he; exact absurd he (by simp)
        · rename_i h3
          exact fput_inv h (by simpa using h1) (by simp [size_nil]; omega) (.inr (by omega))
    | some f =>
      rw [hg] at he
      simp only at he ⊢
      split
      · rename_i h2; rw [if_pos h2] at he; exact absurd he (by simp)
      · rename_i h2
        exact fput_inv h (by simpa using h1) (by simp [ByteArray.size_append]; omega) (.inl (by simp [hg]))
theorem sync_inv {l : List Fil} {name : ByteArray} (h : GoodL nm l) (he : (syncO name l).2 = 0) : GoodL nm (syncO name l).1 := by
  unfold syncO at he ⊢
  cases hg : fget name l with
  | none => rw [hg] at he; exact absurd he (by simp)
  | some f =>
    obtain ⟨h1, rfl⟩ := getL_some _ hg
    have := h.size f h1
    exact fput_inv h (h.name f h1) (by simp [ByteArray.size_append, size_nil]; omega) (.inl (by simp [hg]))
theorem remove_inv {l : List Fil} {name : ByteArray} (h : GoodL nm l) (he : (removeO name l).2 = 0) : GoodL nm (removeO name l).1 := by
  unfold removeO at he ⊢
  cases hg : fget name l with
  | none => rw [hg] at he; exact absurd he (by simp)
  | some f => exact fdel_inv h
theorem rename_inv {l : List Fil} {a b : ByteArray} (h : GoodL nm l) (he : (renameO nm a b l).2 = 0) : GoodL nm (renameO nm a b l).1 := by
  unfold renameO at he ⊢
  split
  · rename_i h1; rw [if_pos h1] at he; exact absurd he (by simp)
  · rename_i h1
    rw [if_neg h1] at he
    cases hg : fget a l with
    | none => rw [hg] at he; exact absurd he (by simp)
    | some f =>
      obtain ⟨h2, rfl⟩ := getL_some _ hg
      have hsz := h.size f h2
      have hlen := len_del_some Fil.name h.srt hg
      have := h.len
      exact fput_inv (fdel_inv h) (by simpa using h1) hsz (.inr (by unfold fdel; omega))
theorem step_inv {d : Dsk} {op : List Fil → List Fil × Int} (hop : ∀ l, GoodL nm l → (op l).2 = 0 → GoodL nm (op l).1) (h : GoodL nm d.files) : GoodL nm (stepD nm d op).1.files := by
  unfold stepD
  rw [if_neg (by simpa using h)]
  split
  · exact h
  · split
    · exact h
    · rename_i h1 h2; exact hop _ h (by simpa using h2)
/-- What a step leaves: the disk as it was, or a step less and the operation done. -/
theorem step_cases (nm : ByteArray → Bool) (d : Dsk) (op : List Fil → List Fil × Int) : ((stepD nm d op).1 = d ∧ (stepD nm d op).2 ≠ 0) ∨
    (GoodL nm d.files ∧ d.fuse ≠ 0 ∧ (op d.files).2 = 0 ∧ stepD nm d op = (⟨(op d.files).1, if 0 < d.fuse then d.fuse - 1 else d.fuse⟩, 0)) := by
  unfold stepD
  by_cases h : GoodL nm d.files
  · rw [if_neg (by simpa using h)]
    by_cases h1 : d.fuse = 0
    · rw [if_pos h1]; exact .inl ⟨rfl, by simp⟩
    · rw [if_neg h1]
      by_cases h2 : (op d.files).2 = 0
      · rw [if_neg (by simpa using h2)]; exact .inr ⟨h, h1, h2, rfl⟩
      · rw [if_pos h2]; exact .inl ⟨rfl, h2⟩
  · rw [if_pos h]; exact .inl ⟨rfl, by simp⟩
theorem write_other {l : List Fil} {name s m : ByteArray} (hm : m ≠ name) : fget m (writeO nm name s l).1 = fget m l := by
  unfold writeO
  split
  · rfl
  · cases hg : fget name l with
    | none =>
      simp only
      split
      · rfl
      · split
        · rfl
        · simp [getL_put, hm]
    | some f =>
      simp only
      split
      · rfl
      · simp [getL_put, hm]
theorem sync_other {l : List Fil} {name m : ByteArray} (hm : m ≠ name) : fget m (syncO name l).1 = fget m l := by
  unfold syncO
  cases hg : fget name l with
  | none => rfl
  | some f => simp [getL_put, hm]
theorem remove_other {l : List Fil} {name m : ByteArray} (hm : m ≠ name) : fget m (removeO name l).1 = fget m l := by
  unfold removeO
  cases hg : fget name l with
  | none => rfl
  | some f => simp [getL_del, hm]
theorem rename_other {l : List Fil} {a b m : ByteArray} (ha : m ≠ a) (hb : m ≠ b) : fget m (renameO nm a b l).1 = fget m l := by
  unfold renameO
  split
  · rfl
  · cases hg : fget a l with
    | none => rfl
    | some f => simp [getL_put, getL_del, ha, hb]
theorem step_other {d : Dsk} {op : List Fil → List Fil × Int} {m : ByteArray} (hop : ∀ l, fget m (op l).1 = fget m l) : fget m (stepD nm d op).1.files = fget m d.files := by
  rcases step_cases nm d op with ⟨h, _⟩ | ⟨_, _, _, h⟩
  · rw [h]
  · rw [h]; exact hop _
theorem new_ne (name : ByteArray) : name ++ dotNew ≠ name := fun h => by
  have := congrArg ByteArray.size h
  rw [ByteArray.size_append] at this
  have h4 : dotNew.size = 4 := rfl
  omega
/-- Save leaves a disk, and of other files what they were. -/
theorem save_inv {d : Dsk} {name s : ByteArray} (h : GoodL nm d.files) : GoodL nm (saveD nm d name s).1.files := by
  unfold saveD
  rw [if_neg (by simpa using h)]
  split
  · exact h
  · have h1 : GoodL nm (if fget (name ++ dotNew) d.files = none then (d, (0 : Int)) else removeD nm d (name ++ dotNew)).1.files := by
      split
      · exact h
      · exact step_inv (fun l => remove_inv) h
    simp only
    generalize (if fget (name ++ dotNew) d.files = none then (d, (0 : Int)) else removeD nm d (name ++ dotNew)) = r at h1 ⊢
    have h2 : GoodL nm (writeD nm r.1 (name ++ dotNew) s).1.files := step_inv (fun l => write_inv) h1
    have h3 : GoodL nm (syncD nm (writeD nm r.1 (name ++ dotNew) s).1 (name ++ dotNew)).1.files := step_inv (fun l => sync_inv) h2
    split
    · exact h1
    · split
      · exact h2
      · split
        · exact h3
        · exact step_inv (fun l => rename_inv) h3
theorem save_other {d : Dsk} {name s m : ByteArray} (h1 : m ≠ name) (h2 : m ≠ name ++ dotNew) : fget m (saveD nm d name s).1.files = fget m d.files := by
  unfold saveD
  split
  · rfl
  · split
    · rfl
    · have e1 : fget m (if fget (name ++ dotNew) d.files = none then (d, (0 : Int)) else removeD nm d (name ++ dotNew)).1.files = fget m d.files := by
        split
        · rfl
        · exact step_other (fun l => remove_other h2)
      simp only
      generalize (if fget (name ++ dotNew) d.files = none then (d, (0 : Int)) else removeD nm d (name ++ dotNew)) = r at e1 ⊢
      have e2 : fget m (writeD nm r.1 (name ++ dotNew) s).1.files = fget m d.files := (step_other (fun l => write_other h2)).trans e1
      have e3 : fget m (syncD nm (writeD nm r.1 (name ++ dotNew) s).1 (name ++ dotNew)).1.files = fget m d.files := (step_other (fun l => sync_other h2)).trans e2
      split
      · exact e1
      · split
        · exact e2
        · split
          · exact e3
          · exact (step_other (fun l => rename_other h2 h1)).trans e3
end
end Go.Proofs.YtinhjnbgblieeaaDoor
