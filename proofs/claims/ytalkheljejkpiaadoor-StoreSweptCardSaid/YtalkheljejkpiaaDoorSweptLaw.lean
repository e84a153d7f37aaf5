/- What StoreSwept says, in plain Lean. -/
import Derived.Test.YtalkheljejkpiaaDoorStore9
import Derived.Test.YtalkheljejkpiaaDoorStore8
import Derived.Test.YtalkheljejkpiaaDoorClosedLaw
import Derived.Test.YtalkheljejkpiaaDoorPutsLaw
namespace Go.Proofs.YtalkheljejkpiaaDoor
set_option linter.unusedVariables false
set_option linter.unusedSimpArgs false

/- Names of objects rise as their ids do. -/
theorem dg_mono : ∀ i, i < 16 → ∀ j, j < 16 → i < j → dg i < dg j := by decide +kernel
theorem hex_mono : ∀ a b : List UInt8, Op.bytesLess a b = true → Op.bytesLess (hexL a) (hexL b) = true
  | [], [], h => by simp [Op.bytesLess] at h
  | [], y :: b, _ => by simp [hexL, Op.bytesLess]
  | x :: a, [], h => by simp [Op.bytesLess] at h
  | x :: a, y :: b, h => by
    have hs : ∀ (z : UInt8) (c : List UInt8), hexL (z :: c) = dg (z.toNat / 16) :: dg (z.toNat % 16) :: hexL c := fun z c => by simp [hexL]
    rw [hs, hs]
    simp only [Op.bytesLess, Bool.or_eq_true, Bool.and_eq_true, decide_eq_true_eq, beq_iff_eq] at h ⊢
    have hx := x.toNat_lt
    have hy := y.toNat_lt
    rcases h with h | ⟨rfl, h⟩
    · have h1 : x.toNat < y.toNat := h
      by_cases hq : x.toNat / 16 = y.toNat / 16
      · right
        refine ⟨by rw [hq], .inl (dg_mono _ (by omega) _ (by omega) (by omega))⟩
      · left
        exact dg_mono _ (by omega) _ (by omega) (by omega)
    · exact .inr ⟨rfl, .inr ⟨rfl, hex_mono a b h⟩⟩
theorem file_mono {a b : ByteArray} (h : lt a b) : lt (fileF a) (fileF b) := by
  unfold lt fileF at *
  rw [ByteArray.toList_eq, ByteArray.toList_eq] at h ⊢
  rw [ByteArray.data_append, ByteArray.data_append, Array.toList_append, Array.toList_append]
  show Op.bytesLess ([111] ++ hexL a.data.toList) ([111] ++ hexL b.data.toList) = true
  simp only [List.cons_append, List.nil_append, Op.bytesLess, Bool.or_eq_true, Bool.and_eq_true, decide_eq_true_eq, beq_iff_eq]
  exact .inr ⟨trivial, hex_mono _ _ h⟩
theorem file_inj {a b : ByteArray} (h : fileF a = fileF b) : a = b := by
  have h1 := cutF_app (hexF a)
  have h2 := cutF_app (hexF b)
  unfold fileF at h
  rw [h, h2] at h1
  injection h1 with h1 _
  rw [← (un_hex a).1, ← (un_hex b).1, h1]
theorem lt_file {a b : ByteArray} (h : lt (fileF a) (fileF b)) : lt a b := by
  rcases lt_tri a b with k | k | k
  · exact k
  · rw [k] at h; exact absurd h (lt_irr _)
  · exact absurd (file_mono k) (lt_asym h)
/- Files. -/
theorem getL_mem {l : List Fil} (hs : FSrt l) {f : Fil} (hf : f ∈ l) : fget f.name l = some f := by
  induction l with
  | nil => cases hf
  | cons x l ih =>
    have hp := List.pairwise_cons.1 hs
    rcases List.mem_cons.1 hf with rfl | h
    · simp [getL]
    · have hne : x.name ≠ f.name := lt_ne (hp.1 f h)
      have := ih hp.2 h
      simp only [getL, List.find?_cons] at this ⊢
      rw [decide_eq_false hne]
      exact this
theorem name_inj {l : List Fil} (hs : FSrt l) {f g : Fil} (hf : f ∈ l) (hg : g ∈ l) (h : f.name = g.name) : f = g := by
  have h1 := getL_mem hs hf
  rw [h, getL_mem hs hg] at h1
  injection h1 with h1; exact h1.symm
theorem getL_filter {l : List Fil} (hs : FSrt l) (p : Fil → Bool) {f : Fil} (hf : f ∈ l) (hp : p f = true) : fget f.name (l.filter p) = some f :=
  getL_mem (List.Pairwise.sublist List.filter_sublist hs) (List.mem_filter.2 ⟨hf, hp⟩)
/-- A disk whose files are objects under their ids. -/
structure ObjD (l : List Fil) : Prop where
  good : GoodL namedD l
  obj : ∀ f ∈ l, f.tail = nilB ∧ f.name = fileF (sumF f.safe)
theorem GoodL.filter {l : List Fil} (h : GoodL namedD l) (p : Fil → Bool) : GoodL namedD (l.filter p) :=
  ⟨Nat.le_trans (List.length_filter_le _ _) h.len, List.Pairwise.sublist List.filter_sublist h.srt, fun f hf => h.name f (List.mem_filter.1 hf).1, fun f hf => h.size f (List.mem_filter.1 hf).1⟩
theorem ObjD.filter {l : List Fil} (h : ObjD l) (p : Fil → Bool) : ObjD (l.filter p) := ⟨h.good.filter p, fun f hf => h.obj f (List.mem_filter.1 hf).1⟩
theorem ObjD.cut {l : List Fil} (h : ObjD l) {f : Fil} (hf : f ∈ l) : cutF f.name = (hexF (sumF f.safe), true) := by rw [(h.obj f hf).2]; exact cutF_app _
theorem ObjD.get {l : List Fil} (h : ObjD l) {f : Fil} (hf : f ∈ l) (fz : Int) : getF ⟨l, fz⟩ (sumF f.safe) = (f.safe, 0) := by
  have hn := getL_mem h.good.srt hf
  rw [(h.obj f hf).2] at hn
  have := get_of_file (d := ⟨l, fz⟩) h.good hn (sumF_size _) (by rw [(h.obj f hf).1, app_nil])
  rw [this, (h.obj f hf).1, app_nil]
theorem ObjD.drops {l keep : List _} (h : ObjD l) {f : Fil} (hf : f ∈ l) : dropsF keep f.name ↔ hasB keep (sumF f.safe) = false := by
  unfold dropsF
  rw [h.cut hf]
  dsimp only
  rw [(un_hex _).1, (un_hex _).2]
  exact ⟨fun k => k.2.2.2, fun k => ⟨rfl, rfl, sumF_size _, k⟩⟩
theorem ObjD.id1 {l : List Fil} (h : ObjD l) {f : Fil} (hf : f ∈ l) (fz : Int) : id1 ⟨l, fz⟩ f = [sumF f.safe] := by
  have := id1_4 (d := ⟨l, fz⟩) (h.cut hf) (un_hex _).2 (by rw [(un_hex _).1, h.get hf])
  rw [this, (un_hex _).1]
theorem ObjD.ids {l : List Fil} (h : ObjD l) (fz : Int) : idsG ⟨l, fz⟩ l = l.map fun f => sumF f.safe := by
  unfold idsG
  have key : ∀ m : List Fil, (∀ f ∈ m, f ∈ l) → m.flatMap (Proofs.YtalkheljejkpiaaDoor.id1 ⟨l, fz⟩) = m.map fun f => sumF f.safe := by
    intro m
    induction m with
    | nil => intro _; rfl
    | cons x m ih =>
      intro hm
      rw [List.flatMap_cons, h.id1 (hm x (by simp)), ih (fun f hf => hm f (by simp [hf]))]
      rfl
  exact key l (fun f hf => hf)
theorem ObjD.of_get {l : List Fil} (h : ObjD l) {x s : ByteArray} {fz : Int} (hg : getF ⟨l, fz⟩ x = (s, 0)) : ∃ f ∈ l, f.safe = s ∧ sumF s = x := by
  obtain ⟨h1, _, h3⟩ := get_sum hg
  obtain ⟨_, f, hf, hs⟩ := read_good h3
  have hm := (getL_some Fil.name hf).1
  have : s = f.safe := by rw [hs, (h.obj f hm).1, app_nil]
  exact ⟨f, hm, this.symm, h1⟩
/- A Save leaves nothing beside. -/
theorem rename_gone {l : List Fil} {n m : ByteArray} (h : (renameO namedD n m l).2 = 0) (hne : n ≠ m) : fget n (renameO namedD n m l).1 = none := by
  by_cases h1 : namedD m = true
  · cases hg : fget n l with
    | none => rw [renameO_2 h1 hg] at h; exact absurd h (by simp)
    | some f =>
      rw [renameO_3 h1 hg]
      show getL Fil.name n (putL Fil.name _ _) = none
      rw [getL_put, if_neg hne, getL_del, if_pos rfl]
  · rw [renameO_1 (by simpa using h1)] at h; exact absurd h (by simp)
theorem save_gone {d : Dsk} {name s : ByteArray} (h : (saveD namedD d name s).2 = 0) : fget (name ++ dotNew) (saveD namedD d name s).1.files = none := by
  unfold saveD at h ⊢
  split
  · rename_i h1; rw [if_pos h1] at h; exact absurd h (by simp)
  · rename_i h1
    rw [if_neg h1] at h
    split
    · rename_i h2; rw [if_pos h2] at h; exact absurd h (by simp)
    · rename_i h2
      rw [if_neg h2] at h
      simp only at h ⊢
      generalize (if fget (name ++ dotNew) d.files = none then (d, (0 : Int)) else removeD namedD d (name ++ dotNew)) = r at h ⊢
      split
      · rename_i h3; rw [if_pos h3] at h; exact absurd h h3
      · rename_i h3
        rw [if_neg h3] at h
        split
        · rename_i h4; rw [if_pos h4] at h; exact absurd h h4
        · rename_i h4
          rw [if_neg h4] at h
          split
          · rename_i h5; rw [if_pos h5] at h; exact absurd h h5
          · rename_i h5
            rw [if_neg h5] at h
            obtain ⟨_, w1, w2⟩ := step_ok (op := renameO namedD (name ++ dotNew) name) h
            show fget _ (stepD namedD _ (renameO namedD (name ++ dotNew) name)).1.files = none
            rw [w2]
            exact rename_gone w1 (new_ne name)
theorem puts_obj (l : List ByteArray) : ObjD (putsF l).1.files := by
  refine puts_rec (P := fun d _ => ObjD d.files) ⟨good_nil, fun f hf => (by cases hf)⟩ (fun d ids s q i h hp => ?_) l
  obtain ⟨hi, hd, hg, hc⟩ := putF_ok hp
  rcases hc with ⟨_, rfl⟩ | ⟨_, hf, _, hsv⟩
  · exact h
  · refine ⟨hg, fun f hm => ?_⟩
    have hfm := getL_mem hg.srt hm
    by_cases h1 : f.name = fileF i
    · rw [h1, hf] at hfm
      injection hfm with hfm
      rw [← hfm]
      exact ⟨rfl, by rw [hi]⟩
    · by_cases h2 : f.name = fileF i ++ dotNew
      · have := save_gone (d := d) (name := fileF i) (s := s) (by rw [hsv])
        rw [hsv] at this
        rw [h2] at hfm
        exact absurd (hfm.symm.trans this) (by simp)
      · have := save_other (nm := namedD) (d := d) (s := s) h1 h2
        rw [hsv] at this
        have hfm2 := this.symm.trans hfm
        exact h.obj f (getL_some Fil.name hfm2).1
/- The sweep. -/
theorem rem_zero {d : Dsk} {n : ByteArray} (hg : GoodL namedD d.files) (hz : d.fuse = 0) : removeD namedD d n = (d, 12) := step_2 hg hz
theorem rem_some {d : Dsk} {f : Fil} (hg : GoodL namedD d.files) (hz : d.fuse ≠ 0) (hf : f ∈ d.files) : ∃ fz, removeD namedD d f.name = (⟨d.files.filter fun g => decide (g.name ≠ f.name), fz⟩, 0) := by
  have hr := removeO_2 (getL_mem hg.srt hf)
  have h := step_4 (op := removeO f.name) hg hz (by rw [hr])
  rw [hr] at h
  exact ⟨_, h⟩
theorem swG_law {keep : List ByteArray} : ∀ (r : List Fil) (d : Dsk) (a : Dsk) (e : Int), ObjD d.files → (∀ f ∈ r, f ∈ d.files) → FSrt r → swG keep r d = (a, e) →
    ∃ p : Fil → Bool, a.files = d.files.filter p ∧ (∀ f ∈ d.files, hasB keep (sumF f.safe) = true → p f = true) ∧ (∀ f ∈ d.files, f ∉ r → p f = true) ∧ (e = 0 → ∀ f ∈ r, hasB keep (sumF f.safe) = false → p f = false) ∧ (e = 0 ∨ e = 12)
  | [], d, a, e, _, _, _, h => by
    have h : (d, (0 : Int)) = (a, e) := h
    injection h with h1 h2
    subst h1 h2
    exact ⟨fun _ => true, List.filter_eq_self.2 (fun _ _ => rfl) |>.symm, fun _ _ _ => rfl, fun _ _ _ => rfl, fun _ f hf => (by cases hf), .inl rfl⟩
  | f :: r, d, a, e, hO, hr, hs, h => by
    have hfd := hr f (by simp)
    have hp := List.pairwise_cons.1 hs
    by_cases hd : dropsF keep f.name
    · have hk := (hO.drops hfd).1 hd
      by_cases hz : d.fuse = 0
      · rw [swG_2 hd (rem_zero hO.good hz) (by decide)] at h
        injection h with h1 h2
        subst h1 h2
        exact ⟨fun _ => true, List.filter_eq_self.2 (fun _ _ => rfl) |>.symm, fun _ _ _ => rfl, fun _ _ _ => rfl, fun h => absurd h (by decide), .inr rfl⟩
      · obtain ⟨fz, hrm⟩ := rem_some hO.good hz hfd
        rw [swG_3 hd hrm] at h
        have hmem : ∀ g, g ∈ d.files.filter (fun g => decide (g.name ≠ f.name)) ↔ g ∈ d.files ∧ g ≠ f := fun g => by
          rw [List.mem_filter, decide_eq_true_iff]
          exact ⟨fun k => ⟨k.1, fun e => k.2 (by rw [e])⟩, fun k => ⟨k.1, fun e => k.2 (name_inj hO.good.srt k.1 hfd e)⟩⟩
        obtain ⟨p, h1, h2, h3, h4, h5⟩ := swG_law r ⟨d.files.filter fun g => decide (g.name ≠ f.name), fz⟩ a e (hO.filter _) (fun g hg => (hmem g).2 ⟨hr g (by simp [hg]), fun e => absurd (hp.1 g hg) (by rw [e]; exact lt_irr _)⟩) hp.2 h
        refine ⟨fun g => p g && decide (g.name ≠ f.name), ?_, fun g hg hgk => ?_, fun g hg hgr => ?_, fun he g hg hgk => ?_, h5⟩
        · rw [h1, List.filter_filter]
        · have hne : g ≠ f := fun e => by rw [e, hk] at hgk; cases hgk
          have hin := (hmem g).2 ⟨hg, hne⟩
          show (p g && decide (g.name ≠ f.name)) = true
          rw [h2 g hin hgk]
          exact (List.mem_filter.1 hin).2
        · have hne : g ≠ f := fun e => hgr (by simp [e])
          have hin := (hmem g).2 ⟨hg, hne⟩
          show (p g && decide (g.name ≠ f.name)) = true
          rw [h3 g hin (fun k => hgr (by simp [k]))]
          exact (List.mem_filter.1 hin).2
        · rcases List.mem_cons.1 hg with rfl | hg
          · simp
          · show (p g && decide (g.name ≠ f.name)) = false
            rw [h4 he g hg hgk]; rfl
    · rw [swG_1 hd] at h
      have hk : hasB keep (sumF f.safe) ≠ false := fun k => hd ((hO.drops hfd).2 k)
      obtain ⟨p, h1, h2, h3, h4, h5⟩ := swG_law r d a e hO (fun g hg => hr g (by simp [hg])) hp.2 h
      refine ⟨p, h1, h2, fun g hg hgr => h3 g hg (fun k => hgr (by simp [k])), fun he g hg hgk => ?_, h5⟩
      rcases List.mem_cons.1 hg with rfl | hg
      · exact absurd hgk hk
      · exact h4 he g hg hgk
theorem lt_ext {l m : List ByteArray} (hl : l.Pairwise lt) (hm : m.Pairwise lt) (h : ∀ x, x ∈ l ↔ x ∈ m) : l = m := by
  have k1 : ∀ (k : List ByteArray) (n : ByteArray), n ∈ k → getL id n k = some n := by
    intro k n hn
    cases hg : getL id n k with
    | none => exact absurd rfl (getL_none id hg n hn)
    | some y => exact congrArg some (getL_some id hg).2
  have k2 : ∀ (k : List ByteArray) (n : ByteArray), n ∉ k → getL id n k = none := by
    intro k n hn
    cases hg : getL id n k with
    | none => rfl
    | some y =>
      obtain ⟨h1, h2⟩ := getL_some id hg
      exact absurd ((show y = n from h2) ▸ h1) hn
  refine srt_ext (α := ByteArray) id hl hm (fun n => ?_)
  by_cases hn : n ∈ l
  · rw [k1 l n hn, k1 m n ((h n).1 hn)]
  · rw [k2 l n hn, k2 m n (fun k => hn ((h n).2 k))]
/-- StoreSwept. -/
theorem swept_law {l : List Fil} (hO : ObjD l) {f0 fz : Int} {roots keep : List ByteArray} (h : reachF (getF ⟨l, f0⟩) roots = (keep, 0)) {a : Dsk} {e : Int} (hs : sweepF ⟨l, fz⟩ roots = (a, e)) :
    (∀ x ∈ keep, ∃ s, getF ⟨l, fz⟩ x = (s, 0) ∧ getF a x = (s, 0)) ∧ (e = 0 → idsG a a.files = keep) ∧ (e ≠ 0 → e = 12 ∧ keep.length ≤ (idsG a a.files).length) ∧ ObjD a.files := by
  obtain ⟨hC, _, hsrt⟩ := reach_ok h
  rw [sweepF_2 (show reachF (getF ⟨l, fz⟩) roots = (keep, 0) from h)] at hs
  obtain ⟨p, h1, h2, _, h4, h5⟩ := swG_law l ⟨l, fz⟩ a e hO (fun f hf => hf) hO.good.srt hs
  have h1' : a.files = l.filter p := h1
  have hOa : ObjD a.files := by rw [h1']; exact hO.filter p
  have hin : ∀ x ∈ keep, ∃ f ∈ a.files, f ∈ l ∧ sumF f.safe = x := by
    intro x hx
    obtain ⟨s, hg⟩ : ∃ s, getF ⟨l, f0⟩ x = (s, 0) := ⟨_, Prod.ext rfl (hC.ok x hx).1⟩
    obtain ⟨f, hf, rfl, hsx⟩ := hO.of_get hg
    refine ⟨f, ?_, hf, hsx⟩
    rw [h1']
    exact List.mem_filter.2 ⟨hf, h2 f hf (hasB_iff.2 (hsx.symm ▸ hx))⟩
  have hids : idsG a a.files = a.files.map fun f => sumF f.safe := hOa.ids a.fuse
  refine ⟨fun x hx => ?_, fun he => ?_, fun he => ⟨h5.resolve_left he, ?_⟩, hOa⟩
  · obtain ⟨f, hfa, hfl, rfl⟩ := hin x hx
    exact ⟨f.safe, hO.get hfl fz, hOa.get hfa a.fuse⟩
  · rw [hids]
    refine lt_ext ?_ hsrt (fun x => ?_)
    · refine List.pairwise_map.2 (List.Pairwise.imp_of_mem (fun {f g} hf hg hfg => ?_) hOa.good.srt)
      rw [(hOa.obj f hf).2, (hOa.obj g hg).2] at hfg
      exact lt_file hfg
    · rw [List.mem_map]
      constructor
      · rintro ⟨f, hf, rfl⟩
        rw [h1'] at hf
        obtain ⟨hfl, hpf⟩ := List.mem_filter.1 hf
        cases hb : hasB keep (sumF f.safe) with
        | true => exact hasB_iff.1 hb
        | false => rw [h4 he f hfl hb] at hpf; cases hpf
      · intro hx
        obtain ⟨f, hf, _, hsx⟩ := hin x hx
        exact ⟨f, hf, hsx⟩
  · refine nodup_len hC.nod (fun x hx => ?_)
    rw [hids]
    obtain ⟨f, hf, _, hsx⟩ := hin x hx
    exact List.mem_map.2 ⟨f, hf, hsx⟩
end Go.Proofs.YtalkheljejkpiaaDoor
