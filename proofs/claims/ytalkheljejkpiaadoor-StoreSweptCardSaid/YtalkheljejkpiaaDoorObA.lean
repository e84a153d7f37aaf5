/- Texts put together: Object1 Object2 Object3 Object4. -/
import Derived.Test.YtalkheljejkpiaaDoorBas
/-! Object1 -/
namespace Go.Proofs.YtalkheljejkpiaaDoor
open Go.RowKit
set_option linter.unusedVariables false
set_option linter.unusedSimpArgs false

theorem named_pays (w : World) : PredAt Tryd.prog 98 #[] encR badName w := fun W r _ => by
  unfold FnGives
  by_cases h1 : r ≤ 32 <;> by_cases h2 : 126 < r <;> by_cases h3 : r = 47
  all_goals
    have z1 : (r : Int) ≤ 32 ↔ r ≤ 32 := by omega
    have z2 : (126 : Int) < (r : Int) ↔ 126 < r := by omega
    have z3 : (r : Int) = 47 ↔ r = 47 := by omega
    go_enter Tryd.func98, Tryd.ntmps98
    go_wp2
    all_goals first | (exfalso; omega) | (go_ret; exact ⟨by simp [badName, h1, h2, h3, z1, z2, z3], 0, rfl⟩)
theorem line_pays (w : World) : PredAt Tryd.prog 99 #[] encR badLine w := fun W r _ => by
  unfold FnGives
  by_cases h3 : r = 0
  all_goals
    have z3 : (r : Int) = 0 ↔ r = 0 := by omega
    go_enter Tryd.func99, Tryd.ntmps99
    go_wp2
    all_goals first | (exfalso; omega) | (go_ret; exact ⟨by simp [badLine, h3, z3], 0, rfl⟩)
theorem toList_eq_iff (s t : ByteArray) : (s.toList = t.toList) ↔ s = t := by
  constructor
  · intro h
    rw [ByteArray.toList_eq, ByteArray.toList_eq] at h
    exact bs_ext h
  · intro h; rw [h]
theorem isEmpty_iff (s : ByteArray) : s.toList.isEmpty = decide (s = noB) := by
  have h := toList_eq_iff s noB
  have e : noB.toList = [] := by rw [ByteArray.toList_eq]; rfl
  rw [e] at h
  rw [Bool.eq_iff_iff, decide_eq_true_eq, List.isEmpty_iff]
  exact h
theorem beq_toList (s t : ByteArray) (l : List UInt8) (h : t.data.toList = l) : (s.toList == l) = decide (s = t) := by
  rw [Bool.eq_iff_iff, decide_eq_true_eq, beq_iff_eq, ← h, ← ByteArray.toList_eq]
  exact toList_eq_iff s t
set_option maxRecDepth 100000 in
set_option maxHeartbeats 3200000 in
theorem named_any (s : ByteArray) (w : World) : Calls Tryd.prog 77 #[.string s] w fun e w' => e = .returned (.bool (nameF s)) ∧ Below w.heap.size w w' := by
  have HC := Lib.hid (contains_any 98 (enters_of Tryd.func98 (by kernel_rfl) rfl) badName s w (named_pays w))
  obtain ⟨r, hr⟩ : ∃ r, r = nameF s := ⟨_, rfl⟩
  rw [← hr]
  unfold nameF at hr
  obtain ⟨b, hb⟩ : ∃ b, b = hasP badName s := ⟨_, rfl⟩
  rw [← hb] at HC hr
  have HR := Lib.hid hr
  clear hr hb
  go_enter Tryd.func77, Tryd.ntmps77
  go_wp2_with fail
  (with_reducible refine HC.out.mono ?_)
  rintro e w1 ⟨rfl, hb⟩
  have HB := Lib.hid hb
  clear hb HC
  have hrr := HR.out
  clear HR
  cases b with
  | true =>
    obtain rfl : r = false := by rw [hrr]; rfl
    clear hrr
    go_wp2_with fail
    go_ret
    exact ⟨rfl, HB.out⟩
  | false =>
    by_cases h1 : s = noB
    · have hE : s.toList.isEmpty = true := by rw [isEmpty_iff]; exact decide_eq_true h1
      obtain rfl : r = false := by rw [hrr]; simp [h1]
      clear hrr h1
      go_wp2_with fail
      go_ret
      exact ⟨rfl, HB.out⟩
    · have hE : s.toList.isEmpty = false := by rw [isEmpty_iff]; exact decide_eq_false h1
      by_cases h2 : s.size ≤ 60
      · have h2i : (s.size : Int) ≤ 60 := by omega
        have h2b : decide ((s.size : Int) ≤ 60) = true := decide_eq_true h2i
        have h2n : decide (s.size ≤ 60) = true := decide_eq_true h2
        by_cases h3 : s = ⟨#[46]⟩
        · have h3b : (s.toList == [46]) = true := by rw [beq_toList s ⟨#[46]⟩ [46] rfl]; exact decide_eq_true h3
          have h3c : (s.toList != [46]) = false := by rw [bne, h3b]; rfl
          obtain rfl : r = false := by rw [hrr, decide_eq_false (show ¬ s ≠ ⟨#[46]⟩ from fun h => h h3)]; simp
          clear hrr h1 h3 h2
          go_wp2_with fail
          go_ret
          exact ⟨rfl, HB.out⟩
        · have h3b : (s.toList == [46]) = false := by rw [beq_toList s ⟨#[46]⟩ [46] rfl]; exact decide_eq_false h3
          have h3c : (s.toList != [46]) = true := by rw [bne, h3b]; rfl
          by_cases h4 : s = ⟨#[46, 46]⟩
          · have h4b : (s.toList == [46, 46]) = true := by rw [beq_toList s ⟨#[46, 46]⟩ [46, 46] rfl]; exact decide_eq_true h4
            have h4c : (s.toList != [46, 46]) = false := by rw [bne, h4b]; rfl
            obtain rfl : r = false := by rw [hrr, decide_eq_false (show ¬ s ≠ ⟨#[46, 46]⟩ from fun h => h h4)]; simp
            clear hrr h1 h3 h2 h4
            go_wp2_with fail
            go_ret
            exact ⟨rfl, HB.out⟩
          · have h4b : (s.toList == [46, 46]) = false := by rw [beq_toList s ⟨#[46, 46]⟩ [46, 46] rfl]; exact decide_eq_false h4
            have h4c : (s.toList != [46, 46]) = true := by rw [bne, h4b]; rfl
            obtain rfl : r = true := by rw [hrr, decide_eq_true h1, decide_eq_true h2, decide_eq_true h3, decide_eq_true h4]; rfl
            clear hrr h1 h3 h2 h4
            go_wp2_with fail
            go_ret
            exact ⟨rfl, HB.out⟩
      · have h2i : ¬ (s.size : Int) ≤ 60 := by omega
        have h2b : decide ((s.size : Int) ≤ 60) = false := decide_eq_false h2i
        have h2n : decide (s.size ≤ 60) = false := decide_eq_false h2
        obtain rfl : r = false := by rw [hrr, h2n]; simp
        clear hrr h1 h2
        go_wp2_with fail
        go_ret
        exact ⟨rfl, HB.out⟩
set_option maxRecDepth 100000 in
set_option maxHeartbeats 3200000 in
theorem line_any (s : ByteArray) (w : World) : Calls Tryd.prog 78 #[.string s] w fun e w' => e = .returned (.bool (lineF s)) ∧ Below w.heap.size w w' := by
  have HC := Lib.hid (contains_any 99 (enters_of Tryd.func99 (by kernel_rfl) rfl) badLine s w (line_pays w))
  obtain ⟨r, hr⟩ : ∃ r, r = lineF s := ⟨_, rfl⟩
  rw [← hr]
  unfold lineF at hr
  obtain ⟨b, hb⟩ : ∃ b, b = hasP badLine s := ⟨_, rfl⟩
  rw [← hb] at HC hr
  by_cases h2 : s.size ≤ 4096
  · have h2i : (s.size : Int) ≤ 4096 := by omega
    have h2b : decide ((s.size : Int) ≤ 4096) = true := decide_eq_true h2i
    have h2n : decide (s.size ≤ 4096) = true := decide_eq_true h2
    obtain rfl : r = !b := by rw [hr, h2n]; rfl
    clear hr hb h2
    go_enter Tryd.func78, Tryd.ntmps78
    go_wp2_with fail
    (with_reducible refine HC.out.mono ?_)
    rintro e w1 ⟨rfl, hb⟩
    cases b with
    | true =>
      go_wp2_with fail
      go_ret
      exact ⟨rfl, hb⟩
    | false =>
      go_wp2_with fail
      go_ret
      exact ⟨rfl, hb⟩
  · have h2i : ¬ (s.size : Int) ≤ 4096 := by omega
    have h2b : decide ((s.size : Int) ≤ 4096) = false := decide_eq_false h2i
    have h2n : decide (s.size ≤ 4096) = false := decide_eq_false h2
    obtain rfl : r = false := by rw [hr, h2n]; rfl
    clear hr hb h2
    go_enter Tryd.func78, Tryd.ntmps78
    go_wp2_with fail
    go_ret
    exact ⟨rfl, Below.refl _ _⟩

/-! Objects as values. -/
def objC (o : ObjS) (ve vp : Value) : List Value := [.int .i64 o.kind, .string o.data, ve, .string o.tree, vp, .string o.who, .string o.note, .int .i64 o.time, .string o.target]
def evs (es : List Ent) : List Value := es.flatMap fun x => [.string x.name, .bool x.dir, .string x.id]
theorem evs_length (es : List Ent) : (evs es).length = es.length * 3 := by induction es with
  | nil => rfl
  | cons x l ih => rw [evs, List.flatMap_cons, List.length_append, ← evs, ih]; simp; omega
def rdE (w : World) (v : Value) (es : List Ent) : Prop := rdRow w 3 v es.length (evs es)
set_option maxRecDepth 100000 in
set_option maxHeartbeats 3200000 in
theorem empty_any (o : ObjS) (ae ap : Option Addr) (ce cp : Nat) (w : World) (hk : 1 ≤ o.kind ∧ o.kind ≤ 4) :
    Calls Tryd.prog 76 #[.agg (objC o (.slice ae o.ents.length ce) (.slice ap o.pars.length cp)).toArray] w fun e w' => (∃ b, e = .returned (.bool b) ∧ (b = true ↔ EmptyO o)) ∧ Below w.heap.size w w' := by
  obtain ⟨kind, data, ents, tree, pars, who, note, time, target⟩ := o
  simp only [objC]
  simp only at hk
  have HB := Lib.hid (((Below.refl w.heap.size w).alloc (Nat.le_refl _) (.cells #[.int .i64 kind, .string data, .slice ae ents.length ce, .string tree, .slice ap pars.length cp, .string who, .string note, .int .i64 time, .string target] 54)).drew)
  have c0 : (w.alloc (.cells #[.int .i64 kind, .string data, .slice ae ents.length ce, .string tree, .slice ap pars.length cp, .string who, .string note, .int .i64 time, .string target] 54)).drew.cell? ⟨w.heap.size, 0, none⟩ = some (.int .i64 kind) := cell_block 0 _ rfl
  have c1 : (w.alloc (.cells #[.int .i64 kind, .string data, .slice ae ents.length ce, .string tree, .slice ap pars.length cp, .string who, .string note, .int .i64 time, .string target] 54)).drew.cell? ⟨w.heap.size, 1, none⟩ = some (.string data) := cell_block 1 _ rfl
  have c2 : (w.alloc (.cells #[.int .i64 kind, .string data, .slice ae ents.length ce, .string tree, .slice ap pars.length cp, .string who, .string note, .int .i64 time, .string target] 54)).drew.cell? ⟨w.heap.size, 2, none⟩ = some (.slice ae ents.length ce) := cell_block 2 _ rfl
  have c3 : (w.alloc (.cells #[.int .i64 kind, .string data, .slice ae ents.length ce, .string tree, .slice ap pars.length cp, .string who, .string note, .int .i64 time, .string target] 54)).drew.cell? ⟨w.heap.size, 3, none⟩ = some (.string tree) := cell_block 3 _ rfl
  have c4 : (w.alloc (.cells #[.int .i64 kind, .string data, .slice ae ents.length ce, .string tree, .slice ap pars.length cp, .string who, .string note, .int .i64 time, .string target] 54)).drew.cell? ⟨w.heap.size, 4, none⟩ = some (.slice ap pars.length cp) := cell_block 4 _ rfl
  have c5 : (w.alloc (.cells #[.int .i64 kind, .string data, .slice ae ents.length ce, .string tree, .slice ap pars.length cp, .string who, .string note, .int .i64 time, .string target] 54)).drew.cell? ⟨w.heap.size, 5, none⟩ = some (.string who) := cell_block 5 _ rfl
  have c6 : (w.alloc (.cells #[.int .i64 kind, .string data, .slice ae ents.length ce, .string tree, .slice ap pars.length cp, .string who, .string note, .int .i64 time, .string target] 54)).drew.cell? ⟨w.heap.size, 6, none⟩ = some (.string note) := cell_block 6 _ rfl
  have c7 : (w.alloc (.cells #[.int .i64 kind, .string data, .slice ae ents.length ce, .string tree, .slice ap pars.length cp, .string who, .string note, .int .i64 time, .string target] 54)).drew.cell? ⟨w.heap.size, 7, none⟩ = some (.int .i64 time) := cell_block 7 _ rfl
  have c8 : (w.alloc (.cells #[.int .i64 kind, .string data, .slice ae ents.length ce, .string tree, .slice ap pars.length cp, .string who, .string note, .int .i64 time, .string target] 54)).drew.cell? ⟨w.heap.size, 8, none⟩ = some (.string target) := cell_block 8 _ rfl
  obtain ⟨k1, k4⟩ := hk
  rcases (by omega : kind = 1 ∨ kind = 2 ∨ kind = 3 ∨ kind = 4) with hk | hk | hk | hk
  · subst hk
    clear k1 k4
    go_enter Tryd.func76, Tryd.ntmps76
    go_wp2_with fail
    generalize w.alloc (.cells #[.int .i64 1, .string data, .slice ae ents.length ce, .string tree, .slice ap pars.length cp, .string who, .string note, .int .i64 time, .string target] 54) = W1 at *
    refine Lone.wp_region_order [(0, false), (1, false), (2, false), (3, false), (4, false), (5, false), (6, false), (7, false), (8, false), (9, false), (10, false), (11, false), (12, false), (13, false), (14, false), (15, false)] (fun w' => w'.cell? ⟨w.heap.size, 0, none⟩ = some (.int .i64 1)) (by kernel_rfl) (by kernel_rfl) rfl (by kernel_rfl) (by intro _ _ d _ _ h; cases d <;> exact h) (c0) ?_; simp only [List.map_cons, List.map_nil, List.getElem?_toArray, List.getElem?_cons_zero, List.getElem?_cons_succ, Option.getD_some]
    repeat (first | (refine Lone.ro_q (by rfl) (v := ?_) ?_ ?_; rotate_left; (focus (intro w' hSw; (try dsimp only at hSw); go_simp; try with_reducible rfl)); simp only [Act.put, List.setIfInBounds_toArray, List.set_cons_zero, List.set_cons_succ]) | (refine Lone.ro_skip (by rfl) ?_; simp only [Act.put, List.setIfInBounds_toArray, List.set_cons_zero, List.set_cons_succ]))
    refine Lone.ro_nil ?_
    by_cases p_ents : ents.length = 0
    · have f_ents : ((ents.length : Int) == 0) = true := by rw [p_ents]; rfl
      have HP_ents := Lib.hid p_ents
      clear p_ents
      by_cases p_tree : tree = noB
      · have f_tree : tree.toList.isEmpty = true := by rw [isEmpty_iff]; exact decide_eq_true p_tree
        have HP_tree := Lib.hid p_tree
        clear p_tree
        by_cases p_pars : pars.length = 0
        · have f_pars : ((pars.length : Int) == 0) = true := by rw [p_pars]; rfl
          have HP_pars := Lib.hid p_pars
          clear p_pars
          by_cases p_time : time = 0
          · have f_time : (time == 0) = true := by rw [p_time]; rfl
            have HP_time := Lib.hid p_time
            clear p_time
            by_cases p_target : target = noB
            · have f_target : target.toList.isEmpty = true := by rw [isEmpty_iff]; exact decide_eq_true p_target
              have HP_target := Lib.hid p_target
              clear p_target
              by_cases p_who : who = noB
              · have f_who : who.toList.isEmpty = true := by rw [isEmpty_iff]; exact decide_eq_true p_who
                have HP_who := Lib.hid p_who
                clear p_who
                by_cases p_note : note = noB
                · have f_note : note.toList.isEmpty = true := by rw [isEmpty_iff]; exact decide_eq_true p_note
                  have HP_note := Lib.hid p_note
                  clear p_note
                  go_wp2_with fail
                  go_ret
                  exact ⟨⟨true, rfl, fun _ => ⟨.inl rfl, .inr (List.eq_nil_of_length_eq_zero HP_ents.out), .inr ⟨HP_tree.out, List.eq_nil_of_length_eq_zero HP_pars.out, HP_time.out⟩, .inr HP_target.out, .inr (.inr ⟨HP_who.out, HP_note.out⟩)⟩, fun _ => rfl⟩, HB.out⟩
                · have f_note : note.toList.isEmpty = false := by rw [isEmpty_iff]; exact decide_eq_false p_note
                  have HN := Lib.hid p_note
                  clear p_note
                  go_wp2_with fail
                  go_ret
                  exact ⟨⟨false, rfl, (fun h => Bool.noConfusion h), (fun h => absurd (((h.who.resolve_left (by simp)).resolve_left (by simp)).2) HN.out)⟩, HB.out⟩
              · have f_who : who.toList.isEmpty = false := by rw [isEmpty_iff]; exact decide_eq_false p_who
                have HN := Lib.hid p_who
                clear p_who
                go_wp2_with fail
                go_ret
                exact ⟨⟨false, rfl, (fun h => Bool.noConfusion h), (fun h => absurd (((h.who.resolve_left (by simp)).resolve_left (by simp)).1) HN.out)⟩, HB.out⟩
            · have f_target : target.toList.isEmpty = false := by rw [isEmpty_iff]; exact decide_eq_false p_target
              have HN := Lib.hid p_target
              clear p_target
              go_wp2_with fail
              go_ret
              exact ⟨⟨false, rfl, (fun h => Bool.noConfusion h), (fun h => absurd (h.target.resolve_left (by simp)) HN.out)⟩, HB.out⟩
          · have f_time : (time == 0) = false := beq_eq_false_iff_ne.2 (by exact p_time)
            have HN := Lib.hid p_time
            clear p_time
            go_wp2_with fail
            go_ret
            exact ⟨⟨false, rfl, (fun h => Bool.noConfusion h), (fun h => absurd ((h.com.resolve_left (by simp)).2.2) HN.out)⟩, HB.out⟩
        · have f_pars : ((pars.length : Int) == 0) = false := beq_eq_false_iff_ne.2 (by omega)
          have HN := Lib.hid p_pars
          clear p_pars
          go_wp2_with fail
          go_ret
          exact ⟨⟨false, rfl, (fun h => Bool.noConfusion h), (fun h => absurd ((congrArg List.length (h.com.resolve_left (by simp)).2.1 : _)) HN.out)⟩, HB.out⟩
      · have f_tree : tree.toList.isEmpty = false := by rw [isEmpty_iff]; exact decide_eq_false p_tree
        have HN := Lib.hid p_tree
        clear p_tree
        go_wp2_with fail
        go_ret
        exact ⟨⟨false, rfl, (fun h => Bool.noConfusion h), (fun h => absurd ((h.com.resolve_left (by simp)).1) HN.out)⟩, HB.out⟩
    · have f_ents : ((ents.length : Int) == 0) = false := beq_eq_false_iff_ne.2 (by omega)
      have HN := Lib.hid p_ents
      clear p_ents
      go_wp2_with fail
      go_ret
      exact ⟨⟨false, rfl, (fun h => Bool.noConfusion h), (fun h => absurd ((congrArg List.length (h.ents.resolve_left (by simp)) : _)) HN.out)⟩, HB.out⟩
  · subst hk
    clear k1 k4
    go_enter Tryd.func76, Tryd.ntmps76
    go_wp2_with fail
    generalize w.alloc (.cells #[.int .i64 2, .string data, .slice ae ents.length ce, .string tree, .slice ap pars.length cp, .string who, .string note, .int .i64 time, .string target] 54) = W1 at *
    refine Lone.wp_region_order [(0, false), (1, false), (2, false), (3, false), (4, false), (5, false), (6, false), (7, false), (8, false), (9, false), (10, false), (11, false), (12, false), (13, false), (14, false), (15, false)] (fun w' => w'.cell? ⟨w.heap.size, 0, none⟩ = some (.int .i64 2)) (by kernel_rfl) (by kernel_rfl) rfl (by kernel_rfl) (by intro _ _ d _ _ h; cases d <;> exact h) (c0) ?_; simp only [List.map_cons, List.map_nil, List.getElem?_toArray, List.getElem?_cons_zero, List.getElem?_cons_succ, Option.getD_some]
    repeat (first | (refine Lone.ro_q (by rfl) (v := ?_) ?_ ?_; rotate_left; (focus (intro w' hSw; (try dsimp only at hSw); go_simp; try with_reducible rfl)); simp only [Act.put, List.setIfInBounds_toArray, List.set_cons_zero, List.set_cons_succ]) | (refine Lone.ro_skip (by rfl) ?_; simp only [Act.put, List.setIfInBounds_toArray, List.set_cons_zero, List.set_cons_succ]))
    refine Lone.ro_nil ?_
    by_cases p_data : data = noB
    · have f_data : data.toList.isEmpty = true := by rw [isEmpty_iff]; exact decide_eq_true p_data
      have HP_data := Lib.hid p_data
      clear p_data
      by_cases p_tree : tree = noB
      · have f_tree : tree.toList.isEmpty = true := by rw [isEmpty_iff]; exact decide_eq_true p_tree
        have HP_tree := Lib.hid p_tree
        clear p_tree
        by_cases p_pars : pars.length = 0
        · have f_pars : ((pars.length : Int) == 0) = true := by rw [p_pars]; rfl
          have HP_pars := Lib.hid p_pars
          clear p_pars
          by_cases p_time : time = 0
          · have f_time : (time == 0) = true := by rw [p_time]; rfl
            have HP_time := Lib.hid p_time
            clear p_time
            by_cases p_target : target = noB
            · have f_target : target.toList.isEmpty = true := by rw [isEmpty_iff]; exact decide_eq_true p_target
              have HP_target := Lib.hid p_target
              clear p_target
              by_cases p_who : who = noB
              · have f_who : who.toList.isEmpty = true := by rw [isEmpty_iff]; exact decide_eq_true p_who
                have HP_who := Lib.hid p_who
                clear p_who
                by_cases p_note : note = noB
                · have f_note : note.toList.isEmpty = true := by rw [isEmpty_iff]; exact decide_eq_true p_note
                  have HP_note := Lib.hid p_note
                  clear p_note
                  go_wp2_with fail
                  go_ret
                  exact ⟨⟨true, rfl, fun _ => ⟨.inr HP_data.out, .inl rfl, .inr ⟨HP_tree.out, List.eq_nil_of_length_eq_zero HP_pars.out, HP_time.out⟩, .inr HP_target.out, .inr (.inr ⟨HP_who.out, HP_note.out⟩)⟩, fun _ => rfl⟩, HB.out⟩
                · have f_note : note.toList.isEmpty = false := by rw [isEmpty_iff]; exact decide_eq_false p_note
                  have HN := Lib.hid p_note
                  clear p_note
                  go_wp2_with fail
                  go_ret
                  exact ⟨⟨false, rfl, (fun h => Bool.noConfusion h), (fun h => absurd (((h.who.resolve_left (by simp)).resolve_left (by simp)).2) HN.out)⟩, HB.out⟩
              · have f_who : who.toList.isEmpty = false := by rw [isEmpty_iff]; exact decide_eq_false p_who
                have HN := Lib.hid p_who
                clear p_who
                go_wp2_with fail
                go_ret
                exact ⟨⟨false, rfl, (fun h => Bool.noConfusion h), (fun h => absurd (((h.who.resolve_left (by simp)).resolve_left (by simp)).1) HN.out)⟩, HB.out⟩
            · have f_target : target.toList.isEmpty = false := by rw [isEmpty_iff]; exact decide_eq_false p_target
              have HN := Lib.hid p_target
              clear p_target
              go_wp2_with fail
              go_ret
              exact ⟨⟨false, rfl, (fun h => Bool.noConfusion h), (fun h => absurd (h.target.resolve_left (by simp)) HN.out)⟩, HB.out⟩
          · have f_time : (time == 0) = false := beq_eq_false_iff_ne.2 (by exact p_time)
            have HN := Lib.hid p_time
            clear p_time
            go_wp2_with fail
            go_ret
            exact ⟨⟨false, rfl, (fun h => Bool.noConfusion h), (fun h => absurd ((h.com.resolve_left (by simp)).2.2) HN.out)⟩, HB.out⟩
        · have f_pars : ((pars.length : Int) == 0) = false := beq_eq_false_iff_ne.2 (by omega)
          have HN := Lib.hid p_pars
          clear p_pars
          go_wp2_with fail
          go_ret
          exact ⟨⟨false, rfl, (fun h => Bool.noConfusion h), (fun h => absurd ((congrArg List.length (h.com.resolve_left (by simp)).2.1 : _)) HN.out)⟩, HB.out⟩
      · have f_tree : tree.toList.isEmpty = false := by rw [isEmpty_iff]; exact decide_eq_false p_tree
        have HN := Lib.hid p_tree
        clear p_tree
        go_wp2_with fail
        go_ret
        exact ⟨⟨false, rfl, (fun h => Bool.noConfusion h), (fun h => absurd ((h.com.resolve_left (by simp)).1) HN.out)⟩, HB.out⟩
    · have f_data : data.toList.isEmpty = false := by rw [isEmpty_iff]; exact decide_eq_false p_data
      have HN := Lib.hid p_data
      clear p_data
      go_wp2_with fail
      go_ret
      exact ⟨⟨false, rfl, (fun h => Bool.noConfusion h), (fun h => absurd (h.data.resolve_left (by simp)) HN.out)⟩, HB.out⟩
  · subst hk
    clear k1 k4
    go_enter Tryd.func76, Tryd.ntmps76
    go_wp2_with fail
    generalize w.alloc (.cells #[.int .i64 3, .string data, .slice ae ents.length ce, .string tree, .slice ap pars.length cp, .string who, .string note, .int .i64 time, .string target] 54) = W1 at *
    refine Lone.wp_region_order [(0, false), (1, false), (2, false), (3, false), (4, false), (5, false), (6, false), (7, false), (8, false), (9, false), (10, false), (11, false), (12, false), (13, false), (14, false), (15, false)] (fun w' => w'.cell? ⟨w.heap.size, 0, none⟩ = some (.int .i64 3)) (by kernel_rfl) (by kernel_rfl) rfl (by kernel_rfl) (by intro _ _ d _ _ h; cases d <;> exact h) (c0) ?_; simp only [List.map_cons, List.map_nil, List.getElem?_toArray, List.getElem?_cons_zero, List.getElem?_cons_succ, Option.getD_some]
    repeat (first | (refine Lone.ro_q (by rfl) (v := ?_) ?_ ?_; rotate_left; (focus (intro w' hSw; (try dsimp only at hSw); go_simp; try with_reducible rfl)); simp only [Act.put, List.setIfInBounds_toArray, List.set_cons_zero, List.set_cons_succ]) | (refine Lone.ro_skip (by rfl) ?_; simp only [Act.put, List.setIfInBounds_toArray, List.set_cons_zero, List.set_cons_succ]))
    refine Lone.ro_nil ?_
    by_cases p_data : data = noB
    · have f_data : data.toList.isEmpty = true := by rw [isEmpty_iff]; exact decide_eq_true p_data
      have HP_data := Lib.hid p_data
      clear p_data
      by_cases p_ents : ents.length = 0
      · have f_ents : ((ents.length : Int) == 0) = true := by rw [p_ents]; rfl
        have HP_ents := Lib.hid p_ents
        clear p_ents
        by_cases p_target : target = noB
        · have f_target : target.toList.isEmpty = true := by rw [isEmpty_iff]; exact decide_eq_true p_target
          have HP_target := Lib.hid p_target
          clear p_target
          go_wp2_with fail
          go_ret
          exact ⟨⟨true, rfl, fun _ => ⟨.inr HP_data.out, .inr (List.eq_nil_of_length_eq_zero HP_ents.out), .inl rfl, .inr HP_target.out, .inl rfl⟩, fun _ => rfl⟩, HB.out⟩
        · have f_target : target.toList.isEmpty = false := by rw [isEmpty_iff]; exact decide_eq_false p_target
          have HN := Lib.hid p_target
          clear p_target
          go_wp2_with fail
          go_ret
          exact ⟨⟨false, rfl, (fun h => Bool.noConfusion h), (fun h => absurd (h.target.resolve_left (by simp)) HN.out)⟩, HB.out⟩
      · have f_ents : ((ents.length : Int) == 0) = false := beq_eq_false_iff_ne.2 (by omega)
        have HN := Lib.hid p_ents
        clear p_ents
        go_wp2_with fail
        go_ret
        exact ⟨⟨false, rfl, (fun h => Bool.noConfusion h), (fun h => absurd ((congrArg List.length (h.ents.resolve_left (by simp)) : _)) HN.out)⟩, HB.out⟩
    · have f_data : data.toList.isEmpty = false := by rw [isEmpty_iff]; exact decide_eq_false p_data
      have HN := Lib.hid p_data
      clear p_data
      go_wp2_with fail
      go_ret
      exact ⟨⟨false, rfl, (fun h => Bool.noConfusion h), (fun h => absurd (h.data.resolve_left (by simp)) HN.out)⟩, HB.out⟩
  · subst hk
    clear k1 k4
    go_enter Tryd.func76, Tryd.ntmps76
    go_wp2_with fail
    generalize w.alloc (.cells #[.int .i64 4, .string data, .slice ae ents.length ce, .string tree, .slice ap pars.length cp, .string who, .string note, .int .i64 time, .string target] 54) = W1 at *
    refine Lone.wp_region_order [(0, false), (1, false), (2, false), (3, false), (4, false), (5, false), (6, false), (7, false), (8, false), (9, false), (10, false), (11, false), (12, false), (13, false), (14, false), (15, false)] (fun w' => w'.cell? ⟨w.heap.size, 0, none⟩ = some (.int .i64 4)) (by kernel_rfl) (by kernel_rfl) rfl (by kernel_rfl) (by intro _ _ d _ _ h; cases d <;> exact h) (c0) ?_; simp only [List.map_cons, List.map_nil, List.getElem?_toArray, List.getElem?_cons_zero, List.getElem?_cons_succ, Option.getD_some]
    repeat (first | (refine Lone.ro_q (by rfl) (v := ?_) ?_ ?_; rotate_left; (focus (intro w' hSw; (try dsimp only at hSw); go_simp; try with_reducible rfl)); simp only [Act.put, List.setIfInBounds_toArray, List.set_cons_zero, List.set_cons_succ]) | (refine Lone.ro_skip (by rfl) ?_; simp only [Act.put, List.setIfInBounds_toArray, List.set_cons_zero, List.set_cons_succ]))
    refine Lone.ro_nil ?_
    by_cases p_data : data = noB
    · have f_data : data.toList.isEmpty = true := by rw [isEmpty_iff]; exact decide_eq_true p_data
      have HP_data := Lib.hid p_data
      clear p_data
      by_cases p_ents : ents.length = 0
      · have f_ents : ((ents.length : Int) == 0) = true := by rw [p_ents]; rfl
        have HP_ents := Lib.hid p_ents
        clear p_ents
        by_cases p_tree : tree = noB
        · have f_tree : tree.toList.isEmpty = true := by rw [isEmpty_iff]; exact decide_eq_true p_tree
          have HP_tree := Lib.hid p_tree
          clear p_tree
          by_cases p_pars : pars.length = 0
          · have f_pars : ((pars.length : Int) == 0) = true := by rw [p_pars]; rfl
            have HP_pars := Lib.hid p_pars
            clear p_pars
            by_cases p_time : time = 0
            · have f_time : (time == 0) = true := by rw [p_time]; rfl
              have HP_time := Lib.hid p_time
              clear p_time
              go_wp2_with fail
              go_ret
              exact ⟨⟨true, rfl, fun _ => ⟨.inr HP_data.out, .inr (List.eq_nil_of_length_eq_zero HP_ents.out), .inr ⟨HP_tree.out, List.eq_nil_of_length_eq_zero HP_pars.out, HP_time.out⟩, .inl rfl, .inr (.inl rfl)⟩, fun _ => rfl⟩, HB.out⟩
            · have f_time : (time == 0) = false := beq_eq_false_iff_ne.2 (by exact p_time)
              have HN := Lib.hid p_time
              clear p_time
              go_wp2_with fail
              go_ret
              exact ⟨⟨false, rfl, (fun h => Bool.noConfusion h), (fun h => absurd ((h.com.resolve_left (by simp)).2.2) HN.out)⟩, HB.out⟩
          · have f_pars : ((pars.length : Int) == 0) = false := beq_eq_false_iff_ne.2 (by omega)
            have HN := Lib.hid p_pars
            clear p_pars
            go_wp2_with fail
            go_ret
            exact ⟨⟨false, rfl, (fun h => Bool.noConfusion h), (fun h => absurd ((congrArg List.length (h.com.resolve_left (by simp)).2.1 : _)) HN.out)⟩, HB.out⟩
        · have f_tree : tree.toList.isEmpty = false := by rw [isEmpty_iff]; exact decide_eq_false p_tree
          have HN := Lib.hid p_tree
          clear p_tree
          go_wp2_with fail
          go_ret
          exact ⟨⟨false, rfl, (fun h => Bool.noConfusion h), (fun h => absurd ((h.com.resolve_left (by simp)).1) HN.out)⟩, HB.out⟩
      · have f_ents : ((ents.length : Int) == 0) = false := beq_eq_false_iff_ne.2 (by omega)
        have HN := Lib.hid p_ents
        clear p_ents
        go_wp2_with fail
        go_ret
        exact ⟨⟨false, rfl, (fun h => Bool.noConfusion h), (fun h => absurd ((congrArg List.length (h.ents.resolve_left (by simp)) : _)) HN.out)⟩, HB.out⟩
    · have f_data : data.toList.isEmpty = false := by rw [isEmpty_iff]; exact decide_eq_false p_data
      have HN := Lib.hid p_data
      clear p_data
      go_wp2_with fail
      go_ret
      exact ⟨⟨false, rfl, (fun h => Bool.noConfusion h), (fun h => absurd (h.data.resolve_left (by simp)) HN.out)⟩, HB.out⟩
end Go.Proofs.YtalkheljejkpiaaDoor
/-! Object2 -/
namespace Go.Proofs.YtalkheljejkpiaaDoor
open Go.RowKit
set_option linter.unusedVariables false
set_option linter.unusedSimpArgs false

def hasB (ss : List ByteArray) (x : ByteArray) : Bool := ss.any fun y => decide (y = x)
theorem hasB_of {ss : List ByteArray} {x : ByteArray} {k : Nat} (hk : k < ss.length) (h : x = ss.getD k ⟨#[]⟩) : hasB ss x = true := by
  rw [hasB, List.any_eq_true]
  refine ⟨x, ?_, by simp⟩
  rw [h, getD_of _ _ _ hk]; exact List.getElem_mem hk
theorem hasB_none {ss : List ByteArray} {x : ByteArray} (h : ∀ j, j < ss.length → x ≠ ss.getD j ⟨#[]⟩) : hasB ss x = false := by
  cases hb : hasB ss x with
  | false => rfl
  | true =>
    exfalso
    rw [hasB, List.any_eq_true] at hb
    obtain ⟨y, hy, he⟩ := hb
    obtain ⟨k, hk, rfl⟩ := List.getElem_of_mem hy
    simp only [decide_eq_true_eq] at he
    exact h k hk (by rw [getD_of _ _ _ hk, he])
set_option maxRecDepth 100000 in
set_option maxHeartbeats 3200000 in
theorem index_any (ss : List ByteArray) (x : ByteArray) (v : Value) (w : World) (hr : rdS w v ss) :
    Calls Tryd.prog 59 #[v, .string x] w fun e w' => (∃ r : Int, e = .returned (.int .i64 r) ∧ decide (0 ≤ r) = hasB ss x) ∧ w = w' := by
  have hlen := rdS_len hr
  by_cases h0 : ss.length = 0
  · obtain ⟨ao, cap, rfl⟩ := rdS_form hr
    rw [h0]
    have HN := Lib.hid (show hasB ss x = false from hasB_none (fun j hj => by omega))
    clear hr hlen h0
    go_enter Tryd.func59, Tryd.ntmps59
    go_wp2_with fail
    refine wp_loop_rounds 1 ?_
    rw [rounds_succ]
    go_wp2_with fail
    go_ret
    exact ⟨⟨-1, rfl, by rw [HN.out]; rfl⟩, rfl⟩
  · obtain ⟨b, off, cap, rfl, hb, hc⟩ := rdS_all hr (by omega)
    obtain ⟨n, hn⟩ : ∃ n, n = ss.length := ⟨_, rfl⟩
    rw [← hn] at hlen hc ⊢
    have HC := Lib.hid hc
    have HN := Lib.hid hn
    clear hr hc hn h0
    go_enter Tryd.func59, Tryd.ntmps59
    go_wp2_with fail
    go_loopw [8] (fun i wr => ∃ k : Nat, k ≤ n ∧ i = .int .i64 (k : Int) ∧ (∀ j, j < k → x ≠ ss.getD j ⟨#[]⟩) ∧ wr = w) (fun i _ => n - (intOf i).toNat)
    case atStart => exact ⟨0, by omega, rfl, fun j hj => by omega, rfl⟩
    case round =>
      obtain ⟨k, hk, rfl, hall, rfl⟩ := hrel
      have HALL := Lib.hid hall
      clear hall
      by_cases hlt : k < n
      · obtain ⟨y, hy⟩ : ∃ y, y = ss.getD k ⟨#[]⟩ := ⟨_, rfl⟩
        have hcx := HC.out k hlt
        rw [← hy] at hcx
        have HX := Lib.hid (show y = ss.getD k ⟨#[]⟩ ∧ k < n from ⟨hy, hlt⟩)
        have hki : (k : Int) < (n : Int) := by omega
        have hkb : decide ((k : Int) < (n : Int)) = true := decide_eq_true hki
        have hkn : decide (k < n) = true := decide_eq_true hlt
        have hk0 : (0 : Int) ≤ (k : Int) := by omega
        clear hy hlt
        by_cases hxy : x = y
        · subst hxy
          have hoo := beq_yes x
          have HH := Lib.hid (show hasB ss x = true from hasB_of (by have := HX.out.2; have := HN.out; omega) HX.out.1)
          go_wp2_with fail
          go_ret
          exact ⟨⟨(k : Int), rfl, by rw [HH.out]; exact decide_eq_true (by omega)⟩, rfl⟩
        · have hoo := beq_no hxy
          have HXY := Lib.hid hxy
          clear hxy
          go_wp2_with fail
          refine ⟨⟨k + 1, by have := HX.out.2; omega, by first | rfl | go_num, fun j hj => ?_, by first | trivial | rfl⟩, by have := HX.out.2; simp [intOf]; omega⟩
          by_cases hjk : j = k
          · rw [hjk, ← HX.out.1]; exact HXY.out
          · exact HALL.out j (by omega)
      · have hkn : k = n := by omega
        subst hkn
        have HH := Lib.hid (show hasB ss x = false from hasB_none (fun j hj => HALL.out j (by have := HN.out; omega)))
        have hkb : decide ((k : Int) < (k : Int)) = false := by simp
        clear hlt hk
        go_wp2_with fail
        go_ret
        exact ⟨⟨-1, rfl, by rw [HH.out]; rfl⟩, rfl⟩
set_option maxRecDepth 100000 in
set_option maxHeartbeats 3200000 in
theorem containsS_any (ss : List ByteArray) (x : ByteArray) (v : Value) (w : World) (hr : rdS w v ss) :
    Calls Tryd.prog 32 #[v, .string x] w fun e w' => e = .returned (.bool (hasB ss x)) ∧ w = w' := by
  have HI := Lib.hid (index_any ss x v w hr)
  obtain ⟨b, hb⟩ : ∃ b, b = hasB ss x := ⟨_, rfl⟩
  rw [← hb] at HI ⊢
  clear hb hr
  go_enter Tryd.func32, Tryd.ntmps32
  go_wp2_with fail
  (with_reducible refine HI.out.mono ?_)
  rintro e w1 ⟨⟨r, rfl, hr⟩, rfl⟩
  subst hr
  go_wp2_with fail
  go_ret
  exact ⟨rfl, rfl⟩
end Go.Proofs.YtalkheljejkpiaaDoor
/-! Object3 -/
namespace Go.Proofs.YtalkheljejkpiaaDoor
open Go.RowKit
set_option linter.unusedVariables false
set_option linter.unusedSimpArgs false

theorem info_ob : (Tryd.prog.info? 54).map (·.size) = some 9 := by kernel_rfl
theorem evs_get (es : List Ent) (k : Nat) (h : k < es.length) : (evs es)[k * 3]? = some (.string (es.getD k zeroE).name) ∧ (evs es)[k * 3 + 1]? = some (.bool (es.getD k zeroE).dir) ∧ (evs es)[k * 3 + 2]? = some (.string (es.getD k zeroE).id) := by
  induction es generalizing k with
  | nil => cases h
  | cons x l ih =>
    cases k with
    | zero => exact ⟨rfl, rfl, rfl⟩
    | succ k =>
      have := ih k (by simpa using h)
      rw [show (k + 1) * 3 = k * 3 + 3 by omega]
      exact this
theorem rdE_at {w : World} {ao : Option Addr} {n cap : Nat} {es : List Ent} (hr : rdRow w 3 (.slice ao n cap) es.length (evs es)) (h : 0 < es.length) :
    ∃ b off, ao = some ⟨b, off, none⟩ ∧ b < w.heap.size ∧ ∀ k, k < es.length → w.cell? ⟨b, off + k * 3, none⟩ = some (.string (es.getD k zeroE).name) ∧ w.cell? ⟨b, off + k * 3 + 1, none⟩ = some (.bool (es.getD k zeroE).dir) ∧ w.cell? ⟨b, off + k * 3 + 2, none⟩ = some (.string (es.getD k zeroE).id) := by
  obtain ⟨b, off, cap', hv, hc0, hb⟩ := rd_cell hr 0 _ (by have := (evs_get es 0 h).1; simpa using this)
  injection hv with h1 h2 h3
  subst h1
  refine ⟨b, off, rfl, hb, fun k hk => ?_⟩
  obtain ⟨_, ao2, cap2, hv2, _, _, _, hc⟩ := hr
  injection hv2 with g1 g2 g3
  subst g1
  obtain ⟨e0, e1, e2⟩ := evs_get es k hk
  have c0 := hc _ rfl _ _ e0
  have c1 := hc _ rfl _ _ e1
  have c2 := hc _ rfl _ _ e2
  rw [add_none rfl] at c0 c1 c2
  exact ⟨c0, by rw [Nat.add_assoc]; exact c1, by rw [Nat.add_assoc]; exact c2⟩
theorem entsF_bad {l : List Ent} {k : Nat} (hk : k < l.length) (h : entOk l k = false) : entsF l = false := by
  cases he : entsF l with
  | false => rfl
  | true =>
    have := List.all_eq_true.1 he k (by simpa using hk)
    rw [h] at this; cases this
theorem entsF_good {l : List Ent} (h : ∀ j, j < l.length → entOk l j = true) : entsF l = true := by
  rw [entsF, List.all_eq_true]
  intro j hj
  exact h j (by simpa using hj)
theorem parsFrom_first {l : List ByteArray} {k : Nat} (h0 : parF l k ≠ 0) : ∀ {c k0 : Nat}, k0 ≤ k → k < k0 + c → (∀ j, k0 ≤ j → j < k → parF l j = 0) → parsFrom l k0 c = parF l k
  | 0, k0, h1, h2, _ => by omega
  | c + 1, k0, h1, h2, h => by
    unfold parsFrom
    by_cases hk : k0 = k
    · subst hk; rw [if_pos h0]
    · rw [if_neg (fun hc => hc (h k0 (Nat.le_refl _) (by omega)))]
      exact parsFrom_first h0 (by omega) (by omega) (fun j g1 g2 => h j (by omega) g2)
theorem parsF_first {l : List ByteArray} {k : Nat} (hk : k < l.length) (h : ∀ j, j < k → parF l j = 0) (h0 : parF l k ≠ 0) : parsF l = parF l k :=
  parsFrom_first h0 (Nat.zero_le _) (by omega) (fun j _ hj => h j hj)
theorem parsFrom_all {l : List ByteArray} : ∀ {c k0 : Nat}, (∀ j, k0 ≤ j → j < k0 + c → parF l j = 0) → parsFrom l k0 c = 0
  | 0, k0, _ => rfl
  | c + 1, k0, h => by
    unfold parsFrom
    rw [if_neg (fun hc => hc (h k0 (Nat.le_refl _) (by omega)))]
    exact parsFrom_all (fun j g1 g2 => h j (by omega) (by omega))
theorem parsF_all {l : List ByteArray} (h : ∀ j, j < l.length → parF l j = 0) : parsF l = 0 := parsFrom_all (fun j _ hj => h j (by omega))
theorem goodF_1 {o : ObjS} (h1 : o.kind < 1 ∨ 4 < o.kind) : goodF o = 4 := by unfold goodF; rw [if_pos h1]
theorem goodF_2 {o : ObjS} (h1 : ¬ (o.kind < 1 ∨ 4 < o.kind)) (h2 : ¬ EmptyO o) : goodF o = 2 := by unfold goodF; rw [if_neg h1, if_pos h2]
theorem goodF_3 {o : ObjS} (h1 : ¬ (o.kind < 1 ∨ 4 < o.kind)) (h2 : EmptyO o) (h3 : 4096 < o.data.size ∨ 4096 < o.who.size ∨ 4096 < o.note.size) : goodF o = 1 := by
  unfold goodF; rw [if_neg h1, if_neg (fun h => h h2), if_pos h3]
theorem goodF_4 {o : ObjS} (h1 : ¬ (o.kind < 1 ∨ 4 < o.kind)) (h2 : EmptyO o) (h3 : ¬ (4096 < o.data.size ∨ 4096 < o.who.size ∨ 4096 < o.note.size)) (h4 : 64 < o.ents.length ∨ 4 < o.pars.length) : goodF o = 6 := by
  unfold goodF; rw [if_neg h1, if_neg (fun h => h h2), if_neg h3, if_pos h4]
theorem goodF_5 {o : ObjS} (h1 : ¬ (o.kind < 1 ∨ 4 < o.kind)) (h2 : EmptyO o) (h3 : ¬ (4096 < o.data.size ∨ 4096 < o.who.size ∨ 4096 < o.note.size)) (h4 : ¬ (64 < o.ents.length ∨ 4 < o.pars.length)) (h5 : entsF o.ents = false) : goodF o = 2 := by
  unfold goodF; rw [if_neg h1, if_neg (fun h => h h2), if_neg h3, if_neg h4, if_pos h5]
theorem goodF_6 {o : ObjS} (h1 : ¬ (o.kind < 1 ∨ 4 < o.kind)) (h2 : EmptyO o) (h3 : ¬ (4096 < o.data.size ∨ 4096 < o.who.size ∨ 4096 < o.note.size)) (h4 : ¬ (64 < o.ents.length ∨ 4 < o.pars.length)) (h5 : entsF o.ents = true) (h6 : parsF o.pars ≠ 0) : goodF o = parsF o.pars := by
  unfold goodF; rw [if_neg h1, if_neg (fun h => h h2), if_neg h3, if_neg h4, if_neg (by rw [h5]; simp), if_pos h6]
theorem goodF_7 {o : ObjS} (h1 : ¬ (o.kind < 1 ∨ 4 < o.kind)) (h2 : EmptyO o) (h3 : ¬ (4096 < o.data.size ∨ 4096 < o.who.size ∨ 4096 < o.note.size)) (h4 : ¬ (64 < o.ents.length ∨ 4 < o.pars.length)) (h5 : entsF o.ents = true) (h6 : parsF o.pars = 0)
    (h7 : (o.kind = 3 ∧ o.tree.size ≠ 32) ∨ (o.kind = 4 ∧ o.target.size ≠ 32) ∨ lineF o.who = false ∨ lineF o.note = false) : goodF o = 2 := by
  unfold goodF; rw [if_neg h1, if_neg (fun h => h h2), if_neg h3, if_neg h4, if_neg (by rw [h5]; simp), if_neg (fun h => h h6), if_pos h7]
theorem goodF_8 {o : ObjS} (h1 : ¬ (o.kind < 1 ∨ 4 < o.kind)) (h2 : EmptyO o) (h3 : ¬ (4096 < o.data.size ∨ 4096 < o.who.size ∨ 4096 < o.note.size)) (h4 : ¬ (64 < o.ents.length ∨ 4 < o.pars.length)) (h5 : entsF o.ents = true) (h6 : parsF o.pars = 0)
    (h7 : ¬ ((o.kind = 3 ∧ o.tree.size ≠ 32) ∨ (o.kind = 4 ∧ o.target.size ≠ 32) ∨ lineF o.who = false ∨ lineF o.note = false)) : goodF o = if o.time < 0 ∨ 1099511627776 ≤ o.time then 3 else 0 := by
  unfold goodF; rw [if_neg h1, if_neg (fun h => h h2), if_neg h3, if_neg h4, if_neg (by rw [h5]; simp), if_neg (fun h => h h6), if_neg h7]
theorem ob_cells {w : World} {n : Nat} {o : ObjS} {ae ap : Option Addr} {ce cp : Nat} {C : Array Value} (hC : C = (objC o (.slice ae o.ents.length ce) (.slice ap o.pars.length cp)).toArray) (h : w.heap[n]? = some (.cells C 54 (0, 0))) :
    w.cell? ⟨n, 0, none⟩ = some (.int .i64 o.kind) ∧ w.cell? ⟨n, 1, none⟩ = some (.string o.data) ∧ w.cell? ⟨n, 2, none⟩ = some (.slice ae o.ents.length ce) ∧ w.cell? ⟨n, 3, none⟩ = some (.string o.tree) ∧ w.cell? ⟨n, 4, none⟩ = some (.slice ap o.pars.length cp) ∧
    w.cell? ⟨n, 5, none⟩ = some (.string o.who) ∧ w.cell? ⟨n, 6, none⟩ = some (.string o.note) ∧ w.cell? ⟨n, 7, none⟩ = some (.int .i64 o.time) ∧ w.cell? ⟨n, 8, none⟩ = some (.string o.target) := by
  subst hC
  refine ⟨?_, ?_, ?_, ?_, ?_, ?_, ?_, ?_, ?_⟩ <;> simp [World.cell?, h, objC]
set_option maxRecDepth 100000 in
set_option maxHeartbeats 3200000 in
theorem ogood_any (o : ObjS) (ve vp : Value) (w : World) (he : rdE w ve o.ents) (hp : rdS w vp o.pars) :
    Calls Tryd.prog 55 #[.agg (objC o ve vp).toArray] w fun e w' => e = .returned (.int .i64 (goodF o)) ∧ Below w.heap.size w w' := by
  obtain ⟨F, hF⟩ : ∃ F, F = goodF o := ⟨_, rfl⟩
  rw [← hF]
  have HF := Lib.hid hF
  obtain ⟨ae, ce, rfl⟩ := rd_form he
  obtain ⟨ap, cp, rfl⟩ := rdS_form hp
  have HEM := Lib.hid (fun (w' : World) (hk : 1 ≤ o.kind ∧ o.kind ≤ 4) => empty_any o ae ap ce cp w' hk)
  obtain ⟨C, hC⟩ : ∃ C : Array Value, C = (objC o (.slice ae o.ents.length ce) (.slice ap o.pars.length cp)).toArray := ⟨_, rfl⟩
  rw [← hC] at HEM ⊢
  have HOBC := Lib.hid (fun (wr : World) (h : wr.heap[w.heap.size]? = some (.cells C 54 (0, 0))) => ob_cells hC h)
  have hsz : C.size = 9 := by rw [hC]; rfl
  have g0 : (w.alloc (.cells C 54)).heap[w.heap.size]? = some (.cells C 54 (0, 0)) := heap_alloc_new _ _
  have hb1 : Below w.heap.size w (w.alloc (.cells C 54)) := (Below.refl _ _).alloc (Nat.le_refl _) _
  have HE := Lib.hid (he.below hb1)
  have HP := Lib.hid (hp.below hb1)
  have HW0 := Lib.hid hb1
  obtain ⟨W, hW⟩ : ∃ W, w.alloc (.cells C 54) = W := ⟨_, rfl⟩
  rw [hW] at g0 HE HP HW0
  have HG := Lib.hid (fun wr (h : Below W.heap.size W wr) => blk_below g0 h)
  obtain ⟨kind, data, ents, tree, pars, who, note, time, target⟩ := o
  obtain ⟨c0, c1, c2, c3, c4, c5, c6, c7, c8⟩ := HOBC.out _ g0
  simp only at c0 c1 c2 c3 c4 c5 c6 c7 c8
  have HB1 := Lib.hid (Below.refl W.heap.size W)
  clear hF hC he hp hb1
  by_cases h1 : kind < 1 ∨ 4 < kind
  · have hF := HF.out.trans (goodF_1 h1)
    subst hF
    clear HF
    by_cases h2 : kind < 1
    · have f1 : decide (kind < 1) = true := decide_eq_true h2
      clear h1
      go_enter Tryd.func55, Tryd.ntmps55
      go_wp2_with fail
      go_ret
      exact ⟨rfl, HW0.out.trans (HB1.out.mono HW0.out.size)⟩
    · have f1 : decide (kind < 1) = false := decide_eq_false h2
      have h3 : 4 < kind := by omega
      have f2 : decide (4 < kind) = true := decide_eq_true h3
      clear h1
      go_enter Tryd.func55, Tryd.ntmps55
      go_wp2_with fail
      go_ret
      exact ⟨rfl, HW0.out.trans (HB1.out.mono HW0.out.size)⟩
  · have h2 : ¬ kind < 1 := by omega
    have h3 : ¬ 4 < kind := by omega
    have f1 : decide (kind < 1) = false := decide_eq_false h2
    have f2 : decide (4 < kind) = false := decide_eq_false h3
    have H1 := Lib.hid h1
    have hk14 : 1 ≤ kind ∧ kind ≤ 4 := by omega
    have HEM2 := Lib.hid (HEM.out W hk14)
    clear h1 HEM hk14
    go_enter Tryd.func55, Tryd.ntmps55
    go_wp2_with (first | (refine wpList_load_blk rfl 54 (.tmp 1) rfl w.heap.size rfl (.agg C) rfl g0 Tryd.underlying54 rfl (by rw [hsz]; exact info_ob) ?_))
    (with_reducible refine HEM2.out.mono ?_)
    rintro e w2 ⟨⟨b, rfl, hiff⟩, hb⟩
    have HB2 := Lib.hid hb
    have g2 := HG.out _ hb
    clear c0 c1 c2 c3 c4 c5 c6 c7 c8 g0 f1 f2 h2 h3 HEM2 hb hW
    obtain ⟨c0, c1, c2, c3, c4, c5, c6, c7, c8⟩ := HOBC.out _ g2
    try simp only at c0 c1 c2 c3 c4 c5 c6 c7 c8
    cases b with
    | false =>
      have hF := HF.out.trans (goodF_2 H1.out (fun h => by have := hiff.2 h; cases this))
      subst hF
      clear hiff
      go_wp2_with fail
      go_ret
      exact ⟨rfl, HW0.out.trans (HB2.out.mono HW0.out.size)⟩
    | true =>
      have H2 := Lib.hid (hiff.1 rfl)
      clear hiff
      by_cases p_dd : 4096 < data.size
      · have hF := HF.out.trans (goodF_3 H1.out H2.out (.inl p_dd))
        subst hF
        have f_dd : decide ((4096 : Int) < (data.size : Int)) = true := decide_eq_true (by omega)
        have n_dd : decide (4096 < data.size) = true := decide_eq_true p_dd
        clear p_dd
        go_wp2_with fail
        go_ret
        exact ⟨rfl, HW0.out.trans (HB2.out.mono HW0.out.size)⟩
      · have f_dd : decide ((4096 : Int) < (data.size : Int)) = false := decide_eq_false (by omega)
        have n_dd : decide (4096 < data.size) = false := decide_eq_false p_dd
        have HN_dd := Lib.hid p_dd
        clear p_dd
        by_cases p_ww : 4096 < who.size
        · have hF := HF.out.trans (goodF_3 H1.out H2.out (.inr (.inl p_ww)))
          subst hF
          have f_ww : decide ((4096 : Int) < (who.size : Int)) = true := decide_eq_true (by omega)
          have n_ww : decide (4096 < who.size) = true := decide_eq_true p_ww
          clear p_ww
          go_wp2_with fail
          go_ret
          exact ⟨rfl, HW0.out.trans (HB2.out.mono HW0.out.size)⟩
        · have f_ww : decide ((4096 : Int) < (who.size : Int)) = false := decide_eq_false (by omega)
          have n_ww : decide (4096 < who.size) = false := decide_eq_false p_ww
          have HN_ww := Lib.hid p_ww
          clear p_ww
          by_cases p_nn : 4096 < note.size
          · have hF := HF.out.trans (goodF_3 H1.out H2.out (.inr (.inr p_nn)))
            subst hF
            have f_nn : decide ((4096 : Int) < (note.size : Int)) = true := decide_eq_true (by omega)
            have n_nn : decide (4096 < note.size) = true := decide_eq_true p_nn
            clear p_nn
            go_wp2_with fail
            go_ret
            exact ⟨rfl, HW0.out.trans (HB2.out.mono HW0.out.size)⟩
          · have f_nn : decide ((4096 : Int) < (note.size : Int)) = false := decide_eq_false (by omega)
            have n_nn : decide (4096 < note.size) = false := decide_eq_false p_nn
            have HN_nn := Lib.hid p_nn
            clear p_nn
            have H3 := Lib.hid (show ¬ (4096 < data.size ∨ 4096 < who.size ∨ 4096 < note.size) from fun h => h.elim HN_dd.out (fun h => h.elim HN_ww.out HN_nn.out))
            by_cases p_ee : 64 < ents.length
            · have hF := HF.out.trans (goodF_4 H1.out H2.out H3.out (.inl p_ee))
              subst hF
              have f_ee : decide ((64 : Int) < (ents.length : Int)) = true := decide_eq_true (by omega)
              have n_ee : decide (64 < ents.length) = true := decide_eq_true p_ee
              clear p_ee
              go_wp2_with fail
              go_ret
              exact ⟨rfl, HW0.out.trans (HB2.out.mono HW0.out.size)⟩
            · have f_ee : decide ((64 : Int) < (ents.length : Int)) = false := decide_eq_false (by omega)
              have n_ee : decide (64 < ents.length) = false := decide_eq_false p_ee
              have HN_ee := Lib.hid p_ee
              clear p_ee
              by_cases p_pp : 4 < pars.length
              · have hF := HF.out.trans (goodF_4 H1.out H2.out H3.out (.inr p_pp))
                subst hF
                have f_pp : decide ((4 : Int) < (pars.length : Int)) = true := decide_eq_true (by omega)
                have n_pp : decide (4 < pars.length) = true := decide_eq_true p_pp
                clear p_pp
                go_wp2_with fail
                go_ret
                exact ⟨rfl, HW0.out.trans (HB2.out.mono HW0.out.size)⟩
              · have f_pp : decide ((4 : Int) < (pars.length : Int)) = false := decide_eq_false (by omega)
                have n_pp : decide (4 < pars.length) = false := decide_eq_false p_pp
                have HN_pp := Lib.hid p_pp
                clear p_pp
                have H4 := Lib.hid (show ¬ (64 < ents.length ∨ 4 < pars.length) from fun h => h.elim HN_ee.out HN_pp.out)
                go_wp2_with fail
                clear c0 c1 c2 c3 c4 c5 c6 c7 c8 g2
                have hEl : ents.length ≤ 64 := Nat.le_of_not_lt HN_ee.out
                go_loopw [47] (fun i wr => ∃ k : Nat, k ≤ ents.length ∧ i = .int .i64 (k : Int) ∧ (∀ j, j < k → entOk ents j = true) ∧ Below W.heap.size W wr) (fun i _ => ents.length - (intOf i).toNat)
                case atStart => exact ⟨0, Nat.zero_le _, rfl, fun j hj => absurd hj (Nat.not_lt_zero _), HB2.out⟩
                case round =>
                  obtain ⟨k, hk, rfl, hall, hB⟩ := hrel
                  have HALL := Lib.hid hall
                  have HBr := Lib.hid hB
                  have gr := HG.out _ hB
                  obtain ⟨c0, c1, c2, c3, c4, c5, c6, c7, c8⟩ := HOBC.out _ gr
                  clear hall hB
                  by_cases hlt : k < ents.length
                  · have hki : (k : Int) < (ents.length : Int) := by omega
                    have hkb : decide ((k : Int) < (ents.length : Int)) = true := decide_eq_true hki
                    have hkn : decide (k < ents.length) = true := decide_eq_true hlt
                    have hk0 : (0 : Int) ≤ (k : Int) := by omega
                    obtain ⟨b, off, hae, hblt, hcell⟩ := rdE_at HE.out (by omega)
                    obtain ⟨x, hx⟩ : ∃ x, x = ents.getD k zeroE := ⟨_, rfl⟩
                    obtain ⟨d0, d1, d2⟩ := hcell k hlt
                    rw [← hx] at d0 d1 d2
                    rw [← HBr.out.cell (p := ⟨b, off + k * 3, none⟩) hblt] at d0
                    rw [← HBr.out.cell (p := ⟨b, off + k * 3 + 1, none⟩) hblt] at d1
                    rw [← HBr.out.cell (p := ⟨b, off + k * 3 + 2, none⟩) hblt] at d2
                    have HX := Lib.hid hx
                    have HCE := Lib.hid hcell
                    subst hae
                    obtain ⟨V, hV⟩ : ∃ V, wr.alloc (.cells #[.string x.name, .bool x.dir, .string x.id] 98) = V := ⟨_, rfl⟩
                    have hbv : Below wr.heap.size wr V := by rw [← hV]; exact (Below.refl _ _).alloc (Nat.le_refl _) _
                    have v0 : V.drew.cell? ⟨wr.heap.size, 0, none⟩ = some (.string x.name) := by rw [← hV]; exact cell_block 0 _ rfl
                    have v2 : V.drew.cell? ⟨wr.heap.size, 2, none⟩ = some (.string x.id) := by rw [← hV]; exact cell_block 2 _ rfl
                    have hnw : w.heap.size < wr.heap.size := lt_of_block gr
                    have vs : V.drew.cell? ⟨w.heap.size, 2, none⟩ = some (.slice (some ⟨b, off, none⟩) ents.length ce) := (hbv.cell (p := ⟨w.heap.size, 2, none⟩) hnw).trans c2
                    have HBV := Lib.hid (show Below W.heap.size W V.drew from (HBr.out.trans (hbv.mono HBr.out.size)).drew)
                    have HNM := Lib.hid (named_any x.name V.drew)
                    have HLT := Lib.hid (show wr.heap.size < V.drew.heap.size by show _ < V.heap.size; rw [← hV]; simp)
                    have HLT2 := Lib.hid (Nat.lt_trans hnw HLT.out)
                    have HLT3 := Lib.hid (show b < V.drew.heap.size from Nat.lt_of_lt_of_le hblt HBV.out.size)
                    have HLTE := Lib.hid hlt
                    have HOKD := Lib.hid (show entOk ents k = (nameF x.name && (decide (x.id.size = 32) && (decide (k = 0) || Op.bytesLess (ents.getD (k - 1) zeroE).name.toList x.name.toList))) by rw [hx]; rfl)
                    clear hx hcell
                    rcases Nat.eq_zero_or_pos k with hk00 | hk00
                    · subst hk00
                      simp only [Nat.zero_mul, Nat.add_zero] at d0 d1 d2
                      have z1 : (0 : Int) < (ents.length : Int) := by omega
                      have z2 : decide ((0 : Int) < (ents.length : Int)) = true := decide_eq_true z1
                      have z3 : 0 < ents.length := hlt
                      have z4 : decide (0 < ents.length) = true := decide_eq_true hlt
                      go_wp2_with fail
                      refine Lone.wp_region_order [(0, false), (1, false), (2, true), (3, false), (4, false), (5, false), (6, false), (7, false), (8, false), (9, false), (10, false), (11, false), (12, false), (13, false), (14, false), (15, false), (16, false), (17, false), (18, false), (19, false), (20, false), (21, false), (22, false), (23, false), (24, false), (25, false)] (fun w' => w'.cell? ⟨wr.heap.size, 0, none⟩ = some (.string x.name) ∧ w'.cell? ⟨wr.heap.size, 2, none⟩ = some (.string x.id) ∧ w'.cell? ⟨w.heap.size, 2, none⟩ = some (.slice (some ⟨b, off, none⟩) ents.length ce)) (by kernel_rfl) (by kernel_rfl) rfl (by kernel_rfl) (by intro _ _ d _ _ h; cases d <;> exact h) (⟨v0, v2, vs⟩) ?_; simp only [List.map_cons, List.map_nil, List.getElem?_toArray, List.getElem?_cons_zero, List.getElem?_cons_succ, Option.getD_some]
                      repeat (first | (refine Lone.ro_q (by rfl) (v := ?_) ?_ ?_; rotate_left; (focus (intro w' hSw; (try dsimp only at hSw); go_simp; try with_reducible rfl)); simp only [Act.put, List.setIfInBounds_toArray, List.set_cons_zero, List.set_cons_succ]) | (refine Lone.ro_skip (by rfl) ?_; simp only [Act.put, List.setIfInBounds_toArray, List.set_cons_zero, List.set_cons_succ]))
                      (refine Lone.ro_loud (by rfl) (fun K hK => ?_); go_simp)
                      (with_reducible refine HNM.out.mono ?_)
                      rintro e w4 ⟨rfl, hb4⟩
                      have HB4 := Lib.hid (HBV.out.trans (hb4.mono HBV.out.size))
                      have q0 := (hb4.cell (p := ⟨wr.heap.size, 0, none⟩) HLT.out).trans v0
                      have q2 := (hb4.cell (p := ⟨wr.heap.size, 2, none⟩) HLT.out).trans v2
                      have qs := (hb4.cell (p := ⟨w.heap.size, 2, none⟩) HLT2.out).trans vs
                      clear hb4
                      (refine hK.out _ _ (fun w' => w'.cell? ⟨wr.heap.size, 0, none⟩ = some (.string x.name) ∧ w'.cell? ⟨wr.heap.size, 2, none⟩ = some (.string x.id) ∧ w'.cell? ⟨w.heap.size, 2, none⟩ = some (.slice (some ⟨b, off, none⟩) ents.length ce)) (.inl fun _ h => h) (⟨q0, q2, qs⟩) ?_; clear hK K; try simp only [Act.put, List.setIfInBounds_toArray, List.set_cons_zero, List.set_cons_succ])
                      obtain ⟨nb, hnb⟩ : ∃ nb, nb = nameF x.name := ⟨_, rfl⟩
                      rw [← hnb] at HOKD ⊢
                      clear hnb
                      cases nb with
                      | false =>
                        have HOK := Lib.hid (show entOk ents (0) = false by rw [HOKD.out]; rfl)
                        have hF := HF.out.trans (goodF_5 H1.out H2.out H3.out H4.out (entsF_bad HLTE.out HOK.out))
                        subst hF
                        repeat (first | (refine Lone.ro_q (by rfl) (v := ?_) ?_ ?_; rotate_left; (focus (intro w' hSw; (try dsimp only at hSw); go_simp; try with_reducible rfl)); simp only [Act.put, List.setIfInBounds_toArray, List.set_cons_zero, List.set_cons_succ]) | (refine Lone.ro_skip (by rfl) ?_; simp only [Act.put, List.setIfInBounds_toArray, List.set_cons_zero, List.set_cons_succ]))
                        (refine Lone.ro_nil ?_; go_wp2_with fail)
                        go_ret
                        exact ⟨rfl, HW0.out.trans (HB4.out.mono HW0.out.size)⟩
                      | true =>
                        by_cases h32 : x.id.size = 32
                        · have hsz32 : ((x.id.size : Int) != 32) = false := by rw [h32]; rfl
                          have hsz32b : ((x.id.size : Int) == 32) = true := by rw [h32]; rfl
                          have hz : decide ((0 : Int) < (0 : Int)) = false := by simp
                          have HOK := Lib.hid (show entOk ents (0) = true by rw [HOKD.out]; rw [decide_eq_true h32]; rfl)
                          clear h32
                          repeat (first | (refine Lone.ro_q (by rfl) (v := ?_) ?_ ?_; rotate_left; (focus (intro w' hSw; (try dsimp only at hSw); go_simp; try with_reducible rfl)); simp only [Act.put, List.setIfInBounds_toArray, List.set_cons_zero, List.set_cons_succ]) | (refine Lone.ro_skip (by rfl) ?_; simp only [Act.put, List.setIfInBounds_toArray, List.set_cons_zero, List.set_cons_succ]))
                          (refine Lone.ro_nil ?_; go_wp2_with fail)
                          exact ⟨⟨0 + 1, by have := HLTE.out; omega, by first | rfl | go_num, fun j hj => by (by_cases hjk : j = 0; rw [hjk]; exact HOK.out; exact HALL.out j (by omega)), HB4.out⟩, by have := HLTE.out; simp [intOf]; omega⟩
                        · have hsz32b : ((x.id.size : Int) == 32) = false := beq_eq_false_iff_ne.2 (by omega)
                          have hsz32 : ((x.id.size : Int) != 32) = true := by rw [bne, hsz32b]; rfl
                          have HOK := Lib.hid (show entOk ents (0) = false by rw [HOKD.out]; rw [decide_eq_false h32]; rfl)
                          have hF := HF.out.trans (goodF_5 H1.out H2.out H3.out H4.out (entsF_bad HLTE.out HOK.out))
                          subst hF
                          clear h32
                          repeat (first | (refine Lone.ro_q (by rfl) (v := ?_) ?_ ?_; rotate_left; (focus (intro w' hSw; (try dsimp only at hSw); go_simp; try with_reducible rfl)); simp only [Act.put, List.setIfInBounds_toArray, List.set_cons_zero, List.set_cons_succ]) | (refine Lone.ro_skip (by rfl) ?_; simp only [Act.put, List.setIfInBounds_toArray, List.set_cons_zero, List.set_cons_succ]))
                          (refine Lone.ro_nil ?_; go_wp2_with fail)
                          go_ret
                          exact ⟨rfl, HW0.out.trans (HB4.out.mono HW0.out.size)⟩
                    · obtain ⟨m, rfl⟩ : ∃ m, k = m + 1 := ⟨k - 1, by omega⟩
                      obtain ⟨p, hp⟩ : ∃ p, p = ents.getD m zeroE := ⟨_, rfl⟩
                      have vp := (HBV.out.cell (p := ⟨b, off + m * 3, none⟩) hblt).trans (HCE.out m (by omega)).1
                      rw [← hp] at vp
                      have HPP := Lib.hid hp
                      have hmi : (m : Int) < (ents.length : Int) := by omega
                      have hm0 : (0 : Int) ≤ (m : Int) := by omega
                      have hmn : m < ents.length := by omega
                      have hmw : IntKind.i64.wrap (m : Int) = (m : Int) := by rw [IntKind.wrap_i64]; omega
                      have hpos : decide ((0 : Int) < ((m + 1 : Nat) : Int)) = true := decide_eq_true (by omega)
                      rw [Nat.add_sub_cancel, ← hp] at HOKD
                      clear hp
                      go_wp2_with fail
                      refine Lone.wp_region_order [(0, false), (1, false), (2, true), (3, false), (4, false), (5, false), (6, false), (7, false), (8, false), (9, false), (10, false), (11, false), (12, false), (13, false), (14, false), (15, false), (16, false), (17, false), (18, false), (19, false), (20, false), (21, false), (22, false), (23, false), (24, false), (25, false)] (fun w' => w'.cell? ⟨wr.heap.size, 0, none⟩ = some (.string x.name) ∧ w'.cell? ⟨wr.heap.size, 2, none⟩ = some (.string x.id) ∧ w'.cell? ⟨w.heap.size, 2, none⟩ = some (.slice (some ⟨b, off, none⟩) ents.length ce) ∧ w'.cell? ⟨b, off + m * 3, none⟩ = some (.string p.name)) (by kernel_rfl) (by kernel_rfl) rfl (by kernel_rfl) (by intro _ _ d _ _ h; cases d <;> exact h) (⟨v0, v2, vs, vp⟩) ?_; simp only [List.map_cons, List.map_nil, List.getElem?_toArray, List.getElem?_cons_zero, List.getElem?_cons_succ, Option.getD_some]
                      repeat (first | (refine Lone.ro_q (by rfl) (v := ?_) ?_ ?_; rotate_left; (focus (intro w' hSw; (try dsimp only at hSw); go_simp; try with_reducible rfl)); simp only [Act.put, List.setIfInBounds_toArray, List.set_cons_zero, List.set_cons_succ]) | (refine Lone.ro_skip (by rfl) ?_; simp only [Act.put, List.setIfInBounds_toArray, List.set_cons_zero, List.set_cons_succ]))
                      (refine Lone.ro_loud (by rfl) (fun K hK => ?_); go_simp)
                      (with_reducible refine HNM.out.mono ?_)
                      rintro e w4 ⟨rfl, hb4⟩
                      have HB4 := Lib.hid (HBV.out.trans (hb4.mono HBV.out.size))
                      have q0 := (hb4.cell (p := ⟨wr.heap.size, 0, none⟩) HLT.out).trans v0
                      have q2 := (hb4.cell (p := ⟨wr.heap.size, 2, none⟩) HLT.out).trans v2
                      have qs := (hb4.cell (p := ⟨w.heap.size, 2, none⟩) HLT2.out).trans vs
                      have qp := (hb4.cell (p := ⟨b, off + m * 3, none⟩) HLT3.out).trans vp
                      clear hb4
                      (refine hK.out _ _ (fun w' => w'.cell? ⟨wr.heap.size, 0, none⟩ = some (.string x.name) ∧ w'.cell? ⟨wr.heap.size, 2, none⟩ = some (.string x.id) ∧ w'.cell? ⟨w.heap.size, 2, none⟩ = some (.slice (some ⟨b, off, none⟩) ents.length ce) ∧ w'.cell? ⟨b, off + m * 3, none⟩ = some (.string p.name)) (.inl fun _ h => h) (⟨q0, q2, qs, qp⟩) ?_; clear hK K; try simp only [Act.put, List.setIfInBounds_toArray, List.set_cons_zero, List.set_cons_succ])
                      obtain ⟨nb, hnb⟩ : ∃ nb, nb = nameF x.name := ⟨_, rfl⟩
                      rw [← hnb] at HOKD ⊢
                      clear hnb
                      cases nb with
                      | false =>
                        have HOK := Lib.hid (show entOk ents (m + 1) = false by rw [HOKD.out]; rfl)
                        have hF := HF.out.trans (goodF_5 H1.out H2.out H3.out H4.out (entsF_bad HLTE.out HOK.out))
                        subst hF
                        repeat (first | (refine Lone.ro_q (by rfl) (v := ?_) ?_ ?_; rotate_left; (focus (intro w' hSw; (try dsimp only at hSw); go_simp; try with_reducible rfl)); simp only [Act.put, List.setIfInBounds_toArray, List.set_cons_zero, List.set_cons_succ]) | (refine Lone.ro_skip (by rfl) ?_; simp only [Act.put, List.setIfInBounds_toArray, List.set_cons_zero, List.set_cons_succ]))
                        (refine Lone.ro_nil ?_; go_wp2_with fail)
                        go_ret
                        exact ⟨rfl, HW0.out.trans (HB4.out.mono HW0.out.size)⟩
                      | true =>
                        by_cases h32 : x.id.size = 32
                        · have hsz32 : ((x.id.size : Int) != 32) = false := by rw [h32]; rfl
                          have hsz32b : ((x.id.size : Int) == 32) = true := by rw [h32]; rfl
                          cases hle : Op.bytesLess p.name.toList x.name.toList with
                          | true =>
                            have HOK := Lib.hid (show entOk ents (m + 1) = true by rw [HOKD.out]; rw [decide_eq_true h32, hle]; simp)
                            clear h32
                            repeat (first | (refine Lone.ro_q (by rfl) (v := ?_) ?_ ?_; rotate_left; (focus (intro w' hSw; (try dsimp only at hSw); go_simp; try with_reducible rfl)); simp only [Act.put, List.setIfInBounds_toArray, List.set_cons_zero, List.set_cons_succ]) | (refine Lone.ro_skip (by rfl) ?_; simp only [Act.put, List.setIfInBounds_toArray, List.set_cons_zero, List.set_cons_succ]))
                            (refine Lone.ro_nil ?_; go_wp2_with fail)
                            exact ⟨⟨(m + 1) + 1, by have := HLTE.out; omega, by first | rfl | go_num, fun j hj => by (by_cases hjk : j = m + 1; rw [hjk]; exact HOK.out; exact HALL.out j (by omega)), HB4.out⟩, by have := HLTE.out; simp [intOf]; omega⟩
                          | false =>
                            have HOK := Lib.hid (show entOk ents (m + 1) = false by rw [HOKD.out]; rw [decide_eq_true h32, hle]; simp)
                            have hF := HF.out.trans (goodF_5 H1.out H2.out H3.out H4.out (entsF_bad HLTE.out HOK.out))
                            subst hF
                            clear h32
                            repeat (first | (refine Lone.ro_q (by rfl) (v := ?_) ?_ ?_; rotate_left; (focus (intro w' hSw; (try dsimp only at hSw); go_simp; try with_reducible rfl)); simp only [Act.put, List.setIfInBounds_toArray, List.set_cons_zero, List.set_cons_succ]) | (refine Lone.ro_skip (by rfl) ?_; simp only [Act.put, List.setIfInBounds_toArray, List.set_cons_zero, List.set_cons_succ]))
                            (refine Lone.ro_nil ?_; go_wp2_with fail)
                            go_ret
                            exact ⟨rfl, HW0.out.trans (HB4.out.mono HW0.out.size)⟩
                        · have hsz32b : ((x.id.size : Int) == 32) = false := beq_eq_false_iff_ne.2 (by omega)
                          have hsz32 : ((x.id.size : Int) != 32) = true := by rw [bne, hsz32b]; rfl
                          have HOK := Lib.hid (show entOk ents (m + 1) = false by rw [HOKD.out]; rw [decide_eq_false h32]; rfl)
                          have hF := HF.out.trans (goodF_5 H1.out H2.out H3.out H4.out (entsF_bad HLTE.out HOK.out))
                          subst hF
                          clear h32
                          repeat (first | (refine Lone.ro_q (by rfl) (v := ?_) ?_ ?_; rotate_left; (focus (intro w' hSw; (try dsimp only at hSw); go_simp; try with_reducible rfl)); simp only [Act.put, List.setIfInBounds_toArray, List.set_cons_zero, List.set_cons_succ]) | (refine Lone.ro_skip (by rfl) ?_; simp only [Act.put, List.setIfInBounds_toArray, List.set_cons_zero, List.set_cons_succ]))
                          (refine Lone.ro_nil ?_; go_wp2_with fail)
                          go_ret
                          exact ⟨rfl, HW0.out.trans (HB4.out.mono HW0.out.size)⟩
                  · have H5 := Lib.hid (show entsF ents = true from entsF_good (fun j hj => HALL.out j (by omega)))
                    have hkn : k = ents.length := by omega
                    subst hkn
                    have hkb : decide ((ents.length : Int) < (ents.length : Int)) = false := by simp
                    clear hlt hk HALL
                    go_wp2_with fail
                    clear c0 c1 c2 c3 c4 c5 c6 c7 c8 gr
                    have hPl : pars.length ≤ 4 := Nat.le_of_not_lt HN_pp.out
                    have HBs := Lib.hid HBr.out
                    go_loopw [82] (fun i wr => ∃ k : Nat, k ≤ pars.length ∧ i = .int .i64 (k : Int) ∧ (∀ j, j < k → parF pars j = 0) ∧ Below W.heap.size W wr) (fun i _ => pars.length - (intOf i).toNat)
                    case atStart => exact ⟨0, Nat.zero_le _, rfl, fun j hj => absurd hj (Nat.not_lt_zero _), HBs.out⟩
                    case round =>
                      clear HBr
                      obtain ⟨k, hk, rfl, hall, hB⟩ := hrel
                      have HALL := Lib.hid hall
                      have HBr := Lib.hid hB
                      have gr := HG.out _ hB
                      obtain ⟨c0, c1, c2, c3, c4, c5, c6, c7, c8⟩ := HOBC.out _ gr
                      clear hall hB
                      by_cases hlt : k < pars.length
                      · have hki : (k : Int) < (pars.length : Int) := by omega
                        have hkb : decide ((k : Int) < (pars.length : Int)) = true := decide_eq_true hki
                        have hkn : decide (k < pars.length) = true := decide_eq_true hlt
                        have hk0 : (0 : Int) ≤ (k : Int) := by omega
                        obtain ⟨v2, e2, r2⟩ := rdS_to (HP.out.below HBr.out) k hk
                        obtain ⟨b, off, cap, hv, hblt, hcell⟩ := rdS_all HP.out (by omega)
                        injection hv with hae _ hce
                        subst hae
                        obtain ⟨x, hx⟩ : ∃ x, x = pars.getD k ⟨#[]⟩ := ⟨_, rfl⟩
                        have d0 := hcell k hlt
                        rw [← hx, ← HBr.out.cell (p := ⟨b, off + k, none⟩) hblt] at d0
                        have E2 := Lib.hid e2
                        have HCT := Lib.hid (containsS_any (pars.take k) x v2 wr r2)
                        have HPF := Lib.hid (show parF pars k = if x.size ≠ 32 then 2 else if hasB (pars.take k) x = true then 8 else 0 by rw [hx]; rfl)
                        have HLTE := Lib.hid hlt
                        clear hx hcell e2 r2 hce
                        by_cases h32 : x.size = 32
                        · have hsz32b : ((x.size : Int) == 32) = true := by rw [h32]; rfl
                          have hsz32 : ((x.size : Int) != 32) = false := by rw [h32]; rfl
                          obtain ⟨hb, hhb⟩ : ∃ hb, hb = hasB (pars.take k) x := ⟨_, rfl⟩
                          rw [← hhb, if_neg (by omega)] at HPF
                          rw [← hhb] at HCT
                          clear hhb h32
                          go_wp2_with (first | (refine wpList_slice (by rfl) 22 (.tmp 91) none (some (.tmp 92)) rfl (v' := v2) E2.out ?_))
                          (with_reducible refine HCT.out.mono ?_)
                          rintro e w0 ⟨rfl, rfl⟩
                          cases hb with
                          | true =>
                            have h6 : parsF pars = 8 := (parsF_first HLTE.out HALL.out (by rw [HPF.out]; decide)).trans HPF.out
                            have hF := (HF.out.trans (goodF_6 H1.out H2.out H3.out H4.out H5.out (by show parsF pars ≠ 0; rw [h6]; decide))).trans h6
                            subst hF
                            clear h6
                            go_wp2_with fail
                            go_ret
                            exact ⟨rfl, HW0.out.trans (HBr.out.mono HW0.out.size)⟩
                          | false =>
                            go_wp2_with fail
                            exact ⟨⟨k + 1, by have := HLTE.out; omega, by first | rfl | go_num, fun j hj => by (by_cases hjk : j = k; rw [hjk]; exact HPF.out; exact HALL.out j (by omega)), HBr.out⟩, by have := HLTE.out; simp [intOf]; omega⟩
                        · have hsz32b : ((x.size : Int) == 32) = false := beq_eq_false_iff_ne.2 (by omega)
                          have hsz32 : ((x.size : Int) != 32) = true := by rw [bne, hsz32b]; rfl
                          rw [if_pos h32] at HPF
                          have h6 : parsF pars = 2 := (parsF_first HLTE.out HALL.out (by rw [HPF.out]; decide)).trans HPF.out
                          have hF := (HF.out.trans (goodF_6 H1.out H2.out H3.out H4.out H5.out (by show parsF pars ≠ 0; rw [h6]; decide))).trans h6
                          subst hF
                          clear h6 h32
                          go_wp2_with fail
                          go_ret
                          exact ⟨rfl, HW0.out.trans (HBr.out.mono HW0.out.size)⟩
                      · have hkn : k = pars.length := by omega
                        subst hkn
                        have H6 := Lib.hid (show parsF pars = 0 from parsF_all HALL.out)
                        have hkb : decide ((pars.length : Int) < (pars.length : Int)) = false := by simp
                        clear hlt hk HALL
                        by_cases hk : kind = 3
                        · have HK4 := Lib.hid (show ¬ (kind = 4 ∧ target.size ≠ 32) from fun h => by omega)
                          by_cases hsz2 : tree.size = 32
                          · have hz : ((tree.size : Int) == 32) = true := by rw [hsz2]; rfl
                            have hz2 : ((tree.size : Int) != 32) = false := by rw [hsz2]; rfl
                            have HK3 := Lib.hid (show ¬ (kind = 3 ∧ tree.size ≠ 32) from fun h => h.2 hsz2)
                            have hk3 : (kind == 3) = true := by rw [hk]; rfl
                            have hk4 : (kind == 4) = false := by rw [hk]; rfl
                            clear hsz2 hk
                            have HLW := Lib.hid (line_any who wr)
                            obtain ⟨lw, hlw⟩ : ∃ b, b = lineF who := ⟨_, rfl⟩
                            rw [← hlw] at HLW
                            have HLWD := Lib.hid hlw
                            clear hlw
                            go_wp2_with fail
                            (with_reducible refine HLW.out.mono ?_)
                            rintro e w5 ⟨rfl, hb5⟩
                            have HB5 := Lib.hid (HBr.out.trans (hb5.mono HBr.out.size))
                            have g5 := HG.out _ HB5.out
                            clear c0 c1 c2 c3 c4 c5 c6 c7 c8 gr hb5
                            obtain ⟨c0, c1, c2, c3, c4, c5, c6, c7, c8⟩ := HOBC.out _ g5
                            cases lw with
                            | false =>
                              have hF := HF.out.trans (goodF_7 H1.out H2.out H3.out H4.out H5.out H6.out (.inr (.inr (.inl HLWD.out.symm))))
                              subst hF
                              go_wp2_with fail
                              go_ret
                              exact ⟨rfl, HW0.out.trans (HB5.out.mono HW0.out.size)⟩
                            | true =>
                              have HLN := Lib.hid (line_any note w5)
                              obtain ⟨ln, hln⟩ : ∃ b, b = lineF note := ⟨_, rfl⟩
                              rw [← hln] at HLN
                              have HLND := Lib.hid hln
                              clear hln
                              go_wp2_with fail
                              (with_reducible refine HLN.out.mono ?_)
                              rintro e w6 ⟨rfl, hb6⟩
                              have HB6 := Lib.hid (HB5.out.trans (hb6.mono HB5.out.size))
                              have g6 := HG.out _ HB6.out
                              clear c0 c1 c2 c3 c4 c5 c6 c7 c8 g5 hb6
                              obtain ⟨c0, c1, c2, c3, c4, c5, c6, c7, c8⟩ := HOBC.out _ g6
                              cases ln with
                              | false =>
                                have hF := HF.out.trans (goodF_7 H1.out H2.out H3.out H4.out H5.out H6.out (.inr (.inr (.inr HLND.out.symm))))
                                subst hF
                                go_wp2_with fail
                                go_ret
                                exact ⟨rfl, HW0.out.trans (HB6.out.mono HW0.out.size)⟩
                              | true =>
                                have H7 := Lib.hid (show ¬ ((kind = 3 ∧ tree.size ≠ 32) ∨ (kind = 4 ∧ target.size ≠ 32) ∨ lineF who = false ∨ lineF note = false) from fun h => by
                                  rcases h with h | h | h | h
                                  · exact HK3.out h
                                  · exact HK4.out h
                                  · rw [← HLWD.out] at h; cases h
                                  · rw [← HLND.out] at h; cases h)
                                have hF := HF.out.trans (goodF_8 H1.out H2.out H3.out H4.out H5.out H6.out H7.out)
                                simp only at hF
                                by_cases ht0 : time < 0
                                · have h1 : decide (time < 0) = true := decide_eq_true ht0
                                  rw [if_pos (.inl ht0)] at hF
                                  subst hF
                                  clear ht0
                                  go_wp2_with fail
                                  go_ret
                                  exact ⟨rfl, HW0.out.trans (HB6.out.mono HW0.out.size)⟩
                                · have h1 : decide (time < 0) = false := decide_eq_false ht0
                                  have h1i : ¬ time < 0 := ht0
                                  by_cases ht1 : 1099511627776 ≤ time
                                  · have h2 : decide (1099511627776 ≤ time) = true := decide_eq_true ht1
                                    rw [if_pos (.inr ht1)] at hF
                                    subst hF
                                    clear ht0
                                    go_wp2_with fail
                                    go_ret
                                    exact ⟨rfl, HW0.out.trans (HB6.out.mono HW0.out.size)⟩
                                  · have h2 : decide (1099511627776 ≤ time) = false := decide_eq_false ht1
                                    rw [if_neg (fun h => h.elim ht0 ht1)] at hF
                                    subst hF
                                    clear ht0
                                    go_wp2_with fail
                                    go_ret
                                    exact ⟨rfl, HW0.out.trans (HB6.out.mono HW0.out.size)⟩
                          · have hz : ((tree.size : Int) == 32) = false := beq_eq_false_iff_ne.2 (by omega)
                            have hz2 : ((tree.size : Int) != 32) = true := by rw [bne, hz]; rfl
                            have hF := HF.out.trans (goodF_7 H1.out H2.out H3.out H4.out H5.out H6.out (.inl ⟨hk, hsz2⟩))
                            subst hF
                            have hk3 : (kind == 3) = true := by rw [hk]; rfl
                            have hk4 : (kind == 4) = false := by rw [hk]; rfl
                            clear hsz2 hk
                            go_wp2_with fail
                            go_ret
                            exact ⟨rfl, HW0.out.trans (HBr.out.mono HW0.out.size)⟩
                        · have hk3 : (kind == 3) = false := beq_eq_false_iff_ne.2 hk
                          have HK3 := Lib.hid (show ¬ (kind = 3 ∧ tree.size ≠ 32) from fun h => hk h.1)
                          clear hk
                          by_cases hk : kind = 4
                          · by_cases hsz2 : target.size = 32
                            · have hz : ((target.size : Int) == 32) = true := by rw [hsz2]; rfl
                              have hz2 : ((target.size : Int) != 32) = false := by rw [hsz2]; rfl
                              have HK4 := Lib.hid (show ¬ (kind = 4 ∧ target.size ≠ 32) from fun h => h.2 hsz2)
                              have hk4 : (kind == 4) = true := by rw [hk]; rfl
                              clear hsz2 hk
                              have HLW := Lib.hid (line_any who wr)
                              obtain ⟨lw, hlw⟩ : ∃ b, b = lineF who := ⟨_, rfl⟩
                              rw [← hlw] at HLW
                              have HLWD := Lib.hid hlw
                              clear hlw
                              go_wp2_with fail
                              (with_reducible refine HLW.out.mono ?_)
                              rintro e w5 ⟨rfl, hb5⟩
                              have HB5 := Lib.hid (HBr.out.trans (hb5.mono HBr.out.size))
                              have g5 := HG.out _ HB5.out
                              clear c0 c1 c2 c3 c4 c5 c6 c7 c8 gr hb5
                              obtain ⟨c0, c1, c2, c3, c4, c5, c6, c7, c8⟩ := HOBC.out _ g5
                              cases lw with
                              | false =>
                                have hF := HF.out.trans (goodF_7 H1.out H2.out H3.out H4.out H5.out H6.out (.inr (.inr (.inl HLWD.out.symm))))
                                subst hF
                                go_wp2_with fail
                                go_ret
                                exact ⟨rfl, HW0.out.trans (HB5.out.mono HW0.out.size)⟩
                              | true =>
                                have HLN := Lib.hid (line_any note w5)
                                obtain ⟨ln, hln⟩ : ∃ b, b = lineF note := ⟨_, rfl⟩
                                rw [← hln] at HLN
                                have HLND := Lib.hid hln
                                clear hln
                                go_wp2_with fail
                                (with_reducible refine HLN.out.mono ?_)
                                rintro e w6 ⟨rfl, hb6⟩
                                have HB6 := Lib.hid (HB5.out.trans (hb6.mono HB5.out.size))
                                have g6 := HG.out _ HB6.out
                                clear c0 c1 c2 c3 c4 c5 c6 c7 c8 g5 hb6
                                obtain ⟨c0, c1, c2, c3, c4, c5, c6, c7, c8⟩ := HOBC.out _ g6
                                cases ln with
                                | false =>
                                  have hF := HF.out.trans (goodF_7 H1.out H2.out H3.out H4.out H5.out H6.out (.inr (.inr (.inr HLND.out.symm))))
                                  subst hF
                                  go_wp2_with fail
                                  go_ret
                                  exact ⟨rfl, HW0.out.trans (HB6.out.mono HW0.out.size)⟩
                                | true =>
                                  have H7 := Lib.hid (show ¬ ((kind = 3 ∧ tree.size ≠ 32) ∨ (kind = 4 ∧ target.size ≠ 32) ∨ lineF who = false ∨ lineF note = false) from fun h => by
                                    rcases h with h | h | h | h
                                    · exact HK3.out h
                                    · exact HK4.out h
                                    · rw [← HLWD.out] at h; cases h
                                    · rw [← HLND.out] at h; cases h)
                                  have hF := HF.out.trans (goodF_8 H1.out H2.out H3.out H4.out H5.out H6.out H7.out)
                                  simp only at hF
                                  by_cases ht0 : time < 0
                                  · have h1 : decide (time < 0) = true := decide_eq_true ht0
                                    rw [if_pos (.inl ht0)] at hF
                                    subst hF
                                    clear ht0
                                    go_wp2_with fail
                                    go_ret
                                    exact ⟨rfl, HW0.out.trans (HB6.out.mono HW0.out.size)⟩
                                  · have h1 : decide (time < 0) = false := decide_eq_false ht0
                                    have h1i : ¬ time < 0 := ht0
                                    by_cases ht1 : 1099511627776 ≤ time
                                    · have h2 : decide (1099511627776 ≤ time) = true := decide_eq_true ht1
                                      rw [if_pos (.inr ht1)] at hF
                                      subst hF
                                      clear ht0
                                      go_wp2_with fail
                                      go_ret
                                      exact ⟨rfl, HW0.out.trans (HB6.out.mono HW0.out.size)⟩
                                    · have h2 : decide (1099511627776 ≤ time) = false := decide_eq_false ht1
                                      rw [if_neg (fun h => h.elim ht0 ht1)] at hF
                                      subst hF
                                      clear ht0
                                      go_wp2_with fail
                                      go_ret
                                      exact ⟨rfl, HW0.out.trans (HB6.out.mono HW0.out.size)⟩
                            · have hz : ((target.size : Int) == 32) = false := beq_eq_false_iff_ne.2 (by omega)
                              have hz2 : ((target.size : Int) != 32) = true := by rw [bne, hz]; rfl
                              have hF := HF.out.trans (goodF_7 H1.out H2.out H3.out H4.out H5.out H6.out (.inr (.inl ⟨hk, hsz2⟩)))
                              subst hF
                              have hk4 : (kind == 4) = true := by rw [hk]; rfl
                              clear hsz2 hk
                              go_wp2_with fail
                              go_ret
                              exact ⟨rfl, HW0.out.trans (HBr.out.mono HW0.out.size)⟩
                          · have hk4 : (kind == 4) = false := beq_eq_false_iff_ne.2 hk
                            have HK4 := Lib.hid (show ¬ (kind = 4 ∧ target.size ≠ 32) from fun h => hk h.1)
                            clear hk
                            have HLW := Lib.hid (line_any who wr)
                            obtain ⟨lw, hlw⟩ : ∃ b, b = lineF who := ⟨_, rfl⟩
                            rw [← hlw] at HLW
                            have HLWD := Lib.hid hlw
                            clear hlw
                            go_wp2_with fail
                            (with_reducible refine HLW.out.mono ?_)
                            rintro e w5 ⟨rfl, hb5⟩
                            have HB5 := Lib.hid (HBr.out.trans (hb5.mono HBr.out.size))
                            have g5 := HG.out _ HB5.out
                            clear c0 c1 c2 c3 c4 c5 c6 c7 c8 gr hb5
                            obtain ⟨c0, c1, c2, c3, c4, c5, c6, c7, c8⟩ := HOBC.out _ g5
                            cases lw with
                            | false =>
                              have hF := HF.out.trans (goodF_7 H1.out H2.out H3.out H4.out H5.out H6.out (.inr (.inr (.inl HLWD.out.symm))))
                              subst hF
                              go_wp2_with fail
                              go_ret
                              exact ⟨rfl, HW0.out.trans (HB5.out.mono HW0.out.size)⟩
                            | true =>
                              have HLN := Lib.hid (line_any note w5)
                              obtain ⟨ln, hln⟩ : ∃ b, b = lineF note := ⟨_, rfl⟩
                              rw [← hln] at HLN
                              have HLND := Lib.hid hln
                              clear hln
                              go_wp2_with fail
                              (with_reducible refine HLN.out.mono ?_)
                              rintro e w6 ⟨rfl, hb6⟩
                              have HB6 := Lib.hid (HB5.out.trans (hb6.mono HB5.out.size))
                              have g6 := HG.out _ HB6.out
                              clear c0 c1 c2 c3 c4 c5 c6 c7 c8 g5 hb6
                              obtain ⟨c0, c1, c2, c3, c4, c5, c6, c7, c8⟩ := HOBC.out _ g6
                              cases ln with
                              | false =>
                                have hF := HF.out.trans (goodF_7 H1.out H2.out H3.out H4.out H5.out H6.out (.inr (.inr (.inr HLND.out.symm))))
                                subst hF
                                go_wp2_with fail
                                go_ret
                                exact ⟨rfl, HW0.out.trans (HB6.out.mono HW0.out.size)⟩
                              | true =>
                                have H7 := Lib.hid (show ¬ ((kind = 3 ∧ tree.size ≠ 32) ∨ (kind = 4 ∧ target.size ≠ 32) ∨ lineF who = false ∨ lineF note = false) from fun h => by
                                  rcases h with h | h | h | h
                                  · exact HK3.out h
                                  · exact HK4.out h
                                  · rw [← HLWD.out] at h; cases h
                                  · rw [← HLND.out] at h; cases h)
                                have hF := HF.out.trans (goodF_8 H1.out H2.out H3.out H4.out H5.out H6.out H7.out)
                                simp only at hF
                                by_cases ht0 : time < 0
                                · have h1 : decide (time < 0) = true := decide_eq_true ht0
                                  rw [if_pos (.inl ht0)] at hF
                                  subst hF
                                  clear ht0
                                  go_wp2_with fail
                                  go_ret
                                  exact ⟨rfl, HW0.out.trans (HB6.out.mono HW0.out.size)⟩
                                · have h1 : decide (time < 0) = false := decide_eq_false ht0
                                  have h1i : ¬ time < 0 := ht0
                                  by_cases ht1 : 1099511627776 ≤ time
                                  · have h2 : decide (1099511627776 ≤ time) = true := decide_eq_true ht1
                                    rw [if_pos (.inr ht1)] at hF
                                    subst hF
                                    clear ht0
                                    go_wp2_with fail
                                    go_ret
                                    exact ⟨rfl, HW0.out.trans (HB6.out.mono HW0.out.size)⟩
                                  · have h2 : decide (1099511627776 ≤ time) = false := decide_eq_false ht1
                                    rw [if_neg (fun h => h.elim ht0 ht1)] at hF
                                    subst hF
                                    clear ht0
                                    go_wp2_with fail
                                    go_ret
                                    exact ⟨rfl, HW0.out.trans (HB6.out.mono HW0.out.size)⟩
end Go.Proofs.YtalkheljejkpiaaDoor
/-! Object4 -/
namespace Go.Proofs.YtalkheljejkpiaaDoor
open Go.RowKit
set_option linter.unusedVariables false
set_option linter.unusedSimpArgs false

theorem encodeF_1 {o : ObjS} (h : goodF o ≠ 0) : encodeF o = (noB, goodF o) := by unfold encodeF; rw [if_pos h]
theorem encodeF_2 {o : ObjS} (h : goodF o = 0) (h2 : 8192 < (encO o).length) : encodeF o = (noB, 1) := by unfold encodeF; rw [if_neg (fun hc => hc h), if_pos h2]
theorem encodeF_3 {o : ObjS} (h : goodF o = 0) (h2 : ¬ 8192 < (encO o).length) : encodeF o = (⟨(encO o).toArray⟩, 0) := by unfold encodeF; rw [if_neg (fun hc => hc h), if_neg h2]
theorem encEs_length {l : List Ent} (h : ∀ x ∈ l, x.name.size ≤ 60 ∧ x.id.size = 32) : (encEs l).length ≤ l.length * 110 := by
  induction l with
  | nil => simp [encEs]
  | cons x l ih =>
    have h1 := ih (fun y hy => h y (by simp [hy]))
    obtain ⟨h2, h3⟩ := h x (by simp)
    have h4 := enc9 (n := x.name.size) (by omega)
    have h5 := enc9 (n := if x.dir then 1 else 0) (by split <;> omega)
    rw [show encEs (x :: l) = encE x ++ encEs l by simp [encEs], List.length_append, encE, encT]
    simp only [List.length_append, toList_length, List.length_cons]
    omega
theorem encP_length {l : List ByteArray} (h : ∀ x ∈ l, x.size = 32) : (encP l).length ≤ l.length * 32 := by
  induction l with
  | nil => simp [encP]
  | cons x l ih =>
    have h1 := ih (fun y hy => h y (by simp [hy]))
    have h2 := h x (by simp)
    rw [show encP (x :: l) = x.data.toList ++ encP l by simp [encP], List.length_append, toList_length, List.length_cons]
    omega
theorem encO_length {o : ObjS} (g : GoodO o) : (encO o).length ≤ 50000 := by
  obtain ⟨k1, k4⟩ := g.kind
  have h0 := enc9 (n := o.kind.toNat) (by omega)
  have h1 := encT_length g.data
  have h2 := encT_length g.who
  have h3 := encT_length g.note
  have h4 := encEs_length g.ent
  have h5 := encP_length g.par
  have h6 := g.ents
  have h7 := g.pars
  have h8 := enc9 (n := o.ents.length) (by omega)
  have h9 := enc9 (n := o.pars.length) (by omega)
  have h10 := enc9 (n := o.time.toNat) (by have := g.time; omega)
  rw [encO, List.length_append]
  unfold bodyO
  split
  · omega
  · split
    · rw [List.length_append]; omega
    · split
      · rename_i hk
        have := g.tree hk
        simp only [List.length_append, toList_length]; omega
      · split
        · rename_i hk
          have := g.target hk
          simp only [List.length_append, toList_length]; omega
        · simp; omega
end Go.Proofs.YtalkheljejkpiaaDoor
