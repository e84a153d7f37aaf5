/- The walks of package object's named, line and empty. -/
import Derived.Test.YtmjnohblifihmaaObjectLaw
import Derived.Test.YtmjnohblifihmaaStrs
namespace Go.Proofs.Ytmjnohblifihmaa
open Go.RowKit
set_option linter.unusedVariables false
set_option linter.unusedSimpArgs false

theorem named_pays (w : World) : PredAt Try.prog 32 #[] encR badName w := fun W r _ => by
  unfold FnGives
  by_cases h1 : r ≤ 32 <;> by_cases h2 : 126 < r <;> by_cases h3 : r = 47
  all_goals
    have z1 : (r : Int) ≤ 32 ↔ r ≤ 32 := by omega
    have z2 : (126 : Int) < (r : Int) ↔ 126 < r := by omega
    have z3 : (r : Int) = 47 ↔ r = 47 := by omega
    go_enter Try.func32, Try.ntmps32
    go_wp2
    all_goals first | (exfalso; omega) | (go_ret; exact ⟨by simp [badName, h1, h2, h3, z1, z2, z3], 0, rfl⟩)
theorem line_pays (w : World) : PredAt Try.prog 34 #[] encR badLine w := fun W r _ => by
  unfold FnGives
  by_cases h3 : r = 0
  all_goals
    have z3 : (r : Int) = 0 ↔ r = 0 := by omega
    go_enter Try.func34, Try.ntmps34
    go_wp2
    all_goals first | (exfalso; omega) | (go_ret; exact ⟨by simp [badLine, h3, z3], 0, rfl⟩)
theorem toList_eq_iff (s t : ByteArray) : (s.toList = t.toList) ↔ s = t := by
  constructor
  · intro h
    rw [ByteArray.toList_eq, ByteArray.toList_eq] at h
    exact bs_ext h
  · intro h; rw [h]
theorem isEmpty_iff (s : ByteArray) : s.toList.isEmpty = decide (s = noB) := by
  have h := toList_eq_iff s noB
  have e : noB.toList = [] := by rw [ByteArray.toList_eq]; rfl
  rw [e] at h
  rw [Bool.eq_iff_iff, decide_eq_true_eq, List.isEmpty_iff]
  exact h
theorem beq_toList (s t : ByteArray) (l : List UInt8) (h : t.data.toList = l) : (s.toList == l) = decide (s = t) := by
  rw [Bool.eq_iff_iff, decide_eq_true_eq, beq_iff_eq, ← h, ← ByteArray.toList_eq]
  exact toList_eq_iff s t
set_option maxRecDepth 100000 in
set_option maxHeartbeats 3200000 in
theorem named_any (s : ByteArray) (w : World) : Calls Try.prog 24 #[.string s] w fun e w' => e = .returned (.bool (nameF s)) ∧ Below w.heap.size w w' := by
  have HC := Lib.hid (contains_any 32 (enters_of Try.func32 (by kernel_rfl) rfl) badName s w (named_pays w))
  obtain ⟨r, hr⟩ : ∃ r, r = nameF s := ⟨_, rfl⟩
  rw [← hr]
  unfold nameF at hr
  obtain ⟨b, hb⟩ : ∃ b, b = hasP badName s := ⟨_, rfl⟩
  rw [← hb] at HC hr
  have HR := Lib.hid hr
  clear hr hb
  go_enter Try.func24, Try.ntmps24
  go_wp2_with fail
  (with_reducible refine HC.out.mono ?_)
  rintro e w1 ⟨rfl, hb⟩
  have HB := Lib.hid hb
  clear hb HC
  have hrr := HR.out
  clear HR
  cases b with
  | true =>
    obtain rfl : r = false := by rw [hrr]; rfl
    clear hrr
    go_wp2_with fail
    go_ret
    exact ⟨rfl, HB.out⟩
  | false =>
    by_cases h1 : s = noB
    · have hE : s.toList.isEmpty = true := by rw [isEmpty_iff]; exact decide_eq_true h1
      obtain rfl : r = false := by rw [hrr]; simp [h1]
      clear hrr h1
      go_wp2_with fail
      go_ret
      exact ⟨rfl, HB.out⟩
    · have hE : s.toList.isEmpty = false := by rw [isEmpty_iff]; exact decide_eq_false h1
      by_cases h2 : s.size ≤ 60
      · have h2i : (s.size : Int) ≤ 60 := by omega
        have h2b : decide ((s.size : Int) ≤ 60) = true := decide_eq_true h2i
        have h2n : decide (s.size ≤ 60) = true := decide_eq_true h2
        by_cases h3 : s = ⟨#[46]⟩
        · have h3b : (s.toList == [46]) = true := by rw [beq_toList s ⟨#[46]⟩ [46] rfl]; exact decide_eq_true h3
          have h3c : (s.toList != [46]) = false := by rw [bne, h3b]; rfl
          obtain rfl : r = false := by rw [hrr, decide_eq_false (show ¬ s ≠ ⟨#[46]⟩ from fun h => h h3)]; simp
          clear hrr h1 h3 h2
          go_wp2_with fail
          go_ret
          exact ⟨rfl, HB.out⟩
        · have h3b : (s.toList == [46]) = false := by rw [beq_toList s ⟨#[46]⟩ [46] rfl]; exact decide_eq_false h3
          have h3c : (s.toList != [46]) = true := by rw [bne, h3b]; rfl
          by_cases h4 : s = ⟨#[46, 46]⟩
          · have h4b : (s.toList == [46, 46]) = true := by rw [beq_toList s ⟨#[46, 46]⟩ [46, 46] rfl]; exact decide_eq_true h4
            have h4c : (s.toList != [46, 46]) = false := by rw [bne, h4b]; rfl
            obtain rfl : r = false := by rw [hrr, decide_eq_false (show ¬ s ≠ ⟨#[46, 46]⟩ from fun h => h h4)]; simp
            clear hrr h1 h3 h2 h4
            go_wp2_with fail
            go_ret
            exact ⟨rfl, HB.out⟩
          · have h4b : (s.toList == [46, 46]) = false := by rw [beq_toList s ⟨#[46, 46]⟩ [46, 46] rfl]; exact decide_eq_false h4
            have h4c : (s.toList != [46, 46]) = true := by rw [bne, h4b]; rfl
            obtain rfl : r = true := by rw [hrr, decide_eq_true h1, decide_eq_true h2, decide_eq_true h3, decide_eq_true h4]; rfl
            clear hrr h1 h3 h2 h4
            go_wp2_with fail
            go_ret
            exact ⟨rfl, HB.out⟩
      · have h2i : ¬ (s.size : Int) ≤ 60 := by omega
        have h2b : decide ((s.size : Int) ≤ 60) = false := decide_eq_false h2i
        have h2n : decide (s.size ≤ 60) = false := decide_eq_false h2
        obtain rfl : r = false := by rw [hrr, h2n]; simp
        clear hrr h1 h2
        go_wp2_with fail
        go_ret
        exact ⟨rfl, HB.out⟩
set_option maxRecDepth 100000 in
set_option maxHeartbeats 3200000 in
theorem line_any (s : ByteArray) (w : World) : Calls Try.prog 26 #[.string s] w fun e w' => e = .returned (.bool (lineF s)) ∧ Below w.heap.size w w' := by
  have HC := Lib.hid (contains_any 34 (enters_of Try.func34 (by kernel_rfl) rfl) badLine s w (line_pays w))
  obtain ⟨r, hr⟩ : ∃ r, r = lineF s := ⟨_, rfl⟩
  rw [← hr]
  unfold lineF at hr
  obtain ⟨b, hb⟩ : ∃ b, b = hasP badLine s := ⟨_, rfl⟩
  rw [← hb] at HC hr
  by_cases h2 : s.size ≤ 4096
  · have h2i : (s.size : Int) ≤ 4096 := by omega
    have h2b : decide ((s.size : Int) ≤ 4096) = true := decide_eq_true h2i
    have h2n : decide (s.size ≤ 4096) = true := decide_eq_true h2
    obtain rfl : r = !b := by rw [hr, h2n]; rfl
    clear hr hb h2
    go_enter Try.func26, Try.ntmps26
    go_wp2_with fail
    (with_reducible refine HC.out.mono ?_)
    rintro e w1 ⟨rfl, hb⟩
    cases b with
    | true =>
      go_wp2_with fail
      go_ret
      exact ⟨rfl, hb⟩
    | false =>
      go_wp2_with fail
      go_ret
      exact ⟨rfl, hb⟩
  · have h2i : ¬ (s.size : Int) ≤ 4096 := by omega
    have h2b : decide ((s.size : Int) ≤ 4096) = false := decide_eq_false h2i
    have h2n : decide (s.size ≤ 4096) = false := decide_eq_false h2
    obtain rfl : r = false := by rw [hr, h2n]; rfl
    clear hr hb h2
    go_enter Try.func26, Try.ntmps26
    go_wp2_with fail
    go_ret
    exact ⟨rfl, Below.refl _ _⟩

/-! Objects as values. -/
def objC (o : Obj) (ve vp : Value) : List Value := [.int .i64 o.kind, .string o.data, ve, .string o.tree, vp, .string o.who, .string o.note, .int .i64 o.time, .string o.target]
def evs (es : List Ent) : List Value := es.flatMap fun x => [.string x.name, .bool x.dir, .string x.id]
theorem evs_length (es : List Ent) : (evs es).length = es.length * 3 := by induction es with
  | nil => rfl
  | cons x l ih => rw [evs, List.flatMap_cons, List.length_append, ← evs, ih]; simp; omega
def rdE (w : World) (v : Value) (es : List Ent) : Prop := rdRow w 3 v es.length (evs es)
set_option maxRecDepth 100000 in
set_option maxHeartbeats 3200000 in
theorem empty_any (o : Obj) (ae ap : Option Addr) (ce cp : Nat) (w : World) (hk : 1 ≤ o.kind ∧ o.kind ≤ 4) :
    Calls Try.prog 23 #[.agg (objC o (.slice ae o.ents.length ce) (.slice ap o.pars.length cp)).toArray] w fun e w' => (∃ b, e = .returned (.bool b) ∧ (b = true ↔ EmptyO o)) ∧ Below w.heap.size w w' := by
  obtain ⟨kind, data, ents, tree, pars, who, note, time, target⟩ := o
  simp only [objC]
  simp only at hk
  have HB := Lib.hid (((Below.refl w.heap.size w).alloc (Nat.le_refl _) (.cells #[.int .i64 kind, .string data, .slice ae ents.length ce, .string tree, .slice ap pars.length cp, .string who, .string note, .int .i64 time, .string target] 25)).drew)
  have c0 : (w.alloc (.cells #[.int .i64 kind, .string data, .slice ae ents.length ce, .string tree, .slice ap pars.length cp, .string who, .string note, .int .i64 time, .string target] 25)).drew.cell? ⟨w.heap.size, 0, none⟩ = some (.int .i64 kind) := cell_block 0 _ rfl
  have c1 : (w.alloc (.cells #[.int .i64 kind, .string data, .slice ae ents.length ce, .string tree, .slice ap pars.length cp, .string who, .string note, .int .i64 time, .string target] 25)).drew.cell? ⟨w.heap.size, 1, none⟩ = some (.string data) := cell_block 1 _ rfl
  have c2 : (w.alloc (.cells #[.int .i64 kind, .string data, .slice ae ents.length ce, .string tree, .slice ap pars.length cp, .string who, .string note, .int .i64 time, .string target] 25)).drew.cell? ⟨w.heap.size, 2, none⟩ = some (.slice ae ents.length ce) := cell_block 2 _ rfl
  have c3 : (w.alloc (.cells #[.int .i64 kind, .string data, .slice ae ents.length ce, .string tree, .slice ap pars.length cp, .string who, .string note, .int .i64 time, .string target] 25)).drew.cell? ⟨w.heap.size, 3, none⟩ = some (.string tree) := cell_block 3 _ rfl
  have c4 : (w.alloc (.cells #[.int .i64 kind, .string data, .slice ae ents.length ce, .string tree, .slice ap pars.length cp, .string who, .string note, .int .i64 time, .string target] 25)).drew.cell? ⟨w.heap.size, 4, none⟩ = some (.slice ap pars.length cp) := cell_block 4 _ rfl
  have c5 : (w.alloc (.cells #[.int .i64 kind, .string data, .slice ae ents.length ce, .string tree, .slice ap pars.length cp, .string who, .string note, .int .i64 time, .string target] 25)).drew.cell? ⟨w.heap.size, 5, none⟩ = some (.string who) := cell_block 5 _ rfl
  have c6 : (w.alloc (.cells #[.int .i64 kind, .string data, .slice ae ents.length ce, .string tree, .slice ap pars.length cp, .string who, .string note, .int .i64 time, .string target] 25)).drew.cell? ⟨w.heap.size, 6, none⟩ = some (.string note) := cell_block 6 _ rfl
  have c7 : (w.alloc (.cells #[.int .i64 kind, .string data, .slice ae ents.length ce, .string tree, .slice ap pars.length cp, .string who, .string note, .int .i64 time, .string target] 25)).drew.cell? ⟨w.heap.size, 7, none⟩ = some (.int .i64 time) := cell_block 7 _ rfl
  have c8 : (w.alloc (.cells #[.int .i64 kind, .string data, .slice ae ents.length ce, .string tree, .slice ap pars.length cp, .string who, .string note, .int .i64 time, .string target] 25)).drew.cell? ⟨w.heap.size, 8, none⟩ = some (.string target) := cell_block 8 _ rfl
  obtain ⟨k1, k4⟩ := hk
  rcases (by omega : kind = 1 ∨ kind = 2 ∨ kind = 3 ∨ kind = 4) with hk | hk | hk | hk
  · subst hk
    clear k1 k4
    go_enter Try.func23, Try.ntmps23
    go_wp2_with fail
    generalize w.alloc (.cells #[.int .i64 1, .string data, .slice ae ents.length ce, .string tree, .slice ap pars.length cp, .string who, .string note, .int .i64 time, .string target] 25) = W1 at *
    refine Lone.wp_region_order [(0, false), (1, false), (2, false), (3, false), (4, false), (5, false), (6, false), (7, false), (8, false), (9, false), (10, false), (11, false), (12, false), (13, false), (14, false), (15, false)] (fun w' => w'.cell? ⟨w.heap.size, 0, none⟩ = some (.int .i64 1)) (by kernel_rfl) (by kernel_rfl) rfl (by kernel_rfl) (by intro _ _ d _ _ h; cases d <;> exact h) (c0) ?_; simp only [List.map_cons, List.map_nil, List.getElem?_toArray, List.getElem?_cons_zero, List.getElem?_cons_succ, Option.getD_some]
    repeat (first | (refine Lone.ro_q (by rfl) (v := ?_) ?_ ?_; rotate_left; (focus (intro w' hSw; (try dsimp only at hSw); go_simp; try with_reducible rfl)); simp only [Act.put, List.setIfInBounds_toArray, List.set_cons_zero, List.set_cons_succ]) | (refine Lone.ro_skip (by rfl) ?_; simp only [Act.put, List.setIfInBounds_toArray, List.set_cons_zero, List.set_cons_succ]))
    refine Lone.ro_nil ?_
    by_cases p_ents : ents.length = 0
    · have f_ents : ((ents.length : Int) == 0) = true := by rw [p_ents]; rfl
      have HP_ents := Lib.hid p_ents
      clear p_ents
      by_cases p_tree : tree = noB
      · have f_tree : tree.toList.isEmpty = true := by rw [isEmpty_iff]; exact decide_eq_true p_tree
        have HP_tree := Lib.hid p_tree
        clear p_tree
        by_cases p_pars : pars.length = 0
        · have f_pars : ((pars.length : Int) == 0) = true := by rw [p_pars]; rfl
          have HP_pars := Lib.hid p_pars
          clear p_pars
          by_cases p_time : time = 0
          · have f_time : (time == 0) = true := by rw [p_time]; rfl
            have HP_time := Lib.hid p_time
            clear p_time
            by_cases p_target : target = noB
            · have f_target : target.toList.isEmpty = true := by rw [isEmpty_iff]; exact decide_eq_true p_target
              have HP_target := Lib.hid p_target
              clear p_target
              by_cases p_who : who = noB
              · have f_who : who.toList.isEmpty = true := by rw [isEmpty_iff]; exact decide_eq_true p_who
                have HP_who := Lib.hid p_who
                clear p_who
                by_cases p_note : note = noB
                · have f_note : note.toList.isEmpty = true := by rw [isEmpty_iff]; exact decide_eq_true p_note
                  have HP_note := Lib.hid p_note
                  clear p_note
                  go_wp2_with fail
                  go_ret
                  exact ⟨⟨true, rfl, fun _ => ⟨.inl rfl, .inr (List.eq_nil_of_length_eq_zero HP_ents.out), .inr ⟨HP_tree.out, List.eq_nil_of_length_eq_zero HP_pars.out, HP_time.out⟩, .inr HP_target.out, .inr (.inr ⟨HP_who.out, HP_note.out⟩)⟩, fun _ => rfl⟩, HB.out⟩
                · have f_note : note.toList.isEmpty = false := by rw [isEmpty_iff]; exact decide_eq_false p_note
                  have HN := Lib.hid p_note
                  clear p_note
                  go_wp2_with fail
                  go_ret
                  exact ⟨⟨false, rfl, (fun h => Bool.noConfusion h), (fun h => absurd (((h.who.resolve_left (by simp)).resolve_left (by simp)).2) HN.out)⟩, HB.out⟩
              · have f_who : who.toList.isEmpty = false := by rw [isEmpty_iff]; exact decide_eq_false p_who
                have HN := Lib.hid p_who
                clear p_who
                go_wp2_with fail
                go_ret
                exact ⟨⟨false, rfl, (fun h => Bool.noConfusion h), (fun h => absurd (((h.who.resolve_left (by simp)).resolve_left (by simp)).1) HN.out)⟩, HB.out⟩
            · have f_target : target.toList.isEmpty = false := by rw [isEmpty_iff]; exact decide_eq_false p_target
              have HN := Lib.hid p_target
              clear p_target
              go_wp2_with fail
              go_ret
              exact ⟨⟨false, rfl, (fun h => Bool.noConfusion h), (fun h => absurd (h.target.resolve_left (by simp)) HN.out)⟩, HB.out⟩
          · have f_time : (time == 0) = false := beq_eq_false_iff_ne.2 (by exact p_time)
            have HN := Lib.hid p_time
            clear p_time
            go_wp2_with fail
            go_ret
            exact ⟨⟨false, rfl, (fun h => Bool.noConfusion h), (fun h => absurd ((h.com.resolve_left (by simp)).2.2) HN.out)⟩, HB.out⟩
        · have f_pars : ((pars.length : Int) == 0) = false := beq_eq_false_iff_ne.2 (by omega)
          have HN := Lib.hid p_pars
          clear p_pars
          go_wp2_with fail
          go_ret
          exact ⟨⟨false, rfl, (fun h => Bool.noConfusion h), (fun h => absurd ((congrArg List.length (h.com.resolve_left (by simp)).2.1 : _)) HN.out)⟩, HB.out⟩
      · have f_tree : tree.toList.isEmpty = false := by rw [isEmpty_iff]; exact decide_eq_false p_tree
        have HN := Lib.hid p_tree
        clear p_tree
        go_wp2_with fail
        go_ret
        exact ⟨⟨false, rfl, (fun h => Bool.noConfusion h), (fun h => absurd ((h.com.resolve_left (by simp)).1) HN.out)⟩, HB.out⟩
    · have f_ents : ((ents.length : Int) == 0) = false := beq_eq_false_iff_ne.2 (by omega)
      have HN := Lib.hid p_ents
      clear p_ents
      go_wp2_with fail
      go_ret
      exact ⟨⟨false, rfl, (fun h => Bool.noConfusion h), (fun h => absurd ((congrArg List.length (h.ents.resolve_left (by simp)) : _)) HN.out)⟩, HB.out⟩
  · subst hk
    clear k1 k4
    go_enter Try.func23, Try.ntmps23
    go_wp2_with fail
    generalize w.alloc (.cells #[.int .i64 2, .string data, .slice ae ents.length ce, .string tree, .slice ap pars.length cp, .string who, .string note, .int .i64 time, .string target] 25) = W1 at *
    refine Lone.wp_region_order [(0, false), (1, false), (2, false), (3, false), (4, false), (5, false), (6, false), (7, false), (8, false), (9, false), (10, false), (11, false), (12, false), (13, false), (14, false), (15, false)] (fun w' => w'.cell? ⟨w.heap.size, 0, none⟩ = some (.int .i64 2)) (by kernel_rfl) (by kernel_rfl) rfl (by kernel_rfl) (by intro _ _ d _ _ h; cases d <;> exact h) (c0) ?_; simp only [List.map_cons, List.map_nil, List.getElem?_toArray, List.getElem?_cons_zero, List.getElem?_cons_succ, Option.getD_some]
    repeat (first | (refine Lone.ro_q (by rfl) (v := ?_) ?_ ?_; rotate_left; (focus (intro w' hSw; (try dsimp only at hSw); go_simp; try with_reducible rfl)); simp only [Act.put, List.setIfInBounds_toArray, List.set_cons_zero, List.set_cons_succ]) | (refine Lone.ro_skip (by rfl) ?_; simp only [Act.put, List.setIfInBounds_toArray, List.set_cons_zero, List.set_cons_succ]))
    refine Lone.ro_nil ?_
    by_cases p_data : data = noB
    · have f_data : data.toList.isEmpty = true := by rw [isEmpty_iff]; exact decide_eq_true p_data
      have HP_data := Lib.hid p_data
      clear p_data
      by_cases p_tree : tree = noB
      · have f_tree : tree.toList.isEmpty = true := by rw [isEmpty_iff]; exact decide_eq_true p_tree
        have HP_tree := Lib.hid p_tree
        clear p_tree
        by_cases p_pars : pars.length = 0
        · have f_pars : ((pars.length : Int) == 0) = true := by rw [p_pars]; rfl
          have HP_pars := Lib.hid p_pars
          clear p_pars
          by_cases p_time : time = 0
          · have f_time : (time == 0) = true := by rw [p_time]; rfl
            have HP_time := Lib.hid p_time
            clear p_time
            by_cases p_target : target = noB
            · have f_target : target.toList.isEmpty = true := by rw [isEmpty_iff]; exact decide_eq_true p_target
              have HP_target := Lib.hid p_target
              clear p_target
              by_cases p_who : who = noB
              · have f_who : who.toList.isEmpty = true := by rw [isEmpty_iff]; exact decide_eq_true p_who
                have HP_who := Lib.hid p_who
                clear p_who
                by_cases p_note : note = noB
                · have f_note : note.toList.isEmpty = true := by rw [isEmpty_iff]; exact decide_eq_true p_note
                  have HP_note := Lib.hid p_note
                  clear p_note
                  go_wp2_with fail
                  go_ret
                  exact ⟨⟨true, rfl, fun _ => ⟨.inr HP_data.out, .inl rfl, .inr ⟨HP_tree.out, List.eq_nil_of_length_eq_zero HP_pars.out, HP_time.out⟩, .inr HP_target.out, .inr (.inr ⟨HP_who.out, HP_note.out⟩)⟩, fun _ => rfl⟩, HB.out⟩
                · have f_note : note.toList.isEmpty = false := by rw [isEmpty_iff]; exact decide_eq_false p_note
                  have HN := Lib.hid p_note
                  clear p_note
                  go_wp2_with fail
                  go_ret
                  exact ⟨⟨false, rfl, (fun h => Bool.noConfusion h), (fun h => absurd (((h.who.resolve_left (by simp)).resolve_left (by simp)).2) HN.out)⟩, HB.out⟩
              · have f_who : who.toList.isEmpty = false := by rw [isEmpty_iff]; exact decide_eq_false p_who
                have HN := Lib.hid p_who
                clear p_who
                go_wp2_with fail
                go_ret
                exact ⟨⟨false, rfl, (fun h => Bool.noConfusion h), (fun h => absurd (((h.who.resolve_left (by simp)).resolve_left (by simp)).1) HN.out)⟩, HB.out⟩
            · have f_target : target.toList.isEmpty = false := by rw [isEmpty_iff]; exact decide_eq_false p_target
              have HN := Lib.hid p_target
              clear p_target
              go_wp2_with fail
              go_ret
              exact ⟨⟨false, rfl, (fun h => Bool.noConfusion h), (fun h => absurd (h.target.resolve_left (by simp)) HN.out)⟩, HB.out⟩
          · have f_time : (time == 0) = false := beq_eq_false_iff_ne.2 (by exact p_time)
            have HN := Lib.hid p_time
            clear p_time
            go_wp2_with fail
            go_ret
            exact ⟨⟨false, rfl, (fun h => Bool.noConfusion h), (fun h => absurd ((h.com.resolve_left (by simp)).2.2) HN.out)⟩, HB.out⟩
        · have f_pars : ((pars.length : Int) == 0) = false := beq_eq_false_iff_ne.2 (by omega)
          have HN := Lib.hid p_pars
          clear p_pars
          go_wp2_with fail
          go_ret
          exact ⟨⟨false, rfl, (fun h => Bool.noConfusion h), (fun h => absurd ((congrArg List.length (h.com.resolve_left (by simp)).2.1 : _)) HN.out)⟩, HB.out⟩
      · have f_tree : tree.toList.isEmpty = false := by rw [isEmpty_iff]; exact decide_eq_false p_tree
        have HN := Lib.hid p_tree
        clear p_tree
        go_wp2_with fail
        go_ret
        exact ⟨⟨false, rfl, (fun h => Bool.noConfusion h), (fun h => absurd ((h.com.resolve_left (by simp)).1) HN.out)⟩, HB.out⟩
    · have f_data : data.toList.isEmpty = false := by rw [isEmpty_iff]; exact decide_eq_false p_data
      have HN := Lib.hid p_data
      clear p_data
      go_wp2_with fail
      go_ret
      exact ⟨⟨false, rfl, (fun h => Bool.noConfusion h), (fun h => absurd (h.data.resolve_left (by simp)) HN.out)⟩, HB.out⟩
  · subst hk
    clear k1 k4
    go_enter Try.func23, Try.ntmps23
    go_wp2_with fail
    generalize w.alloc (.cells #[.int .i64 3, .string data, .slice ae ents.length ce, .string tree, .slice ap pars.length cp, .string who, .string note, .int .i64 time, .string target] 25) = W1 at *
    refine Lone.wp_region_order [(0, false), (1, false), (2, false), (3, false), (4, false), (5, false), (6, false), (7, false), (8, false), (9, false), (10, false), (11, false), (12, false), (13, false), (14, false), (15, false)] (fun w' => w'.cell? ⟨w.heap.size, 0, none⟩ = some (.int .i64 3)) (by kernel_rfl) (by kernel_rfl) rfl (by kernel_rfl) (by intro _ _ d _ _ h; cases d <;> exact h) (c0) ?_; simp only [List.map_cons, List.map_nil, List.getElem?_toArray, List.getElem?_cons_zero, List.getElem?_cons_succ, Option.getD_some]
    repeat (first | (refine Lone.ro_q (by rfl) (v := ?_) ?_ ?_; rotate_left; (focus (intro w' hSw; (try dsimp only at hSw); go_simp; try with_reducible rfl)); simp only [Act.put, List.setIfInBounds_toArray, List.set_cons_zero, List.set_cons_succ]) | (refine Lone.ro_skip (by rfl) ?_; simp only [Act.put, List.setIfInBounds_toArray, List.set_cons_zero, List.set_cons_succ]))
    refine Lone.ro_nil ?_
    by_cases p_data : data = noB
    · have f_data : data.toList.isEmpty = true := by rw [isEmpty_iff]; exact decide_eq_true p_data
      have HP_data := Lib.hid p_data
      clear p_data
      by_cases p_ents : ents.length = 0
      · have f_ents : ((ents.length : Int) == 0) = true := by rw [p_ents]; rfl
        have HP_ents := Lib.hid p_ents
        clear p_ents
        by_cases p_target : target = noB
        · have f_target : target.toList.isEmpty = true := by rw [isEmpty_iff]; exact decide_eq_true p_target
          have HP_target := Lib.hid p_target
          clear p_target
          go_wp2_with fail
          go_ret
          exact ⟨⟨true, rfl, fun _ => ⟨.inr HP_data.out, .inr (List.eq_nil_of_length_eq_zero HP_ents.out), .inl rfl, .inr HP_target.out, .inl rfl⟩, fun _ => rfl⟩, HB.out⟩
        · have f_target : target.toList.isEmpty = false := by rw [isEmpty_iff]; exact decide_eq_false p_target
          have HN := Lib.hid p_target
          clear p_target
          go_wp2_with fail
          go_ret
          exact ⟨⟨false, rfl, (fun h => Bool.noConfusion h), (fun h => absurd (h.target.resolve_left (by simp)) HN.out)⟩, HB.out⟩
      · have f_ents : ((ents.length : Int) == 0) = false := beq_eq_false_iff_ne.2 (by omega)
        have HN := Lib.hid p_ents
        clear p_ents
        go_wp2_with fail
        go_ret
        exact ⟨⟨false, rfl, (fun h => Bool.noConfusion h), (fun h => absurd ((congrArg List.length (h.ents.resolve_left (by simp)) : _)) HN.out)⟩, HB.out⟩
    · have f_data : data.toList.isEmpty = false := by rw [isEmpty_iff]; exact decide_eq_false p_data
      have HN := Lib.hid p_data
      clear p_data
      go_wp2_with fail
      go_ret
      exact ⟨⟨false, rfl, (fun h => Bool.noConfusion h), (fun h => absurd (h.data.resolve_left (by simp)) HN.out)⟩, HB.out⟩
  · subst hk
    clear k1 k4
    go_enter Try.func23, Try.ntmps23
    go_wp2_with fail
    generalize w.alloc (.cells #[.int .i64 4, .string data, .slice ae ents.length ce, .string tree, .slice ap pars.length cp, .string who, .string note, .int .i64 time, .string target] 25) = W1 at *
    refine Lone.wp_region_order [(0, false), (1, false), (2, false), (3, false), (4, false), (5, false), (6, false), (7, false), (8, false), (9, false), (10, false), (11, false), (12, false), (13, false), (14, false), (15, false)] (fun w' => w'.cell? ⟨w.heap.size, 0, none⟩ = some (.int .i64 4)) (by kernel_rfl) (by kernel_rfl) rfl (by kernel_rfl) (by intro _ _ d _ _ h; cases d <;> exact h) (c0) ?_; simp only [List.map_cons, List.map_nil, List.getElem?_toArray, List.getElem?_cons_zero, List.getElem?_cons_succ, Option.getD_some]
    repeat (first | (refine Lone.ro_q (by rfl) (v := ?_) ?_ ?_; rotate_left; (focus (intro w' hSw; (try dsimp only at hSw); go_simp; try with_reducible rfl)); simp only [Act.put, List.setIfInBounds_toArray, List.set_cons_zero, List.set_cons_succ]) | (refine Lone.ro_skip (by rfl) ?_; simp only [Act.put, List.setIfInBounds_toArray, List.set_cons_zero, List.set_cons_succ]))
    refine Lone.ro_nil ?_
    by_cases p_data : data = noB
    · have f_data : data.toList.isEmpty = true := by rw [isEmpty_iff]; exact decide_eq_true p_data
      have HP_data := Lib.hid p_data
      clear p_data
      by_cases p_ents : ents.length = 0
      · have f_ents : ((ents.length : Int) == 0) = true := by rw [p_ents]; rfl
        have HP_ents := Lib.hid p_ents
        clear p_ents
        by_cases p_tree : tree = noB
        · have f_tree : tree.toList.isEmpty = true := by rw [isEmpty_iff]; exact decide_eq_true p_tree
          have HP_tree := Lib.hid p_tree
          clear p_tree
          by_cases p_pars : pars.length = 0
          · have f_pars : ((pars.length : Int) == 0) = true := by rw [p_pars]; rfl
            have HP_pars := Lib.hid p_pars
            clear p_pars
            by_cases p_time : time = 0
            · have f_time : (time == 0) = true := by rw [p_time]; rfl
              have HP_time := Lib.hid p_time
              clear p_time
              go_wp2_with fail
              go_ret
              exact ⟨⟨true, rfl, fun _ => ⟨.inr HP_data.out, .inr (List.eq_nil_of_length_eq_zero HP_ents.out), .inr ⟨HP_tree.out, List.eq_nil_of_length_eq_zero HP_pars.out, HP_time.out⟩, .inl rfl, .inr (.inl rfl)⟩, fun _ => rfl⟩, HB.out⟩
            · have f_time : (time == 0) = false := beq_eq_false_iff_ne.2 (by exact p_time)
              have HN := Lib.hid p_time
              clear p_time
              go_wp2_with fail
              go_ret
              exact ⟨⟨false, rfl, (fun h => Bool.noConfusion h), (fun h => absurd ((h.com.resolve_left (by simp)).2.2) HN.out)⟩, HB.out⟩
          · have f_pars : ((pars.length : Int) == 0) = false := beq_eq_false_iff_ne.2 (by omega)
            have HN := Lib.hid p_pars
            clear p_pars
            go_wp2_with fail
            go_ret
            exact ⟨⟨false, rfl, (fun h => Bool.noConfusion h), (fun h => absurd ((congrArg List.length (h.com.resolve_left (by simp)).2.1 : _)) HN.out)⟩, HB.out⟩
        · have f_tree : tree.toList.isEmpty = false := by rw [isEmpty_iff]; exact decide_eq_false p_tree
          have HN := Lib.hid p_tree
          clear p_tree
          go_wp2_with fail
          go_ret
          exact ⟨⟨false, rfl, (fun h => Bool.noConfusion h), (fun h => absurd ((h.com.resolve_left (by simp)).1) HN.out)⟩, HB.out⟩
      · have f_ents : ((ents.length : Int) == 0) = false := beq_eq_false_iff_ne.2 (by omega)
        have HN := Lib.hid p_ents
        clear p_ents
        go_wp2_with fail
        go_ret
        exact ⟨⟨false, rfl, (fun h => Bool.noConfusion h), (fun h => absurd ((congrArg List.length (h.ents.resolve_left (by simp)) : _)) HN.out)⟩, HB.out⟩
    · have f_data : data.toList.isEmpty = false := by rw [isEmpty_iff]; exact decide_eq_false p_data
      have HN := Lib.hid p_data
      clear p_data
      go_wp2_with fail
      go_ret
      exact ⟨⟨false, rfl, (fun h => Bool.noConfusion h), (fun h => absurd (h.data.resolve_left (by simp)) HN.out)⟩, HB.out⟩
end Go.Proofs.Ytmjnohblifihmaa
