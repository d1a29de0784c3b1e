/- Plain laws: rows that are joined, as the program does it; no program in sight but the printed functions. -/
import Derived.Test.YtleoffdjdgbanaaDoorPure3
import Derived.Test.YtleoffdjdgbanaaDoorPure2
set_option linter.unusedVariables false
set_option linter.unusedSimpArgs false
set_option linter.unusedVariables false
set_option linter.unusedSimpArgs false
set_option maxRecDepth 100000
namespace Go.Proofs.YtleoffdjdgbanaaDoor
open Go Go.QA Go.Proofs

/-- A row without the blanks that it begins with. -/
def strip (r : List Int) : List Int := r.dropWhile fun x => decide (classOf x = 0)

/-- What stands between two rows that are joined. -/
def btw (a b : List Int) : List Int := if a = [] ∨ classOf (a.getD (a.length - 1) 0) = 0 ∨ b = [] ∨ b.getD 0 0 = 41 then [] else [32]

def jStep (a r : List Int) : List Int := a ++ btw a (strip r) ++ strip r

/-- Rows joined to a row; and where the last of them begins. -/
def jGo : List Int → Nat → List (List Int) → List Int × Nat
  | a, last, [] => (a, last)
  | a, _, r :: rs => jGo (jStep a r) a.length rs

/-- Rows that follow. -/
def rowsOf : List (List Int) → List Int
  | [] => []
  | r :: rs => 10 :: (r ++ rowsOf rs)

theorem unsplit_rows : ∀ (rs : List (List Int)) (a : List Int), unsplit 10 (a :: rs) = a ++ rowsOf rs
  | [], a => by simp [unsplit, rowsOf]
  | r :: rs, a => by rw [unsplit, unsplit_rows rs r, rowsOf]

theorem strip_le (r : List Int) : (strip r).length ≤ r.length := (List.dropWhile_sublist _).length_le
theorem strip_mem {r : List Int} {x : Int} (h : x ∈ strip r) : x ∈ r := (List.dropWhile_sublist _).subset h
theorem btw_le (a b : List Int) : (btw a b).length ≤ 1 := by unfold btw; split <;> simp
theorem btw_mem {a b : List Int} {x : Int} (h : x ∈ btw a b) : x = 32 := by
  unfold btw at h; split at h
  · cases h
  · simpa using h
theorem jStep_le (a r : List Int) : (jStep a r).length ≤ a.length + r.length + 1 := by
  unfold jStep
  have h1 := strip_le r
  have h2 := btw_le a (strip r)
  simp only [List.length_append]; omega
theorem jStep_scal {a r : List Int} (ha : scalL a) (hr : scalL r) : scalL (jStep a r) := by
  intro x hx
  unfold jStep at hx
  rcases List.mem_append.1 hx with hx | hx
  · rcases List.mem_append.1 hx with hx | hx
    · exact ha x hx
    · rw [btw_mem hx]; exact scal_32
  · exact hr x (strip_mem hx)
theorem jStep_no {a r : List Int} (ha : ∀ x ∈ a, x ≠ 10) (hr : ∀ x ∈ r, x ≠ 10) : ∀ x ∈ jStep a r, x ≠ 10 := by
  intro x hx
  unfold jStep at hx
  rcases List.mem_append.1 hx with hx | hx
  · rcases List.mem_append.1 hx with hx | hx
    · exact ha x hx
    · rw [btw_mem hx]; decide
  · exact hr x (strip_mem hx)

theorem rowsOf_scal : ∀ {rs : List (List Int)}, (∀ r ∈ rs, scalL r) → scalL (rowsOf rs)
  | [], _ => scalL_nil
  | r :: rs, h => by
    rw [rowsOf]
    exact scalL_cons.2 ⟨.inl (by omega), scalL_append.2 ⟨h r (by simp), rowsOf_scal fun q hq => h q (by simp [hq])⟩⟩

theorem jGo_inv : ∀ (rs : List (List Int)) (a : List Int) (last : Nat), scalL a → (∀ r ∈ rs, scalL r) → scalL (jGo a last rs).1 ∧ (jGo a last rs).1.length ≤ a.length + (rowsOf rs).length ∧ (last ≤ a.length → (jGo a last rs).2 ≤ (jGo a last rs).1.length)
  | [], a, last, ha, _ => ⟨ha, by simp [jGo, rowsOf], fun h => by simpa [jGo] using h⟩
  | r :: rs, a, last, ha, hr => by
    have := jGo_inv rs (jStep a r) a.length (jStep_scal ha (hr r (by simp))) (fun q hq => hr q (by simp [hq]))
    have h2 := jStep_le a r
    rw [jGo]
    refine ⟨this.1, ?_, fun _ => this.2.2 ?_⟩
    · have := this.2.1
      rw [rowsOf, List.length_cons, List.length_append]; omega
    · unfold jStep; simp only [List.length_append]; omega

theorem smallBetween_eq {R : Type} (a b : List Int) (ha : a.length < 1000000000) (hs : scalL a) (k : List Int → Option R) : smallBetween_F a b k = k (btw a b) := by
  rw [smallBetween_F_T]; unfold smallBetween_T btw
  by_cases h : a = []
  · subst h; rw [if_pos (.inl rfl)]; rfl
  · have hl : 0 < a.length := List.length_pos_iff.2 h
    rw [show ((a.length : Int) == 0) = false from by simp; omega, cond_false, wrap64 (by omega) (by omega), show (a.length : Int) - 1 = ((a.length - 1 : Nat) : Int) from by omega, decide_eq_true (by omega), decide_eq_true (by omega)]
    simp only [Bool.and_true, cond_true, Int.toNat_natCast]
    rw [textClass_eq, runeWrap (rune_of_scal hs)]
    by_cases h2 : classOf (a.getD (a.length - 1) 0) = 0
    · rw [show (classOf (a.getD (a.length - 1) 0) == 0) = true from by simpa using h2, if_pos (.inr (.inl h2))]; rfl
    · rw [show (classOf (a.getD (a.length - 1) 0) == 0) = false from by simpa using h2, cond_false]
      by_cases h3 : b = []
      · subst h3; rw [if_pos (.inr (.inr (.inl rfl)))]; rfl
      · have hb : 0 < b.length := List.length_pos_iff.2 h3
        rw [show ((b.length : Int) == 0) = false from by simp; omega, cond_false, decide_eq_true (by omega : (0 : Int) ≤ 0), decide_eq_true (by omega : (0 : Int) < (b.length : Int))]
        simp only [Bool.and_true, cond_true, Int.toNat_zero]
        by_cases h4 : b.getD 0 0 = 41
        · rw [show (b.getD 0 0 == 41) = true from by simpa using h4, if_pos (.inr (.inr (.inr h4)))]; rfl
        · rw [show (b.getD 0 0 == 41) = false from by simpa using h4, cond_false, if_neg (by simp only [not_or]; exact ⟨h, h2, h3, h4⟩)]

theorem joined_strip {R : Type} (s25 : Str) (l26 l27 : List Int) (x28 x29 : Int) (q30 : List Str) (l31 : List Int) (q33 : List Str) (x34 x35 : Int) (b36 : Bool) (s37 : Str) (x38 : Int) (s39 : Str) (x40 x41 : Int)
    (ke0 : Str → List Int → List Int → Int → Int → List Str → List Int → List Int → List Str → Int → Int → Bool → Str → Int → Str → Int → Int → Option R) : ∀ (n : Nat) (l : List Int), l.length < n → scalL l →
    smallJoined_L11 n s25 l26 l27 x28 x29 q30 l31 l q33 x34 x35 b36 s37 x38 s39 x40 x41 ke0 = ke0 s25 l26 l27 x28 x29 q30 l31 (strip l) q33 x34 x35 b36 s37 x38 s39 x40 x41 := by
  intro n
  induction n with
  | zero => intro l h; omega
  | succ n ih =>
    intro l h hs
    simp only [smallJoined_L11, smallJoined_B11]
    cases l with
    | nil => rw [decide_eq_false (by simp), cond_false]; rfl
    | cons x t =>
      simp only [List.length_cons] at h ⊢
      rw [decide_eq_true (by omega : ((t.length + 1 : Nat) : Int) > 0), decide_eq_true (by omega : (0 : Int) ≤ 0)]
      simp only [Bool.and_true, Bool.and_self, cond_true, Int.toNat_zero]
      rw [textClass_eq, runeWrap (rune_of_scal hs)]
      simp only [List.getD_cons_zero]
      by_cases h2 : classOf x = 0
      · rw [show (classOf x == 0) = true from by simpa using h2, cond_true, decide_eq_true (by omega : (0 : Int) ≤ 1), decide_eq_true (by omega : (1 : Int) ≤ ((t.length + 1 : Nat) : Int))]
        simp only [Bool.and_true, cond_true]
        have e : List.drop (Int.toNat 1) (List.take (t.length + 1) (x :: t)) = t := by
          rw [show t.length + 1 = (x :: t).length from rfl, List.take_length]; rfl
        rw [e, ih t (by omega) (scalL_cons.1 hs).2]
        have e2 : strip (x :: t) = strip t := by unfold strip; rw [List.dropWhile_cons, if_pos (by simpa using h2)]
        rw [e2]
      · rw [show (classOf x == 0) = false from by simpa using h2, cond_false]
        have e2 : strip (x :: t) = x :: t := by unfold strip; rw [List.dropWhile_cons, if_neg (by simpa using h2)]
        rw [e2]

theorem joined_rows {R : Type} (s8 : Str) (l9 l10 : List Int) (x11 x12 : Int) (q13 : List Str) (rs : List (List Int)) (hrs : ∀ r ∈ rs, scalL r) (hrl : rs.length ≤ 1000000) (b19 : Bool) (s20 : Str) (x21 : Int) (s22 : Str) (x23 x24 : Int)
    (ke0 : Str → List Int → List Int → Int → Int → List Str → List Int → Int → Bool → Str → Int → Str → Int → Int → Option R) : ∀ (n i : Nat) (a : List Int) (last : Nat), i ≤ rs.length → rs.length < n + i → scalL a → a.length + (rowsOf (rs.drop i)).length ≤ 1000000 →
    smallJoined_L8 n s8 l9 l10 x11 x12 q13 a (last : Int) (rs.map strOf) (rs.length : Int) (i : Int) b19 s20 x21 s22 x23 x24 ke0 =
      ke0 s8 l9 l10 x11 x12 q13 (jGo a last (rs.drop i)).1 ((jGo a last (rs.drop i)).2 : Nat) b19 s20 x21 s22 x23 x24 := by
  intro n
  induction n with
  | zero => intro i a last h1 h2; omega
  | succ n ih =>
    intro i a last h1 h2 ha hb
    simp only [smallJoined_L8, smallJoined_B8]
    by_cases h : i < rs.length
    · have hd : rs.drop i = rs[i] :: rs.drop (i + 1) := List.drop_eq_getElem_cons h
      have hr := hrs _ (List.getElem_mem h)
      rw [hd, rowsOf, List.length_cons, List.length_append] at hb
      have e : (rs.map strOf).getD i [] = strOf rs[i] := by simp [List.getD, h]
      rw [decide_eq_true (by omega : (i : Int) < (rs.length : Int)), List.length_map, decide_eq_true (by omega : (0 : Int) ≤ (i : Int)), decide_eq_true (by omega : (i : Int) < (rs.length : Int))]
      simp only [Bool.and_true, cond_true, Int.toNat_natCast]
      rw [e, runesOf_strOf hr, smallJoined_M11_eq, joined_strip _ _ _ _ _ _ _ _ _ _ _ _ _ _ _ _ _ 4611686018427387904 _ (by omega) hr, smallBetween_eq _ _ (by omega) ha]
      have h3 := jStep_le a rs[i]
      have h4 := strip_le rs[i]
      have h5 := btw_le a (strip rs[i])
      rw [decide_eq_true (by rw [List.length_append]; omega), decide_eq_true (by rw [List.length_append]; omega), decide_eq_true (by simp only [List.length_append]; omega), decide_eq_true (by simp only [List.length_append]; omega)]
      simp only [Bool.and_true, cond_true]
      rw [wrap64 (by omega) (by omega), hd, jGo]
      have := ih (i + 1) (jStep a rs[i]) a.length (by omega) (by omega) (jStep_scal ha hr) (by omega)
      simpa [jStep] using this
    · rw [decide_eq_false (by omega : ¬ (i : Int) < (rs.length : Int)), cond_false, List.drop_eq_nil_of_le (by omega)]; rfl

theorem concat_one {R : Type} (q q3 q4 q5 q7 q8 q9 : List Str) (h7 : q7.length ≤ 1000000) (h8 : q8.length ≤ 1000000) (h9 : q9.length ≤ 1000000) (ke0 : List Str → List Str → List Str → Int → Option R) (n : Nat) :
    slicesConcat_L3 (n + 4) q3 q4 q5 0 q7 q8 q9 3 0 ke0 = ke0 q3 q4 q5 ((q7.length + q8.length + q9.length : Nat) : Int) := by
  simp only [slicesConcat_L3, slicesConcat_B3]
  rw [show decide ((0 : Int) < 3) = true from rfl, cond_true]
  simp only [List.length_cons, List.length_nil]
  rw [show decide ((0 : Int) ≤ 0) = true from rfl, show decide ((0 : Int) < ((0 + 1 + 1 + 1 : Nat) : Int)) = true from rfl]
  simp only [Bool.and_true, cond_true, Int.toNat_zero, List.getD_cons_zero]
  rw [wrap64 (x := 0 + (q7.length : Int)) (by omega) (by omega), decide_eq_false (by omega : ¬ (0 : Int) + (q7.length : Int) < 0), cond_false, show IntKind.wrap .i64 ((0 : Int) + 1) = 1 from rfl]
  rw [show decide ((1 : Int) < 3) = true from rfl, cond_true, show decide ((0 : Int) ≤ 1) = true from rfl, show decide ((1 : Int) < ((0 + 1 + 1 + 1 : Nat) : Int)) = true from rfl]
  simp only [Bool.and_true, cond_true, Int.toNat_one, List.getD_cons_succ, List.getD_cons_zero]
  rw [wrap64 (x := 0 + (q7.length : Int) + (q8.length : Int)) (by omega) (by omega), decide_eq_false (by omega : ¬ (0 : Int) + (q7.length : Int) + (q8.length : Int) < 0), cond_false, show IntKind.wrap .i64 ((1 : Int) + 1) = 2 from rfl]
  rw [show decide ((2 : Int) < 3) = true from rfl, cond_true, show decide ((0 : Int) ≤ 2) = true from rfl, show decide ((2 : Int) < ((0 + 1 + 1 + 1 : Nat) : Int)) = true from rfl]
  simp only [Bool.and_true, cond_true, show Int.toNat 2 = 2 from rfl, List.getD_cons_succ, List.getD_cons_zero]
  rw [wrap64 (x := 0 + (q7.length : Int) + (q8.length : Int) + (q9.length : Int)) (by omega) (by omega), decide_eq_false (by omega : ¬ (0 : Int) + (q7.length : Int) + (q8.length : Int) + (q9.length : Int) < 0), cond_false, show IntKind.wrap .i64 ((2 : Int) + 1) = 3 from rfl]
  rw [show decide ((3 : Int) < 3) = false from rfl, cond_false]
  congr 1; omega

theorem concat_two {R : Type} (q7 q8 q9 : List Str) (h7 : q7.length ≤ 1000000) (h8 : q8.length ≤ 1000000) (h9 : q9.length ≤ 1000000) (ke0 : List Str → Option R) (n : Nat) :
    slicesConcat_L11 (n + 4) [] q7 q8 q9 3 0 ke0 = ke0 (q7 ++ q8 ++ q9) := by
  simp only [slicesConcat_L11, slicesConcat_B11]
  rw [show decide ((0 : Int) < 3) = true from rfl, cond_true]
  simp only [List.length_cons, List.length_nil]
  rw [show decide ((0 : Int) ≤ 0) = true from rfl, show decide ((0 : Int) < ((0 + 1 + 1 + 1 : Nat) : Int)) = true from rfl]
  simp only [Bool.and_true, cond_true, Int.toNat_zero, List.getD_cons_zero, List.nil_append]
  rw [decide_eq_true (by omega : q7.length * 16 ≤ 140737488355328), decide_eq_true (by omega : q7.length ≤ 9223372036854775807), show IntKind.wrap .i64 ((0 : Int) + 1) = 1 from rfl]
  simp only [Bool.and_true, cond_true]
  rw [show decide ((1 : Int) < 3) = true from rfl, cond_true, show decide ((0 : Int) ≤ 1) = true from rfl, show decide ((1 : Int) < ((0 + 1 + 1 + 1 : Nat) : Int)) = true from rfl]
  simp only [Bool.and_true, cond_true, Int.toNat_one, List.getD_cons_succ, List.getD_cons_zero]
  rw [decide_eq_true (by rw [List.length_append]; omega), decide_eq_true (by rw [List.length_append]; omega), show IntKind.wrap .i64 ((1 : Int) + 1) = 2 from rfl]
  simp only [Bool.and_true, cond_true]
  rw [show decide ((2 : Int) < 3) = true from rfl, cond_true, show decide ((0 : Int) ≤ 2) = true from rfl, show decide ((2 : Int) < ((0 + 1 + 1 + 1 : Nat) : Int)) = true from rfl]
  simp only [Bool.and_true, cond_true, show Int.toNat 2 = 2 from rfl, List.getD_cons_succ, List.getD_cons_zero]
  rw [decide_eq_true (by simp only [List.length_append]; omega), decide_eq_true (by simp only [List.length_append]; omega), show IntKind.wrap .i64 ((2 : Int) + 1) = 3 from rfl]
  simp only [Bool.and_true, cond_true]
  rw [show decide ((3 : Int) < 3) = false from rfl, cond_false]

theorem slicesConcat_eq {R : Type} (q7 q8 q9 : List Str) (h7 : q7.length ≤ 1000000) (h8 : q8.length ≤ 1000000) (h9 : q9.length ≤ 1000000) (k : List Str → Option R) : slicesConcat_F q7 q8 q9 k = k (q7 ++ q8 ++ q9) := by
  rw [slicesConcat_F_T]; unfold slicesConcat_T
  rw [slicesConcat_M3_eq]
  refine (concat_one q7 q7 q8 q9 q7 q8 q9 h7 h8 h9 _ 4611686018427387900).trans ?_
  unfold libGrow_F
  rw [decide_eq_true (by omega), decide_eq_true (by omega)]
  simp only [Bool.and_true, cond_true]
  rw [slicesConcat_M11_eq]
  exact concat_two q7 q8 q9 h7 h8 h9 _ 4611686018427387900

theorem splitC_no : ∀ (l : List Int), ∀ r ∈ splitC 10 l, ∀ x ∈ r, x ≠ 10
  | [], r, h, x, hx => by
    simp only [splitC, List.mem_singleton] at h
    subst h; cases hx
  | y :: t, r, h, x, hx => by
    have ih := splitC_no t
    rw [splitC] at h
    by_cases hy : y = 10
    · rw [if_pos hy] at h
      rcases List.mem_cons.1 h with rfl | h
      · cases hx
      · exact ih r h x hx
    · rw [if_neg hy] at h
      cases hs : splitC (10 : Int) t with
      | nil => exact absurd hs (splitC_ne _ _)
      | cons q qs =>
        rw [hs, consHead] at h
        rw [hs] at ih
        rcases List.mem_cons.1 h with rfl | h
        · rcases List.mem_cons.1 hx with rfl | hx
          · exact hy
          · exact ih q (by simp) x hx
        · exact ih r (by simp [h]) x hx

/-- What rows that are joined come to: what stands ahead of them, the row, those that follow, how many. -/
noncomputable def joinC (s : Str) (pre a : List Int) (rs : List (List Int)) (n : Nat) : Chg :=
  if rs.length < n then moveC else
    madeC s (strOf (pre ++ ((jGo a 0 (rs.take n)).1 ++ rowsOf (rs.drop n)))) (restOf (pre ++ ((jGo a 0 (rs.take n)).1 ++ rowsOf (rs.drop n))) (pre.length + (jGo a 0 (rs.take n)).2) : Nat)

theorem rowsOf_append : ∀ (p q : List (List Int)), rowsOf (p ++ q) = rowsOf p ++ rowsOf q
  | [], _ => rfl
  | r :: p, q => by rw [List.cons_append, rowsOf, rowsOf_append p q, rowsOf]; simp

theorem smallJoined_eq {R : Type} (s : Str) (hs : s.length ≤ 1000000) (hv : Lib.validD s = true) (at' : Nat) (hat : at' ≤ (runesOf s).length) (n : Nat) (hn : n ≤ 1000000) (a : List Int) (rs : List (List Int))
    (har : splitC 10 ((runesOf s).drop (beginOf (runesOf s) at')) = a :: rs) (k : Int → Int → Str → Int → Str → Bool → Int → Option R) :
    smallJoined_F s (runesOf s) (begins (runesOf s)) (at' : Int) (n : Int) k = (joinC s ((runesOf s).take (beginOf (runesOf s) at')) a rs n).ap k := by
  have hle := runesOf_length_le s
  have hsc := runesOf_scal s
  have hstr := strOf_runesOf hv
  have hsp := splitC_strOf hsc
  rw [hstr] at hsp
  rw [smallJoined_F_T]; unfold smallJoined_T joinC libSplit_F
  rw [splitL_one]
  generalize hl : runesOf s = l at *
  rw [hsp, MapRow_eq l l (by omega), MapRows_eq]
  have hb := beginOf_le l at'
  have hro := rowOf_le l at'
  have hbl : (begins l).length = (nls l 0).length + 1 := rfl
  have hcl : (begins l).length = (splitC 10 l).length := by rw [hbl, nls_length, splitC_count]
  have hlen := splitC_length (10 : Int) l
  have hatt := splitC_at (10 : Int) l (beginOf l at') (by omega) (begin_nl l at' hat)
  have hrb : (l.take (beginOf l at')).countP (· == 10) = rowOf l at' := by rw [← rowOf_begin l at' hat]; rfl
  rw [hrb, har] at hatt
  obtain ⟨hat1, hat2⟩ := hatt
  have hlr : (splitC 10 l).length = rowOf l at' + 1 + rs.length := by
    have := congrArg List.length hat1
    rw [List.length_drop, List.length_cons] at this
    omega
  rw [wrap64 (x := ((begins l).length : Int) - 1) (by omega) (by omega), wrap64 (x := ((begins l).length : Int) - 1 - ((rowOf l at' : Nat) : Int)) (by omega) (by omega)]
  by_cases hnr : rs.length < n
  · rw [if_pos hnr, decide_eq_true (by omega : (n : Int) > ((begins l).length : Int) - 1 - ((rowOf l at' : Nat) : Int))]; rfl
  rw [if_neg hnr, decide_eq_false (by omega : ¬ (n : Int) > ((begins l).length : Int) - 1 - ((rowOf l at' : Nat) : Int)), cond_false]
  rw [decide_eq_true (by omega : s.length < 4294967281), decide_eq_true (by simp : 1 ≤ List.length ([10] : Str))]
  simp only [Bool.and_true, cond_true, List.length_map]
  rw [wrap64 (x := ((rowOf l at' : Nat) : Int) + 1) (by omega) (by omega), wrap64 (x := ((rowOf l at' : Nat) : Int) + 1 + (n : Int)) (by omega) (by omega)]
  rw [decide_eq_true (by omega : (0 : Int) ≤ ((rowOf l at' : Nat) : Int)), decide_eq_true (by omega : ((rowOf l at' : Nat) : Int) < ((splitC 10 l).length : Int)), decide_eq_true (by omega : (0 : Int) ≤ ((rowOf l at' : Nat) : Int) + 1 + (n : Int)), decide_eq_true (by omega : ((rowOf l at' : Nat) : Int) + 1 + (n : Int) ≤ ((splitC 10 l).length : Int)),
    decide_eq_true (by omega : (0 : Int) ≤ ((rowOf l at' : Nat) : Int) + 1), show ((rowOf l at' : Nat) : Int) + 1 + (n : Int) = ((rowOf l at' + 1 + n : Nat) : Int) from by omega, show ((rowOf l at' : Nat) : Int) + 1 = ((rowOf l at' + 1 : Nat) : Int) from by omega]
  simp only [Bool.and_true, cond_true, Int.toNat_natCast]
  rw [decide_eq_true (by omega : ((rowOf l at' + 1 : Nat) : Int) ≤ ((rowOf l at' + 1 + n : Nat) : Int))]
  simp only [Bool.and_true, Bool.and_self, cond_true]
  have eg : ((splitC 10 l).map strOf).getD (rowOf l at') [] = strOf a := by
    have h0 := congrArg (fun z => z[0]?) hat1
    simp only [List.getElem?_drop, Nat.add_zero, List.getElem?_cons_zero] at h0
    simp [List.getD, List.getElem?_map, h0]
  have hdrop1 : (splitC 10 l).drop (rowOf l at' + 1) = rs := by
    have := congrArg (List.drop 1) hat1
    rw [List.drop_drop] at this
    simpa using this
  have ecut : List.drop (rowOf l at' + 1) (List.take (rowOf l at' + 1 + n) ((splitC 10 l).map strOf)) = (rs.take n).map strOf := by
    rw [← List.map_take, ← List.map_drop, List.drop_take, hdrop1, show rowOf l at' + 1 + n - (rowOf l at' + 1) = n from by omega]
  have hall : ∀ r ∈ splitC 10 l, scalL r := scalL_splitC hsc
  have hsuf : ∀ r ∈ a :: rs, scalL r := fun r hr => hall r (by rw [← hat1] at hr; exact List.mem_of_mem_drop hr)
  have ha : scalL a := hsuf a (by simp)
  have hrs : ∀ r ∈ rs, scalL r := fun r hr => hsuf r (by simp [hr])
  have hul : unsplit 10 (a :: rs) = l.drop (beginOf l at') := by rw [← har, unsplit_splitC]
  rw [unsplit_rows] at hul
  have hsum := congrArg List.length hul
  rw [List.length_append, List.length_drop] at hsum
  have htl := congrArg List.length (rowsOf_append (rs.take n) (rs.drop n))
  rw [List.take_append_drop, List.length_append] at htl
  rw [eg, ecut, runesOf_strOf ha, List.length_map, smallJoined_M8_eq]
  refine (joined_rows s l (begins l) (n : Int) ((rowOf l at' : Nat) : Int) ((splitC 10 l).map strOf) (rs.take n) (fun r hr => hrs r (List.mem_of_mem_take hr)) (by rw [List.length_take]; omega) false [] 0 [] 0 0 _ 4611686018427387904 0 a 0 (Nat.zero_le _) (by rw [List.length_take]; omega) ha (by rw [List.drop_zero]; omega)).trans ?_
  rw [List.drop_zero, List.length_map]
  obtain ⟨hg1, hg2, hg3⟩ := jGo_inv (rs.take n) a 0 ha (fun r hr => hrs r (List.mem_of_mem_take hr))
  have hg3 := hg3 (Nat.zero_le _)
  generalize hjg : jGo a 0 (rs.take n) = jg at *
  obtain ⟨a', last⟩ := jg
  simp only at hg1 hg2 hg3 ⊢
  rw [wrap64 (x := ((rowOf l at' : Nat) : Int) + 1) (by omega) (by omega), wrap64 (x := ((rowOf l at' : Nat) : Int) + 1 + (n : Int)) (by omega) (by omega)]
  rw [decide_eq_true (by omega : (0 : Int) ≤ ((rowOf l at' : Nat) : Int)), decide_eq_true (by omega : ((rowOf l at' : Nat) : Int) ≤ ((splitC 10 l).length : Int)), decide_eq_true (by omega : (0 : Int) ≤ ((rowOf l at' : Nat) : Int) + 1 + (n : Int)), decide_eq_true (by omega : ((rowOf l at' : Nat) : Int) + 1 + (n : Int) ≤ ((splitC 10 l).length : Int)),
    show ((rowOf l at' : Nat) : Int) + 1 + (n : Int) = ((rowOf l at' + 1 + n : Nat) : Int) from by omega]
  simp only [Bool.and_true, cond_true, Int.toNat_natCast, List.drop_zero, hjg]
  have ecut2 : List.drop (rowOf l at' + 1 + n) (List.take (splitC 10 l).length ((splitC 10 l).map strOf)) = (rs.drop n).map strOf := by
    rw [show (splitC 10 l).length = ((splitC 10 l).map strOf).length from by rw [List.length_map], List.take_length, ← List.map_drop, ← List.drop_drop, hdrop1]
  rw [ecut2, slicesConcat_eq _ _ _ (by rw [List.length_take, List.length_map]; omega) (by simp) (by rw [List.length_map, List.length_drop]; omega)]
  have ejoin : List.take (rowOf l at') ((splitC 10 l).map strOf) ++ [strOf a'] ++ (rs.drop n).map strOf = ((splitC 10 l).take (rowOf l at') ++ (a' :: rs.drop n)).map strOf := by
    rw [← List.map_take]; simp
  rw [ejoin]
  unfold libJoin_F
  rw [join_strOf, hat2 _ (by simp), unsplit_rows, List.length_map]
  have hys : scalL (l.take (beginOf l at') ++ (a' ++ rowsOf (rs.drop n))) := scalL_append.2 ⟨hsc.take _, scalL_append.2 ⟨hg1, rowsOf_scal fun r hr => hrs r (List.mem_of_mem_drop hr)⟩⟩
  have hpl : (l.take (beginOf l at')).length = beginOf l at' := by rw [List.length_take]; omega
  have hyl : (l.take (beginOf l at') ++ (a' ++ rowsOf (rs.drop n))).length = beginOf l at' + (a'.length + (rowsOf (rs.drop n)).length) := by rw [List.length_append, List.length_append, hpl]
  have hxl := strOf_length_le (l.take (beginOf l at') ++ (a' ++ rowsOf (rs.drop n)))
  rw [decide_eq_true (by rw [List.length_append, List.length_take, List.length_cons, List.length_drop]; omega), decide_eq_true (by omega)]
  simp only [Bool.and_true, cond_true]
  rw [textOf_eq _ (by rw [runesOf_strOf hys]; omega), runesOf_strOf hys]
  rw [decide_eq_true (by omega : ((rowOf l at' : Nat) : Int) < ((begins l).length : Int))]
  simp only [Bool.and_true, Bool.and_self, cond_true]
  rw [begins_at l at' hat, wrap64 (by omega) (by omega), show ((beginOf l at' : Nat) : Int) + ((last : Nat) : Int) = ((beginOf l at' + last : Nat) : Int) from by omega]
  rw [MapRest_eq _ (by omega) _ (by omega), changeMade_eq _ _ hs, hpl]

end Go.Proofs.YtleoffdjdgbanaaDoor

set_option linter.unusedVariables false
set_option linter.unusedSimpArgs false
set_option maxRecDepth 100000
namespace Go.Proofs.YtleoffdjdgbanaaDoor
open Go Go.QA Go.Proofs

theorem rowsOf_head (rs : List (List Int)) : rowsOf rs = [] ∨ ∃ u, rowsOf rs = 10 :: u := by
  cases rs with
  | nil => exact .inl rfl
  | cons r rs => exact .inr ⟨_, rfl⟩

theorem begin_mid (pre a t : List Int) (hpre : pre = [] ∨ ∃ p, pre = p ++ [10]) (ha : ∀ x ∈ a, x ≠ 10) : ∀ j, j ≤ a.length → beginOf (pre ++ (a ++ t)) (pre.length + j) = pre.length
  | 0, _ => by
    rcases hpre with rfl | ⟨p, rfl⟩
    · rfl
    · simp only [List.length_append, List.length_cons, List.length_nil, Nat.add_zero, Nat.zero_add]
      rw [beginOf, if_pos]
      simp [List.getD]
  | j + 1, h => by
    have ih := begin_mid pre a t hpre ha j (by omega)
    rw [← Nat.add_assoc, beginOf, if_neg, ih]
    have e : (pre ++ (a ++ t)).getD (pre.length + j) 0 = a[j] := by
      simp only [List.getD]
      rw [List.getElem?_append_right (by omega), List.getElem?_append_left (by omega), Nat.add_sub_cancel_left, List.getElem?_eq_getElem (by omega)]; rfl
    rw [e]
    exact ha _ (List.getElem_mem _)

theorem takeWhile_rows (p : Int → Bool) (hp : p 10 = false) (rs : List (List Int)) : ∀ a : List Int, (a ++ rowsOf rs).takeWhile p = a.takeWhile p
  | [] => by
    rcases rowsOf_head rs with h | ⟨u, h⟩
    · rw [h]; rfl
    · rw [h]; simp [hp]
  | x :: a => by
    rw [List.cons_append, List.takeWhile_cons, List.takeWhile_cons, takeWhile_rows p hp rs a]

theorem takeWhile_all {p : Int → Bool} : ∀ {a : List Int}, (∀ x ∈ a, p x = true) → a.takeWhile p = a
  | [], _ => rfl
  | x :: a, h => by rw [List.takeWhile_cons, if_pos (h x (by simp)), takeWhile_all fun y hy => h y (by simp [hy])]

theorem end_mid (pre a : List Int) (rs : List (List Int)) (ha : ∀ x ∈ a, x ≠ 10) (j : Nat) (hj : j ≤ a.length) : endOf (pre ++ (a ++ rowsOf rs)) (pre.length + j) = pre.length + a.length := by
  unfold endOf
  have e : (pre ++ (a ++ rowsOf rs)).drop (pre.length + j) = a.drop j ++ rowsOf rs := by
    rw [← List.drop_drop, List.drop_left, List.drop_append_of_le_length hj]
  rw [e, takeWhile_rows _ (by simp), takeWhile_all (fun x hx => by simpa using ha x (List.mem_of_mem_drop hx)), List.length_drop]
  omega

theorem ref_blanks {R : Type} (s135 : Str) (x136 x137 : Int) (l : List Int) (hl : l.length ≤ 1000000) (hsc : scalL l) (x139 x140 : Int) (b142 : Bool) (s143 : Str) (x144 : Int) (s145 : Str) (x146 x147 : Int)
    (ke0 : Str → Int → Int → List Int → Int → Int → Int → Bool → Str → Int → Str → Int → Int → Option R) : ∀ (n x : Nat), 0 < n → l.length < n + x →
    refSmallA_L44 n s135 x136 x137 l x139 x140 (x : Int) b142 s143 x144 s145 x146 x147 ke0 = ke0 s135 x136 x137 l x139 x140 (blanksOf l x : Nat) b142 s143 x144 s145 x146 x147 := by
  intro n
  induction n with
  | zero => intro x h; omega
  | succ n ih =>
    intro x _ h
    simp only [refSmallA_L44, refSmallA_B44]
    by_cases h1 : x < l.length
    · rw [decide_eq_true (by omega : (x : Int) < (l.length : Int)), decide_eq_true (by omega : (0 : Int) ≤ (x : Int))]
      simp only [Bool.and_true, Bool.and_self, cond_true, Int.toNat_natCast]
      rw [runeWrap (rune_of_scal hsc), refClass_eq]
      by_cases h2 : classOf (l.getD x 0) = 0
      · rw [show (classOf (l.getD x 0) == 0) = true from by simpa using h2, cond_true, wrap64 (by omega) (by omega), blanksOf_miss h1 h2]
        have := ih (x + 1) (by omega) (by omega)
        simpa using this
      · rw [show (classOf (l.getD x 0) == 0) = false from by simpa using h2, cond_false, blanksOf_hit h1 h2]
    · rw [decide_eq_false (by omega : ¬ (x : Int) < (l.length : Int)), cond_false, blanksOf_over (by omega)]

/-- A text out of what stands ahead, something between, and the rest. -/
theorem jcut {R : Type} (l : List Int) (hl : l.length ≤ 1000000) (hsc : scalL l) (e q : Nat) (he : e ≤ l.length) (mid : Str) (mr : List Int) (hm : strOf mr = mid) (hms : scalL mr) (hml : mr.length ≤ 1) (nl : Nat) (hnl : nl ≤ 1) (rec : List Int → Int → Option R) :
    (bif (Decidable.decide (List.length (strOf (l.take e)) + nl ≤ (9223372036854775807 : Nat))) then
      (bif (Decidable.decide (List.length (strOf (l.take e) ++ mid) + List.length (strOf (l.drop q)) ≤ (9223372036854775807 : Nat))) then
        refRest_F (runesOf (strOf (l.take e) ++ mid ++ strOf (l.drop q))) (e : Int) (fun x => rec (runesOf (strOf (l.take e) ++ mid ++ strOf (l.drop q))) x) else none) else none) =
      rec (l.take e ++ mr ++ l.drop q) (restOf (l.take e ++ mr ++ l.drop q) e : Nat) := by
  have h1 := strOf_length_le (l.take e)
  have h2 := strOf_length_le (l.drop q)
  have h3 := strOf_length_le mr
  rw [List.length_take] at h1
  rw [List.length_drop] at h2
  subst hm
  rw [decide_eq_true (by omega), decide_eq_true (by rw [List.length_append]; omega), cond_true, cond_true]
  have hs : scalL (l.take e ++ mr ++ l.drop q) := scalL_append.2 ⟨scalL_append.2 ⟨hsc.take _, hms⟩, hsc.drop _⟩
  have e1 : runesOf (strOf (l.take e) ++ strOf mr ++ strOf (l.drop q)) = l.take e ++ mr ++ l.drop q := by
    rw [← strOf_append, ← strOf_append, runesOf_strOf hs]
  have e2 : (l.take e ++ mr ++ l.drop q).length ≤ 2 * l.length + 1 := by
    simp only [List.length_append, List.length_take, List.length_drop]; omega
  rw [e1, refRest_eq _ (by omega) e (by simp only [List.length_append, List.length_take]; omega)]

theorem strip_split (r : List Int) : r.takeWhile (fun x => decide (classOf x = 0)) ++ strip r = r := List.takeWhile_append_dropWhile ..

theorem ref_joins {R : Type} (s : Str) (at' count : Nat) (hc : count ≤ 1000000) (pre : List Int) (hpre : pre = [] ∨ ∃ p, pre = p ++ [10]) (hps : scalL pre) (j : Nat) (hat : at' = pre.length + j)
    (ke0 : Int → Bool → Str → Int → Str → Int → Int → Option R) (ke1 : Str → List Int → Int → Bool → Str → Int → Str → Int → Int → Option R) :
    ∀ (m n i : Nat) (a : List Int) (rs : List (List Int)) (cur : Int) (last : Nat), i + m = max 1 (count - 1) → m < n → scalL a → (∀ x ∈ a, x ≠ 10) → (∀ r ∈ rs, scalL r ∧ ∀ x ∈ r, x ≠ 10) → j ≤ a.length →
      (pre ++ (a ++ rowsOf rs)).length ≤ 1000000 →
      refSmallA_L38 n s (at' : Int) (count : Int) (pre ++ (a ++ rowsOf rs)) cur (i : Int) false [] 0 [] 0 0 ke0 ke1 =
        if rs.length < m then ke0 6 false [] 0 [] 0 0 else
          ke1 s (pre ++ ((jGo a last (rs.take m)).1 ++ rowsOf (rs.drop m))) (if m = 0 then cur else (restOf (pre ++ ((jGo a last (rs.take m)).1 ++ rowsOf (rs.drop m))) (pre.length + (jGo a last (rs.take m)).2) : Nat)) false [] 0 [] 0 0 := by
  intro m
  induction m with
  | zero =>
    intro n i a rs cur last him hn _ _ _ _ _
    obtain ⟨n, rfl⟩ : ∃ n', n = n' + 1 := ⟨n - 1, by omega⟩
    simp only [refSmallA_L38, refSmallA_B38]
    rw [wrap64 (x := (count : Int) - 1) (by omega) (by omega), mm_true, decide_eq_false (by omega : ¬ (i : Int) < max (1 : Int) ((count : Int) - 1)), cond_false, if_neg (by omega)]
    simp [jGo]
  | succ m ih =>
    intro n i a rs cur last him hn ha h10 hrs hj hlen
    obtain ⟨n, rfl⟩ : ∃ n', n = n' + 1 := ⟨n - 1, by omega⟩
    simp only [refSmallA_L38, refSmallA_B38]
    rw [wrap64 (x := (count : Int) - 1) (by omega) (by omega), mm_true, decide_eq_true (by omega : (i : Int) < max (1 : Int) ((count : Int) - 1)), cond_true]
    have hbeg := begin_mid pre a (rowsOf rs) hpre h10 j hj
    have hend := end_mid pre a rs h10 j hj
    rw [← hat] at hbeg hend
    have hlsc : scalL (pre ++ (a ++ rowsOf rs)) := scalL_append.2 ⟨hps, scalL_append.2 ⟨ha, rowsOf_scal fun r hr => (hrs r hr).1⟩⟩
    rw [refEnd_eq _ (by omega), hend]
    have hll : (pre ++ (a ++ rowsOf rs)).length = pre.length + (a.length + (rowsOf rs).length) := by simp only [List.length_append]
    cases rs with
    | nil =>
      rw [show (((pre.length + a.length : Nat) : Int) == ((pre ++ (a ++ rowsOf [])).length : Int)) = true from by rw [hll]; simp [rowsOf], cond_true, if_pos (by simp)]
    | cons r rs =>
      have hrows : (rowsOf (r :: rs)).length = (r ++ rowsOf rs).length + 1 := rfl
      rw [hrows] at hll
      rw [show (((pre.length + a.length : Nat) : Int) == ((pre ++ (a ++ rowsOf (r :: rs))).length : Int)) = false from by rw [hll]; simp; omega, cond_false]
      obtain ⟨hr, hr10⟩ := hrs r (by simp)
      have hrs' : ∀ q ∈ rs, scalL q ∧ ∀ x ∈ q, x ≠ 10 := fun q hq => hrs q (by simp [hq])
      obtain ⟨l, hl⟩ : ∃ l, l = pre ++ (a ++ rowsOf (r :: rs)) := ⟨_, rfl⟩
      obtain ⟨e, he⟩ : ∃ e, e = pre.length + a.length := ⟨_, rfl⟩
      have hl2 : l = (pre ++ a) ++ 10 :: (r ++ rowsOf rs) := by rw [hl, rowsOf]; simp
      rw [← hl] at hlen hlsc hbeg hll ⊢
      rw [← he]
      have hle : e ≤ l.length := by omega
      have htake : l.take e = pre ++ a := by rw [hl2, List.take_left' (by simp [he])]
      have hdrop1 : l.drop (e + 1) = r ++ rowsOf rs := by
        rw [hl2, show (pre ++ a) ++ 10 :: (r ++ rowsOf rs) = ((pre ++ a) ++ [10]) ++ (r ++ rowsOf rs) from by simp, List.drop_left' (by simp [he]; omega)]
      have hblank : blanksOf l (e + 1) = e + 1 + (r.takeWhile (fun x => decide (classOf x = 0))).length := by
        unfold blanksOf; rw [hdrop1, takeWhile_rows _ (by rw [classOf_10]; rfl)]
      have hss := strip_split r
      have hsl := congrArg List.length hss
      rw [List.length_append] at hsl
      rw [wrap64 (x := ((e : Nat) : Int) + 1) (by omega) (by omega), show ((e : Nat) : Int) + 1 = ((e + 1 : Nat) : Int) from by omega, refSmallA_M44_eq, ref_blanks s _ _ l hlen hlsc _ _ _ _ _ _ _ _ _ 4611686018427387904 (e + 1) (by omega) (by omega)]
      obtain ⟨q, hq⟩ : ∃ q, q = blanksOf l (e + 1) := ⟨_, rfl⟩
      rw [← hq]
      rw [← hq] at hblank
      have hrl : (r ++ rowsOf rs).length = r.length + (rowsOf rs).length := List.length_append
      rw [hrl] at hll
      have hqle : q ≤ l.length := by omega
      have hdropq : l.drop q = strip r ++ rowsOf rs := by
        rw [hblank, ← List.drop_drop, hdrop1]
        generalize htw : r.takeWhile (fun x => decide (classOf x = 0)) = tw at hss ⊢
        conv => lhs; rw [← hss]
        rw [List.append_assoc, List.drop_left]
      have hatl : at' ≤ l.length := by omega
      rw [refBegin_eq l (by omega) at' hatl, hbeg]
      have hcut : List.drop pre.length (List.take e l) = a := by rw [htake, List.drop_left]
      have d1 : decide ((0 : Int) ≤ ((e : Nat) : Int)) = true := decide_eq_true (by omega)
      have d2 : decide (((e : Nat) : Int) ≤ (l.length : Int)) = true := decide_eq_true (by omega)
      have d3 : decide ((0 : Int) ≤ ((pre.length : Nat) : Int)) = true := decide_eq_true (by omega)
      have d4 : decide (((pre.length : Nat) : Int) ≤ ((e : Nat) : Int)) = true := decide_eq_true (by omega)
      have d5 : decide ((0 : Int) ≤ ((q : Nat) : Int)) = true := decide_eq_true (by omega)
      have d6 : decide (((q : Nat) : Int) ≤ (l.length : Int)) = true := decide_eq_true (by omega)
      simp only [Int.toNat_natCast, d1, d2, d3, d4, d5, d6, Bool.and_true, Bool.and_self, cond_true, List.drop_zero, List.take_length, hcut]
      have w1 : IntKind.wrap .i64 ((i : Int) + 1) = ((i + 1 : Nat) : Int) := by rw [wrap64 (by omega) (by omega)]; omega
      simp only [w1]
      -- what is to be shown of each way
      have main : ∀ mr : List Int, mr = btw a (strip r) →
          refSmallA_L38 n s (at' : Int) (count : Int) (l.take e ++ mr ++ l.drop q) (restOf (l.take e ++ mr ++ l.drop q) e : Nat) ((i + 1 : Nat) : Int) false [] 0 [] 0 0 ke0 ke1 =
            if (r :: rs).length < m + 1 then ke0 6 false [] 0 [] 0 0 else
              ke1 s (pre ++ ((jGo a last ((r :: rs).take (m + 1))).1 ++ rowsOf ((r :: rs).drop (m + 1)))) (if m + 1 = 0 then cur else (restOf (pre ++ ((jGo a last ((r :: rs).take (m + 1))).1 ++ rowsOf ((r :: rs).drop (m + 1)))) (pre.length + (jGo a last ((r :: rs).take (m + 1))).2) : Nat)) false [] 0 [] 0 0 := by
        rintro mr rfl
        have ey : l.take e ++ btw a (strip r) ++ l.drop q = pre ++ (jStep a r ++ rowsOf rs) := by rw [htake, hdropq]; unfold jStep; simp
        have hjs := jStep_le a r
        have hb1 := btw_le a (strip r)
        have hjl : (jStep a r).length = a.length + (btw a (strip r)).length + (strip r).length := by unfold jStep; simp only [List.length_append]
        rw [ey, ih n (i + 1) (jStep a r) rs _ a.length (by omega) (by omega) (jStep_scal ha hr) (jStep_no h10 hr10) hrs' (by omega) (by simp only [List.length_append]; omega)]
        rw [List.take_succ_cons, List.drop_succ_cons, jGo, List.length_cons]
        by_cases hm : rs.length < m
        · rw [if_pos hm, if_pos (by omega)]
        · rw [if_neg hm, if_neg (show ¬ rs.length + 1 < m + 1 by omega), if_neg (show ¬ m + 1 = 0 by omega)]
          by_cases hm0 : m = 0
          · subst hm0
            rw [if_pos rfl]
            simp only [List.take_zero, List.drop_zero, jGo]
            rw [he]
          · rw [if_neg hm0]
      have ret0 := fun (h : ([] : List Int) = btw a (strip r)) => (jcut l hlen hlsc e q hle [] [] rfl scalL_nil (by simp) 0 (by omega) (fun y x => refSmallA_L38 n s (at' : Int) (count : Int) y x ((i + 1 : Nat) : Int) false [] 0 [] 0 0 ke0 ke1)).trans (main [] h)
      have ret1 := fun (h : ([32] : List Int) = btw a (strip r)) => (jcut l hlen hlsc e q hle [32] [32] (by decide) (scalL_cons.2 ⟨scal_32, scalL_nil⟩) (by simp) 1 (by omega) (fun y x => refSmallA_L38 n s (at' : Int) (count : Int) y x ((i + 1 : Nat) : Int) false [] 0 [] 0 0 ke0 ke1)).trans (main [32] h)
      clear main ih
      by_cases ha0 : a = []
      · rw [show (strOf a == []) = true from by rw [ha0]; rfl, cond_true]
        exact ret0 (by unfold btw; rw [if_pos (.inl ha0)])
      have hap : 0 < a.length := List.length_pos_iff.2 ha0
      rw [show (strOf a == []) = false from by rw [beq_eq_false_iff_ne]; exact fun h => ha0 (strOf_nil_iff.1 h), cond_false]
      rw [wrap64 (x := ((e : Nat) : Int) - 1) (by omega) (by omega), show ((e : Nat) : Int) - 1 = ((e - 1 : Nat) : Int) from by omega, decide_eq_true (by omega : (0 : Int) ≤ ((e - 1 : Nat) : Int)), decide_eq_true (by omega : ((e - 1 : Nat) : Int) < (l.length : Int))]
      simp only [Bool.and_true, Bool.and_self, cond_true, Int.toNat_natCast]
      rw [refClass_eq, runeWrap (rune_of_scal hlsc)]
      have elast : l.getD (e - 1) 0 = a.getD (a.length - 1) 0 := by
        rw [hl2]
        simp only [List.getD]
        rw [List.getElem?_append_left (by rw [List.length_append]; omega), List.getElem?_append_right (by omega), show e - 1 - pre.length = a.length - 1 from by omega]
      rw [elast]
      by_cases hcl : classOf (a.getD (a.length - 1) 0) = 0
      · rw [show (classOf (a.getD (a.length - 1) 0) == 0) = true from by simpa using hcl, cond_true]
        exact ret0 (by unfold btw; rw [if_pos (.inr (.inl hcl))])
      rw [show (classOf (a.getD (a.length - 1) 0) == 0) = false from by simpa using hcl, cond_false]
      have hql := congrArg List.length hdropq
      rw [List.length_drop, List.length_append] at hql
      by_cases hql2 : q = l.length
      · rw [show (((q : Nat) : Int) == (l.length : Int)) = true from by simp [hql2], cond_true]
        exact ret0 (by unfold btw; rw [if_pos (.inr (.inr (.inl (List.length_eq_zero_iff.1 (by omega)))))])
      rw [show (((q : Nat) : Int) == (l.length : Int)) = false from by rw [beq_eq_false_iff_ne]; omega, cond_false]
      rw [decide_eq_true (by omega : ((q : Nat) : Int) < (l.length : Int))]
      simp only [Bool.and_true, Bool.and_self, cond_true]
      have eq0 : l.getD q 0 = (strip r ++ rowsOf rs).getD 0 0 := by
        rw [← hdropq]; simp [List.getD]
      rw [eq0]
      cases hst : strip r with
      | nil =>
        have hro : ∃ u, rowsOf rs = 10 :: u := by
          rcases rowsOf_head rs with h | h
          · rw [hst, h] at hql; simp at hql; omega
          · exact h
        obtain ⟨u, hu⟩ := hro
        rw [hu]
        simp only [List.nil_append, List.getD_cons_zero]
        rw [show ((10 : Int) == 10) = true from rfl, cond_true]
        exact ret0 (by unfold btw; rw [if_pos (.inr (.inr (.inl hst)))])
      | cons y t =>
        have hy : y ≠ 10 := hr10 y (strip_mem (by rw [hst]; simp))
        simp only [List.cons_append, List.getD_cons_zero]
        rw [show (y == 10) = false from by simpa using hy, cond_false]
        by_cases h41 : y = 41
        · rw [show (y == 41) = true from by simpa using h41, cond_true]
          exact ret0 (by unfold btw; rw [if_pos (.inr (.inr (.inr (by rw [hst]; simpa using h41))))])
        · rw [show (y == 41) = false from by simpa using h41, cond_false]
          exact ret1 (by unfold btw; rw [if_neg]; simp only [not_or]; exact ⟨ha0, hcl, by rw [hst]; simp, by rw [hst]; simpa using h41⟩)

end Go.Proofs.YtleoffdjdgbanaaDoor

set_option linter.unusedVariables false
set_option linter.unusedSimpArgs false
set_option maxRecDepth 100000
namespace Go.Proofs.YtleoffdjdgbanaaDoor
open Go Go.QA Go.Proofs

theorem lawOffsets_L {R : Type} (l : List Int) (hl : l.length < 1000000000) (x12 x13 x14 x15 x16 x17 x18 : Int) (q : List Str) (ke0 : List Int → Option R) : ∀ (n i : Nat) (r : List Int), i ≤ 12 → 12 < n + i → r.length ≤ 3 + i →
    ∃ rs : List Int, lawOffsets_L3 n l r (i : Int) x12 x13 x14 x15 x16 x17 x18 q ke0 = ke0 rs ∧ rs.length ≤ 15 := by
  intro n
  induction n with
  | zero => intro i r h0; omega
  | succ n ih =>
    intro i r h1 h2 h3
    simp only [lawOffsets_L3, lawOffsets_B3]
    by_cases h : i ≤ l.length
    · rw [decide_eq_true (by omega : (i : Int) ≤ (l.length : Int)), cond_true]
      by_cases h4 : i < 12
      · rw [decide_eq_true (by omega : (i : Int) < 12), cond_true, lawWithin_eq _ _ (by omega)]
        rw [decide_eq_true (by simp only [List.length_append, List.length_cons, List.length_nil]; omega), decide_eq_true (by simp only [List.length_append, List.length_cons, List.length_nil]; omega)]
        simp only [Bool.and_true, cond_true]
        rw [wrap64 (x := (i : Int) + 1) (by omega) (by omega)]
        exact ih (i + 1) _ (by omega) (by omega) (by simp only [List.length_append, List.length_cons, List.length_nil]; omega)
      · rw [decide_eq_false (by omega : ¬ (i : Int) < 12)]
        exact ⟨r, rfl, by omega⟩
    · rw [decide_eq_false (by omega : ¬ (i : Int) ≤ (l.length : Int))]
      exact ⟨r, rfl, by omega⟩

theorem lawOffsets_tells {R : Type} (q : List Str) (x1 x2 x3 x4 x5 x6 x7 : Int) (l : List Int) (hl : l.length < 1000000000) (k : List Int → Option R) : ∃ rs : List Int, lawOffsets_F q x1 x2 x3 x4 x5 x6 x7 l k = k rs ∧ rs.length ≤ 15 := by
  rw [lawOffsets_F_T]; unfold lawOffsets_T
  rw [lawOffsets_M3_eq]
  exact lawOffsets_L l hl _ _ _ _ _ _ _ _ _ 4611686018427387904 0 _ (by omega) (by omega) (by simp)

theorem smalls20_step {R : Type} (rec : List Int → Int → Str → List Int → List Int → Int → Int → List Int → Int → Int → Int → Int → Int → Int → Int → Int → List Str → Option R)
    (l50 : List Int) (x51 : Int) (s : Str) (hs : s.length ≤ 1000000) (l54 : List Int) (j kk : Nat) (hj : j < l54.length) (hjb : j < 1000000) (hk : kk < l50.length) (hA : AgreeSmall (l50.getD kk 0)) (l57 : List Int) (h57 : l57.length = 3) (i : Nat) (hi : i < 3)
    (x59 x60 x61 x62 x63 x64 x65 : Int) (q66 : List Str) (ke0 : Bool → Option R) (ke1 : List Int → Int → Str → List Int → List Int → Int → Int → Int → Int → Int → Int → Int → Int → Int → List Str → Option R) :
    smalls20_B17 rec l50 x51 s (runesOf s) l54 (j : Int) (kk : Int) l57 (i : Int) x59 x60 x61 x62 x63 x64 x65 q66 ke0 ke1 =
      rec l50 x51 s (runesOf s) l54 (j : Int) (kk : Int) l57 ((i + 1 : Nat) : Int) x59 x60 x61 x62 x63 x64 x65 q66 := by
  have hle := runesOf_length_le s
  have hmod : Int.tmod (IntKind.wrap .i64 ((j : Int) + (i : Int))) 4 = (((j + i) % 4 : Nat) : Int) := by
    rw [wrap64 (by omega) (by omega), Int.tmod_eq_emod_of_nonneg (by omega)]; omega
  unfold smalls20_B17
  simp only [num20_eq, Int.toNat_natCast, hmod]
  rw [decide_eq_true (by omega : (i : Int) < 3), decide_eq_true (by omega : (0 : Int) ≤ (((j + i) % 4 : Nat) : Int)), decide_eq_true (by simp only [List.length_cons, List.length_nil]; omega : (((j + i) % 4 : Nat) : Int) < (([(122 : Int), x59, (8364 : Int), (10 : Int)].length : Nat) : Int)),
    decide_eq_true (by omega : (0 : Int) ≤ (j : Int)), decide_eq_true (by omega : (j : Int) < (l54.length : Int)), decide_eq_true (by omega : (0 : Int) ≤ (kk : Int)), decide_eq_true (by omega : (kk : Int) < (l50.length : Int)),
    decide_eq_true (by omega : (0 : Int) ≤ (i : Int)), decide_eq_true (by omega : (i : Int) < (l57.length : Int)), wrap64 (x := (i : Int) + 1) (by omega) (by omega), show ((i : Int) + 1) = ((i + 1 : Nat) : Int) from by omega]
  simp only [Bool.and_true, cond_true]
  generalize [(122 : Int), x59, (8364 : Int), (10 : Int)].getD ((j + i) % 4) 0 = r
  generalize l54.getD j 0 = at'
  generalize l57.getD i 0 = count
  generalize l50.getD kk 0 = key at hA
  by_cases hall : mayOf s = true ∧ smallB (runesOf s) at' key r count = true
  · obtain ⟨h1, h2⟩ := hall
    obtain ⟨c, hc1, hc2⟩ := hA s at' r count h1 h2
    rw [hc2]
    unfold Chg.ap
    dsimp only
    rw [refMay1_eq, h1, cond_true, MaySmall_eq, h2, cond_true, hc1]
    unfold Chg.ap
    dsimp only
    unfold fixC
    by_cases he : c.err = 0
    · simp [he]
    · have h5 : (c.err == 0) = false := by simpa using he
      have h6 : (c.err != 0) = true := by simpa using he
      rw [h5, h6]
      simp
  · rw [smallOf_form s at' key r count hall]
    unfold Chg.ap formC
    dsimp only
    rw [refMay1_eq]
    cases h1 : mayOf s with
    | false => simp
    | true =>
      rw [cond_true, MaySmall_eq]
      cases h2 : smallB (runesOf s) at' key r count with
      | false => simp
      | true => exact absurd ⟨h1, h2⟩ hall

theorem smalls20_17 {R : Type} (l50 : List Int) (x51 : Int) (s : Str) (hs : s.length ≤ 1000000) (l54 : List Int) (j kk : Nat) (hj : j < l54.length) (hjb : j < 1000000) (hk : kk < l50.length) (hA : AgreeSmall (l50.getD kk 0)) (l57 : List Int) (h57 : l57.length = 3)
    (x59 x60 x61 x62 x63 x64 x65 : Int) (q66 : List Str) (ke0 : Bool → Option R) (ke1 : List Int → Int → Str → List Int → List Int → Int → Int → Int → Int → Int → Int → Int → Int → Int → List Str → Option R) : ∀ (n i : Nat), i ≤ 3 → 3 < n + i →
    smalls20_L17 n l50 x51 s (runesOf s) l54 (j : Int) (kk : Int) l57 (i : Int) x59 x60 x61 x62 x63 x64 x65 q66 ke0 ke1 = ke1 l50 x51 s (runesOf s) l54 (j : Int) (kk : Int) x59 x60 x61 x62 x63 x64 x65 q66 := by
  intro n
  induction n with
  | zero => intro i h0; omega
  | succ n ih =>
    intro i h1 h2
    simp only [smalls20_L17]
    by_cases h : i < 3
    · rw [smalls20_step _ l50 x51 s hs l54 j kk hj hjb hk hA l57 h57 i h]
      exact ih (i + 1) (by omega) (by omega)
    · unfold smalls20_B17
      rw [decide_eq_false (by omega : ¬ (i : Int) < 3)]; rfl

theorem smalls20_13 {R : Type} (l35 : List Int) (h35 : l35.length ≤ 100) (hA : ∀ kk, kk < l35.length → AgreeSmall (l35.getD kk 0)) (x36 : Int) (s : Str) (hs : s.length ≤ 1000000) (l39 : List Int) (j : Nat) (hj : j < l39.length) (hjb : j < 1000000)
    (x42 x43 x44 x45 x46 x47 x48 : Int) (q49 : List Str) (ke0 : Bool → Option R) (ke1 : List Int → Int → Str → List Int → List Int → Int → Int → Int → Int → Int → Int → Int → Int → List Str → Option R) : ∀ (n kk : Nat), kk ≤ l35.length → l35.length < n + kk →
    smalls20_L13 n l35 x36 s (runesOf s) l39 (j : Int) (kk : Int) x42 x43 x44 x45 x46 x47 x48 q49 ke0 ke1 = ke1 l35 x36 s (runesOf s) l39 (j : Int) x42 x43 x44 x45 x46 x47 x48 q49 := by
  intro n
  induction n with
  | zero => intro i h0; omega
  | succ n ih =>
    intro kk h1 h2
    simp only [smalls20_L13, smalls20_B13]
    by_cases h : kk < l35.length
    · rw [decide_eq_true (by omega : (kk : Int) < (l35.length : Int)), cond_true, smalls20_M17_eq]
      refine (smalls20_17 l35 x36 s hs l39 j kk hj hjb h (hA kk h) _ rfl _ _ _ _ _ _ _ _ _ _ 4611686018427387904 0 (by omega) (by omega)).trans ?_
      rw [wrap64 (by omega) (by omega)]
      exact ih (kk + 1) (by omega) (by omega)
    · rw [decide_eq_false (by omega : ¬ (kk : Int) < (l35.length : Int))]; rfl

theorem smalls20_10 {R : Type} (l21 : List Int) (h21 : l21.length ≤ 100) (hA : ∀ kk, kk < l21.length → AgreeSmall (l21.getD kk 0)) (x22 : Int) (s : Str) (hs : s.length ≤ 1000000) (l25 : List Int) (hr : l25.length ≤ 15)
    (x27 x28 x29 x30 x31 x32 x33 : Int) (q34 : List Str) (ke0 : Bool → Option R) (ke1 : List Int → Int → Int → Int → Int → Int → Int → Int → Int → List Str → Option R) : ∀ (n j : Nat), j ≤ l25.length → l25.length < n + j →
    smalls20_L10 n l21 x22 s (runesOf s) l25 (j : Int) x27 x28 x29 x30 x31 x32 x33 q34 ke0 ke1 = ke1 l21 x22 x27 x28 x29 x30 x31 x32 x33 q34 := by
  intro n
  induction n with
  | zero => intro i h0; omega
  | succ n ih =>
    intro j h1 h2
    simp only [smalls20_L10, smalls20_B10]
    by_cases h : j < l25.length
    · rw [decide_eq_true (by omega : (j : Int) < (l25.length : Int)), cond_true, smalls20_M13_eq]
      refine (smalls20_13 l21 h21 hA x22 s hs l25 j h (by omega) _ _ _ _ _ _ _ _ _ _ 4611686018427387904 0 (by omega) (by omega)).trans ?_
      rw [wrap64 (by omega) (by omega)]
      exact ih (j + 1) (by omega) (by omega)
    · rw [decide_eq_false (by omega : ¬ (j : Int) < (l25.length : Int))]; rfl

theorem smalls20_4 {R : Type} (l10 : List Int) (h10 : l10.length ≤ 100) (hA : ∀ kk, kk < l10.length → AgreeSmall (l10.getD kk 0)) (x12 x13 x14 x15 x16 x17 x18 : Int) (q : List Str) (hq : q.length ≤ 6000) (hq2 : ∀ s ∈ q, s.length ≤ 6000) (ke0 : Bool → Option R) (ke1 : Option R) :
    ∀ (n i : Nat), i ≤ 3 → 3 < n + i → smalls20_L4 n l10 (i : Int) x12 x13 x14 x15 x16 x17 x18 q ke0 ke1 = ke1 := by
  intro n
  induction n with
  | zero => intro i h0; omega
  | succ n ih =>
    intro i h1 h2
    simp only [smalls20_L4, smalls20_B4]
    by_cases h : i < q.length
    · rw [decide_eq_true (by omega : (i : Int) < (q.length : Int)), cond_true]
      by_cases h3 : i < 3
      · rw [decide_eq_true (by omega : (i : Int) < 3), decide_eq_true (by omega : (0 : Int) ≤ (i : Int))]
        simp only [Bool.and_true, cond_true, Int.toNat_natCast]
        have hs := hq2 _ (getD_mem h)
        have hle := runesOf_length_le (q.getD i [])
        obtain ⟨rs, hrs, hl⟩ := lawOffsets_tells q x18 x17 x16 x15 x14 x13 x12 (runesOf (q.getD i [])) (by omega) (fun l20 => smalls20_M10 l10 (i : Int) (q.getD i []) (runesOf (q.getD i [])) l20 ((0 : Int)) x12 x13 x14 x15 x16 x17 x18 q
          (fun b118 => ke0 b118) (fun l119 x120 x121 x122 x123 x124 x125 x126 x127 q128 => smalls20_L4 n l119 (IntKind.wrap .i64 (x120 + (1 : Int))) x121 x122 x123 x124 x125 x126 x127 q128 ke0 ke1))
        refine hrs.trans ?_
        rw [smalls20_M10_eq]
        refine (smalls20_10 l10 h10 hA (i : Int) _ (by omega) rs hl _ _ _ _ _ _ _ _ _ _ 4611686018427387904 0 (by omega) (by omega)).trans ?_
        rw [wrap64 (by omega) (by omega)]
        exact ih (i + 1) (by omega) (by omega)
      · rw [decide_eq_false (by omega : ¬ (i : Int) < 3)]; rfl
    · rw [decide_eq_false (by omega : ¬ (i : Int) < (q.length : Int))]; rfl

theorem wakes20_eq {R : Type} (k : Bool → Option R) : wakes20_F k = k true := by
  rw [wakes20_F_T]; unfold wakes20_T
  have h := smallOf_head (R := R) [97, 98] (by kernel_rfl) 0 120 0 1 (by kernel_rfl)
  rw [show (((0 : Nat) : Int)) = (0 : Int) from rfl, show (((1 : Nat) : Int)) = (1 : Int) from rfl] at h
  rw [h, show ((120 : Int) == 120) = true from rfl, cond_true]
  have hm : min (0 + 1) (endOf (runesOf [97, 98]) 0) = 1 := by kernel_rfl
  have hl : (runesOf [97, 98]).length = 2 := by kernel_rfl
  have h2 := smallCut_eq (R := R) [97, 98] (by simp) (runesOf [97, 98]) (by rw [hl]; omega) (runesOf_scal _) 0 1 (by omega) (by rw [hl]; omega)
  rw [show (((0 : Nat) : Int)) = (0 : Int) from rfl] at h2
  rw [hm, h2]
  unfold Chg.ap
  simp only [num20_eq]
  rw [refApply_F_T]; unfold refApply_T
  refine Eq.trans ?_ (rfl : k true = k true)
  kernel_rfl

theorem smalls20_true {R : Type} (q : List Str) (hq : Sized q) (x1 x2 x3 x4 x5 x6 x7 : Int) (keys : List Int) (hl : keys.length ≤ 100) (hA : ∀ key ∈ keys, AgreeSmall key) (k : Bool → Option R) : smalls20_F q x1 x2 x3 x4 x5 x6 x7 keys k = k true := by
  rw [smalls20_F_T]; unfold smalls20_T
  rcases lawHeavy10_eq q hq x1 x2 x3 x4 x5 x6 x7 (fun b9 => bif b9 then k true else smalls20_M4 keys 0 x7 x6 x5 x4 x3 x2 x1 q (fun b129 => k b129) (wakes20_F (fun b130 => k b130))) with h | ⟨h, h1, h2⟩
  · exact h
  · refine h.trans ?_
    rw [cond_false, smalls20_M4_eq]
    refine (smalls20_4 keys hl (fun kk hk => hA _ ?_) x7 x6 x5 x4 x3 x2 x1 q h1 h2 _ _ 4611686018427387904 0 (by omega) (by omega)).trans ?_
    · rw [getD_at hk]; exact List.getElem_mem hk
    · exact wakes20_eq _

theorem SmallX_true {R : Type} (q : List Str) (hq : Sized q) (x1 x2 x3 x4 x5 x6 x7 : Int) (k : Bool → Option R) : SmallX_F q x1 x2 x3 x4 x5 x6 x7 k = k true := by
  rw [SmallX_F_T]; unfold SmallX_T
  exact smalls20_true q hq _ _ _ _ _ _ _ _ (by simp) (by intro key h; simp at h; subst h; exact agreeSmall_plain _ (by omega)) _

theorem SmallR_true {R : Type} (q : List Str) (hq : Sized q) (x1 x2 x3 x4 x5 x6 x7 : Int) (k : Bool → Option R) : SmallR_F q x1 x2 x3 x4 x5 x6 x7 k = k true := by
  rw [SmallR_F_T]; unfold SmallR_T
  exact smalls20_true q hq _ _ _ _ _ _ _ _ (by simp) (by intro key h; simp at h; subst h; exact agreeSmall_plain _ (by omega)) _

theorem SmallTilde_true {R : Type} (q : List Str) (hq : Sized q) (x1 x2 x3 x4 x5 x6 x7 : Int) (k : Bool → Option R) : SmallTilde_F q x1 x2 x3 x4 x5 x6 x7 k = k true := by
  rw [SmallTilde_F_T]; unfold SmallTilde_T
  exact smalls20_true q hq _ _ _ _ _ _ _ _ (by simp) (by intro key h; simp at h; subst h; exact agreeSmall_plain _ (by omega)) _

end Go.Proofs.YtleoffdjdgbanaaDoor

set_option linter.unusedVariables false
set_option linter.unusedSimpArgs false
set_option maxRecDepth 100000
namespace Go.Proofs.YtleoffdjdgbanaaDoor
open Go Go.QA Go.Proofs

/-- The row of an offset, what stands ahead, and the rows that follow. -/
theorem row_split (l : List Int) (at' : Nat) (hat : at' ≤ l.length) : ∃ a rs, splitC 10 (l.drop (beginOf l at')) = a :: rs ∧ l.take (beginOf l at') ++ (a ++ rowsOf rs) = l ∧ at' - beginOf l at' ≤ a.length ∧
    (l.take (beginOf l at') = [] ∨ ∃ p, l.take (beginOf l at') = p ++ [10]) ∧ (∀ x ∈ a, x ≠ 10) ∧ (∀ r ∈ rs, ∀ x ∈ r, x ≠ 10) := by
  have hb := beginOf_le l at'
  cases hs : splitC (10 : Int) (l.drop (beginOf l at')) with
  | nil => exact absurd hs (splitC_ne _ _)
  | cons a rs =>
    have hu : a ++ rowsOf rs = l.drop (beginOf l at') := by rw [← unsplit_rows, ← hs, unsplit_splitC]
    have hno := splitC_no (l.drop (beginOf l at'))
    rw [hs] at hno
    have hl : l.take (beginOf l at') ++ (a ++ rowsOf rs) = l := by rw [hu, List.take_append_drop]
    refine ⟨a, rs, rfl, hl, ?_, ?_, hno a (by simp), fun r hr => hno r (by simp [hr])⟩
    · refine Nat.le_of_not_lt fun h => ?_
      have hul := congrArg List.length hu
      rw [List.length_append, List.length_drop] at hul
      have h10 := beginOf_in l at' (beginOf l at' + a.length) (by omega) (by omega)
      apply h10
      rcases rowsOf_head rs with hr | ⟨u, hr⟩
      · rw [hr] at hul; simp at hul; omega
      · have e : l[beginOf l at' + a.length]? = some 10 := by
          have h0 := congrArg (fun z => z[a.length]?) hu
          simp only [List.getElem?_drop] at h0
          rw [← h0, hr]; simp
        simp [List.getD, e]
    · rcases begin_nl l at' hat with h | h
      · exact .inl (by rw [h]; rfl)
      · rcases Nat.eq_zero_or_pos (beginOf l at') with h0 | hpos
        · exact .inl (by rw [h0]; rfl)
        right
        refine ⟨l.take (beginOf l at' - 1), ?_⟩
        have hlt : beginOf l at' - 1 < l.length := (List.getElem?_eq_some_iff.1 h).1
        have e := List.take_succ_eq_append_getElem hlt
        rw [show beginOf l at' - 1 + 1 = beginOf l at' from by omega] at e
        rw [e, (List.getElem?_eq_some_iff.1 h).2]

theorem refSmall_j {R : Type} (s : Str) (hs : s.length ≤ 1000000) (at' : Nat) (hat : at' ≤ (runesOf s).length) (r : Int) (count : Nat) (hc : count ≤ 1000000) (a : List Int) (rs : List (List Int))
    (har : splitC 10 ((runesOf s).drop (beginOf (runesOf s) at')) = a :: rs) (k : Int → Int → Str → Int → Str → Bool → Int → Option R) :
    refSmall_F s (at' : Int) 74 r (count : Int) k = (joinC s ((runesOf s).take (beginOf (runesOf s) at')) a rs (max 1 (count - 1))).ap k := by
  have hle := runesOf_length_le s
  have hsc := runesOf_scal s
  obtain ⟨a', rs', h1, h2, h3, h4, h5, h6⟩ := row_split (runesOf s) at' hat
  rw [har] at h1
  obtain ⟨rfl, rfl⟩ := List.cons.inj h1
  unfold refSmall_F
  rw [show ((74 : Int) == 114 || (74 : Int) == 126) = false from rfl, cond_false, refSmallA_F_T]
  unfold refSmallA_T joinC
  have hb := beginOf_le (runesOf s) at'
  rw [refBegin_eq _ (by omega) at' hat, refEnd_eq _ (by omega)]
  rw [show ((74 : Int) == 120) = false from rfl, cond_false, show ((74 : Int) == 88) = false from rfl, cond_false, show ((74 : Int) == 114) = false from rfl, cond_false, show ((74 : Int) == 126) = false from rfl, cond_false, refSmallA_M38_eq]
  have hpl : ((runesOf s).take (beginOf (runesOf s) at')).length = beginOf (runesOf s) at' := by rw [List.length_take]; omega
  have hsca : ∀ q ∈ a :: rs, scalL q := fun q hq => by rw [← har] at hq; exact scalL_splitC (hsc.drop _) q hq
  have hmain := ref_joins (R := R) s at' count hc ((runesOf s).take (beginOf (runesOf s) at')) h4 (hsc.take _) (at' - beginOf (runesOf s) at') (by rw [hpl]; omega)
    (fun x170 b171 s172 x173 s174 x175 x176 => k x176 x175 s174 x173 s172 b171 x170)
    (fun s177 l178 x179 b180 s181 x182 s183 x184 x185 => made18_F s177 (Go.QA.strOf l178) x179 (fun x186 x187 s188 x189 s190 b191 x192 => k x186 x187 s188 x189 s190 b191 x192))
    (max 1 (count - 1)) 4611686018427387904 0 a rs (at' : Int) 0 (by omega) (by omega) (hsca a (by simp)) h5 (fun q hq => ⟨hsca q (by simp [hq]), h6 q hq⟩) h3 (by rw [h2]; omega)
  rw [h2] at hmain
  refine hmain.trans ?_
  by_cases hn : rs.length < max 1 (count - 1)
  · rw [if_pos hn, if_pos hn]; rfl
  · rw [if_neg hn, if_neg hn, if_neg (by omega), made18_eq s _ hs]

theorem agreeSmall_74 : AgreeSmall 74 := by
  intro s at' r count h1 h2
  have hlen := mayOf_len h1
  have hv := mayOf_valid h1
  have h2' := h2
  unfold smallB at h2'
  simp only [Bool.and_eq_true, decide_eq_true_eq, List.mem_cons, List.not_mem_nil, or_false] at h2'
  obtain ⟨hb, hin, ⟨hc1, hc2⟩, hr⟩ := h2'
  obtain ⟨n, rfl, hn⟩ := isB_nat hb
  obtain ⟨c, rfl⟩ : ∃ c : Nat, count = (c : Int) := ⟨count.toNat, by omega⟩
  obtain ⟨a, rs, har, _⟩ := row_split (runesOf s) n hn
  refine ⟨_, fun R k => refSmall_j s (by omega) n hn r c (by omega) a rs har k, fun R k => ?_⟩
  rw [smallOf_head s h1 n 74 r c h2, show ((74 : Int) == 120) = false from rfl, show ((74 : Int) == 88) = false from rfl, show ((74 : Int) == 114) = false from rfl, show ((74 : Int) == 126) = false from rfl, show ((74 : Int) == 74) = true from rfl,
    cond_false, cond_false, cond_false, cond_false, cond_true, smallJoined_eq s (by omega) hv n hn _ (by omega) a rs har]
  apply fix_small
  unfold joinC
  split
  · exact .inl rfl
  · exact .inr ⟨_, _, _, rfl⟩

theorem agreeSmall_all (key : Int) : AgreeSmall key := by
  by_cases h : key = 74
  · subst h; exact agreeSmall_74
  · exact agreeSmall_plain key h

theorem SmallTurns_true {R : Type} (q : List Str) (hq : Sized q) (x1 x2 x3 x4 x5 x6 x7 : Int) (k : Bool → Option R) : SmallTurns_F q x1 x2 x3 x4 x5 x6 x7 k = k true := by
  rw [SmallTurns_F_T]; unfold SmallTurns_T
  exact smalls20_true q hq _ _ _ _ _ _ _ _ (by simp) (fun key _ => agreeSmall_all key) _

theorem SmallJoins_true {R : Type} (q : List Str) (hq : Sized q) (x1 x2 x3 x4 x5 x6 x7 : Int) (k : Bool → Option R) : SmallJoins_F q x1 x2 x3 x4 x5 x6 x7 k = k true := by
  rw [SmallJoins_F_T]; unfold SmallJoins_T
  exact smalls20_true q hq _ _ _ _ _ _ _ _ (by simp) (fun key _ => agreeSmall_all key) _

end Go.Proofs.YtleoffdjdgbanaaDoor

set_option linter.unusedVariables false
set_option linter.unusedSimpArgs false
set_option maxRecDepth 100000
namespace Go.Proofs.YtleoffdjdgbanaaDoor
open Go Go.QA Go.Proofs

/-- How many rows' ends. -/
def cnt (l : List Int) : Nat := l.countP (· == 10)

theorem cnt_append (l m : List Int) : cnt (l ++ m) = cnt l + cnt m := List.countP_append ..
theorem cnt_cons (x : Int) (l : List Int) : cnt (x :: l) = cnt l + if x = 10 then 1 else 0 := by
  unfold cnt
  by_cases h : x = 10
  · rw [if_pos h, List.countP_cons_of_pos (by simpa using h)]
  · rw [if_neg h, List.countP_cons_of_neg (by simpa using h)]; rfl
theorem cnt_no {l : List Int} (h : ∀ x ∈ l, x ≠ 10) : cnt l = 0 := by
  unfold cnt
  rw [List.countP_eq_zero]
  intro x hx; simpa using h x hx

theorem rows_cnt {y : List Int} (hy : scalL y) : (splitC (10 : UInt8) (strOf y)).length = cnt y + 1 := by
  rw [splitC_strOf hy, List.length_map, splitC_count]; rfl

theorem split_at {l : List Int} {i : Nat} (h : i < l.length) : l = l.take i ++ l.getD i 0 :: l.drop (i + 1) := by
  conv => lhs; rw [← List.take_append_drop i l]
  rw [List.drop_eq_getElem_cons h, getD_at h]

theorem cut_one {l : List Int} {i : Nat} (h : i < l.length) (h2 : l.getD i 0 ≠ 10) : (l.take i ++ l.drop (i + 1)).length + 1 = l.length ∧ cnt (l.take i ++ l.drop (i + 1)) = cnt l ∧ ((l.take (i + 1)).drop i).length = 1 := by
  refine ⟨?_, ?_, ?_⟩
  · rw [List.length_append, List.length_take, List.length_drop]; omega
  · conv => rhs; rw [split_at h]
    rw [cnt_append, cnt_append, cnt_cons, if_neg h2]; rfl
  · rw [List.length_drop, List.length_take]; omega

theorem set_one {l : List Int} {i : Nat} (h : i < l.length) (h2 : l.getD i 0 ≠ 10) {v : Int} (hv : v ≠ 10) : cnt (l.set i v) = cnt l := by
  have e : l.set i v = l.take i ++ v :: l.drop (i + 1) := by
    rw [List.set_eq_take_append_cons_drop, if_pos h]
  conv => rhs; rw [split_at h]
  rw [e, cnt_append, cnt_append, cnt_cons, cnt_cons, if_neg h2, if_neg hv]

/-- What is to hold of lengths and rows. -/
def SameOk (key : Int) (l y : List Int) (took : Str) : Prop :=
  if key = 114 ∨ key = 126 then y.length = l.length ∧ cnt y = cnt l else if key = 74 then cnt y + 1 = cnt l else y.length + 1 = l.length ∧ cnt y = cnt l ∧ (runesOf took).length = 1

/-- An error, or such a change. -/
def SameForm (s : Str) (key : Int) (c : Chg) : Prop :=
  c.err ≠ 0 ∨ ∃ y, scalL y ∧ mayOf (strOf y) = true ∧ c.pat = (atOf (runesOf s) (runesOf (strOf y)) : Nat) ∧ c.del = (delOf (runesOf s) (runesOf (strOf y)) : Nat) ∧ c.ins = insOf (runesOf s) (runesOf (strOf y)) ∧ c.err = 0 ∧ SameOk key (runesOf s) y c.took

theorem form_made (s : Str) (key : Int) (y : List Int) (hy : scalL y) (cur : Int) (took : Str) (h : SameOk key (runesOf s) y took) : SameForm s key ((madeC s (strOf y) cur).with took false) := by
  cases hm : mayOf (strOf y) with
  | false => left; unfold madeC Chg.with; rw [hm]; show (4 : Int) ≠ 0; decide
  | true => right; refine ⟨y, hy, hm, ?_⟩; rw [madeC_ok hm]; exact ⟨rfl, rfl, rfl, rfl, h⟩

theorem made_with (s x : Str) (cur : Int) : (madeC s x cur).with [] false = madeC s x cur := by
  unfold madeC Chg.with; cases mayOf x <;> rfl

theorem same_form (s : Str) (h1 : mayOf s = true) (n : Nat) (hn : n ≤ (runesOf s).length) (key : Int) (hk : key ∈ [114, 126, 120, 88, 74]) :
    ∃ c : Chg, (∀ (R : Type) (k : Int → Int → Str → Int → Str → Bool → Int → Option R), smallOf_F s (n : Int) key 113 1 k = c.ap k) ∧ SameForm s key c := by
  have hlen := mayOf_len h1
  have hle := runesOf_length_le s
  have hsc := runesOf_scal s
  have hge := endOf_ge (runesOf s) n
  have hel := endOf_le (runesOf s) n hn
  have hbg := beginOf_le (runesOf s) n
  have h2 : smallB (runesOf s) (n : Int) key 113 ((1 : Nat) : Int) = true := by
    unfold smallB isB
    rw [decide_eq_true (by omega : (0 : Int) ≤ (n : Int) ∧ (n : Int) ≤ ((runesOf s).length : Int)), decide_eq_true (by simp only [List.mem_cons, List.not_mem_nil, or_false] at hk ⊢; omega), show runeB 113 = true from by decide]
    simp
  have hin := fun (h : n < endOf (runesOf s) n) => endOf_in (runesOf s) 0 n n (Nat.sub_self n) (Nat.le_refl _) h
  simp only [List.mem_cons, List.not_mem_nil, or_false] at hk
  rcases hk with rfl | rfl | rfl | rfl | rfl
  · refine ⟨fillC s (runesOf s) n 113 1, fun R k => ?_, ?_⟩
    · have := smallOf_head s h1 n 114 113 1 h2 k
      refine this.trans ?_
      rw [show ((114 : Int) == 120) = false from rfl, show ((114 : Int) == 88) = false from rfl, show ((114 : Int) == 114) = true from rfl, cond_false, cond_false, cond_true, smallBecome_eq s (by omega) _ (by omega) n hn 1 (by omega)]
    · unfold fillC
      by_cases h : endOf (runesOf s) n < n + 1
      · rw [if_pos h]; left; decide
      · rw [if_neg h]
        obtain ⟨q1, q2, _⟩ := hin (by omega)
        rw [← made_with]
        refine form_made s 114 _ (set_all hsc (.inl (by decide))) _ [] ?_
        unfold SameOk
        rw [if_pos (.inl rfl)]
        exact ⟨by simp [fillGo], set_one q1 q2 (by decide)⟩
  · refine ⟨turnC s (runesOf s) n (min (endOf (runesOf s) n) (n + 1)), fun R k => ?_, ?_⟩
    · have := smallOf_head s h1 n 126 113 1 h2 k
      refine this.trans ?_
      rw [show ((126 : Int) == 120) = false from rfl, show ((126 : Int) == 88) = false from rfl, show ((126 : Int) == 114) = false from rfl, show ((126 : Int) == 126) = true from rfl, cond_false, cond_false, cond_false, cond_true, Nat.min_comm (n + 1), smallTurn_eq s (by omega) _ (by omega) hsc n _ (by omega) (by omega)]
    · unfold turnC
      by_cases h : n = min (endOf (runesOf s) n) (n + 1)
      · rw [if_pos h]; left; decide
      · rw [if_neg h]
        obtain ⟨q1, q2, _⟩ := hin (by omega)
        rw [show min (endOf (runesOf s) n) (n + 1) - n = 1 from by omega, ← made_with]
        refine form_made s 126 _ (turnGo_scal 126 1 n _ (by omega) hsc) _ [] ?_
        unfold SameOk
        rw [if_pos (.inr rfl)]
        refine ⟨turnGo_length .., ?_⟩
        exact set_one q1 q2 (fun e => q2 ((turnOf_10 _ _).1 e))
  · refine ⟨cutC s (runesOf s) n (min (endOf (runesOf s) n) (n + 1)) (restOf ((runesOf s).take n ++ (runesOf s).drop (min (endOf (runesOf s) n) (n + 1))) n : Nat), fun R k => ?_, ?_⟩
    · have := smallOf_head s h1 n 120 113 1 h2 k
      refine this.trans ?_
      rw [show ((120 : Int) == 120) = true from rfl, cond_true, Nat.min_comm (n + 1), smallCut_eq s (by omega) _ (by omega) hsc n _ (by omega) (by omega)]
    · unfold cutC
      by_cases h : n = min (endOf (runesOf s) n) (n + 1)
      · rw [if_pos h]; left; decide
      · rw [if_neg h, show min (endOf (runesOf s) n) (n + 1) = n + 1 from by omega]
        obtain ⟨q1, q2, _⟩ := hin (by omega)
        refine form_made s 120 _ (scalL_append.2 ⟨hsc.take _, hsc.drop _⟩) _ _ ?_
        unfold SameOk
        rw [if_neg (by decide), if_neg (by decide), runesOf_strOf ((hsc.take _).drop _)]
        exact cut_one q1 q2
  · obtain ⟨low, hlow⟩ : ∃ low, low = max (beginOf (runesOf s) n) (n - 1) := ⟨_, rfl⟩
    refine ⟨if low = n then moveC else ((madeC s (strOf ((runesOf s).take low ++ (runesOf s).drop n)) (bif (madeC s (strOf ((runesOf s).take low ++ (runesOf s).drop n)) 0).err == 0 then (low : Int) else 0)).with (strOf (((runesOf s).take n).drop low)) false), fun R k => ?_, ?_⟩
    · have := smallOf_head s h1 n 88 113 1 h2 k
      refine this.trans ?_
      rw [show ((88 : Int) == 120) = false from rfl, show ((88 : Int) == 88) = true from rfl, cond_false, cond_true, Nat.max_comm (n - 1), ← hlow, smallCut_eq s (by omega) _ (by omega) hsc low n (by omega) hn]
      unfold cutC
      by_cases h : low = n
      · rw [if_pos h, if_pos h]; rfl
      · rw [if_neg h, if_neg h]
        unfold madeC Chg.with Chg.ap
        cases mayOf (strOf ((runesOf s).take low ++ (runesOf s).drop n)) <;> rfl
    · by_cases h : low = n
      · rw [if_pos h]; left; decide
      · rw [if_neg h]
        obtain ⟨m, rfl⟩ : ∃ m, n = m + 1 := ⟨n - 1, by omega⟩
        obtain rfl : low = m := by omega
        have q2 := beginOf_in (runesOf s) (low + 1) low (by omega) (by omega)
        refine form_made s 88 _ (scalL_append.2 ⟨hsc.take _, hsc.drop _⟩) _ _ ?_
        unfold SameOk
        rw [if_neg (by decide), if_neg (by decide), runesOf_strOf ((hsc.take _).drop _)]
        exact cut_one (by omega) q2
  · obtain ⟨a, rs, har, hl, _, _, h10, hr10⟩ := row_split (runesOf s) n hn
    refine ⟨joinC s ((runesOf s).take (beginOf (runesOf s) n)) a rs 1, fun R k => ?_, ?_⟩
    · have := smallOf_head s h1 n 74 113 1 h2 k
      refine this.trans ?_
      rw [show ((74 : Int) == 120) = false from rfl, show ((74 : Int) == 88) = false from rfl, show ((74 : Int) == 114) = false from rfl, show ((74 : Int) == 126) = false from rfl, show ((74 : Int) == 74) = true from rfl,
        cond_false, cond_false, cond_false, cond_false, cond_true, show max 1 (1 - 1) = 1 from rfl, smallJoined_eq s (by omega) (mayOf_valid h1) n hn 1 (by omega) a rs har]
    · unfold joinC
      cases rs with
      | nil => rw [if_pos (by simp)]; left; decide
      | cons r rs =>
        rw [if_neg (by simp)]
        have hsca : ∀ q ∈ a :: r :: rs, scalL q := fun q hq => by rw [← har] at hq; exact scalL_splitC (hsc.drop _) q hq
        simp only [List.take_succ_cons, List.take_zero, List.drop_succ_cons, List.drop_zero, jGo]
        rw [← made_with]
        refine form_made s 74 _ (scalL_append.2 ⟨hsc.take _, scalL_append.2 ⟨jStep_scal (hsca a (by simp)) (hsca r (by simp)), rowsOf_scal fun q hq => hsca q (by simp [hq])⟩⟩) _ [] ?_
        unfold SameOk
        rw [if_neg (by decide), if_pos rfl]
        conv => rhs; rw [← hl]
        rw [rowsOf]
        simp only [cnt_append, cnt_cons, if_pos]
        rw [cnt_no h10, cnt_no (hr10 r (by simp)), cnt_no (jStep_no h10 (hr10 r (by simp)))]
        omega

theorem SmallSame_step {R : Type} (rec : Int → Str → List Int → Int → List Int → Int → Int → Int → Int → Int → Int → Int → Int → List Str → Option R) (x31 : Int) (s : Str) (hs : mayOf s = true) (n : Nat) (hn : n ≤ (runesOf s).length) (l35 : List Int) (hk : ∀ key ∈ l35, key ∈ [(114 : Int), 126, 120, 88, 74]) (j : Nat) (hj : j < l35.length) (hjb : j < 1000)
    (x37 x38 x39 x40 x41 x42 x43 : Int) (q44 : List Str) (ke0 : Bool → Option R) (ke1 : Int → Str → List Int → Int → Int → Int → Int → Int → Int → Int → Int → List Str → Option R) :
    SmallSame_B14 rec x31 s (runesOf s) (n : Int) l35 (j : Int) x37 x38 x39 x40 x41 x42 x43 q44 ke0 ke1 = rec x31 s (runesOf s) (n : Int) l35 ((j + 1 : Nat) : Int) x37 x38 x39 x40 x41 x42 x43 q44 := by
  have hle := runesOf_length_le s
  have hlen := mayOf_len hs
  have hkey := hk _ (List.getElem_mem hj)
  rw [← getD_at hj] at hkey
  unfold SmallSame_B14
  simp only [num20_eq, Int.toNat_natCast]
  rw [decide_eq_true (by omega : (j : Int) < (l35.length : Int)), decide_eq_true (by omega : (0 : Int) ≤ (j : Int)), wrap64 (x := (j : Int) + 1) (by omega) (by omega), show ((j : Int) + 1) = ((j + 1 : Nat) : Int) from by omega]
  simp only [Bool.and_true, Bool.and_self, cond_true]
  generalize l35.getD j 0 = key at hkey ⊢
  obtain ⟨c, hc, hf⟩ := same_form s hs n hn key hkey
  rw [hc]
  unfold Chg.ap
  dsimp only
  rcases hf with he | ⟨y, hy, hm, e1, e2, e3, e4, hok⟩
  · rw [show (c.err != 0) = true from by simpa using he, cond_true]
  · rw [e4, show ((0 : Int) != 0) = false from rfl, cond_false, e1, e2, e3, refMay4_made s _ hs hm]
    simp only [Bool.not_true, cond_false]
    rw [refApply_made s _ hs hm, refLen_eq, runesOf_strOf hy]
    have hyl := mayOf_len hm
    have hyle := runesOf_length_le (strOf y)
    rw [runesOf_strOf hy] at hyle
    have hstr := strOf_runesOf (mayOf_valid hs)
    have hrs : (splitC (10 : UInt8) s).length = cnt (runesOf s) + 1 := by
      conv => lhs; rw [← hstr]
      exact rows_cnt (runesOf_scal s)
    have hry := rows_cnt hy
    have hc1 : cnt y ≤ y.length := List.countP_le_length
    have hc2 : cnt (runesOf s) ≤ (runesOf s).length := List.countP_le_length
    rw [refRows_eq _ (by omega), refRows_eq _ (by omega), hrs, hry, refLen_eq]
    rw [wrap64 (x := ((y.length : Nat) : Int) - ((runesOf s).length : Int)) (by omega) (by omega), wrap64 (x := ((cnt y + 1 : Nat) : Int) - ((cnt (runesOf s) + 1 : Nat) : Int)) (by omega) (by omega)]
    unfold SameOk at hok
    simp only [List.mem_cons, List.not_mem_nil, or_false] at hkey
    rcases hkey with rfl | rfl | rfl | rfl | rfl
    · rw [if_pos (.inl rfl)] at hok
      rw [show ((114 : Int) == 114) = true from rfl, cond_true, show (((y.length : Nat) : Int) - ((runesOf s).length : Int) != 0) = false from by simp; omega, cond_false, show (((cnt y + 1 : Nat) : Int) - ((cnt (runesOf s) + 1 : Nat) : Int) != 0) = false from by simp; omega, cond_false]
    · rw [if_pos (.inr rfl)] at hok
      rw [show ((126 : Int) == 114) = false from rfl, cond_false, show ((126 : Int) == 126) = true from rfl, cond_true, show (((y.length : Nat) : Int) - ((runesOf s).length : Int) != 0) = false from by simp; omega, cond_false, show (((cnt y + 1 : Nat) : Int) - ((cnt (runesOf s) + 1 : Nat) : Int) != 0) = false from by simp; omega, cond_false]
    · rw [if_neg (by decide), if_neg (by decide)] at hok
      rw [show ((120 : Int) == 114) = false from rfl, cond_false, show ((120 : Int) == 126) = false from rfl, cond_false, show ((120 : Int) == 74) = false from rfl, cond_false, show (((y.length : Nat) : Int) - ((runesOf s).length : Int) != -1) = false from by simp; omega, cond_false, show (((cnt y + 1 : Nat) : Int) - ((cnt (runesOf s) + 1 : Nat) : Int) != 0) = false from by simp; omega, cond_false, hok.2.2]
      rfl
    · rw [if_neg (by decide), if_neg (by decide)] at hok
      rw [show ((88 : Int) == 114) = false from rfl, cond_false, show ((88 : Int) == 126) = false from rfl, cond_false, show ((88 : Int) == 74) = false from rfl, cond_false, show (((y.length : Nat) : Int) - ((runesOf s).length : Int) != -1) = false from by simp; omega, cond_false, show (((cnt y + 1 : Nat) : Int) - ((cnt (runesOf s) + 1 : Nat) : Int) != 0) = false from by simp; omega, cond_false, hok.2.2]
      rfl
    · rw [if_neg (by decide), if_pos rfl] at hok
      rw [show ((74 : Int) == 114) = false from rfl, cond_false, show ((74 : Int) == 126) = false from rfl, cond_false, show ((74 : Int) == 74) = true from rfl, cond_true, show (((cnt y + 1 : Nat) : Int) - ((cnt (runesOf s) + 1 : Nat) : Int) != -1) = false from by simp; omega, cond_false]

theorem SmallSame_14 {R : Type} (x31 : Int) (s : Str) (hs : mayOf s = true) (n : Nat) (hn : n ≤ (runesOf s).length) (l35 : List Int) (hll : l35.length ≤ 100) (hk : ∀ key ∈ l35, key ∈ [(114 : Int), 126, 120, 88, 74])
    (x37 x38 x39 x40 x41 x42 x43 : Int) (q44 : List Str) (ke0 : Bool → Option R) (ke1 : Int → Str → List Int → Int → Int → Int → Int → Int → Int → Int → Int → List Str → Option R) : ∀ (m j : Nat), j ≤ l35.length → l35.length < m + j →
    SmallSame_L14 m x31 s (runesOf s) (n : Int) l35 (j : Int) x37 x38 x39 x40 x41 x42 x43 q44 ke0 ke1 = ke1 x31 s (runesOf s) (n : Int) x37 x38 x39 x40 x41 x42 x43 q44 := by
  intro m
  induction m with
  | zero => intro j h0; omega
  | succ m ih =>
    intro j h1 h2
    simp only [SmallSame_L14]
    by_cases h : j < l35.length
    · rw [SmallSame_step _ x31 s hs n hn l35 hk j h (by omega)]
      exact ih (j + 1) (by omega) (by omega)
    · unfold SmallSame_B14
      rw [decide_eq_false (by omega : ¬ (j : Int) < (l35.length : Int))]; rfl

theorem SmallSame_10 {R : Type} (x19 : Int) (s : Str) (hs : mayOf s = true) (x23 x24 x25 x26 x27 x28 x29 : Int) (q30 : List Str) (ke0 : Bool → Option R) (ke1 : Int → Int → Int → Int → Int → Int → Int → Int → List Str → Option R) : ∀ (m n : Nat), n ≤ 60 → 60 < m + n →
    SmallSame_L10 m x19 s (runesOf s) (n : Int) x23 x24 x25 x26 x27 x28 x29 q30 ke0 ke1 = ke1 x19 x23 x24 x25 x26 x27 x28 x29 q30 := by
  intro m
  induction m with
  | zero => intro n h0; omega
  | succ m ih =>
    intro n h1 h2
    simp only [SmallSame_L10, SmallSame_B10]
    by_cases h : n ≤ (runesOf s).length
    · rw [decide_eq_true (by omega : (n : Int) ≤ ((runesOf s).length : Int)), cond_true]
      by_cases h3 : n < 60
      · rw [decide_eq_true (by omega : (n : Int) < 60), cond_true, SmallSame_M14_eq]
        refine (SmallSame_14 x19 s hs n h _ (by simp) (fun key hk => hk) _ _ _ _ _ _ _ _ _ _ 4611686018427387904 0 (by simp) (by simp)).trans ?_
        rw [wrap64 (by omega) (by omega)]
        exact ih (n + 1) (by omega) (by omega)
      · rw [decide_eq_false (by omega : ¬ (n : Int) < 60)]; rfl
    · rw [decide_eq_false (by omega : ¬ (n : Int) ≤ ((runesOf s).length : Int))]; rfl

theorem SmallSame_4 {R : Type} (x10 x11 x12 x13 x14 x15 x16 : Int) (q : List Str) (hq : q.length ≤ 6000) (ke0 : Bool → Option R) (ke1 : Option R) : ∀ (n i : Nat), i ≤ 3 → 3 < n + i →
    SmallSame_L4 n (i : Int) x10 x11 x12 x13 x14 x15 x16 q ke0 ke1 = ke1 := by
  intro n
  induction n with
  | zero => intro i h0; omega
  | succ n ih =>
    intro i h1 h2
    simp only [SmallSame_L4, SmallSame_B4]
    by_cases h : i < q.length
    · rw [decide_eq_true (by omega : (i : Int) < (q.length : Int)), cond_true]
      by_cases h3 : i < 3
      · rw [decide_eq_true (by omega : (i : Int) < 3), decide_eq_true (by omega : (0 : Int) ≤ (i : Int)), wrap64 (by omega) (by omega), show ((i : Int) + 1) = ((i + 1 : Nat) : Int) from by omega]
        simp only [Bool.and_true, Bool.and_self, cond_true, Int.toNat_natCast]
        have hrec := ih (i + 1) (by omega) (by omega)
        rw [refMay1_eq]
        cases hm : mayOf (q.getD i []) with
        | false => simpa using hrec
        | true =>
          simp only [Bool.not_true, cond_false]
          by_cases h4 : (q.getD i []).length > 1000
          · rw [decide_eq_true (by omega : ((q.getD i []).length : Int) > 1000), cond_true]; exact hrec
          · rw [decide_eq_false (by omega : ¬ ((q.getD i []).length : Int) > 1000), cond_false, SmallSame_M10_eq]
            refine (SmallSame_10 (i : Int) _ hm _ _ _ _ _ _ _ _ _ _ 4611686018427387904 0 (by omega) (by omega)).trans ?_
            rw [wrap64 (by omega) (by omega)]
            exact hrec
      · rw [decide_eq_false (by omega : ¬ (i : Int) < 3)]; rfl
    · rw [decide_eq_false (by omega : ¬ (i : Int) < (q.length : Int))]; rfl

theorem SmallSame_true {R : Type} (q : List Str) (hq : Sized q) (x1 x2 x3 x4 x5 x6 x7 : Int) (k : Bool → Option R) : SmallSame_F q x1 x2 x3 x4 x5 x6 x7 k = k true := by
  rw [SmallSame_F_T]; unfold SmallSame_T
  rcases lawHeavy10_eq q hq x1 x2 x3 x4 x5 x6 x7 (fun b8 => bif b8 then k true else SmallSame_M4 0 x7 x6 x5 x4 x3 x2 x1 q (fun b82 => k b82) (wakes20_F (fun b83 => k b83))) with h | ⟨h, h1, h2⟩
  · exact h
  · refine h.trans ?_
    rw [cond_false, SmallSame_M4_eq]
    refine (SmallSame_4 x7 x6 x5 x4 x3 x2 x1 q h1 _ _ 4611686018427387904 0 (by omega) (by omega)).trans ?_
    exact wakes20_eq _

end Go.Proofs.YtleoffdjdgbanaaDoor
