/- Plain laws: classes, first runes of rows, columns; no program in sight but the printed functions. -/
import Derived.Test.YtleoffdjdgbanaaDoorVPure1
import Derived.Test.YtleoffdjdgbanaaDoorVWalk3
import Derived.Test.YtleoffdjdgbanaaDoorQa4
import Derived.Lib.SplitLaws
set_option linter.unusedVariables false
set_option linter.unusedSimpArgs false
namespace Go.Proofs.YtleoffdjdgbanaaDoor
open Go Go.QA Go.Proofs

/-- A rune's class: 0 a blank, 1 of a word, 2 another one. -/
def classOf (x : Int) : Int :=
  if x = 32 ∨ x = 9 then 0 else if (97 ≤ x ∧ x ≤ 122) ∨ (65 ≤ x ∧ x ≤ 90) ∨ (48 ≤ x ∧ x ≤ 57) ∨ x = 95 ∨ 128 ≤ x then 1 else 2

theorem classOf_0 {x : Int} (h : x = 32 ∨ x = 9) : classOf x = 0 := by unfold classOf; rw [if_pos h]
theorem classOf_1 {x : Int} (h : (97 ≤ x ∧ x ≤ 122) ∨ (65 ≤ x ∧ x ≤ 90) ∨ (48 ≤ x ∧ x ≤ 57) ∨ x = 95 ∨ 128 ≤ x) : classOf x = 1 := by
  unfold classOf; rw [if_neg (by omega), if_pos h]
theorem classOf_2 {x : Int} (h : ¬ (x = 32 ∨ x = 9)) (h2 : ¬ ((97 ≤ x ∧ x ≤ 122) ∨ (65 ≤ x ∧ x ≤ 90) ∨ (48 ≤ x ∧ x ≤ 57) ∨ x = 95 ∨ 128 ≤ x)) : classOf x = 2 := by
  unfold classOf; rw [if_neg h, if_neg h2]

theorem cond_ite {α : Type} (p : Prop) [Decidable p] (a b : α) : (bif decide p then a else b) = if p then a else b := by
  by_cases h : p <;> simp [h]

theorem refClass_eq {R : Type} (x : Int) (k : Int → Option R) : refClass_F x k = k (classOf x) := by
  rw [refClass_F_T]; unfold refClass_T
  by_cases h : x = 32 ∨ x = 9
  · rw [classOf_0 h]
    rcases h with rfl | rfl <;> rfl
  · have h1 : (x == 32) = false := by simpa using fun e => h (.inl e)
    have h2 : (x == 9) = false := by simpa using fun e => h (.inr e)
    rw [h1, h2]
    simp only [cond_false, cond_eq_ite, decide_eq_true_eq, beq_iff_eq]
    by_cases h3 : (97 ≤ x ∧ x ≤ 122) ∨ (65 ≤ x ∧ x ≤ 90) ∨ (48 ≤ x ∧ x ≤ 57) ∨ x = 95 ∨ 128 ≤ x
    · rw [classOf_1 h3]
      repeat' split
      all_goals first | rfl | contradiction | (exfalso; omega)
    · rw [classOf_2 h h3]
      repeat' split
      all_goals first | rfl | contradiction | (exfalso; omega)

theorem textMade_eq {R : Type} (x : Int) (hx : x < 128) (k : Int → Option R) : textMade_F x k = k (classOf x) := by
  rw [textMade_F_T]; unfold textMade_T
  by_cases h : x = 32 ∨ x = 9
  · rw [classOf_0 h]
    rcases h with rfl | rfl <;> rfl
  · have h1 : (x == 32) = false := by simpa using fun e => h (.inl e)
    have h2 : (x == 9) = false := by simpa using fun e => h (.inr e)
    rw [h1, h2]
    simp only [cond_false, cond_eq_ite, decide_eq_true_eq, beq_iff_eq]
    by_cases h3 : (97 ≤ x ∧ x ≤ 122) ∨ (65 ≤ x ∧ x ≤ 90) ∨ (48 ≤ x ∧ x ≤ 57) ∨ x = 95 ∨ 128 ≤ x
    · rw [classOf_1 h3]
      repeat' split
      all_goals first | rfl | contradiction | (exfalso; omega)
    · rw [classOf_2 h h3]
      repeat' split
      all_goals first | rfl | contradiction | (exfalso; omega)

theorem textClass_eq {R : Type} (x : Int) (k : Int → Option R) : textClass_F x k = k (classOf x) := by
  rw [textClass_F_T]; unfold textClass_T
  by_cases h : x < 0
  · rw [decide_eq_true h, cond_true, classOf_2 (by omega) (by omega)]
  · by_cases h2 : x ≥ 128
    · rw [decide_eq_false h, decide_eq_true h2, classOf_1 (by omega)]; rfl
    · rw [decide_eq_false h, decide_eq_false h2]
      simp only [cond_false]
      exact textMade_eq x (by omega) _

/-- Where the blanks from an offset on end. -/
def blanksOf (l : List Int) (x : Nat) : Nat := x + ((l.drop x).takeWhile fun r => decide (classOf r = 0)).length

theorem blanksOf_hit {l : List Int} {x : Nat} (h : x < l.length) (h2 : classOf (l.getD x 0) ≠ 0) : blanksOf l x = x := by
  unfold blanksOf
  rw [getD_at h] at h2
  rw [List.drop_eq_getElem_cons h, List.takeWhile_cons]
  simp [h2]

theorem blanksOf_miss {l : List Int} {x : Nat} (h : x < l.length) (h2 : classOf (l.getD x 0) = 0) : blanksOf l x = blanksOf l (x + 1) := by
  unfold blanksOf
  rw [getD_at h] at h2
  rw [List.drop_eq_getElem_cons h, List.takeWhile_cons, if_pos (by simpa using h2)]
  simp only [List.length_cons]; omega

theorem blanksOf_over {l : List Int} {x : Nat} (h : l.length ≤ x) : blanksOf l x = x := by
  unfold blanksOf; simp [List.drop_eq_nil_of_le h]

theorem classOf_10 : classOf 10 = 2 := by decide

/-- A rune's number. -/
def isRune (x : Int) : Prop := 0 ≤ x ∧ x ≤ 1114111

theorem runeWrap {l : List Int} (hr : ∀ r ∈ l, isRune r) (x : Nat) : IntKind.wrap .i64 (l.getD x 0) = l.getD x 0 := by
  by_cases h : x < l.length
  · rw [getD_at h]
    have := hr _ (List.getElem_mem h)
    exact wrap64 (by have := this.1; omega) (by have := this.2; omega)
  · have e : l.getD x 0 = 0 := by simp [List.getD, List.getElem?_eq_none (Nat.le_of_not_lt h)]
    rw [e]; rfl

theorem refFirst_L {R : Type} (l : List Int) (hl : l.length < 1099511627776) (hr : ∀ r ∈ l, isRune r) (ke : Int → Option R) : ∀ (n x : Nat), 0 < n → l.length < n + x → refFirst_L2 n l (x : Int) ke = ke (blanksOf l x : Nat) := by
  intro n
  induction n with
  | zero => intro x h0; omega
  | succ n ih =>
    intro x _ hx
    simp only [refFirst_L2, refFirst_B2]
    by_cases h : x < l.length
    · rw [decide_eq_true (by omega : (x : Int) < (l.length : Int)), decide_eq_true (by omega : (0 : Int) ≤ (x : Int))]
      simp only [cond_true, Bool.and_true, Int.toNat_natCast, runeWrap hr]
      by_cases h2 : l.getD x 0 = 10
      · rw [h2, blanksOf_hit h (by rw [h2, classOf_10]; decide)]; rfl
      · have h3 : (l.getD x 0 != 10) = true := by simpa using h2
        rw [h3, cond_true, refClass_eq]
        by_cases h4 : classOf (l.getD x 0) = 0
        · rw [h4, beq_self_eq_true, cond_true, wrap64 (by omega) (by omega), blanksOf_miss h h4]
          have := ih (x + 1) (by omega) (by omega)
          simpa using this
        · rw [show (classOf (l.getD x 0) == 0) = false from by simpa using h4, cond_false, blanksOf_hit h h4]
    · rw [decide_eq_false (by omega : ¬ (x : Int) < (l.length : Int)), blanksOf_over (by omega)]; rfl

/-- The first rune of an offset's row that is no blank. -/
def firstOf (l : List Int) (x : Nat) : Nat := blanksOf l (beginOf l x)

theorem refFirst_eq {R : Type} (l : List Int) (hl : l.length < 1099511627776) (hr : ∀ r ∈ l, isRune r) (x : Nat) (hx : x ≤ l.length) (k : Int → Option R) : refFirst_F l (x : Int) k = k (firstOf l x : Nat) := by
  rw [refFirst_F_T]; unfold refFirst_T
  have := beginOf_le l x
  rw [refBegin_eq l (by omega) x hx, refFirst_M2_eq]
  exact refFirst_L l hl hr _ _ _ (by omega) (by omega)

theorem endOf_ge (l : List Int) (x : Nat) : x ≤ endOf l x := Nat.le_add_right _ _

theorem endOf_in (l : List Int) : ∀ (d x y : Nat), y - x = d → x ≤ y → y < endOf l x → y < l.length ∧ l.getD y 0 ≠ 10 ∧ endOf l y = endOf l x := by
  intro d
  induction d with
  | zero =>
    intro x y hd hxy h
    obtain rfl : x = y := by omega
    by_cases hx : x < l.length
    · refine ⟨hx, fun h2 => ?_, rfl⟩
      rw [endOf_hit hx h2] at h; omega
    · rw [endOf_over (by omega)] at h; omega
  | succ d ih =>
    intro x y hd hxy h
    by_cases hx : x < l.length
    · by_cases h2 : l.getD x 0 = 10
      · rw [endOf_hit hx h2] at h; omega
      · rw [endOf_miss hx h2] at h ⊢
        exact ih (x + 1) y (by omega) (by omega) h
    · rw [endOf_over (by omega)] at h; omega

theorem endOf_nl (l : List Int) : ∀ (d x : Nat), l.length - x = d → endOf l x < l.length → l.getD (endOf l x) 0 = 10 := by
  intro d
  induction d with
  | zero => intro x hd h; have := endOf_ge l x; omega
  | succ d ih =>
    intro x hd h
    by_cases h2 : l.getD x 0 = 10
    · rw [endOf_hit (by omega) h2]; exact h2
    · rw [endOf_miss (by omega) h2] at h ⊢
      exact ih (x + 1) (by omega) h

theorem beginOf_in (l : List Int) : ∀ (x y : Nat), beginOf l x ≤ y → y < x → l.getD y 0 ≠ 10
  | 0, y, _, h => by omega
  | x + 1, y, h, h2 => by
    rw [beginOf] at h
    by_cases h3 : l.getD x 0 = 10
    · rw [if_pos h3] at h; omega
    · rw [if_neg h3] at h
      rcases Nat.lt_or_eq_of_le (Nat.lt_succ_iff.1 h2) with h4 | rfl
      · exact beginOf_in l x y h h4
      · exact h3

theorem endOf_begin (l : List Int) (x : Nat) (hx : x ≤ l.length) : endOf l (beginOf l x) = endOf l x := by
  have : ∀ (d y : Nat), x - y = d → beginOf l x ≤ y → y ≤ x → endOf l y = endOf l x := by
    intro d
    induction d with
    | zero => intro y h1 h2 h3; rw [show y = x from by omega]
    | succ d ih =>
      intro y h1 h2 h3
      rw [endOf_miss (by omega) (beginOf_in l x y h2 (by omega))]
      exact ih (y + 1) (by omega) (by omega) (by omega)
  exact this _ _ rfl (Nat.le_refl _) (beginOf_le l x)

theorem rowOf_begin (l : List Int) : ∀ (x : Nat), x ≤ l.length → rowOf l (beginOf l x) = rowOf l x
  | 0, _ => rfl
  | x + 1, h => by
    rw [beginOf]
    by_cases h2 : l.getD x 0 = 10
    · rw [if_pos h2]
    · rw [if_neg h2, rowOf_succ (by omega), if_neg h2, rowOf_begin l x (by omega)]; rfl

theorem MapFirst_L {R : Type} (l : List Int) (hl : l.length < 1099511627776) (hr : ∀ r ∈ l, isRune r) (b : Nat) (hb : b ≤ l.length) (ke : Int → Option R) : ∀ (n x : Nat), 0 < n → l.length < n + x → b ≤ x → x ≤ endOf l b →
    MapFirst_L2 n l (begins l) (rowOf l b : Nat) (x : Int) ke = ke (blanksOf l x : Nat) := by
  intro n
  induction n with
  | zero => intro x h0; omega
  | succ n ih =>
    intro x _ hx hbx hxe
    simp only [MapFirst_L2, MapFirst_B2]
    rw [MapEnd_eq l hl b hb]
    have hle := endOf_le l b hb
    by_cases h : x < endOf l b
    · have hin := endOf_in l _ b x rfl hbx h
      rw [decide_eq_true (by omega : (x : Int) < ((endOf l b : Nat) : Int)), decide_eq_true (by omega : (x : Int) < (l.length : Int)), decide_eq_true (by omega : (0 : Int) ≤ (x : Int))]
      simp only [cond_true, Bool.and_true, Int.toNat_natCast, runeWrap hr]
      rw [textClass_eq]
      by_cases h4 : classOf (l.getD x 0) = 0
      · rw [h4, beq_self_eq_true, cond_true, wrap64 (by omega) (by omega), blanksOf_miss (by omega) h4]
        have := ih (x + 1) (by omega) (by omega) (by omega) (by omega)
        simpa using this
      · rw [show (classOf (l.getD x 0) == 0) = false from by simpa using h4, cond_false, blanksOf_hit (by omega) h4]
    · have e : x = endOf l b := by omega
      rw [decide_eq_false (by omega : ¬ (x : Int) < ((endOf l b : Nat) : Int)), cond_false]
      by_cases h5 : x < l.length
      · have := endOf_nl l _ b rfl (by omega)
        rw [blanksOf_hit h5 (by rw [e, this, classOf_10]; decide)]
      · rw [blanksOf_over (by omega)]

theorem MapFirst_eq {R : Type} (l : List Int) (hl : l.length < 1099511627776) (hr : ∀ r ∈ l, isRune r) (x : Nat) (hx : x ≤ l.length) (k : Int → Option R) : MapFirst_F l (begins l) (rowOf l x : Nat) k = k (firstOf l x : Nat) := by
  have hro := rowOf_le l x
  have hb : (begins l).length = (nls l 0).length + 1 := rfl
  have hbl := beginOf_le l x
  rw [MapFirst_F_T]; unfold MapFirst_T
  rw [decide_eq_true (by omega : (0 : Int) ≤ ((rowOf l x : Nat) : Int)), decide_eq_true (by omega : ((rowOf l x : Nat) : Int) < ((begins l).length : Int))]
  simp only [Bool.and_true, cond_true, Int.toNat_natCast]
  rw [begins_at l x hx, MapFirst_M2_eq, ← rowOf_begin l x hx]
  exact MapFirst_L l hl hr _ (by omega) _ _ _ (by omega) (by omega) (Nat.le_refl _) (by have := endOf_ge l (beginOf l x); omega)

theorem MapCol_eq {R : Type} (l : List Int) (hl : l.length < 1099511627776) (x : Nat) (hx : x ≤ l.length) (c : Nat) (hc : c < 1099511627776) (k : Int → Option R) :
    MapCol_F l (begins l) (rowOf l x : Nat) (c : Int) k = k ((min (beginOf l x + c) (endOf l x) : Nat) : Int) := by
  have hro := rowOf_le l x
  have hb : (begins l).length = (nls l 0).length + 1 := rfl
  have hbl := beginOf_le l x
  rw [MapCol_F_T]; unfold MapCol_T
  rw [decide_eq_true (by omega : (0 : Int) ≤ ((rowOf l x : Nat) : Int)), decide_eq_true (by omega : ((rowOf l x : Nat) : Int) < ((begins l).length : Int))]
  simp only [Bool.and_true, cond_true, Int.toNat_natCast]
  rw [begins_at l x hx, MapEnd_eq l hl x hx, mm_false, wrap64 (by omega) (by omega)]
  congr 1; omega

end Go.Proofs.YtleoffdjdgbanaaDoor

namespace Go.Proofs.YtleoffdjdgbanaaDoor
open Go Go.QA Go.Proofs

/-- A change and its error, as data. -/
structure Chg where
  pat : Int
  del : Int
  ins : Str
  cur : Int
  took : Str
  line : Bool
  err : Int

def Chg.ap {R : Type} (c : Chg) (k : Int → Int → Str → Int → Str → Bool → Int → Option R) : Option R := k c.pat c.del c.ins c.cur c.took c.line c.err

theorem mayOf_len {s : Str} (h : mayOf s = true) : s.length ≤ 4000 := by
  unfold mayOf at h
  simp only [Bool.and_eq_true, decide_eq_true_eq] at h
  exact h.1

theorem mayOf_valid {s : Str} (h : mayOf s = true) : Lib.validD s = true := by
  unfold mayOf at h
  simp only [Bool.and_eq_true] at h
  exact h.2.1

noncomputable def madeC (s x : Str) (cur : Int) : Chg :=
  bif mayOf x then ⟨(atOf (runesOf s) (runesOf x) : Nat), (delOf (runesOf s) (runesOf x) : Nat), insOf (runesOf s) (runesOf x), cur, [], false, 0⟩ else ⟨0, 0, [], 0, [], false, 4⟩

theorem changeMade_eq {R : Type} (s x : Str) (hs : s.length ≤ 1000000) (cur : Int) (k : Int → Int → Str → Int → Str → Bool → Int → Option R) : changeMade_F s x cur k = (madeC s x cur).ap k := by
  rw [changeMade_F_T]; unfold changeMade_T madeC
  rw [textMay_eq]
  cases h : mayOf x with
  | false => rfl
  | true =>
    have h1 := mayOf_len h
    have h2 := runesOf_length_le x
    have h3 := runesOf_length_le s
    simp only [Bool.not_true, cond_false, cond_true]
    rw [patchOf_eq s x (by omega) (by omega)]; rfl

theorem made18_eq {R : Type} (s x : Str) (hs : s.length ≤ 1000000) (cur : Int) (k : Int → Int → Str → Int → Str → Bool → Int → Option R) : made18_F s x cur k = (madeC s x cur).ap k := by
  rw [made18_F_T]; unfold made18_T madeC
  rw [refMay1_eq]
  cases h : mayOf x with
  | false => rfl
  | true =>
    have h1 := mayOf_len h
    have h2 := runesOf_length_le x
    have h3 := runesOf_length_le s
    simp only [Bool.not_true, cond_false, cond_true]
    rw [refBetween4_eq s x (by omega) (by omega)]; rfl

/-! ### places -/

def isB (l : List Int) (x : Int) : Bool := decide (0 ≤ x ∧ x ≤ (l.length : Int))

theorem isB_nat {l : List Int} {x : Int} (h : isB l x = true) : ∃ n : Nat, x = (n : Int) ∧ n ≤ l.length := by
  unfold isB at h
  simp only [decide_eq_true_eq] at h
  exact ⟨x.toNat, by omega, by omega⟩

theorem MapIs_eq {R : Type} (l m : List Int) (x : Int) (k : Bool → Option R) : MapIs_F l m x k = k (isB l x) := by
  rw [MapIs_F_T]; unfold MapIs_T isB
  by_cases h : 0 ≤ x
  · rw [decide_eq_true (by omega : x ≥ 0), cond_true]
    congr 1
    rw [decide_eq_decide]; omega
  · rw [decide_eq_false (by omega : ¬ x ≥ 0), cond_false, decide_eq_false (by omega)]

theorem refNum_eq {R : Type} (x y : Int) (k : Bool → Option R) : refNum_F x y k = k (decide (0 ≤ x ∧ x ≤ y)) := by
  rw [refNum_F_T]; unfold refNum_T
  by_cases h : 0 ≤ x
  · rw [decide_eq_true (by omega : x ≥ 0), cond_true]
    congr 1
    rw [decide_eq_decide]; omega
  · rw [decide_eq_false (by omega : ¬ x ≥ 0), cond_false, decide_eq_false (by omega)]

theorem refBetween0_eq {R : Type} (x y z : Int) (k : Bool → Option R) : refBetween0_F x y z k = k (decide (y ≤ x ∧ x ≤ z)) := by
  rw [refBetween0_F_T]; unfold refBetween0_T
  by_cases h : y ≤ x
  · rw [decide_eq_true (by omega : x ≥ y), cond_true]
    congr 1
    rw [decide_eq_decide]; omega
  · rw [decide_eq_false (by omega : ¬ x ≥ y), cond_false, decide_eq_false (by omega)]

/-- May a range be? -/
def rangeB (l : List Int) (x y : Int) (b : Bool) : Bool :=
  decide (0 ≤ x ∧ x ≤ y ∧ y ≤ (l.length : Int) ∧ (b = true → (beginOf l x.toNat : Int) = x ∧ (endOf l y.toNat : Int) = y))

theorem rangeB_iff {l : List Int} {x y : Int} {b : Bool} : rangeB l x y b = true ↔ (0 ≤ x ∧ x ≤ y ∧ y ≤ (l.length : Int) ∧ (b = true → (beginOf l x.toNat : Int) = x ∧ (endOf l y.toNat : Int) = y)) := by
  unfold rangeB; rw [decide_eq_true_eq]

theorem changeMay_eq {R : Type} (l : List Int) (hl : l.length < 1099511627776) (x y : Int) (b : Bool) (k : Bool → Option R) : changeMay_F l (begins l) x y b k = k (rangeB l x y b) := by
  rw [changeMay_F_T]; unfold changeMay_T
  rw [MapIs_eq]
  cases h1 : isB l x with
  | false =>
    simp only [Bool.not_false, cond_true]
    unfold isB at h1; rw [decide_eq_false_iff_not] at h1
    unfold rangeB; rw [decide_eq_false (by omega)]
  | true =>
    simp only [Bool.not_true, cond_false]
    rw [MapIs_eq]
    cases h2 : isB l y with
    | false =>
      simp only [Bool.not_false, cond_true]
      unfold isB at h2; rw [decide_eq_false_iff_not] at h2
      unfold rangeB; rw [decide_eq_false]
      intro h; unfold isB at h1; rw [decide_eq_true_eq] at h1; omega
    | true =>
      simp only [Bool.not_true, cond_false]
      obtain ⟨n, rfl, hn⟩ := isB_nat h1
      obtain ⟨m, rfl, hm⟩ := isB_nat h2
      unfold rangeB
      simp only [Int.toNat_natCast]
      by_cases h3 : m < n
      · rw [decide_eq_true (by omega : ((n : Nat) : Int) > (m : Int)), cond_true, decide_eq_false (by omega)]
      · rw [decide_eq_false (by omega : ¬ ((n : Nat) : Int) > (m : Int)), cond_false]
        cases b with
        | false =>
          simp only [Bool.not_false, cond_true]
          rw [decide_eq_true]
          exact ⟨by omega, by omega, by omega, fun e => by cases e⟩
        | true =>
          have hro := rowOf_le l n
          have hb : (begins l).length = (nls l 0).length + 1 := rfl
          simp only [Bool.not_true, cond_false]
          rw [MapRow_eq l l hl, decide_eq_true (by omega : (0 : Int) ≤ ((rowOf l n : Nat) : Int)), decide_eq_true (by omega : ((rowOf l n : Nat) : Int) < ((begins l).length : Int))]
          simp only [Bool.and_true, cond_true, Int.toNat_natCast]
          rw [begins_at l n hn]
          by_cases h4 : n = beginOf l n
          · rw [show ((n : Int) == ((beginOf l n : Nat) : Int)) = true from by rw [← h4]; simp, cond_true, MapRow_eq l l hl, MapEnd_eq l hl m hm]
            congr 1
            rw [Bool.eq_iff_iff, beq_iff_eq, decide_eq_true_eq]
            constructor
            · intro e; exact ⟨by omega, by omega, by omega, fun _ => ⟨by omega, by omega⟩⟩
            · rintro ⟨_, _, _, e⟩; have := (e trivial).2; omega
          · rw [show ((n : Int) == ((beginOf l n : Nat) : Int)) = false from by simpa using fun e => h4 (by omega), cond_false, decide_eq_false]
            rintro ⟨_, _, _, e⟩; have := (e trivial).1; omega

theorem refRange_eq {R : Type} (l : List Int) (hl : l.length < 1099511627776) (x y : Int) (b : Bool) (k : Bool → Option R) : refRange_F l x y b k = k (rangeB l x y b) := by
  rw [refRange_F_T]; unfold refRange_T
  rw [refNum_eq]
  by_cases h1 : 0 ≤ x ∧ x ≤ (l.length : Int)
  · rw [decide_eq_true h1]
    simp only [Bool.not_true, cond_false]
    rw [refBetween0_eq]
    by_cases h2 : x ≤ y ∧ y ≤ (l.length : Int)
    · rw [decide_eq_true h2]
      simp only [Bool.not_true, cond_false]
      obtain ⟨n, rfl⟩ : ∃ n : Nat, x = (n : Int) := ⟨x.toNat, by omega⟩
      obtain ⟨m, rfl⟩ : ∃ m : Nat, y = (m : Int) := ⟨y.toNat, by omega⟩
      unfold rangeB
      simp only [Int.toNat_natCast]
      cases b with
      | false =>
        simp only [Bool.not_false, cond_true]
        rw [decide_eq_true]
        exact ⟨by omega, by omega, by omega, fun e => by cases e⟩
      | true =>
        simp only [Bool.not_true, cond_false]
        rw [refBegin_eq l (by omega) n (by omega)]
        by_cases h4 : beginOf l n = n
        · rw [show (((beginOf l n : Nat) : Int) == (n : Int)) = true from by rw [h4]; simp, cond_true, refEnd_eq l (by omega)]
          congr 1
          rw [Bool.eq_iff_iff, beq_iff_eq, decide_eq_true_eq]
          constructor
          · intro e; exact ⟨by omega, by omega, by omega, fun _ => ⟨by omega, by omega⟩⟩
          · rintro ⟨_, _, _, e⟩; have := (e trivial).2; omega
        · rw [show (((beginOf l n : Nat) : Int) == (n : Int)) = false from by simpa using fun e => h4 (by omega), cond_false, decide_eq_false]
          rintro ⟨_, _, _, e⟩; have := (e trivial).1; omega
    · rw [decide_eq_false h2]
      simp only [Bool.not_false, cond_true]
      unfold rangeB; rw [decide_eq_false (by omega)]
  · rw [decide_eq_false h1]
    simp only [Bool.not_false, cond_true]
    unfold rangeB; rw [decide_eq_false (by omega)]

/-! ### keys -/

/-- Where a number is in a list; -1: nowhere. -/
def inOf : List Int → Int → Nat → Int
  | [], _, _ => -1
  | y :: t, x, i => if y = x then (i : Int) else inOf t x (i + 1)

theorem refIn_L {R : Type} (l : List Int) (hl : l.length < 1099511627776) (x : Int) (ke0 : Int → Option R) : ∀ (n i : Nat), 0 < n → l.length < n + i → refIn_L2 n l x (i : Int) ke0 (ke0 (-1)) = ke0 (inOf (l.drop i) x i) := by
  intro n
  induction n with
  | zero => intro i h0; omega
  | succ n ih =>
    intro i _ hx
    simp only [refIn_L2, refIn_B2]
    by_cases h : i < l.length
    · rw [decide_eq_true (by omega : (i : Int) < (l.length : Int)), decide_eq_true (by omega : (0 : Int) ≤ (i : Int)), List.drop_eq_getElem_cons h, inOf]
      simp only [cond_true, Bool.and_true, Int.toNat_natCast, getD_at h]
      by_cases h2 : l[i] = x
      · rw [if_pos h2, h2, beq_self_eq_true, cond_true]
      · rw [if_neg h2, show (l[i] == x) = false from by simpa using h2, cond_false, wrap64 (by omega) (by omega)]
        exact ih (i + 1) (by omega) (by omega)
    · rw [decide_eq_false (by omega : ¬ (i : Int) < (l.length : Int)), List.drop_eq_nil_of_le (by omega)]; rfl

theorem refIn_eq {R : Type} (l : List Int) (hl : l.length < 1099511627776) (x : Int) (k : Int → Option R) : refIn_F l x k = k (inOf l x 0) := by
  rw [refIn_F_T]; unfold refIn_T
  rw [refIn_M2_eq]
  exact refIn_L l hl x _ 4611686018427387904 0 (by omega) (by omega)

theorem inOf_ge (x : Int) : ∀ (l : List Int) (i : Nat), (inOf l x i ≥ 0) ↔ x ∈ l
  | [], i => by simp [inOf]
  | y :: t, i => by
    unfold inOf
    by_cases h : y = x
    · rw [if_pos h]; simp [h]
    · rw [if_neg h, inOf_ge x t (i + 1), List.mem_cons]
      exact ⟨.inr, fun e => e.elim (fun e => absurd e.symm h) id⟩

/-- Is it a key of a change? -/
def keyB (x : Int) : Bool := decide (x ∈ [100, 99, 121, 62, 60, 16777333, 16777301, 16777342])

theorem refKey_eq {R : Type} (x : Int) (k : Bool → Option R) : refKey_F x k = k (keyB x) := by
  rw [refKey_F_T]; unfold refKey_T
  rw [refIn_eq _ (by simp)]
  congr 1
  unfold keyB
  rw [decide_eq_decide]
  exact inOf_ge x _ 0

theorem changeIs_eq {R : Type} (x : Int) (k : Bool → Option R) : changeIs_F x k = k (keyB x) := by
  rw [changeIs_F_T]; unfold changeIs_T keyB
  simp only [cond_eq_ite, beq_iff_eq]
  repeat' split
  all_goals first
    | (rw [decide_eq_true]; simp only [List.mem_cons, List.not_mem_nil, or_false]; omega)
    | (rw [decide_eq_false]; simp only [List.mem_cons, List.not_mem_nil, or_false]; omega)

/-! ### where the cursor stands -/

def standsOf (l : List Int) (low : Nat) (line : Bool) (at' : Nat) : Nat :=
  bif line then restOf l (min (low + (at' - beginOf l at')) (endOf l low)) else restOf l low

theorem changeStands_eq {R : Type} (l : List Int) (hl : l.length < 1099511627776) (low : Nat) (hlow : low ≤ l.length) (y : Int) (b : Bool) (hb : b = true → beginOf l low = low) (at' : Nat) (hat : at' ≤ l.length) (k : Int → Option R) :
    changeStands_F l (begins l) (low : Int) y b (at' : Int) k = k (standsOf l low b at' : Nat) := by
  rw [changeStands_F_T]; unfold changeStands_T standsOf
  cases b with
  | false =>
    simp only [Bool.not_false, cond_true, cond_false]
    rw [MapRest_eq l hl low hlow]
  | true =>
    simp only [Bool.not_true, cond_true, cond_false]
    have hro := rowOf_le l at'
    have hbl : (begins l).length = (nls l 0).length + 1 := rfl
    have h1 := beginOf_le l at'
    have h2 := endOf_le l low hlow
    rw [MapRow_eq l l hl, MapRow_eq l l hl, decide_eq_true (by omega : (0 : Int) ≤ ((rowOf l at' : Nat) : Int)), decide_eq_true (by omega : ((rowOf l at' : Nat) : Int) < ((begins l).length : Int))]
    simp only [Bool.and_true, cond_true, Int.toNat_natCast]
    rw [begins_at l at' hat, wrap64 (by omega) (by omega), show ((at' : Int) - ((beginOf l at' : Nat) : Int)) = ((at' - beginOf l at' : Nat) : Int) from by omega, MapCol_eq l hl low hlow _ (by omega), hb rfl, MapRest_eq l hl _ (by omega)]

theorem refColumn_eq {R : Type} (l : List Int) (hl : l.length < 1099511627776) (low : Nat) (hlow : low ≤ l.length) (at' : Nat) (hat : at' ≤ l.length) (k : Int → Option R) :
    refColumn_F l (low : Int) (at' : Int) k = k (standsOf l low true at' : Nat) := by
  have h1 := beginOf_le l at'
  have h2 := endOf_le l low hlow
  rw [refColumn_F_T]; unfold refColumn_T standsOf
  rw [refEnd_eq l (by omega), refBegin_eq l (by omega) at' hat, mm_false, wrap64 (x := (low : Int) + at') (by omega) (by omega), wrap64 (by omega) (by omega)]
  simp only [cond_true]
  rw [show (min ((endOf l low : Nat) : Int) ((low : Int) + (at' : Int) - ((beginOf l at' : Nat) : Int))) = ((min (low + (at' - beginOf l at')) (endOf l low) : Nat) : Int) from by omega, refRest_eq l hl _ (by omega)]

end Go.Proofs.YtleoffdjdgbanaaDoor

namespace Go.Proofs.YtleoffdjdgbanaaDoor
open Go Go.QA Go.Proofs

/-- Where the piece that goes away begins and ends: a row's end goes too. -/
def loOf (l : List Int) (low high : Nat) (b : Bool) : Nat := bif b then (if high < l.length then low else low - 1) else low
def hiOf (l : List Int) (high : Nat) (b : Bool) : Nat := bif b then (if high < l.length then high + 1 else high) else high
/-- What is left. -/
def leftOf (l : List Int) (low high : Nat) (b : Bool) : List Int := l.take (loOf l low high b) ++ l.drop (hiOf l high b)

theorem room (l : List Int) (hl : l.length < 1099511627776) (a b : Nat) : (strOf (l.take a)).length + (strOf (l.drop b)).length ≤ 9223372036854775807 := by
  have h1 := strOf_length_le (l.take a)
  have h2 := strOf_length_le (l.drop b)
  rw [List.length_take] at h1
  rw [List.length_drop] at h2
  omega

theorem changeGone_eq {R : Type} (l m : List Int) (hl : l.length < 1099511627776) (low high : Nat) (h1 : low ≤ high) (h2 : high ≤ l.length) (b : Bool) (k : Str → Option R) :
    changeGone_F l m (low : Int) (high : Int) b k = k (strOf (leftOf l low high b)) := by
  rw [changeGone_F_T]; unfold changeGone_T leftOf loOf hiOf
  rw [strOf_append]
  cases b with
  | false =>
    simp only [Bool.not_false, cond_true, cond_false, Int.toNat_natCast, List.drop_zero, List.take_length]
    rw [decide_eq_true (by omega : (0 : Int) ≤ (low : Int)), decide_eq_true (by omega : (low : Int) ≤ (l.length : Int)), decide_eq_true (by omega : (0 : Int) ≤ (high : Int)), decide_eq_true (by omega : (high : Int) ≤ (l.length : Int)), decide_eq_true (room l hl low high)]
    rfl
  | true =>
    simp only [Bool.not_true, cond_true, cond_false, Int.toNat_natCast, List.drop_zero, List.take_length]
    by_cases h : high < l.length
    · rw [decide_eq_true (by omega : (high : Int) < (l.length : Int)), if_pos h, if_pos h, wrap64 (by omega) (by omega), show ((high : Int) + 1).toNat = high + 1 from by omega]
      rw [decide_eq_true (by omega : (0 : Int) ≤ (low : Int)), decide_eq_true (by omega : (low : Int) ≤ (l.length : Int)), decide_eq_true (by omega : (0 : Int) ≤ (high : Int) + 1), decide_eq_true (by omega : (high : Int) + 1 ≤ (l.length : Int)), decide_eq_true (room l hl low (high + 1))]
      rfl
    · rw [decide_eq_false (by omega : ¬ (high : Int) < (l.length : Int)), if_neg h, if_neg h, cond_false]
      by_cases h0 : 0 < low
      · rw [decide_eq_true (by omega : (low : Int) > 0), wrap64 (by omega) (by omega), show ((low : Int) - 1).toNat = low - 1 from by omega]
        rw [decide_eq_true (by omega : (0 : Int) ≤ (low : Int) - 1), decide_eq_true (by omega : (low : Int) - 1 ≤ (l.length : Int)), decide_eq_true (by omega : (0 : Int) ≤ (high : Int)), decide_eq_true (by omega : (high : Int) ≤ (l.length : Int)), decide_eq_true (room l hl (low - 1) high)]
        rfl
      · obtain rfl : low = 0 := by omega
        rw [decide_eq_false (by omega : ¬ ((0 : Nat) : Int) > 0)]
        rw [decide_eq_true (by omega : (0 : Int) ≤ ((0 : Nat) : Int)), decide_eq_true (by omega : ((0 : Nat) : Int) ≤ (l.length : Int)), decide_eq_true (by omega : (0 : Int) ≤ (high : Int)), decide_eq_true (by omega : (high : Int) ≤ (l.length : Int)), decide_eq_true (room l hl 0 high)]
        rfl

theorem leftOf_scal {l : List Int} (h : scalL l) (low high : Nat) (b : Bool) : scalL (leftOf l low high b) :=
  scalL_append.2 ⟨h.take _, h.drop _⟩

theorem leftOf_length (l : List Int) (low high : Nat) (b : Bool) : (leftOf l low high b).length ≤ 2 * l.length := by
  unfold leftOf; rw [List.length_append, List.length_take, List.length_drop]; omega

/-- Where the cursor is behind it. -/
def afterOf (l : List Int) (low high : Nat) (b : Bool) : Nat :=
  let y := leftOf l low high b
  bif b then restOf y (firstOf y (min low y.length)) else restOf y low

theorem rowOf_all (l : List Int) (x : Nat) (h : l.length ≤ x) : rowOf l x = l.countP (· == 10) := by
  unfold rowOf; rw [List.take_of_length_le h]

theorem rowOf_left (l : List Int) (low high : Nat) (h1 : low ≤ high) (h2 : high ≤ l.length) :
    rowOf (leftOf l low high true) (min low (leftOf l low high true).length) = min (rowOf l low) ((begins (leftOf l low high true)).length - 1) := by
  have hb : ∀ y : List Int, (begins y).length - 1 = y.countP (· == 10) := fun y => by
    show (nls y 0).length + 1 - 1 = _
    rw [nls_length]; omega
  rw [hb]
  unfold leftOf loOf hiOf
  simp only [cond_true]
  by_cases h : high < l.length
  · rw [if_pos h, if_pos h]
    have e : min low (l.take low ++ l.drop (high + 1)).length = low := by rw [List.length_append, List.length_take]; omega
    rw [e]
    unfold rowOf
    rw [List.take_append_of_le_length (by rw [List.length_take]; omega), List.take_take, Nat.min_self, List.countP_append]
    omega
  · rw [if_neg h, if_neg h, List.drop_eq_nil_of_le (by omega), List.append_nil]
    have e : (l.take (low - 1)).length = low - 1 := by rw [List.length_take]; omega
    rw [rowOf_all _ _ (by omega)]
    have : (l.take (low - 1)).countP (· == 10) ≤ rowOf l low := by
      unfold rowOf
      exact List.Sublist.countP_le (by
        rw [show l.take (low - 1) = (l.take low).take (low - 1) from by rw [List.take_take]; congr 1; omega]
        exact List.take_sublist _ _)
    omega

theorem rune_of_scal {l : List Int} (h : scalL l) : ∀ r ∈ l, isRune r := by
  intro r hr
  have := h r hr
  unfold scal at this; unfold isRune; omega

theorem blanksOf_le (l : List Int) (x : Nat) (hx : x ≤ l.length) : blanksOf l x ≤ l.length := by
  unfold blanksOf
  have := (List.takeWhile_sublist (l := l.drop x) fun r => decide (classOf r = 0)).length_le
  rw [List.length_drop] at this
  omega

theorem firstOf_le (l : List Int) (x : Nat) (hx : x ≤ l.length) : firstOf l x ≤ l.length :=
  blanksOf_le l _ (Nat.le_trans (beginOf_le l x) hx)

theorem mm_min (a b : Nat) : mm false (a : Int) (b : Int) = ((min a b : Nat) : Int) := by rw [mm_false]; omega

theorem MapRows_eq {R : Type} (l m : List Int) (k : Int → Option R) : MapRows_F l m k = k (m.length : Int) := by
  rw [MapRows_F_T]; rfl

theorem changeTaken_eq {R : Type} (s : Str) (hs : s.length ≤ 1000000) (l : List Int) (hl : l.length < 1000000000) (hsc : scalL l) (low high : Nat) (h1 : low ≤ high) (h2 : high ≤ l.length) (b : Bool)
    (k : Int → Int → Str → Int → Str → Bool → Int → Option R) :
    changeTaken_F s l (begins l) (low : Int) (high : Int) b k = (madeC s (strOf (leftOf l low high b)) (afterOf l low high b : Nat)).ap k := by
  rw [changeTaken_F_T]; unfold changeTaken_T afterOf
  have hls := leftOf_scal hsc low high b
  have hll := leftOf_length l low high b
  rw [changeGone_eq l _ (by omega) low high h1 h2, textOf_eq _ (by rw [runesOf_strOf hls]; omega), runesOf_strOf hls]
  cases b with
  | false =>
    simp only [cond_false]
    have hle : low ≤ (leftOf l low high false).length := by
      unfold leftOf loOf hiOf; simp only [cond_false]; rw [List.length_append, List.length_take, List.length_drop]; omega
    rw [MapRest_eq _ (by omega) low hle, changeMade_eq _ _ hs]
  | true =>
    simp only [cond_true]
    have hc : (begins (leftOf l low high true)).length = (nls (leftOf l low high true) 0).length + 1 := rfl
    have hbl : (nls (leftOf l low high true) 0).length ≤ (leftOf l low high true).length := by rw [nls_length]; exact List.countP_le_length
    rw [MapRow_eq l l (by omega), MapRows_eq, wrap64 (by omega) (by omega), show (((begins (leftOf l low high true)).length : Int) - 1) = (((begins (leftOf l low high true)).length - 1 : Nat) : Int) from by omega, mm_min, ← rowOf_left l low high h1 h2]
    have hm : min low (leftOf l low high true).length ≤ (leftOf l low high true).length := Nat.min_le_right _ _
    rw [MapFirst_eq _ (by omega) (rune_of_scal hls) _ hm, MapRest_eq _ (by omega) _ (firstOf_le _ _ hm), changeMade_eq _ _ hs]

def Chg.with (c : Chg) (took : Str) (line : Bool) : Chg := ⟨c.pat, c.del, c.ins, c.cur, took, line, c.err⟩

theorem Chg.ap_with {R : Type} (c : Chg) (took : Str) (line : Bool) (k : Int → Int → Str → Int → Str → Bool → Int → Option R) : c.ap (fun a b x d _ _ e => k a b x d took line e) = (c.with took line).ap k := rfl

theorem refTidy_eq {R : Type} (s : Str) (hl : (runesOf s).length < 1099511627776) (x : Nat) (hx : x ≤ (runesOf s).length) (k : Int → Option R) : refTidy_F s (x : Int) k = k (restOf (runesOf s) (firstOf (runesOf s) x) : Nat) := by
  rw [refTidy_F_T]; unfold refTidy_T
  rw [refFirst_eq _ hl (rune_of_scal (runesOf_scal s)) x hx, refRest_eq _ hl _ (firstOf_le _ _ hx)]

theorem refDeleted_tail {R : Type} (s : Str) (hs : s.length ≤ 1000000) (y : List Int) (hy : y.length < 1000000000000) (hsc : scalL y) (b : Bool) (low lo : Nat) (hlo : lo ≤ y.length) (hb : b = false → lo = low) (took : Str) (x : Str) (hx : x = strOf y)
    (k : Int → Int → Str → Int → Str → Bool → Int → Option R) :
    refRest_F (runesOf x) (lo : Int) (fun x5 => (bif b then
      refTidy_F x (mm false (low : Int) ((runesOf x).length : Int)) (fun x6 => made18_F s x x6 (fun x7 x8 s9 x10 _ _ x13 => k x7 x8 s9 x10 took b x13))
     else made18_F s x x5 (fun x14 x15 s16 x17 _ _ x20 => k x14 x15 s16 x17 took b x20))) =
    ((madeC s x ((bif b then restOf y (firstOf y (min low y.length)) else restOf y low : Nat) : Int)).with took b).ap k := by
  subst hx
  rw [runesOf_strOf hsc, refRest_eq y (by omega) lo hlo]
  cases b with
  | false =>
    simp only [cond_false]
    rw [made18_eq _ _ hs, hb rfl]; rfl
  | true =>
    simp only [cond_true]
    have hm : min low y.length ≤ y.length := Nat.min_le_right _ _
    rw [mm_min, refTidy_eq _ (by rw [runesOf_strOf hsc]; omega) _ (by rw [runesOf_strOf hsc]; exact hm), made18_eq _ _ hs, runesOf_strOf hsc]; rfl

theorem refDeleted_eq {R : Type} (s : Str) (hs : s.length ≤ 1000000) (l : List Int) (hl : l.length < 1000000000) (hsc : scalL l) (low high : Nat) (h1 : low ≤ high) (h2 : high ≤ l.length) (b : Bool)
    (k : Int → Int → Str → Int → Str → Bool → Int → Option R) :
    refDeleted_F s l (low : Int) (high : Int) b k = ((madeC s (strOf (leftOf l low high b)) (afterOf l low high b : Nat)).with (strOf ((l.take high).drop low)) b).ap k := by
  rw [refDeleted_F_T]; unfold refDeleted_T
  have hls := leftOf_scal hsc low high b
  have hll := leftOf_length l low high b
  have hlo : loOf l low high b ≤ (leftOf l low high b).length := by
    unfold leftOf; rw [List.length_append, List.length_take]
    have : loOf l low high b ≤ low := by unfold loOf; cases b <;> simp only [cond_true, cond_false] <;> (try split) <;> omega
    omega
  have key := fun hb x hx => refDeleted_tail s hs (leftOf l low high b) (by omega) hls b low (loOf l low high b) hlo hb (strOf ((l.take high).drop low)) x hx k
  have hr : ∀ a b : Nat, decide ((strOf (l.take a)).length + (strOf (l.drop b)).length ≤ 9223372036854775807) = true := fun a b => decide_eq_true (room l (by omega) a b)
  simp only [Int.toNat_natCast, List.drop_zero, List.take_length]
  rw [decide_eq_true (by omega : (0 : Int) ≤ (low : Int)), decide_eq_true (by omega : (low : Int) ≤ (l.length : Int)), decide_eq_true (by omega : (0 : Int) ≤ (high : Int)), decide_eq_true (by omega : (high : Int) ≤ (l.length : Int)), decide_eq_true (by omega : (low : Int) ≤ (high : Int))]
  simp only [Bool.and_true, cond_true]
  cases b with
  | false =>
    simp only [cond_false]
    simp only [hr, cond_true]
    refine Eq.trans ?_ (key (fun _ => rfl) _ rfl)
    unfold leftOf loOf hiOf
    simp only [cond_false, strOf_append]
  | true =>
    simp only [cond_true]
    by_cases h : high < l.length
    · rw [decide_eq_true (by omega : (high : Int) < (l.length : Int)), wrap64 (by omega) (by omega), show ((high : Int) + 1).toNat = high + 1 from by omega, decide_eq_true (by omega : (0 : Int) ≤ (high : Int) + 1), decide_eq_true (by omega : (high : Int) + 1 ≤ (l.length : Int))]
      simp only [hr, Bool.and_true, cond_true]
      refine Eq.trans ?_ (key (fun e => by cases e) _ rfl)
      unfold leftOf loOf hiOf
      simp only [cond_true, if_pos h, strOf_append]
    · rw [decide_eq_false (by omega : ¬ (high : Int) < (l.length : Int)), cond_false]
      by_cases h0 : 0 < low
      · rw [decide_eq_true (by omega : (low : Int) > 0), wrap64 (by omega) (by omega), show ((low : Int) - 1).toNat = low - 1 from by omega, decide_eq_true (by omega : (0 : Int) ≤ (low : Int) - 1), decide_eq_true (by omega : (low : Int) - 1 ≤ (l.length : Int))]
        simp only [hr, Bool.and_true, cond_true]
        refine Eq.trans ?_ (key (fun e => by cases e) _ rfl)
        unfold leftOf loOf hiOf
        simp only [cond_true, if_neg h, strOf_append]
        rw [show ((low - 1 : Nat) : Int) = (low : Int) - 1 from by omega]
      · obtain rfl : low = 0 := by omega
        rw [decide_eq_false (by omega : ¬ ((0 : Nat) : Int) > 0)]
        simp only [hr, cond_true, cond_false]
        refine Eq.trans ?_ (key (fun e => by cases e) _ rfl)
        unfold leftOf loOf hiOf
        simp only [cond_true, if_neg h, strOf_append]

end Go.Proofs.YtleoffdjdgbanaaDoor

set_option linter.unusedVariables false
namespace Go.Proofs.YtleoffdjdgbanaaDoor
open Go Go.QA Go.Proofs

theorem num18_eq {R : Type} (x : Int) (k : Int → Option R) : num18_F x k = k x := by rw [num18_F_T]; rfl

/-- What came in is no longer than memory lets it be. -/
def Sized (q : List Str) : Prop := q.length ≤ 140737488355328 ∧ ∀ s ∈ q, s.length ≤ 140737488355328

theorem getD_mem {q : List Str} {i : Nat} (h : i < q.length) : q.getD i [] ∈ q := by
  rw [show q.getD i [] = q[i] from by simp [List.getD, h]]
  exact List.getElem_mem h

/-- The texts' lengths and how many there are, together, from a text on. -/
def weigh : List Str → Nat
  | [] => 0
  | s :: r => s.length + weigh r

theorem weigh_mem : ∀ (q : List Str) (s : Str), s ∈ q → s.length ≤ weigh q
  | [], s, h => by cases h
  | t :: r, s, h => by
    rw [weigh]
    rcases List.mem_cons.1 h with rfl | h
    · omega
    · have := weigh_mem r s h; omega

theorem lawTexts_L {R : Type} (q : List Str) (hq : Sized q) (ke0 : Int → Option R) : ∀ (n i a : Nat), 0 < n → q.length < n + i → a < 141000000000000 →
    ∃ w : Nat, lawTexts_L3 n q (a : Int) (i : Int) ke0 = ke0 (w : Int) ∧ (w ≤ 6000 → a + weigh (q.drop i) ≤ w) := by
  intro n
  induction n with
  | zero => intro i a h0; omega
  | succ n ih =>
    intro i a _ hx ha
    simp only [lawTexts_L3, lawTexts_B3]
    by_cases h : i < q.length
    · rw [decide_eq_true (by omega : (i : Int) < (q.length : Int))]
      by_cases h2 : a < 1048576
      · rw [decide_eq_true (by omega : (a : Int) < 1048576), decide_eq_true (by omega : (0 : Int) ≤ (i : Int))]
        simp only [Bool.and_true, cond_true, Int.toNat_natCast]
        have hs := hq.2 _ (getD_mem h)
        have hq1 := hq.1
        rw [wrap64 (by omega) (by omega), wrap64 (by omega) (by omega)]
        obtain ⟨w, hw1, hw2⟩ := ih (i + 1) (a + (q.getD i []).length) (by omega) (by omega) (by omega)
        refine ⟨w, by simpa using hw1, fun h3 => ?_⟩
        have := hw2 h3
        rw [List.drop_eq_getElem_cons h, weigh]
        have e : q.getD i [] = q[i] := by simp [List.getD, h]
        rw [e] at this
        omega
      · rw [decide_eq_false (by omega : ¬ (a : Int) < 1048576)]
        exact ⟨a, rfl, fun h3 => by omega⟩
    · rw [decide_eq_false (by omega : ¬ (i : Int) < (q.length : Int)), List.drop_eq_nil_of_le (by omega)]
      exact ⟨a, rfl, fun _ => by simp [weigh]⟩

/-- It weighs much, or each text is short. -/
theorem lawHeavy10_eq {R : Type} (q : List Str) (hq : Sized q) (x1 x2 x3 x4 x5 x6 x7 : Int) (k : Bool → Option R) :
    lawHeavy10_F q x1 x2 x3 x4 x5 x6 x7 k = k true ∨ (lawHeavy10_F q x1 x2 x3 x4 x5 x6 x7 k = k false ∧ q.length ≤ 6000 ∧ ∀ s ∈ q, s.length ≤ 6000) := by
  obtain ⟨w, hw1, hw2⟩ := lawTexts_L q hq (fun x5 => k (decide (x5 > (6000 : Int)))) 4611686018427387904 0 q.length (by omega) (by have := hq.1; omega) (by have := hq.1; omega)
  have key : lawHeavy10_F q x1 x2 x3 x4 x5 x6 x7 k = k (decide ((w : Int) > 6000)) := by
    rw [lawHeavy10_F_T]; unfold lawHeavy10_T
    rw [lawHeavy1_F_T]; unfold lawHeavy1_T
    rw [lawTexts_F_T]; unfold lawTexts_T
    rw [lawTexts_M3_eq]
    exact hw1
  rw [key]
  rw [List.drop_zero] at hw2
  by_cases h : (w : Int) > 6000
  · rw [decide_eq_true h]; exact .inl rfl
  · rw [decide_eq_false h]
    have := hw2 (by omega)
    refine .inr ⟨rfl, by omega, fun s hs => ?_⟩
    have := weigh_mem q s hs
    omega

theorem wrapu {x : Int} : 0 ≤ IntKind.wrap .u64 x ∧ IntKind.wrap .u64 x < 18446744073709551616 := by
  simp only [IntKind.wrap, IntKind.bits, IntKind.signed, Bool.false_and]
  constructor
  · exact Int.emod_nonneg _ (by decide)
  · exact Int.emod_lt_of_pos _ (by decide)

theorem wrapu_id {x : Int} (h0 : 0 ≤ x) (h1 : x < 18446744073709551616) : IntKind.wrap .u64 x = x := by
  simp only [IntKind.wrap, IntKind.bits, IntKind.signed, Bool.false_and]
  exact Int.emod_eq_of_lt h0 h1

/-- A number brought within bounds. -/
def withinOf (x : Int) (n : Nat) : Nat := ((IntKind.wrap .u64 x) % ((n : Int) + 1)).toNat

theorem withinOf_le (x : Int) (n : Nat) : withinOf x n ≤ n := by
  unfold withinOf
  have h1 := Int.emod_nonneg (IntKind.wrap .u64 x) (show ((n : Int) + 1) ≠ 0 by omega)
  have h2 := Int.emod_lt_of_pos (IntKind.wrap .u64 x) (show 0 < ((n : Int) + 1) by omega)
  omega

theorem lawWithin_eq {R : Type} (x : Int) (n : Nat) (hn : n < 1099511627776) (k : Int → Option R) : lawWithin_F x (IntKind.wrap .i64 ((n : Int) + 1)) k = k (withinOf x n : Nat) := by
  rw [lawWithin_F_T]; unfold lawWithin_T
  rw [wrap64 (x := (n : Int) + 1) (by omega) (by omega), wrapu_id (x := (n : Int) + 1) (by omega) (by omega)]
  rw [show (((n : Int) + 1) == 0) = false from by simp; omega, cond_false]
  have h0 := wrapu (x := x)
  have h1 := Int.emod_nonneg (IntKind.wrap .u64 x) (show ((n : Int) + 1) ≠ 0 by omega)
  have h2 := Int.emod_lt_of_pos (IntKind.wrap .u64 x) (show 0 < ((n : Int) + 1) by omega)
  rw [Int.tmod_eq_emod_of_nonneg h0.1, wrap64 (by omega) (by omega)]
  unfold withinOf
  congr 1; omega

theorem mm_true (a b : Int) : mm true a b = max a b := by
  unfold mm; simp only [cond_true]; split <;> omega

theorem mm_max (a b : Nat) : mm true (a : Int) (b : Int) = ((max a b : Nat) : Int) := by rw [mm_true]; omega

theorem refBetween15_tells {R : Type} (l : List Int) (hl : l.length < 1099511627776) (a b : Nat) (ha : a ≤ l.length) (hb : b ≤ l.length) (key : Int) (k : Int → Int → Bool → Option R) :
    ∃ x y c, refBetween15_F l (a : Int) (b : Int) key k = k x y c := by
  rw [refBetween15_F_T]; unfold refBetween15_T
  rw [mm_min, mm_max]
  by_cases h1 : key = 1
  · rw [show (key == 1) = true from by simpa using h1, cond_true]
    by_cases h2 : max a b < l.length
    · rw [decide_eq_true (by omega : ((max a b : Nat) : Int) < (l.length : Int)), decide_eq_true (by omega : (0 : Int) ≤ ((max a b : Nat) : Int))]
      simp only [Bool.and_true, cond_true]
      cases (l.getD ((max a b : Nat) : Int).toNat 0 != 10) <;> exact ⟨_, _, _, rfl⟩
    · rw [decide_eq_false (by omega : ¬ ((max a b : Nat) : Int) < (l.length : Int))]
      exact ⟨_, _, _, rfl⟩
  · rw [show (key == 1) = false from by simpa using h1, cond_false]
    by_cases h2 : key = 2
    · rw [show (key == 2) = true from by simpa using h2, cond_true, refBegin_eq l (by omega) _ (by omega), refEnd_eq l (by omega)]
      exact ⟨_, _, _, rfl⟩
    · rw [show (key == 2) = false from by simpa using h2, cond_false]
      exact ⟨_, _, _, rfl⟩

theorem Ranges18_L {R : Type} (l : List Int) (hl : l.length < 1000000000000) (x12 x13 x14 x15 x16 x17 x18 : Int) (q : List Str) (ke0 : List Rec → Option R) : ∀ (n i : Nat) (r : List Rec), i ≤ 5 → 5 < n + i → r.length ≤ 5 + 2 * i →
    ∃ rs : List Rec, Ranges18_L3 n l r (i : Int) x12 x13 x14 x15 x16 x17 x18 q ke0 = ke0 rs ∧ rs.length ≤ 15 := by
  intro n
  induction n with
  | zero => intro i r h0; omega
  | succ n ih =>
    intro i r h1 h2 h3
    simp only [Ranges18_L3, Ranges18_B3]
    by_cases h : i < 5
    · rw [decide_eq_true (by omega : (i : Int) < 5), cond_true, lawWithin_eq _ _ (by omega), lawWithin_eq _ _ (by omega)]
      obtain ⟨x, y, c, hc⟩ := refBetween15_tells l (by omega) _ _ (withinOf_le (IntKind.wrap .i64 (x18 + IntKind.wrap .i64 (7 * (i : Int)))) l.length) (withinOf_le (IntKind.wrap .i64 (x17 + IntKind.wrap .i64 (3 * (i : Int)))) l.length) (Int.tmod (i : Int) 3) (fun x22 x23 b24 => _)
      rw [hc]
      rw [decide_eq_true (by simp only [List.length_append, List.length_cons, List.length_nil]; omega), decide_eq_true (by simp only [List.length_append, List.length_cons, List.length_nil]; omega)]
      simp only [Bool.and_true, cond_true]
      rw [wrap64 (x := (i : Int) + 1) (by omega) (by omega)]
      exact ih (i + 1) _ (by omega) (by omega) (by simp only [List.length_append, List.length_cons, List.length_nil]; omega)
    · rw [decide_eq_false (by omega : ¬ (i : Int) < 5)]
      exact ⟨r, rfl, by omega⟩

theorem Ranges18_tells {R : Type} (q : List Str) (x1 x2 x3 x4 x5 x6 x7 : Int) (l : List Int) (hl : l.length < 1000000000000) (k : List Rec → Option R) : ∃ rs : List Rec, Ranges18_F q x1 x2 x3 x4 x5 x6 x7 l k = k rs ∧ rs.length ≤ 15 := by
  rw [Ranges18_F_T]; unfold Ranges18_T
  rw [Ranges18_M3_eq]
  exact Ranges18_L l hl _ _ _ _ _ _ _ _ _ 4611686018427387904 0 _ (by omega) (by omega) (by simp)

end Go.Proofs.YtleoffdjdgbanaaDoor

set_option linter.unusedVariables false
set_option linter.unusedSimpArgs false
namespace Go.Proofs.YtleoffdjdgbanaaDoor
open Go Go.QA Go.Proofs

section
variable {α : Type}

def consHead (x : α) : List (List α) → List (List α)
  | [] => [[x]]
  | r :: rs => (x :: r) :: rs

/-- Cut at each c. -/
def splitC [DecidableEq α] (c : α) : List α → List (List α)
  | [] => [[]]
  | x :: t => if x = c then [] :: splitC c t else consHead x (splitC c t)

/-- Put together with c between. -/
def unsplit (c : α) : List (List α) → List α
  | [] => []
  | [r] => r
  | r :: s :: t => r ++ c :: unsplit c (s :: t)

theorem consHead_ne (x : α) (l : List (List α)) : consHead x l ≠ [] := by cases l <;> simp [consHead]

theorem splitC_ne [DecidableEq α] (c : α) (l : List α) : splitC c l ≠ [] := by
  cases l with
  | nil => simp [splitC]
  | cons x t =>
    unfold splitC
    split
    · simp
    · exact consHead_ne _ _

theorem unsplit_cons (c : α) (r : List α) {rs : List (List α)} (h : rs ≠ []) : unsplit c (r :: rs) = r ++ c :: unsplit c rs := by
  cases rs with
  | nil => exact absurd rfl h
  | cons s t => rfl

theorem unsplit_head (c x : α) (r : List α) (rs : List (List α)) : unsplit c ((x :: r) :: rs) = x :: unsplit c (r :: rs) := by
  cases rs with
  | nil => rfl
  | cons s t => rfl

theorem unsplit_splitC [DecidableEq α] (c : α) : ∀ l : List α, unsplit c (splitC c l) = l
  | [] => rfl
  | x :: t => by
    have ih := unsplit_splitC c t
    unfold splitC
    by_cases h : x = c
    · rw [if_pos h, unsplit_cons c [] (splitC_ne c t), ih, h]; rfl
    · rw [if_neg h]
      cases hs : splitC c t with
      | nil => exact absurd hs (splitC_ne c t)
      | cons r rs =>
        rw [hs] at ih
        rw [consHead, unsplit_head, ih]

theorem splitC_app [DecidableEq α] (c : α) (p : List α) (hp : ∀ b ∈ p, b ≠ c) (t r : List α) (rs : List (List α)) (h : splitC c t = r :: rs) : splitC c (p ++ t) = (p ++ r) :: rs := by
  induction p with
  | nil => simpa using h
  | cons b p ih =>
    rw [List.cons_append, splitC, if_neg (hp b (List.mem_cons_self ..)), ih fun x hx => hp x (List.mem_cons_of_mem _ hx)]; rfl

theorem splitC_length [DecidableEq α] (c : α) : ∀ l : List α, (splitC c l).length ≤ l.length + 1
  | [] => by simp [splitC]
  | x :: t => by
    have ih := splitC_length c t
    unfold splitC
    split
    · simp; omega
    · cases hs : splitC c t with
      | nil => simp [consHead]
      | cons r rs => rw [hs] at ih; simp [consHead] at ih ⊢; omega

/-- At a row's begin the rows ahead of it are one part, those behind it the other. -/
theorem splitC_at [DecidableEq α] (c : α) [BEq α] [LawfulBEq α] : ∀ (l : List α) (p : Nat), p ≤ l.length → (p = 0 ∨ l[p - 1]? = some c) →
    (splitC c l).drop ((l.take p).countP (· == c)) = splitC c (l.drop p) ∧ ∀ X : List (List α), X ≠ [] → unsplit c ((splitC c l).take ((l.take p).countP (· == c)) ++ X) = l.take p ++ unsplit c X
  | l, 0, _, _ => by simp
  | [], p + 1, h, _ => by simp at h
  | x :: t, p + 1, h, hc => by
    rcases hc with hc | hc
    · omega
    simp only [Nat.add_sub_cancel] at hc
    rw [List.take_succ_cons, List.drop_succ_cons]
    by_cases hx : x = c
    · have ih := splitC_at c t p (by simpa using h) (by
        cases p with
        | zero => exact .inl rfl
        | succ p => exact .inr (by simpa using hc))
      rw [List.countP_cons_of_pos (by simpa using hx)]
      rw [splitC, if_pos hx, List.drop_succ_cons]
      refine ⟨ih.1, fun X hX => ?_⟩
      rw [List.take_succ_cons, List.cons_append, unsplit_cons c [] (by simp [hX]), ih.2 X hX, hx]; rfl
    · cases p with
      | zero => exact absurd (by simpa using hc) hx
      | succ p =>
        have hc' : t[p]? = some c := by simpa using hc
        have ih := splitC_at c t (p + 1) (by simpa using h) (.inr hc')
        rw [List.countP_cons_of_neg (by simpa using hx)]
        have hp : p < t.length := by simp at h; omega
        have hpos : 0 < (t.take (p + 1)).countP (· == c) := by
          rw [List.countP_pos_iff]
          refine ⟨c, ?_, by simp⟩
          rw [List.getElem?_eq_getElem hp] at hc'
          have e : t[p] = c := Option.some.inj hc'
          rw [List.take_succ_eq_append_getElem hp, e]; simp
        obtain ⟨k, hk⟩ : ∃ k, (t.take (p + 1)).countP (· == c) = k + 1 := ⟨_, (Nat.succ_pred_eq_of_pos hpos).symm⟩
        rw [hk] at ih ⊢
        rw [splitC, if_neg hx]
        cases hs : splitC c t with
        | nil => exact absurd hs (splitC_ne c t)
        | cons r rs =>
          rw [hs] at ih
          rw [consHead, List.drop_succ_cons]
          rw [List.drop_succ_cons] at ih
          refine ⟨ih.1, fun X hX => ?_⟩
          have := ih.2 X hX
          rw [List.take_succ_cons, List.cons_append] at this ⊢
          rw [unsplit_head, this]; rfl
end

/-! ### bytes and runes -/

theorem index_cons10 (b : UInt8) (t : Str) : Lib.index (b :: t) [10] = if b = 10 then 0 else if Lib.index t [10] = -1 then -1 else Lib.index t [10] + 1 := by
  rw [Lib.index]
  by_cases h : b = 10
  · subst h; simp [List.isPrefixOf]
  · have : ([10] : List UInt8).isPrefixOf (b :: t) = false := by simp [List.isPrefixOf, Ne.symm h]
    rw [this, if_neg h]
    simp

theorem splitK_one : ∀ s : Str, Lib.splitK [10] 0 (s.count 10) s = splitC 10 s
  | [] => rfl
  | b :: t => by
    have ih := splitK_one t
    by_cases h : b = 10
    · subst h
      rw [List.count_cons_self, Lib.splitK, index_cons10, if_pos rfl, splitC, if_pos rfl]
      simp [ih]
    · rw [List.count_cons_of_ne (by simpa using h), splitC, if_neg h, ← ih]
      cases hc : t.count 10 with
      | zero => rfl
      | succ k =>
        have hi : Lib.index t [10] ≠ -1 := by
          intro e
          have := Lib.count_miss e
          rw [Lib.count_one, hc] at this
          cases this
        have hge := Lib.index_ge t [10]
        have e1 : (Lib.index t [10] == -1) = false := by simpa using hi
        have e2 : (Lib.index t [10] + 1 == -1) = false := by simp; omega
        rw [Lib.splitK, Lib.splitK, index_cons10, if_neg h, if_neg hi, e1, e2]
        simp only [Bool.false_eq_true, if_false, consHead]
        rw [show (Lib.index t [10] + 1).toNat = (Lib.index t [10]).toNat + 1 from by omega]
        simp [Nat.add_right_comm]

theorem splitL_one (s : Str) : splitL s [10] = splitC 10 s := by
  unfold splitL
  rw [Lib.splitB_data]
  have : Lib.countB ⟨⟨s⟩⟩ ⟨⟨[10]⟩⟩ = s.count 10 := by
    rw [show Lib.countB ⟨⟨s⟩⟩ ⟨⟨[10]⟩⟩ = Lib.count s [10] from by simp [Lib.countB, Lib.count], Lib.count_one]
  rw [this]
  exact splitK_one s

theorem enc_10 : enc 10 = [10] := by decide

theorem splitC_strOf : ∀ {l : List Int}, scalL l → splitC (10 : UInt8) (strOf l) = (splitC (10 : Int) l).map strOf
  | [], _ => rfl
  | x :: l, h => by
    rw [scalL_cons] at h
    have ih := splitC_strOf h.2
    rw [strOf_cons]
    by_cases hx : x = 10
    · subst hx
      rw [enc_10, List.singleton_append, splitC, if_pos rfl, ih, splitC, if_pos rfl]; rfl
    · rw [splitC, if_neg hx]
      cases hs : splitC (10 : Int) l with
      | nil => exact absurd hs (splitC_ne _ _)
      | cons r rs =>
        rw [hs] at ih
        rw [splitC_app 10 (enc x) (by
          intro b hb e
          subst e
          have := (enc_low h.1 (b := 10) (by decide)).1 hb
          exact hx this) (strOf l) (strOf r) (rs.map strOf) ih]
        rfl

theorem join_strOf : ∀ rs : List (List Int), Lib.join (rs.map strOf) [10] = strOf (unsplit 10 rs)
  | [] => rfl
  | [r] => by rw [List.map_cons, List.map_nil, Lib.join_one]; rfl
  | r :: s :: t => by
    have ih := join_strOf (s :: t)
    rw [unsplit, strOf_append, strOf_cons, enc_10, ← ih]
    simp [Lib.join, List.intercalate]

end Go.Proofs.YtleoffdjdgbanaaDoor
