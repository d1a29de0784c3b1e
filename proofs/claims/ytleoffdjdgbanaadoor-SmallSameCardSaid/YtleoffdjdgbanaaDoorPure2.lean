/- Plain laws: classes, first runes of rows, columns; no program in sight but the printed functions. -/
import Derived.Test.YtleoffdjdgbanaaDoorPure1
import Derived.Test.YtleoffdjdgbanaaDoorWalk4
import Derived.Test.YtleoffdjdgbanaaDoorQa4
import Derived.Lib.SplitLaws
set_option linter.unusedVariables false
set_option linter.unusedSimpArgs false
namespace Go.Proofs.YtleoffdjdgbanaaDoor
open Go Go.QA Go.Proofs

/-- A rune's class: 0 a blank, 1 of a word, 2 another one. -/
def classOf (x : Int) : Int :=
  if x = 32 ∨ x = 9 then 0 else if (97 ≤ x ∧ x ≤ 122) ∨ (65 ≤ x ∧ x ≤ 90) ∨ (48 ≤ x ∧ x ≤ 57) ∨ x = 95 ∨ 128 ≤ x then 1 else 2

theorem classOf_0 {x : Int} (h : x = 32 ∨ x = 9) : classOf x = 0 := by unfold classOf; rw [if_pos h]
theorem classOf_1 {x : Int} (h : (97 ≤ x ∧ x ≤ 122) ∨ (65 ≤ x ∧ x ≤ 90) ∨ (48 ≤ x ∧ x ≤ 57) ∨ x = 95 ∨ 128 ≤ x) : classOf x = 1 := by
  unfold classOf; rw [if_neg (by omega), if_pos h]
theorem classOf_2 {x : Int} (h : ¬ (x = 32 ∨ x = 9)) (h2 : ¬ ((97 ≤ x ∧ x ≤ 122) ∨ (65 ≤ x ∧ x ≤ 90) ∨ (48 ≤ x ∧ x ≤ 57) ∨ x = 95 ∨ 128 ≤ x)) : classOf x = 2 := by
  unfold classOf; rw [if_neg h, if_neg h2]

theorem cond_ite {α : Type} (p : Prop) [Decidable p] (a b : α) : (bif decide p then a else b) = if p then a else b := by
  by_cases h : p <;> simp [h]

theorem refClass_eq {R : Type} (x : Int) (k : Int → Option R) : refClass_F x k = k (classOf x) := by
  rw [refClass_F_T]; unfold refClass_T
  by_cases h : x = 32 ∨ x = 9
  · rw [classOf_0 h]
    rcases h with rfl | rfl <;> rfl
  · have h1 : (x == 32) = false := by simpa using fun e => h (.inl e)
    have h2 : (x == 9) = false := by simpa using fun e => h (.inr e)
    rw [h1, h2]
    simp only [cond_false, cond_eq_ite, decide_eq_true_eq, beq_iff_eq]
    by_cases h3 : (97 ≤ x ∧ x ≤ 122) ∨ (65 ≤ x ∧ x ≤ 90) ∨ (48 ≤ x ∧ x ≤ 57) ∨ x = 95 ∨ 128 ≤ x
    · rw [classOf_1 h3]
      repeat' split
      all_goals first | rfl | contradiction | (exfalso; omega)
    · rw [classOf_2 h h3]
      repeat' split
      all_goals first | rfl | contradiction | (exfalso; omega)

theorem textMade_eq {R : Type} (x : Int) (hx : x < 128) (k : Int → Option R) : textMade_F x k = k (classOf x) := by
  rw [textMade_F_T]; unfold textMade_T
  by_cases h : x = 32 ∨ x = 9
  · rw [classOf_0 h]
    rcases h with rfl | rfl <;> rfl
  · have h1 : (x == 32) = false := by simpa using fun e => h (.inl e)
    have h2 : (x == 9) = false := by simpa using fun e => h (.inr e)
    rw [h1, h2]
    simp only [cond_false, cond_eq_ite, decide_eq_true_eq, beq_iff_eq]
    by_cases h3 : (97 ≤ x ∧ x ≤ 122) ∨ (65 ≤ x ∧ x ≤ 90) ∨ (48 ≤ x ∧ x ≤ 57) ∨ x = 95 ∨ 128 ≤ x
    · rw [classOf_1 h3]
      repeat' split
      all_goals first | rfl | contradiction | (exfalso; omega)
    · rw [classOf_2 h h3]
      repeat' split
      all_goals first | rfl | contradiction | (exfalso; omega)

theorem textClass_eq {R : Type} (x : Int) (k : Int → Option R) : textClass_F x k = k (classOf x) := by
  rw [textClass_F_T]; unfold textClass_T
  by_cases h : x < 0
  · rw [decide_eq_true h, cond_true, classOf_2 (by omega) (by omega)]
  · by_cases h2 : x ≥ 128
    · rw [decide_eq_false h, decide_eq_true h2, classOf_1 (by omega)]; rfl
    · rw [decide_eq_false h, decide_eq_false h2]
      simp only [cond_false]
      exact textMade_eq x (by omega) _

/-- Where the blanks from an offset on end. -/
def blanksOf (l : List Int) (x : Nat) : Nat := x + ((l.drop x).takeWhile fun r => decide (classOf r = 0)).length

theorem blanksOf_hit {l : List Int} {x : Nat} (h : x < l.length) (h2 : classOf (l.getD x 0) ≠ 0) : blanksOf l x = x := by
  unfold blanksOf
  rw [getD_at h] at h2
  rw [List.drop_eq_getElem_cons h, List.takeWhile_cons]
  simp [h2]

theorem blanksOf_miss {l : List Int} {x : Nat} (h : x < l.length) (h2 : classOf (l.getD x 0) = 0) : blanksOf l x = blanksOf l (x + 1) := by
  unfold blanksOf
  rw [getD_at h] at h2
  rw [List.drop_eq_getElem_cons h, List.takeWhile_cons, if_pos (by simpa using h2)]
  simp only [List.length_cons]; omega

theorem blanksOf_over {l : List Int} {x : Nat} (h : l.length ≤ x) : blanksOf l x = x := by
  unfold blanksOf; simp [List.drop_eq_nil_of_le h]

theorem classOf_10 : classOf 10 = 2 := by decide

/-- A rune's number. -/
def isRune (x : Int) : Prop := 0 ≤ x ∧ x ≤ 1114111

theorem runeWrap {l : List Int} (hr : ∀ r ∈ l, isRune r) (x : Nat) : IntKind.wrap .i64 (l.getD x 0) = l.getD x 0 := by
  by_cases h : x < l.length
  · rw [getD_at h]
    have := hr _ (List.getElem_mem h)
    exact wrap64 (by have := this.1; omega) (by have := this.2; omega)
  · have e : l.getD x 0 = 0 := by simp [List.getD, List.getElem?_eq_none (Nat.le_of_not_lt h)]
    rw [e]; rfl

theorem refFirst_L {R : Type} (l : List Int) (hl : l.length < 1099511627776) (hr : ∀ r ∈ l, isRune r) (ke : Int → Option R) : ∀ (n x : Nat), 0 < n → l.length < n + x → refFirst_L2 n l (x : Int) ke = ke (blanksOf l x : Nat) := by
  intro n
  induction n with
  | zero => intro x h0; omega
  | succ n ih =>
    intro x _ hx
    simp only [refFirst_L2, refFirst_B2]
    by_cases h : x < l.length
    · rw [decide_eq_true (by omega : (x : Int) < (l.length : Int)), decide_eq_true (by omega : (0 : Int) ≤ (x : Int))]
      simp only [cond_true, Bool.and_true, Int.toNat_natCast, runeWrap hr]
      by_cases h2 : l.getD x 0 = 10
      · rw [h2, blanksOf_hit h (by rw [h2, classOf_10]; decide)]; rfl
      · have h3 : (l.getD x 0 != 10) = true := by simpa using h2
        rw [h3, cond_true, refClass_eq]
        by_cases h4 : classOf (l.getD x 0) = 0
        · rw [h4, beq_self_eq_true, cond_true, wrap64 (by omega) (by omega), blanksOf_miss h h4]
          have := ih (x + 1) (by omega) (by omega)
          simpa using this
        · rw [show (classOf (l.getD x 0) == 0) = false from by simpa using h4, cond_false, blanksOf_hit h h4]
    · rw [decide_eq_false (by omega : ¬ (x : Int) < (l.length : Int)), blanksOf_over (by omega)]; rfl

/-- The first rune of an offset's row that is no blank. -/
def firstOf (l : List Int) (x : Nat) : Nat := blanksOf l (beginOf l x)

theorem refFirst_eq {R : Type} (l : List Int) (hl : l.length < 1099511627776) (hr : ∀ r ∈ l, isRune r) (x : Nat) (hx : x ≤ l.length) (k : Int → Option R) : refFirst_F l (x : Int) k = k (firstOf l x : Nat) := by
  rw [refFirst_F_T]; unfold refFirst_T
  have := beginOf_le l x
  rw [refBegin_eq l (by omega) x hx, refFirst_M2_eq]
  exact refFirst_L l hl hr _ _ _ (by omega) (by omega)

theorem endOf_ge (l : List Int) (x : Nat) : x ≤ endOf l x := Nat.le_add_right _ _

theorem endOf_in (l : List Int) : ∀ (d x y : Nat), y - x = d → x ≤ y → y < endOf l x → y < l.length ∧ l.getD y 0 ≠ 10 ∧ endOf l y = endOf l x := by
  intro d
  induction d with
  | zero =>
    intro x y hd hxy h
    obtain rfl : x = y := by omega
    by_cases hx : x < l.length
    · refine ⟨hx, fun h2 => ?_, rfl⟩
      rw [endOf_hit hx h2] at h; omega
    · rw [endOf_over (by omega)] at h; omega
  | succ d ih =>
    intro x y hd hxy h
    by_cases hx : x < l.length
    · by_cases h2 : l.getD x 0 = 10
      · rw [endOf_hit hx h2] at h; omega
      · rw [endOf_miss hx h2] at h ⊢
        exact ih (x + 1) y (by omega) (by omega) h
    · rw [endOf_over (by omega)] at h; omega

theorem endOf_nl (l : List Int) : ∀ (d x : Nat), l.length - x = d → endOf l x < l.length → l.getD (endOf l x) 0 = 10 := by
  intro d
  induction d with
  | zero => intro x hd h; have := endOf_ge l x; omega
  | succ d ih =>
    intro x hd h
    by_cases h2 : l.getD x 0 = 10
    · rw [endOf_hit (by omega) h2]; exact h2
    · rw [endOf_miss (by omega) h2] at h ⊢
      exact ih (x + 1) (by omega) h

theorem beginOf_in (l : List Int) : ∀ (x y : Nat), beginOf l x ≤ y → y < x → l.getD y 0 ≠ 10
  | 0, y, _, h => by omega
  | x + 1, y, h, h2 => by
    rw [beginOf] at h
    by_cases h3 : l.getD x 0 = 10
    · rw [if_pos h3] at h; omega
    · rw [if_neg h3] at h
      rcases Nat.lt_or_eq_of_le (Nat.lt_succ_iff.1 h2) with h4 | rfl
      · exact beginOf_in l x y h h4
      · exact h3

theorem endOf_begin (l : List Int) (x : Nat) (hx : x ≤ l.length) : endOf l (beginOf l x) = endOf l x := by
  have : ∀ (d y : Nat), x - y = d → beginOf l x ≤ y → y ≤ x → endOf l y = endOf l x := by
    intro d
    induction d with
    | zero => intro y h1 h2 h3; rw [show y = x from by omega]
    | succ d ih =>
      intro y h1 h2 h3
      rw [endOf_miss (by omega) (beginOf_in l x y h2 (by omega))]
      exact ih (y + 1) (by omega) (by omega) (by omega)
  exact this _ _ rfl (Nat.le_refl _) (beginOf_le l x)

theorem rowOf_begin (l : List Int) : ∀ (x : Nat), x ≤ l.length → rowOf l (beginOf l x) = rowOf l x
  | 0, _ => rfl
  | x + 1, h => by
    rw [beginOf]
    by_cases h2 : l.getD x 0 = 10
    · rw [if_pos h2]
    · rw [if_neg h2, rowOf_succ (by omega), if_neg h2, rowOf_begin l x (by omega)]; rfl

theorem MapFirst_L {R : Type} (l : List Int) (hl : l.length < 1099511627776) (hr : ∀ r ∈ l, isRune r) (b : Nat) (hb : b ≤ l.length) (ke : Int → Option R) : ∀ (n x : Nat), 0 < n → l.length < n + x → b ≤ x → x ≤ endOf l b →
    MapFirst_L2 n l (begins l) (rowOf l b : Nat) (x : Int) ke = ke (blanksOf l x : Nat) := by
  intro n
  induction n with
  | zero => intro x h0; omega
  | succ n ih =>
    intro x _ hx hbx hxe
    simp only [MapFirst_L2, MapFirst_B2]
    rw [MapEnd_eq l hl b hb]
    have hle := endOf_le l b hb
    by_cases h : x < endOf l b
    · have hin := endOf_in l _ b x rfl hbx h
      rw [decide_eq_true (by omega : (x : Int) < ((endOf l b : Nat) : Int)), decide_eq_true (by omega : (x : Int) < (l.length : Int)), decide_eq_true (by omega : (0 : Int) ≤ (x : Int))]
      simp only [cond_true, Bool.and_true, Int.toNat_natCast, runeWrap hr]
      rw [textClass_eq]
      by_cases h4 : classOf (l.getD x 0) = 0
      · rw [h4, beq_self_eq_true, cond_true, wrap64 (by omega) (by omega), blanksOf_miss (by omega) h4]
        have := ih (x + 1) (by omega) (by omega) (by omega) (by omega)
        simpa using this
      · rw [show (classOf (l.getD x 0) == 0) = false from by simpa using h4, cond_false, blanksOf_hit (by omega) h4]
    · have e : x = endOf l b := by omega
      rw [decide_eq_false (by omega : ¬ (x : Int) < ((endOf l b : Nat) : Int)), cond_false]
      by_cases h5 : x < l.length
      · have := endOf_nl l _ b rfl (by omega)
        rw [blanksOf_hit h5 (by rw [e, this, classOf_10]; decide)]
      · rw [blanksOf_over (by omega)]

theorem MapFirst_eq {R : Type} (l : List Int) (hl : l.length < 1099511627776) (hr : ∀ r ∈ l, isRune r) (x : Nat) (hx : x ≤ l.length) (k : Int → Option R) : MapFirst_F l (begins l) (rowOf l x : Nat) k = k (firstOf l x : Nat) := by
  have hro := rowOf_le l x
  have hb : (begins l).length = (nls l 0).length + 1 := rfl
  have hbl := beginOf_le l x
  rw [MapFirst_F_T]; unfold MapFirst_T
  rw [decide_eq_true (by omega : (0 : Int) ≤ ((rowOf l x : Nat) : Int)), decide_eq_true (by omega : ((rowOf l x : Nat) : Int) < ((begins l).length : Int))]
  simp only [Bool.and_true, cond_true, Int.toNat_natCast]
  rw [begins_at l x hx, MapFirst_M2_eq, ← rowOf_begin l x hx]
  exact MapFirst_L l hl hr _ (by omega) _ _ _ (by omega) (by omega) (Nat.le_refl _) (by have := endOf_ge l (beginOf l x); omega)

theorem MapCol_eq {R : Type} (l : List Int) (hl : l.length < 1099511627776) (x : Nat) (hx : x ≤ l.length) (c : Nat) (hc : c < 1099511627776) (k : Int → Option R) :
    MapCol_F l (begins l) (rowOf l x : Nat) (c : Int) k = k ((min (beginOf l x + c) (endOf l x) : Nat) : Int) := by
  have hro := rowOf_le l x
  have hb : (begins l).length = (nls l 0).length + 1 := rfl
  have hbl := beginOf_le l x
  rw [MapCol_F_T]; unfold MapCol_T
  rw [decide_eq_true (by omega : (0 : Int) ≤ ((rowOf l x : Nat) : Int)), decide_eq_true (by omega : ((rowOf l x : Nat) : Int) < ((begins l).length : Int))]
  simp only [Bool.and_true, cond_true, Int.toNat_natCast]
  rw [begins_at l x hx, MapEnd_eq l hl x hx, mm_false, wrap64 (by omega) (by omega)]
  congr 1; omega

end Go.Proofs.YtleoffdjdgbanaaDoor

namespace Go.Proofs.YtleoffdjdgbanaaDoor
open Go Go.QA Go.Proofs

/-- A change and its error, as data. -/
structure Chg where
  pat : Int
  del : Int
  ins : Str
  cur : Int
  took : Str
  line : Bool
  err : Int

def Chg.ap {R : Type} (c : Chg) (k : Int → Int → Str → Int → Str → Bool → Int → Option R) : Option R := k c.pat c.del c.ins c.cur c.took c.line c.err

theorem mayOf_len {s : Str} (h : mayOf s = true) : s.length ≤ 4000 := by
  unfold mayOf at h
  simp only [Bool.and_eq_true, decide_eq_true_eq] at h
  exact h.1

theorem mayOf_valid {s : Str} (h : mayOf s = true) : Lib.validD s = true := by
  unfold mayOf at h
  simp only [Bool.and_eq_true] at h
  exact h.2.1

noncomputable def madeC (s x : Str) (cur : Int) : Chg :=
  bif mayOf x then ⟨(atOf (runesOf s) (runesOf x) : Nat), (delOf (runesOf s) (runesOf x) : Nat), insOf (runesOf s) (runesOf x), cur, [], false, 0⟩ else ⟨0, 0, [], 0, [], false, 4⟩

theorem changeMade_eq {R : Type} (s x : Str) (hs : s.length ≤ 1000000) (cur : Int) (k : Int → Int → Str → Int → Str → Bool → Int → Option R) : changeMade_F s x cur k = (madeC s x cur).ap k := by
  rw [changeMade_F_T]; unfold changeMade_T madeC
  rw [textMay_eq]
  cases h : mayOf x with
  | false => rfl
  | true =>
    have h1 := mayOf_len h
    have h2 := runesOf_length_le x
    have h3 := runesOf_length_le s
    simp only [Bool.not_true, cond_false, cond_true]
    rw [patchOf_eq s x (by omega) (by omega)]; rfl

theorem made18_eq {R : Type} (s x : Str) (hs : s.length ≤ 1000000) (cur : Int) (k : Int → Int → Str → Int → Str → Bool → Int → Option R) : made18_F s x cur k = (madeC s x cur).ap k := by
  rw [made18_F_T]; unfold made18_T madeC
  rw [refMay1_eq]
  cases h : mayOf x with
  | false => rfl
  | true =>
    have h1 := mayOf_len h
    have h2 := runesOf_length_le x
    have h3 := runesOf_length_le s
    simp only [Bool.not_true, cond_false, cond_true]
    rw [refBetween4_eq s x (by omega) (by omega)]; rfl

/-! ### places -/

def isB (l : List Int) (x : Int) : Bool := decide (0 ≤ x ∧ x ≤ (l.length : Int))

theorem isB_nat {l : List Int} {x : Int} (h : isB l x = true) : ∃ n : Nat, x = (n : Int) ∧ n ≤ l.length := by
  unfold isB at h
  simp only [decide_eq_true_eq] at h
  exact ⟨x.toNat, by omega, by omega⟩

theorem MapIs_eq {R : Type} (l m : List Int) (x : Int) (k : Bool → Option R) : MapIs_F l m x k = k (isB l x) := by
  rw [MapIs_F_T]; unfold MapIs_T isB
  by_cases h : 0 ≤ x
  · rw [decide_eq_true (by omega : x ≥ 0), cond_true]
    congr 1
    rw [decide_eq_decide]; omega
  · rw [decide_eq_false (by omega : ¬ x ≥ 0), cond_false, decide_eq_false (by omega)]

theorem refNum_eq {R : Type} (x y : Int) (k : Bool → Option R) : refNum_F x y k = k (decide (0 ≤ x ∧ x ≤ y)) := by
  rw [refNum_F_T]; unfold refNum_T
  by_cases h : 0 ≤ x
  · rw [decide_eq_true (by omega : x ≥ 0), cond_true]
    congr 1
    rw [decide_eq_decide]; omega
  · rw [decide_eq_false (by omega : ¬ x ≥ 0), cond_false, decide_eq_false (by omega)]

theorem refBetween0_eq {R : Type} (x y z : Int) (k : Bool → Option R) : refBetween0_F x y z k = k (decide (y ≤ x ∧ x ≤ z)) := by
  rw [refBetween0_F_T]; unfold refBetween0_T
  by_cases h : y ≤ x
  · rw [decide_eq_true (by omega : x ≥ y), cond_true]
    congr 1
    rw [decide_eq_decide]; omega
  · rw [decide_eq_false (by omega : ¬ x ≥ y), cond_false, decide_eq_false (by omega)]

/-- May a range be? -/
def rangeB (l : List Int) (x y : Int) (b : Bool) : Bool :=
  decide (0 ≤ x ∧ x ≤ y ∧ y ≤ (l.length : Int) ∧ (b = true → (beginOf l x.toNat : Int) = x ∧ (endOf l y.toNat : Int) = y))

theorem rangeB_iff {l : List Int} {x y : Int} {b : Bool} : rangeB l x y b = true ↔ (0 ≤ x ∧ x ≤ y ∧ y ≤ (l.length : Int) ∧ (b = true → (beginOf l x.toNat : Int) = x ∧ (endOf l y.toNat : Int) = y)) := by
  unfold rangeB; rw [decide_eq_true_eq]

theorem changeMay_eq {R : Type} (l : List Int) (hl : l.length < 1099511627776) (x y : Int) (b : Bool) (k : Bool → Option R) : changeMay_F l (begins l) x y b k = k (rangeB l x y b) := by
  rw [changeMay_F_T]; unfold changeMay_T
  rw [MapIs_eq]
  cases h1 : isB l x with
  | false =>
    simp only [Bool.not_false, cond_true]
    unfold isB at h1; rw [decide_eq_false_iff_not] at h1
    unfold rangeB; rw [decide_eq_false (by omega)]
  | true =>
    simp only [Bool.not_true, cond_false]
    rw [MapIs_eq]
    cases h2 : isB l y with
    | false =>
      simp only [Bool.not_false, cond_true]
      unfold isB at h2; rw [decide_eq_false_iff_not] at h2
      unfold rangeB; rw [decide_eq_false]
      intro h; unfold isB at h1; rw [decide_eq_true_eq] at h1; omega
    | true =>
      simp only [Bool.not_true, cond_false]
      obtain ⟨n, rfl, hn⟩ := isB_nat h1
      obtain ⟨m, rfl, hm⟩ := isB_nat h2
      unfold rangeB
      simp only [Int.toNat_natCast]
      by_cases h3 : m < n
      · rw [decide_eq_true (by omega : ((n : Nat) : Int) > (m : Int)), cond_true, decide_eq_false (by omega)]
      · rw [decide_eq_false (by omega : ¬ ((n : Nat) : Int) > (m : Int)), cond_false]
        cases b with
        | false =>
          simp only [Bool.not_false, cond_true]
          rw [decide_eq_true]
          exact ⟨by omega, by omega, by omega, fun e => by cases e⟩
        | true =>
          have hro := rowOf_le l n
          have hb : (begins l).length = (nls l 0).length + 1 := rfl
          simp only [Bool.not_true, cond_false]
          rw [MapRow_eq l l hl, decide_eq_true (by omega : (0 : Int) ≤ ((rowOf l n : Nat) : Int)), decide_eq_true (by omega : ((rowOf l n : Nat) : Int) < ((begins l).length : Int))]
          simp only [Bool.and_true, cond_true, Int.toNat_natCast]
          rw [begins_at l n hn]
          by_cases h4 : n = beginOf l n
          · rw [show ((n : Int) == ((beginOf l n : Nat) : Int)) = true from by rw [← h4]; simp, cond_true, MapRow_eq l l hl, MapEnd_eq l hl m hm]
            congr 1
            rw [Bool.eq_iff_iff, beq_iff_eq, decide_eq_true_eq]
            constructor
            · intro e; exact ⟨by omega, by omega, by omega, fun _ => ⟨by omega, by omega⟩⟩
            · rintro ⟨_, _, _, e⟩; have := (e trivial).2; omega
          · rw [show ((n : Int) == ((beginOf l n : Nat) : Int)) = false from by simpa using fun e => h4 (by omega), cond_false, decide_eq_false]
            rintro ⟨_, _, _, e⟩; have := (e trivial).1; omega

theorem refRange_eq {R : Type} (l : List Int) (hl : l.length < 1099511627776) (x y : Int) (b : Bool) (k : Bool → Option R) : refRange_F l x y b k = k (rangeB l x y b) := by
  rw [refRange_F_T]; unfold refRange_T
  rw [refNum_eq]
  by_cases h1 : 0 ≤ x ∧ x ≤ (l.length : Int)
  · rw [decide_eq_true h1]
    simp only [Bool.not_true, cond_false]
    rw [refBetween0_eq]
    by_cases h2 : x ≤ y ∧ y ≤ (l.length : Int)
    · rw [decide_eq_true h2]
      simp only [Bool.not_true, cond_false]
      obtain ⟨n, rfl⟩ : ∃ n : Nat, x = (n : Int) := ⟨x.toNat, by omega⟩
      obtain ⟨m, rfl⟩ : ∃ m : Nat, y = (m : Int) := ⟨y.toNat, by omega⟩
      unfold rangeB
      simp only [Int.toNat_natCast]
      cases b with
      | false =>
        simp only [Bool.not_false, cond_true]
        rw [decide_eq_true]
        exact ⟨by omega, by omega, by omega, fun e => by cases e⟩
      | true =>
        simp only [Bool.not_true, cond_false]
        rw [refBegin_eq l (by omega) n (by omega)]
        by_cases h4 : beginOf l n = n
        · rw [show (((beginOf l n : Nat) : Int) == (n : Int)) = true from by rw [h4]; simp, cond_true, refEnd_eq l (by omega)]
          congr 1
          rw [Bool.eq_iff_iff, beq_iff_eq, decide_eq_true_eq]
          constructor
          · intro e; exact ⟨by omega, by omega, by omega, fun _ => ⟨by omega, by omega⟩⟩
          · rintro ⟨_, _, _, e⟩; have := (e trivial).2; omega
        · rw [show (((beginOf l n : Nat) : Int) == (n : Int)) = false from by simpa using fun e => h4 (by omega), cond_false, decide_eq_false]
          rintro ⟨_, _, _, e⟩; have := (e trivial).1; omega
    · rw [decide_eq_false h2]
      simp only [Bool.not_false, cond_true]
      unfold rangeB; rw [decide_eq_false (by omega)]
  · rw [decide_eq_false h1]
    simp only [Bool.not_false, cond_true]
    unfold rangeB; rw [decide_eq_false (by omega)]

/-! ### keys -/

/-- Where a number is in a list; -1: nowhere. -/
def inOf : List Int → Int → Nat → Int
  | [], _, _ => -1
  | y :: t, x, i => if y = x then (i : Int) else inOf t x (i + 1)

theorem refIn_L {R : Type} (l : List Int) (hl : l.length < 1099511627776) (x : Int) (ke0 : Int → Option R) : ∀ (n i : Nat), 0 < n → l.length < n + i → refIn_L2 n l x (i : Int) ke0 (ke0 (-1)) = ke0 (inOf (l.drop i) x i) := by
  intro n
  induction n with
  | zero => intro i h0; omega
  | succ n ih =>
    intro i _ hx
    simp only [refIn_L2, refIn_B2]
    by_cases h : i < l.length
    · rw [decide_eq_true (by omega : (i : Int) < (l.length : Int)), decide_eq_true (by omega : (0 : Int) ≤ (i : Int)), List.drop_eq_getElem_cons h, inOf]
      simp only [cond_true, Bool.and_true, Int.toNat_natCast, getD_at h]
      by_cases h2 : l[i] = x
      · rw [if_pos h2, h2, beq_self_eq_true, cond_true]
      · rw [if_neg h2, show (l[i] == x) = false from by simpa using h2, cond_false, wrap64 (by omega) (by omega)]
        exact ih (i + 1) (by omega) (by omega)
    · rw [decide_eq_false (by omega : ¬ (i : Int) < (l.length : Int)), List.drop_eq_nil_of_le (by omega)]; rfl

theorem refIn_eq {R : Type} (l : List Int) (hl : l.length < 1099511627776) (x : Int) (k : Int → Option R) : refIn_F l x k = k (inOf l x 0) := by
  rw [refIn_F_T]; unfold refIn_T
  rw [refIn_M2_eq]
  exact refIn_L l hl x _ 4611686018427387904 0 (by omega) (by omega)

theorem inOf_ge (x : Int) : ∀ (l : List Int) (i : Nat), (inOf l x i ≥ 0) ↔ x ∈ l
  | [], i => by simp [inOf]
  | y :: t, i => by
    unfold inOf
    by_cases h : y = x
    · rw [if_pos h]; simp [h]
    · rw [if_neg h, inOf_ge x t (i + 1), List.mem_cons]
      exact ⟨.inr, fun e => e.elim (fun e => absurd e.symm h) id⟩

/-- Is it a key of a change? -/
def keyB (x : Int) : Bool := decide (x ∈ [100, 99, 121, 62, 60, 16777333, 16777301, 16777342])

theorem refKey_eq {R : Type} (x : Int) (k : Bool → Option R) : refKey_F x k = k (keyB x) := by
  rw [refKey_F_T]; unfold refKey_T
  rw [refIn_eq _ (by simp)]
  congr 1
  unfold keyB
  rw [decide_eq_decide]
  exact inOf_ge x _ 0

theorem changeIs_eq {R : Type} (x : Int) (k : Bool → Option R) : changeIs_F x k = k (keyB x) := by
  rw [changeIs_F_T]; unfold changeIs_T keyB
  simp only [cond_eq_ite, beq_iff_eq]
  repeat' split
  all_goals first
    | (rw [decide_eq_true]; simp only [List.mem_cons, List.not_mem_nil, or_false]; omega)
    | (rw [decide_eq_false]; simp only [List.mem_cons, List.not_mem_nil, or_false]; omega)

/-! ### where the cursor stands -/

def standsOf (l : List Int) (low : Nat) (line : Bool) (at' : Nat) : Nat :=
  bif line then restOf l (min (low + (at' - beginOf l at')) (endOf l low)) else restOf l low

theorem changeStands_eq {R : Type} (l : List Int) (hl : l.length < 1099511627776) (low : Nat) (hlow : low ≤ l.length) (y : Int) (b : Bool) (hb : b = true → beginOf l low = low) (at' : Nat) (hat : at' ≤ l.length) (k : Int → Option R) :
    changeStands_F l (begins l) (low : Int) y b (at' : Int) k = k (standsOf l low b at' : Nat) := by
  rw [changeStands_F_T]; unfold changeStands_T standsOf
  cases b with
  | false =>
    simp only [Bool.not_false, cond_true, cond_false]
    rw [MapRest_eq l hl low hlow]
  | true =>
    simp only [Bool.not_true, cond_true, cond_false]
    have hro := rowOf_le l at'
    have hbl : (begins l).length = (nls l 0).length + 1 := rfl
    have h1 := beginOf_le l at'
    have h2 := endOf_le l low hlow
    rw [MapRow_eq l l hl, MapRow_eq l l hl, decide_eq_true (by omega : (0 : Int) ≤ ((rowOf l at' : Nat) : Int)), decide_eq_true (by omega : ((rowOf l at' : Nat) : Int) < ((begins l).length : Int))]
    simp only [Bool.and_true, cond_true, Int.toNat_natCast]
    rw [begins_at l at' hat, wrap64 (by omega) (by omega), show ((at' : Int) - ((beginOf l at' : Nat) : Int)) = ((at' - beginOf l at' : Nat) : Int) from by omega, MapCol_eq l hl low hlow _ (by omega), hb rfl, MapRest_eq l hl _ (by omega)]

theorem refColumn_eq {R : Type} (l : List Int) (hl : l.length < 1099511627776) (low : Nat) (hlow : low ≤ l.length) (at' : Nat) (hat : at' ≤ l.length) (k : Int → Option R) :
    refColumn_F l (low : Int) (at' : Int) k = k (standsOf l low true at' : Nat) := by
  have h1 := beginOf_le l at'
  have h2 := endOf_le l low hlow
  rw [refColumn_F_T]; unfold refColumn_T standsOf
  rw [refEnd_eq l (by omega), refBegin_eq l (by omega) at' hat, mm_false, wrap64 (x := (low : Int) + at') (by omega) (by omega), wrap64 (by omega) (by omega)]
  simp only [cond_true]
  rw [show (min ((endOf l low : Nat) : Int) ((low : Int) + (at' : Int) - ((beginOf l at' : Nat) : Int))) = ((min (low + (at' - beginOf l at')) (endOf l low) : Nat) : Int) from by omega, refRest_eq l hl _ (by omega)]

end Go.Proofs.YtleoffdjdgbanaaDoor

namespace Go.Proofs.YtleoffdjdgbanaaDoor
open Go Go.QA Go.Proofs

/-- Where the piece that goes away begins and ends: a row's end goes too. -/
def loOf (l : List Int) (low high : Nat) (b : Bool) : Nat := bif b then (if high < l.length then low else low - 1) else low
def hiOf (l : List Int) (high : Nat) (b : Bool) : Nat := bif b then (if high < l.length then high + 1 else high) else high
/-- What is left. -/
def leftOf (l : List Int) (low high : Nat) (b : Bool) : List Int := l.take (loOf l low high b) ++ l.drop (hiOf l high b)

theorem room (l : List Int) (hl : l.length < 1099511627776) (a b : Nat) : (strOf (l.take a)).length + (strOf (l.drop b)).length ≤ 9223372036854775807 := by
  have h1 := strOf_length_le (l.take a)
  have h2 := strOf_length_le (l.drop b)
  rw [List.length_take] at h1
  rw [List.length_drop] at h2
  omega

theorem changeGone_eq {R : Type} (l m : List Int) (hl : l.length < 1099511627776) (low high : Nat) (h1 : low ≤ high) (h2 : high ≤ l.length) (b : Bool) (k : Str → Option R) :
    changeGone_F l m (low : Int) (high : Int) b k = k (strOf (leftOf l low high b)) := by
  rw [changeGone_F_T]; unfold changeGone_T leftOf loOf hiOf
  rw [strOf_append]
  cases b with
  | false =>
    simp only [Bool.not_false, cond_true, cond_false, Int.toNat_natCast, List.drop_zero, List.take_length]
    rw [decide_eq_true (by omega : (0 : Int) ≤ (low : Int)), decide_eq_true (by omega : (low : Int) ≤ (l.length : Int)), decide_eq_true (by omega : (0 : Int) ≤ (high : Int)), decide_eq_true (by omega : (high : Int) ≤ (l.length : Int)), decide_eq_true (room l hl low high)]
    rfl
  | true =>
    simp only [Bool.not_true, cond_true, cond_false, Int.toNat_natCast, List.drop_zero, List.take_length]
    by_cases h : high < l.length
    · rw [decide_eq_true (by omega : (high : Int) < (l.length : Int)), if_pos h, if_pos h, wrap64 (by omega) (by omega), show ((high : Int) + 1).toNat = high + 1 from by omega]
      rw [decide_eq_true (by omega : (0 : Int) ≤ (low : Int)), decide_eq_true (by omega : (low : Int) ≤ (l.length : Int)), decide_eq_true (by omega : (0 : Int) ≤ (high : Int) + 1), decide_eq_true (by omega : (high : Int) + 1 ≤ (l.length : Int)), decide_eq_true (room l hl low (high + 1))]
      rfl
    · rw [decide_eq_false (by omega : ¬ (high : Int) < (l.length : Int)), if_neg h, if_neg h, cond_false]
      by_cases h0 : 0 < low
      · rw [decide_eq_true (by omega : (low : Int) > 0), wrap64 (by omega) (by omega), show ((low : Int) - 1).toNat = low - 1 from by omega]
        rw [decide_eq_true (by omega : (0 : Int) ≤ (low : Int) - 1), decide_eq_true (by omega : (low : Int) - 1 ≤ (l.length : Int)), decide_eq_true (by omega : (0 : Int) ≤ (high : Int)), decide_eq_true (by omega : (high : Int) ≤ (l.length : Int)), decide_eq_true (room l hl (low - 1) high)]
        rfl
      · obtain rfl : low = 0 := by omega
        rw [decide_eq_false (by omega : ¬ ((0 : Nat) : Int) > 0)]
        rw [decide_eq_true (by omega : (0 : Int) ≤ ((0 : Nat) : Int)), decide_eq_true (by omega : ((0 : Nat) : Int) ≤ (l.length : Int)), decide_eq_true (by omega : (0 : Int) ≤ (high : Int)), decide_eq_true (by omega : (high : Int) ≤ (l.length : Int)), decide_eq_true (room l hl 0 high)]
        rfl

theorem leftOf_scal {l : List Int} (h : scalL l) (low high : Nat) (b : Bool) : scalL (leftOf l low high b) :=
  scalL_append.2 ⟨h.take _, h.drop _⟩

theorem leftOf_length (l : List Int) (low high : Nat) (b : Bool) : (leftOf l low high b).length ≤ 2 * l.length := by
  unfold leftOf; rw [List.length_append, List.length_take, List.length_drop]; omega

/-- Where the cursor is behind it. -/
def afterOf (l : List Int) (low high : Nat) (b : Bool) : Nat :=
  let y := leftOf l low high b
  bif b then restOf y (firstOf y (min low y.length)) else restOf y low

theorem rowOf_all (l : List Int) (x : Nat) (h : l.length ≤ x) : rowOf l x = l.countP (· == 10) := by
  unfold rowOf; rw [List.take_of_length_le h]

theorem rowOf_left (l : List Int) (low high : Nat) (h1 : low ≤ high) (h2 : high ≤ l.length) :
    rowOf (leftOf l low high true) (min low (leftOf l low high true).length) = min (rowOf l low) ((begins (leftOf l low high true)).length - 1) := by
  have hb : ∀ y : List Int, (begins y).length - 1 = y.countP (· == 10) := fun y => by
    show (nls y 0).length + 1 - 1 = _
    rw [nls_length]; omega
  rw [hb]
  unfold leftOf loOf hiOf
  simp only [cond_true]
  by_cases h : high < l.length
  · rw [if_pos h, if_pos h]
    have e : min low (l.take low ++ l.drop (high + 1)).length = low := by rw [List.length_append, List.length_take]; omega
    rw [e]
    unfold rowOf
    rw [List.take_append_of_le_length (by rw [List.length_take]; omega), List.take_take, Nat.min_self, List.countP_append]
    omega
  · rw [if_neg h, if_neg h, List.drop_eq_nil_of_le (by omega), List.append_nil]
    have e : (l.take (low - 1)).length = low - 1 := by rw [List.length_take]; omega
    rw [rowOf_all _ _ (by omega)]
    have : (l.take (low - 1)).countP (· == 10) ≤ rowOf l low := by
      unfold rowOf
      exact List.Sublist.countP_le (by
        rw [show l.take (low - 1) = (l.take low).take (low - 1) from by rw [List.take_take]; congr 1; omega]
        exact List.take_sublist _ _)
    omega

theorem rune_of_scal {l : List Int} (h : scalL l) : ∀ r ∈ l, isRune r := by
  intro r hr
  have := h r hr
  unfold scal at this; unfold isRune; omega

theorem blanksOf_le (l : List Int) (x : Nat) (hx : x ≤ l.length) : blanksOf l x ≤ l.length := by
  unfold blanksOf
  have := (List.takeWhile_sublist (l := l.drop x) fun r => decide (classOf r = 0)).length_le
  rw [List.length_drop] at this
  omega

theorem firstOf_le (l : List Int) (x : Nat) (hx : x ≤ l.length) : firstOf l x ≤ l.length :=
  blanksOf_le l _ (Nat.le_trans (beginOf_le l x) hx)

theorem mm_min (a b : Nat) : mm false (a : Int) (b : Int) = ((min a b : Nat) : Int) := by rw [mm_false]; omega

theorem MapRows_eq {R : Type} (l m : List Int) (k : Int → Option R) : MapRows_F l m k = k (m.length : Int) := by
  rw [MapRows_F_T]; rfl

theorem changeTaken_eq {R : Type} (s : Str) (hs : s.length ≤ 1000000) (l : List Int) (hl : l.length < 1000000000) (hsc : scalL l) (low high : Nat) (h1 : low ≤ high) (h2 : high ≤ l.length) (b : Bool)
    (k : Int → Int → Str → Int → Str → Bool → Int → Option R) :
    changeTaken_F s l (begins l) (low : Int) (high : Int) b k = (madeC s (strOf (leftOf l low high b)) (afterOf l low high b : Nat)).ap k := by
  rw [changeTaken_F_T]; unfold changeTaken_T afterOf
  have hls := leftOf_scal hsc low high b
  have hll := leftOf_length l low high b
  rw [changeGone_eq l _ (by omega) low high h1 h2, textOf_eq _ (by rw [runesOf_strOf hls]; omega), runesOf_strOf hls]
  cases b with
  | false =>
    simp only [cond_false]
    have hle : low ≤ (leftOf l low high false).length := by
      unfold leftOf loOf hiOf; simp only [cond_false]; rw [List.length_append, List.length_take, List.length_drop]; omega
    rw [MapRest_eq _ (by omega) low hle, changeMade_eq _ _ hs]
  | true =>
    simp only [cond_true]
    have hc : (begins (leftOf l low high true)).length = (nls (leftOf l low high true) 0).length + 1 := rfl
    have hbl : (nls (leftOf l low high true) 0).length ≤ (leftOf l low high true).length := by rw [nls_length]; exact List.countP_le_length
    rw [MapRow_eq l l (by omega), MapRows_eq, wrap64 (by omega) (by omega), show (((begins (leftOf l low high true)).length : Int) - 1) = (((begins (leftOf l low high true)).length - 1 : Nat) : Int) from by omega, mm_min, ← rowOf_left l low high h1 h2]
    have hm : min low (leftOf l low high true).length ≤ (leftOf l low high true).length := Nat.min_le_right _ _
    rw [MapFirst_eq _ (by omega) (rune_of_scal hls) _ hm, MapRest_eq _ (by omega) _ (firstOf_le _ _ hm), changeMade_eq _ _ hs]

def Chg.with (c : Chg) (took : Str) (line : Bool) : Chg := ⟨c.pat, c.del, c.ins, c.cur, took, line, c.err⟩

theorem Chg.ap_with {R : Type} (c : Chg) (took : Str) (line : Bool) (k : Int → Int → Str → Int → Str → Bool → Int → Option R) : c.ap (fun a b x d _ _ e => k a b x d took line e) = (c.with took line).ap k := rfl

theorem refTidy_eq {R : Type} (s : Str) (hl : (runesOf s).length < 1099511627776) (x : Nat) (hx : x ≤ (runesOf s).length) (k : Int → Option R) : refTidy_F s (x : Int) k = k (restOf (runesOf s) (firstOf (runesOf s) x) : Nat) := by
  rw [refTidy_F_T]; unfold refTidy_T
  rw [refFirst_eq _ hl (rune_of_scal (runesOf_scal s)) x hx, refRest_eq _ hl _ (firstOf_le _ _ hx)]

theorem refDeleted_tail {R : Type} (s : Str) (hs : s.length ≤ 1000000) (y : List Int) (hy : y.length < 1000000000000) (hsc : scalL y) (b : Bool) (low lo : Nat) (hlo : lo ≤ y.length) (hb : b = false → lo = low) (took : Str) (x : Str) (hx : x = strOf y)
    (k : Int → Int → Str → Int → Str → Bool → Int → Option R) :
    refRest_F (runesOf x) (lo : Int) (fun x5 => (bif b then
      refTidy_F x (mm false (low : Int) ((runesOf x).length : Int)) (fun x6 => made18_F s x x6 (fun x7 x8 s9 x10 _ _ x13 => k x7 x8 s9 x10 took b x13))
     else made18_F s x x5 (fun x14 x15 s16 x17 _ _ x20 => k x14 x15 s16 x17 took b x20))) =
    ((madeC s x ((bif b then restOf y (firstOf y (min low y.length)) else restOf y low : Nat) : Int)).with took b).ap k := by
  subst hx
  rw [runesOf_strOf hsc, refRest_eq y (by omega) lo hlo]
  cases b with
  | false =>
    simp only [cond_false]
    rw [made18_eq _ _ hs, hb rfl]; rfl
  | true =>
    simp only [cond_true]
    have hm : min low y.length ≤ y.length := Nat.min_le_right _ _
    rw [mm_min, refTidy_eq _ (by rw [runesOf_strOf hsc]; omega) _ (by rw [runesOf_strOf hsc]; exact hm), made18_eq _ _ hs, runesOf_strOf hsc]; rfl

theorem refDeleted_eq {R : Type} (s : Str) (hs : s.length ≤ 1000000) (l : List Int) (hl : l.length < 1000000000) (hsc : scalL l) (low high : Nat) (h1 : low ≤ high) (h2 : high ≤ l.length) (b : Bool)
    (k : Int → Int → Str → Int → Str → Bool → Int → Option R) :
    refDeleted_F s l (low : Int) (high : Int) b k = ((madeC s (strOf (leftOf l low high b)) (afterOf l low high b : Nat)).with (strOf ((l.take high).drop low)) b).ap k := by
  rw [refDeleted_F_T]; unfold refDeleted_T
  have hls := leftOf_scal hsc low high b
  have hll := leftOf_length l low high b
  have hlo : loOf l low high b ≤ (leftOf l low high b).length := by
    unfold leftOf; rw [List.length_append, List.length_take]
    have : loOf l low high b ≤ low := by unfold loOf; cases b <;> simp only [cond_true, cond_false] <;> (try split) <;> omega
    omega
  have key := fun hb x hx => refDeleted_tail s hs (leftOf l low high b) (by omega) hls b low (loOf l low high b) hlo hb (strOf ((l.take high).drop low)) x hx k
  have hr : ∀ a b : Nat, decide ((strOf (l.take a)).length + (strOf (l.drop b)).length ≤ 9223372036854775807) = true := fun a b => decide_eq_true (room l (by omega) a b)
  simp only [Int.toNat_natCast, List.drop_zero, List.take_length]
  rw [decide_eq_true (by omega : (0 : Int) ≤ (low : Int)), decide_eq_true (by omega : (low : Int) ≤ (l.length : Int)), decide_eq_true (by omega : (0 : Int) ≤ (high : Int)), decide_eq_true (by omega : (high : Int) ≤ (l.length : Int)), decide_eq_true (by omega : (low : Int) ≤ (high : Int))]
  simp only [Bool.and_true, cond_true]
  cases b with
  | false =>
    simp only [cond_false]
    simp only [hr, cond_true]
    refine Eq.trans ?_ (key (fun _ => rfl) _ rfl)
    unfold leftOf loOf hiOf
    simp only [cond_false, strOf_append]
  | true =>
    simp only [cond_true]
    by_cases h : high < l.length
    · rw [decide_eq_true (by omega : (high : Int) < (l.length : Int)), wrap64 (by omega) (by omega), show ((high : Int) + 1).toNat = high + 1 from by omega, decide_eq_true (by omega : (0 : Int) ≤ (high : Int) + 1), decide_eq_true (by omega : (high : Int) + 1 ≤ (l.length : Int))]
      simp only [hr, Bool.and_true, cond_true]
      refine Eq.trans ?_ (key (fun e => by cases e) _ rfl)
      unfold leftOf loOf hiOf
      simp only [cond_true, if_pos h, strOf_append]
    · rw [decide_eq_false (by omega : ¬ (high : Int) < (l.length : Int)), cond_false]
      by_cases h0 : 0 < low
      · rw [decide_eq_true (by omega : (low : Int) > 0), wrap64 (by omega) (by omega), show ((low : Int) - 1).toNat = low - 1 from by omega, decide_eq_true (by omega : (0 : Int) ≤ (low : Int) - 1), decide_eq_true (by omega : (low : Int) - 1 ≤ (l.length : Int))]
        simp only [hr, Bool.and_true, cond_true]
        refine Eq.trans ?_ (key (fun e => by cases e) _ rfl)
        unfold leftOf loOf hiOf
        simp only [cond_true, if_neg h, strOf_append]
        rw [show ((low - 1 : Nat) : Int) = (low : Int) - 1 from by omega]
      · obtain rfl : low = 0 := by omega
        rw [decide_eq_false (by omega : ¬ ((0 : Nat) : Int) > 0)]
        simp only [hr, cond_true, cond_false]
        refine Eq.trans ?_ (key (fun e => by cases e) _ rfl)
        unfold leftOf loOf hiOf
        simp only [cond_true, if_neg h, strOf_append]

end Go.Proofs.YtleoffdjdgbanaaDoor

set_option linter.unusedVariables false
namespace Go.Proofs.YtleoffdjdgbanaaDoor
open Go Go.QA Go.Proofs

theorem num18_eq {R : Type} (x : Int) (k : Int → Option R) : num18_F x k = k x := by rw [num18_F_T]; rfl

/-- What came in is no longer than memory lets it be. -/
def Sized (q : List Str) : Prop := q.length ≤ 140737488355328 ∧ ∀ s ∈ q, s.length ≤ 140737488355328

theorem getD_mem {q : List Str} {i : Nat} (h : i < q.length) : q.getD i [] ∈ q := by
  rw [show q.getD i [] = q[i] from by simp [List.getD, h]]
  exact List.getElem_mem h

/-- The texts' lengths and how many there are, together, from a text on. -/
def weigh : List Str → Nat
  | [] => 0
  | s :: r => s.length + weigh r

theorem weigh_mem : ∀ (q : List Str) (s : Str), s ∈ q → s.length ≤ weigh q
  | [], s, h => by cases h
  | t :: r, s, h => by
    rw [weigh]
    rcases List.mem_cons.1 h with rfl | h
    · omega
    · have := weigh_mem r s h; omega

theorem lawTexts_L {R : Type} (q : List Str) (hq : Sized q) (ke0 : Int → Option R) : ∀ (n i a : Nat), 0 < n → q.length < n + i → a < 141000000000000 →
    ∃ w : Nat, lawTexts_L3 n q (a : Int) (i : Int) ke0 = ke0 (w : Int) ∧ (w ≤ 6000 → a + weigh (q.drop i) ≤ w) := by
  intro n
  induction n with
  | zero => intro i a h0; omega
  | succ n ih =>
    intro i a _ hx ha
    simp only [lawTexts_L3, lawTexts_B3]
    by_cases h : i < q.length
    · rw [decide_eq_true (by omega : (i : Int) < (q.length : Int))]
      by_cases h2 : a < 1048576
      · rw [decide_eq_true (by omega : (a : Int) < 1048576), decide_eq_true (by omega : (0 : Int) ≤ (i : Int))]
        simp only [Bool.and_true, cond_true, Int.toNat_natCast]
        have hs := hq.2 _ (getD_mem h)
        have hq1 := hq.1
        rw [wrap64 (by omega) (by omega), wrap64 (by omega) (by omega)]
        obtain ⟨w, hw1, hw2⟩ := ih (i + 1) (a + (q.getD i []).length) (by omega) (by omega) (by omega)
        refine ⟨w, by simpa using hw1, fun h3 => ?_⟩
        have := hw2 h3
        rw [List.drop_eq_getElem_cons h, weigh]
        have e : q.getD i [] = q[i] := by simp [List.getD, h]
        rw [e] at this
        omega
      · rw [decide_eq_false (by omega : ¬ (a : Int) < 1048576)]
        exact ⟨a, rfl, fun h3 => by omega⟩
    · rw [decide_eq_false (by omega : ¬ (i : Int) < (q.length : Int)), List.drop_eq_nil_of_le (by omega)]
      exact ⟨a, rfl, fun _ => by simp [weigh]⟩

/-- It weighs much, or each text is short. -/
theorem lawHeavy10_eq {R : Type} (q : List Str) (hq : Sized q) (x1 x2 x3 x4 x5 x6 x7 : Int) (k : Bool → Option R) :
    lawHeavy10_F q x1 x2 x3 x4 x5 x6 x7 k = k true ∨ (lawHeavy10_F q x1 x2 x3 x4 x5 x6 x7 k = k false ∧ q.length ≤ 6000 ∧ ∀ s ∈ q, s.length ≤ 6000) := by
  obtain ⟨w, hw1, hw2⟩ := lawTexts_L q hq (fun x5 => k (decide (x5 > (6000 : Int)))) 4611686018427387904 0 q.length (by omega) (by have := hq.1; omega) (by have := hq.1; omega)
  have key : lawHeavy10_F q x1 x2 x3 x4 x5 x6 x7 k = k (decide ((w : Int) > 6000)) := by
    rw [lawHeavy10_F_T]; unfold lawHeavy10_T
    rw [lawHeavy1_F_T]; unfold lawHeavy1_T
    rw [lawTexts_F_T]; unfold lawTexts_T
    rw [lawTexts_M3_eq]
    exact hw1
  rw [key]
  rw [List.drop_zero] at hw2
  by_cases h : (w : Int) > 6000
  · rw [decide_eq_true h]; exact .inl rfl
  · rw [decide_eq_false h]
    have := hw2 (by omega)
    refine .inr ⟨rfl, by omega, fun s hs => ?_⟩
    have := weigh_mem q s hs
    omega

theorem wrapu {x : Int} : 0 ≤ IntKind.wrap .u64 x ∧ IntKind.wrap .u64 x < 18446744073709551616 := by
  simp only [IntKind.wrap, IntKind.bits, IntKind.signed, Bool.false_and]
  constructor
  · exact Int.emod_nonneg _ (by decide)
  · exact Int.emod_lt_of_pos _ (by decide)

theorem wrapu_id {x : Int} (h0 : 0 ≤ x) (h1 : x < 18446744073709551616) : IntKind.wrap .u64 x = x := by
  simp only [IntKind.wrap, IntKind.bits, IntKind.signed, Bool.false_and]
  exact Int.emod_eq_of_lt h0 h1

/-- A number brought within bounds. -/
def withinOf (x : Int) (n : Nat) : Nat := ((IntKind.wrap .u64 x) % ((n : Int) + 1)).toNat

theorem withinOf_le (x : Int) (n : Nat) : withinOf x n ≤ n := by
  unfold withinOf
  have h1 := Int.emod_nonneg (IntKind.wrap .u64 x) (show ((n : Int) + 1) ≠ 0 by omega)
  have h2 := Int.emod_lt_of_pos (IntKind.wrap .u64 x) (show 0 < ((n : Int) + 1) by omega)
  omega

theorem lawWithin_eq {R : Type} (x : Int) (n : Nat) (hn : n < 1099511627776) (k : Int → Option R) : lawWithin_F x (IntKind.wrap .i64 ((n : Int) + 1)) k = k (withinOf x n : Nat) := by
  rw [lawWithin_F_T]; unfold lawWithin_T
  rw [wrap64 (x := (n : Int) + 1) (by omega) (by omega), wrapu_id (x := (n : Int) + 1) (by omega) (by omega)]
  rw [show (((n : Int) + 1) == 0) = false from by simp; omega, cond_false]
  have h0 := wrapu (x := x)
  have h1 := Int.emod_nonneg (IntKind.wrap .u64 x) (show ((n : Int) + 1) ≠ 0 by omega)
  have h2 := Int.emod_lt_of_pos (IntKind.wrap .u64 x) (show 0 < ((n : Int) + 1) by omega)
  rw [Int.tmod_eq_emod_of_nonneg h0.1, wrap64 (by omega) (by omega)]
  unfold withinOf
  congr 1; omega

theorem mm_true (a b : Int) : mm true a b = max a b := by
  unfold mm; simp only [cond_true]; split <;> omega

theorem mm_max (a b : Nat) : mm true (a : Int) (b : Int) = ((max a b : Nat) : Int) := by rw [mm_true]; omega

theorem refBetween15_tells {R : Type} (l : List Int) (hl : l.length < 1099511627776) (a b : Nat) (ha : a ≤ l.length) (hb : b ≤ l.length) (key : Int) (k : Int → Int → Bool → Option R) :
    ∃ x y c, refBetween15_F l (a : Int) (b : Int) key k = k x y c := by
  rw [refBetween15_F_T]; unfold refBetween15_T
  rw [mm_min, mm_max]
  by_cases h1 : key = 1
  · rw [show (key == 1) = true from by simpa using h1, cond_true]
    by_cases h2 : max a b < l.length
    · rw [decide_eq_true (by omega : ((max a b : Nat) : Int) < (l.length : Int)), decide_eq_true (by omega : (0 : Int) ≤ ((max a b : Nat) : Int))]
      simp only [Bool.and_true, cond_true]
      cases (l.getD ((max a b : Nat) : Int).toNat 0 != 10) <;> exact ⟨_, _, _, rfl⟩
    · rw [decide_eq_false (by omega : ¬ ((max a b : Nat) : Int) < (l.length : Int))]
      exact ⟨_, _, _, rfl⟩
  · rw [show (key == 1) = false from by simpa using h1, cond_false]
    by_cases h2 : key = 2
    · rw [show (key == 2) = true from by simpa using h2, cond_true, refBegin_eq l (by omega) _ (by omega), refEnd_eq l (by omega)]
      exact ⟨_, _, _, rfl⟩
    · rw [show (key == 2) = false from by simpa using h2, cond_false]
      exact ⟨_, _, _, rfl⟩

theorem Ranges18_L {R : Type} (l : List Int) (hl : l.length < 1000000000000) (x12 x13 x14 x15 x16 x17 x18 : Int) (q : List Str) (ke0 : List Rec → Option R) : ∀ (n i : Nat) (r : List Rec), i ≤ 5 → 5 < n + i → r.length ≤ 5 + 2 * i →
    ∃ rs : List Rec, Ranges18_L3 n l r (i : Int) x12 x13 x14 x15 x16 x17 x18 q ke0 = ke0 rs ∧ rs.length ≤ 15 := by
  intro n
  induction n with
  | zero => intro i r h0; omega
  | succ n ih =>
    intro i r h1 h2 h3
    simp only [Ranges18_L3, Ranges18_B3]
    by_cases h : i < 5
    · rw [decide_eq_true (by omega : (i : Int) < 5), cond_true, lawWithin_eq _ _ (by omega), lawWithin_eq _ _ (by omega)]
      obtain ⟨x, y, c, hc⟩ := refBetween15_tells l (by omega) _ _ (withinOf_le (IntKind.wrap .i64 (x18 + IntKind.wrap .i64 (7 * (i : Int)))) l.length) (withinOf_le (IntKind.wrap .i64 (x17 + IntKind.wrap .i64 (3 * (i : Int)))) l.length) (Int.tmod (i : Int) 3) (fun x22 x23 b24 => _)
      rw [hc]
      rw [decide_eq_true (by simp only [List.length_append, List.length_cons, List.length_nil]; omega), decide_eq_true (by simp only [List.length_append, List.length_cons, List.length_nil]; omega)]
      simp only [Bool.and_true, cond_true]
      rw [wrap64 (x := (i : Int) + 1) (by omega) (by omega)]
      exact ih (i + 1) _ (by omega) (by omega) (by simp only [List.length_append, List.length_cons, List.length_nil]; omega)
    · rw [decide_eq_false (by omega : ¬ (i : Int) < 5)]
      exact ⟨r, rfl, by omega⟩

theorem Ranges18_tells {R : Type} (q : List Str) (x1 x2 x3 x4 x5 x6 x7 : Int) (l : List Int) (hl : l.length < 1000000000000) (k : List Rec → Option R) : ∃ rs : List Rec, Ranges18_F q x1 x2 x3 x4 x5 x6 x7 l k = k rs ∧ rs.length ≤ 15 := by
  rw [Ranges18_F_T]; unfold Ranges18_T
  rw [Ranges18_M3_eq]
  exact Ranges18_L l hl _ _ _ _ _ _ _ _ _ 4611686018427387904 0 _ (by omega) (by omega) (by simp)

end Go.Proofs.YtleoffdjdgbanaaDoor

set_option linter.unusedVariables false
set_option linter.unusedSimpArgs false
namespace Go.Proofs.YtleoffdjdgbanaaDoor
open Go Go.QA Go.Proofs

section
variable {α : Type}

def consHead (x : α) : List (List α) → List (List α)
  | [] => [[x]]
  | r :: rs => (x :: r) :: rs

/-- Cut at each c. -/
def splitC [DecidableEq α] (c : α) : List α → List (List α)
  | [] => [[]]
  | x :: t => if x = c then [] :: splitC c t else consHead x (splitC c t)

/-- Put together with c between. -/
def unsplit (c : α) : List (List α) → List α
  | [] => []
  | [r] => r
  | r :: s :: t => r ++ c :: unsplit c (s :: t)

theorem consHead_ne (x : α) (l : List (List α)) : consHead x l ≠ [] := by cases l <;> simp [consHead]

theorem splitC_ne [DecidableEq α] (c : α) (l : List α) : splitC c l ≠ [] := by
  cases l with
  | nil => simp [splitC]
  | cons x t =>
    unfold splitC
    split
    · simp
    · exact consHead_ne _ _

theorem unsplit_cons (c : α) (r : List α) {rs : List (List α)} (h : rs ≠ []) : unsplit c (r :: rs) = r ++ c :: unsplit c rs := by
  cases rs with
  | nil => exact absurd rfl h
  | cons s t => rfl

theorem unsplit_head (c x : α) (r : List α) (rs : List (List α)) : unsplit c ((x :: r) :: rs) = x :: unsplit c (r :: rs) := by
  cases rs with
  | nil => rfl
  | cons s t => rfl

theorem unsplit_splitC [DecidableEq α] (c : α) : ∀ l : List α, unsplit c (splitC c l) = l
  | [] => rfl
  | x :: t => by
    have ih := unsplit_splitC c t
    unfold splitC
    by_cases h : x = c
    · rw [if_pos h, unsplit_cons c [] (splitC_ne c t), ih, h]; rfl
    · rw [if_neg h]
      cases hs : splitC c t with
      | nil => exact absurd hs (splitC_ne c t)
      | cons r rs =>
        rw [hs] at ih
        rw [consHead, unsplit_head, ih]

theorem splitC_app [DecidableEq α] (c : α) (p : List α) (hp : ∀ b ∈ p, b ≠ c) (t r : List α) (rs : List (List α)) (h : splitC c t = r :: rs) : splitC c (p ++ t) = (p ++ r) :: rs := by
  induction p with
  | nil => simpa using h
  | cons b p ih =>
    rw [List.cons_append, splitC, if_neg (hp b (List.mem_cons_self ..)), ih fun x hx => hp x (List.mem_cons_of_mem _ hx)]; rfl

theorem splitC_length [DecidableEq α] (c : α) : ∀ l : List α, (splitC c l).length ≤ l.length + 1
  | [] => by simp [splitC]
  | x :: t => by
    have ih := splitC_length c t
    unfold splitC
    split
    · simp; omega
    · cases hs : splitC c t with
      | nil => simp [consHead]
      | cons r rs => rw [hs] at ih; simp [consHead] at ih ⊢; omega

/-- At a row's begin the rows ahead of it are one part, those behind it the other. -/
theorem splitC_at [DecidableEq α] (c : α) [BEq α] [LawfulBEq α] : ∀ (l : List α) (p : Nat), p ≤ l.length → (p = 0 ∨ l[p - 1]? = some c) →
    (splitC c l).drop ((l.take p).countP (· == c)) = splitC c (l.drop p) ∧ ∀ X : List (List α), X ≠ [] → unsplit c ((splitC c l).take ((l.take p).countP (· == c)) ++ X) = l.take p ++ unsplit c X
  | l, 0, _, _ => by simp
  | [], p + 1, h, _ => by simp at h
  | x :: t, p + 1, h, hc => by
    rcases hc with hc | hc
    · omega
    simp only [Nat.add_sub_cancel] at hc
    rw [List.take_succ_cons, List.drop_succ_cons]
    by_cases hx : x = c
    · have ih := splitC_at c t p (by simpa using h) (by
        cases p with
        | zero => exact .inl rfl
        | succ p => exact .inr (by simpa using hc))
      rw [List.countP_cons_of_pos (by simpa using hx)]
      rw [splitC, if_pos hx, List.drop_succ_cons]
      refine ⟨ih.1, fun X hX => ?_⟩
      rw [List.take_succ_cons, List.cons_append, unsplit_cons c [] (by simp [hX]), ih.2 X hX, hx]; rfl
    · cases p with
      | zero => exact absurd (by simpa using hc) hx
      | succ p =>
        have hc' : t[p]? = some c := by simpa using hc
        have ih := splitC_at c t (p + 1) (by simpa using h) (.inr hc')
        rw [List.countP_cons_of_neg (by simpa using hx)]
        have hp : p < t.length := by simp at h; omega
        have hpos : 0 < (t.take (p + 1)).countP (· == c) := by
          rw [List.countP_pos_iff]
          refine ⟨c, ?_, by simp⟩
          rw [List.getElem?_eq_getElem hp] at hc'
          have e : t[p] = c := Option.some.inj hc'
          rw [List.take_succ_eq_append_getElem hp, e]; simp
        obtain ⟨k, hk⟩ : ∃ k, (t.take (p + 1)).countP (· == c) = k + 1 := ⟨_, (Nat.succ_pred_eq_of_pos hpos).symm⟩
        rw [hk] at ih ⊢
        rw [splitC, if_neg hx]
        cases hs : splitC c t with
        | nil => exact absurd hs (splitC_ne c t)
        | cons r rs =>
          rw [hs] at ih
          rw [consHead, List.drop_succ_cons]
          rw [List.drop_succ_cons] at ih
          refine ⟨ih.1, fun X hX => ?_⟩
          have := ih.2 X hX
          rw [List.take_succ_cons, List.cons_append] at this ⊢
          rw [unsplit_head, this]; rfl
end

/-! ### bytes and runes -/

theorem index_cons10 (b : UInt8) (t : Str) : Lib.index (b :: t) [10] = if b = 10 then 0 else if Lib.index t [10] = -1 then -1 else Lib.index t [10] + 1 := by
  rw [Lib.index]
  by_cases h : b = 10
  · subst h; simp [List.isPrefixOf]
  · have : ([10] : List UInt8).isPrefixOf (b :: t) = false := by simp [List.isPrefixOf, Ne.symm h]
    rw [this, if_neg h]
    simp

theorem splitK_one : ∀ s : Str, Lib.splitK [10] 0 (s.count 10) s = splitC 10 s
  | [] => rfl
  | b :: t => by
    have ih := splitK_one t
    by_cases h : b = 10
    · subst h
      rw [List.count_cons_self, Lib.splitK, index_cons10, if_pos rfl, splitC, if_pos rfl]
      simp [ih]
    · rw [List.count_cons_of_ne (by simpa using h), splitC, if_neg h, ← ih]
      cases hc : t.count 10 with
      | zero => rfl
      | succ k =>
        have hi : Lib.index t [10] ≠ -1 := by
          intro e
          have := Lib.count_miss e
          rw [Lib.count_one, hc] at this
          cases this
        have hge := Lib.index_ge t [10]
        have e1 : (Lib.index t [10] == -1) = false := by simpa using hi
        have e2 : (Lib.index t [10] + 1 == -1) = false := by simp; omega
        rw [Lib.splitK, Lib.splitK, index_cons10, if_neg h, if_neg hi, e1, e2]
        simp only [Bool.false_eq_true, if_false, consHead]
        rw [show (Lib.index t [10] + 1).toNat = (Lib.index t [10]).toNat + 1 from by omega]
        simp [Nat.add_right_comm]

theorem splitL_one (s : Str) : splitL s [10] = splitC 10 s := by
  unfold splitL
  rw [Lib.splitB_data]
  have : Lib.countB ⟨⟨s⟩⟩ ⟨⟨[10]⟩⟩ = s.count 10 := by
    rw [show Lib.countB ⟨⟨s⟩⟩ ⟨⟨[10]⟩⟩ = Lib.count s [10] from by simp [Lib.countB, Lib.count], Lib.count_one]
  rw [this]
  exact splitK_one s

theorem enc_10 : enc 10 = [10] := by decide

theorem splitC_strOf : ∀ {l : List Int}, scalL l → splitC (10 : UInt8) (strOf l) = (splitC (10 : Int) l).map strOf
  | [], _ => rfl
  | x :: l, h => by
    rw [scalL_cons] at h
    have ih := splitC_strOf h.2
    rw [strOf_cons]
    by_cases hx : x = 10
    · subst hx
      rw [enc_10, List.singleton_append, splitC, if_pos rfl, ih, splitC, if_pos rfl]; rfl
    · rw [splitC, if_neg hx]
      cases hs : splitC (10 : Int) l with
      | nil => exact absurd hs (splitC_ne _ _)
      | cons r rs =>
        rw [hs] at ih
        rw [splitC_app 10 (enc x) (by
          intro b hb e
          subst e
          have := (enc_low h.1 (b := 10) (by decide)).1 hb
          exact hx this) (strOf l) (strOf r) (rs.map strOf) ih]
        rfl

theorem join_strOf : ∀ rs : List (List Int), Lib.join (rs.map strOf) [10] = strOf (unsplit 10 rs)
  | [] => rfl
  | [r] => by rw [List.map_cons, List.map_nil, Lib.join_one]; rfl
  | r :: s :: t => by
    have ih := join_strOf (s :: t)
    rw [unsplit, strOf_append, strOf_cons, enc_10, ← ih]
    simp [Lib.join, List.intercalate]

end Go.Proofs.YtleoffdjdgbanaaDoor

set_option linter.unusedVariables false
set_option linter.unusedSimpArgs false
namespace Go.Proofs.YtleoffdjdgbanaaDoor
open Go Go.QA Go.Proofs

/-- Without its first rune, where that is a blank. -/
def dropR : List Int → List Int
  | [] => []
  | x :: t => if classOf x = 0 then t else x :: t

def dropB : Str → Str
  | [] => []
  | b :: t => if classOf (b.toNat : Int) = 0 then t else b :: t

/-- A row that is shifted: right (62), left. -/
def shiftR (key : Int) (r : List Int) : List Int := if r = [] then [] else if key = 62 then 32 :: 32 :: r else dropR (dropR r)
def shiftS (key : Int) (s : Str) : Str := if s = [] then [] else if key = 62 then [32, 32] ++ s else dropB (dropB s)

theorem strOf_nil_iff {r : List Int} : strOf r = [] ↔ r = [] := by
  cases r with
  | nil => simp [strOf_nil]
  | cons x t =>
    rw [strOf_cons]
    exact ⟨fun h => absurd h (enc_ne x _), fun h => by cases h⟩

theorem dropB_strOf {r : List Int} (h : scalL r) : dropB (strOf r) = strOf (dropR r) := by
  cases r with
  | nil => rfl
  | cons x t =>
    rw [scalL_cons] at h
    rw [strOf_cons, dropR]
    obtain ⟨n, rfl, hs, hr⟩ := scal_nat h.1
    by_cases c1 : n < 128
    · rw [enc_one c1, List.singleton_append, dropB, ofNat_toNat (by omega)]
      split
      · rfl
      · rw [strOf_cons, enc_one c1]; rfl
    · rw [if_neg (by rw [classOf_1 (by omega)]; decide)]
      have key : ∀ (b : UInt8) (u : Str), 128 ≤ b.toNat → dropB (b :: u) = b :: u := by
        intro b u hb
        rw [dropB, if_neg (by rw [classOf_1 (by omega)]; decide)]
      rw [strOf_cons]
      by_cases c2 : n < 2048
      · rw [enc_two c1 c2, List.cons_append]
        exact key _ _ (by rw [ofNat_toNat (by omega)]; omega)
      by_cases c3 : n < 65536
      · rw [enc_three c2 c3 (by omega), List.cons_append]
        exact key _ _ (by rw [ofNat_toNat (by omega)]; omega)
      · rw [enc_four c3 hr, List.cons_append]
        exact key _ _ (by rw [ofNat_toNat (by omega)]; omega)

theorem dropR_scal {r : List Int} (h : scalL r) : scalL (dropR r) := by
  cases r with
  | nil => exact h
  | cons x t =>
    rw [dropR]
    split
    · exact (scalL_cons.1 h).2
    · exact h

theorem scal_32 : scal 32 := .inl (by omega)

theorem shiftR_scal (key : Int) {r : List Int} (h : scalL r) : scalL (shiftR key r) := by
  unfold shiftR
  split
  · exact scalL_nil
  · split
    · exact scalL_cons.2 ⟨scal_32, scalL_cons.2 ⟨scal_32, h⟩⟩
    · exact dropR_scal (dropR_scal h)

theorem enc_32 : enc 32 = [32] := by decide

theorem shiftS_strOf (key : Int) {r : List Int} (h : scalL r) : shiftS key (strOf r) = strOf (shiftR key r) := by
  unfold shiftS shiftR
  by_cases hr : r = []
  · rw [if_pos (strOf_nil_iff.2 hr), if_pos hr]; rfl
  · rw [if_neg (fun e => hr (strOf_nil_iff.1 e)), if_neg hr]
    split
    · rw [strOf_cons, strOf_cons, enc_32]; rfl
    · rw [dropB_strOf h, dropB_strOf (dropR_scal h)]

theorem dropR_len (r : List Int) : (dropR r).length ≤ r.length := by
  cases r with
  | nil => exact Nat.le_refl _
  | cons x t => rw [dropR]; split <;> simp

theorem shiftR_len (key : Int) (r : List Int) : (shiftR key r).length ≤ r.length + 2 := by
  unfold shiftR
  split
  · simp
  · split
    · simp
    · have := dropR_len r; have := dropR_len (dropR r); omega

/-- The first rows shifted. -/
def shiftN (key : Int) : Nat → List (List Int) → List (List Int)
  | 0, rs => rs
  | _ + 1, [] => []
  | n + 1, r :: rs => shiftR key r :: shiftN key n rs

theorem shiftN_length (key : Int) : ∀ n rs, (shiftN key n rs).length = rs.length
  | 0, _ => rfl
  | _ + 1, [] => rfl
  | n + 1, r :: rs => by simp [shiftN, shiftN_length key n rs]

theorem shiftN_ne (key : Int) (n : Nat) {rs : List (List Int)} (h : rs ≠ []) : shiftN key n rs ≠ [] := by
  intro e
  have := shiftN_length key n rs
  rw [e] at this
  exact h (List.length_eq_zero_iff.1 this.symm)

theorem unsplit_length (c : Int) : ∀ rs : List (List Int), (unsplit c rs).length ≤ (rs.map List.length).sum + rs.length
  | [] => by simp [unsplit]
  | [r] => by simp [unsplit]
  | r :: s :: t => by
    have := unsplit_length c (s :: t)
    rw [unsplit]; simp at this ⊢; omega

theorem sum_splitC : ∀ l : List Int, ((splitC 10 l).map List.length).sum ≤ l.length
  | [] => by simp [splitC]
  | x :: t => by
    have ih := sum_splitC t
    rw [splitC]
    split
    · simp; omega
    · cases hs : splitC (10 : Int) t with
      | nil => simp [consHead]
      | cons r rs => rw [hs] at ih; simp [consHead] at ih ⊢; omega

theorem sum_shiftN (key : Int) : ∀ (n : Nat) (rs : List (List Int)), ((shiftN key n rs).map List.length).sum ≤ (rs.map List.length).sum + 2 * rs.length
  | 0, rs => by rw [shiftN]; omega
  | _ + 1, [] => by simp [shiftN]
  | n + 1, r :: rs => by
    have := sum_shiftN key n rs
    have := shiftR_len key r
    simp [shiftN]; omega

theorem scalL_splitC : ∀ {l : List Int}, scalL l → ∀ r ∈ splitC 10 l, scalL r
  | [], _, r, h => by simp [splitC] at h; subst h; exact scalL_nil
  | x :: t, hl, r, h => by
    rw [scalL_cons] at hl
    have ih := fun r h => scalL_splitC hl.2 r h
    rw [splitC] at h
    split at h
    · rcases List.mem_cons.1 h with rfl | h
      · exact scalL_nil
      · exact ih r h
    · cases hs : splitC (10 : Int) t with
      | nil => exact absurd hs (splitC_ne _ _)
      | cons s ss =>
        rw [hs] at h ih
        rw [consHead] at h
        rcases List.mem_cons.1 h with rfl | h
        · exact scalL_cons.2 ⟨hl.1, ih s (List.mem_cons_self ..)⟩
        · exact ih r (List.mem_cons_of_mem _ h)

theorem scalL_unsplit : ∀ {rs : List (List Int)}, (∀ r ∈ rs, scalL r) → scalL (unsplit 10 rs)
  | [], _ => scalL_nil
  | [r], h => h r (List.mem_cons_self ..)
  | r :: s :: t, h => by
    rw [unsplit, scalL_append, scalL_cons]
    exact ⟨h r (List.mem_cons_self ..), .inl (by omega), scalL_unsplit fun x hx => h x (List.mem_cons_of_mem _ hx)⟩

theorem scalL_shiftN (key : Int) : ∀ (n : Nat) {rs : List (List Int)}, (∀ r ∈ rs, scalL r) → ∀ r ∈ shiftN key n rs, scalL r
  | 0, _, h => h
  | _ + 1, [], h => h
  | n + 1, r :: rs, h => by
    intro x hx
    rw [shiftN] at hx
    rcases List.mem_cons.1 hx with rfl | hx
    · exact shiftR_scal key (h r (List.mem_cons_self ..))
    · exact scalL_shiftN key n (fun y hy => h y (List.mem_cons_of_mem _ hy)) x hx

/-! ### the loops -/

theorem set_getD_self {q : List Str} {i : Nat} (h : i < q.length) : q.set i (q.getD i []) = q := by
  rw [show q.getD i [] = q[i] from by simp [List.getD, h]]
  exact List.set_getElem_self h

theorem changeRows_step {R : Type} (rec : Str → List Int → List Int → Int → List Str → Int → Int → Bool → Int → Int → Bool → Str → Int → Str → Int → Int → Str → Nat → Option R) (s26 : Str) (l27 l28 : List Int) (x29 : Int) (q : List Str) (x31 : Int) (i : Nat) (hi : i < q.length) (b33 : Bool) (x34 x35 : Int) (b36 : Bool) (s37 : Str) (x38 : Int) (s39 : Str) (x40 x41 : Int) (n : Nat) (hn : n < 2)
    (ke0 : Str → List Int → List Int → Int → List Str → Int → Int → Bool → Int → Int → Bool → Str → Int → Str → Int → Int → Option R) :
    changeRows_B7 rec s26 l27 l28 x29 q x31 (i : Int) b33 x34 x35 b36 s37 x38 s39 x40 x41 [32, 32] n ke0 = rec s26 l27 l28 x29 (q.set i (dropB (q.getD i []))) x31 (i : Int) b33 x34 x35 b36 s37 x38 s39 x40 x41 [32, 32] (n + 1) := by
  have hdec : (Go.Utf8.decode { data := { toList := [32, 32] } } n).2 = 1 := by
    match n, hn with
    | 0, _ => rfl
    | 1, _ => rfl
  unfold changeRows_B7
  rw [hdec, decide_eq_true (by simpa using hn : n < List.length ([32, 32] : Str)), decide_eq_true (by omega : (0 : Int) ≤ (i : Int)), decide_eq_true (by omega : (i : Int) < (q.length : Int))]
  simp only [Bool.and_true, cond_true, Int.toNat_natCast]
  have hset := set_getD_self hi
  obtain hq | ⟨b, t, hq⟩ : q.getD i [] = [] ∨ ∃ b t, q.getD i [] = b :: t := by
    cases hq : q.getD i [] with
    | nil => exact .inl rfl
    | cons b t => exact .inr ⟨b, t, rfl⟩
  · rw [hq] at hset
    simp only [hq, beq_self_eq_true, Bool.not_true, cond_false, dropB]
    rw [hset]
  · rw [hq] at hset
    have hbne : ((b :: t == ([] : Str))) = false := rfl
    simp only [hq, hbne, Bool.not_false, cond_true]
    rw [decide_eq_true (by omega : (0 : Int) ≤ 0), decide_eq_true (by simp only [List.length_cons]; omega : (0 : Int) < ((b :: t).length : Int))]
    simp only [Bool.and_true, cond_true]
    have hb := b.toNat_lt
    rw [show (b :: t).getD (0 : Int).toNat 0 = b from rfl, wrap64 (by omega) (by omega), textClass_eq]
    rw [decide_eq_true (by omega : (0 : Int) ≤ 1), decide_eq_true (by simp only [List.length_cons]; omega : (1 : Int) ≤ ((b :: t).length : Int))]
    simp only [Bool.and_true, cond_true]
    rw [dropB]
    by_cases hc : classOf (b.toNat : Int) = 0
    · rw [hc, if_pos rfl]
      simp
    · rw [show (classOf (b.toNat : Int) == 0) = false from by simpa using hc, if_neg hc, cond_false, hset]

theorem changeRows_7 {R : Type} (s26 : Str) (l27 l28 : List Int) (x29 : Int) (q : List Str) (x31 : Int) (i : Nat) (hi : i < q.length) (b33 : Bool) (x34 x35 : Int) (b36 : Bool) (s37 : Str) (x38 : Int) (s39 : Str) (x40 x41 : Int)
    (ke0 : Str → List Int → List Int → Int → List Str → Int → Int → Bool → Int → Int → Bool → Str → Int → Str → Int → Int → Option R) :
    changeRows_M7 s26 l27 l28 x29 q x31 (i : Int) b33 x34 x35 b36 s37 x38 s39 x40 x41 [32, 32] 0 ke0 = ke0 s26 l27 l28 x29 (q.set i (dropB (dropB (q.getD i [])))) x31 (i : Int) b33 x34 x35 b36 s37 x38 s39 x40 x41 := by
  rw [changeRows_M7_eq]
  generalize hN : (4611686018427387904 : Nat) = N
  obtain ⟨m, rfl⟩ : ∃ m, N = m + 1 + 1 + 1 := ⟨N - 3, by omega⟩
  clear hN
  simp only [changeRows_L7]
  rw [changeRows_step _ s26 l27 l28 x29 q x31 i hi b33 x34 x35 b36 s37 x38 s39 x40 x41 0 (by omega)]
  rw [changeRows_step _ s26 l27 l28 x29 _ x31 i (by simpa using hi) b33 x34 x35 b36 s37 x38 s39 x40 x41 (0 + 1) (by omega)]
  unfold changeRows_B7
  rw [decide_eq_false (by simp : ¬ (0 + 1 + 1) < List.length ([32, 32] : Str)), cond_false]
  congr 1
  rw [List.set_set]
  congr 2
  simp [List.getD, hi]

/-- So many rows from one on, shifted. -/
def rowsGo (key : Int) : Nat → Nat → List Str → List Str
  | 0, _, q => q
  | n + 1, i, q => rowsGo key n (i + 1) (q.set i (shiftS key (q.getD i [])))

theorem getD_set_ne {q : List Str} {i j : Nat} (h : i ≠ j) (v : Str) : (q.set i v).getD j [] = q.getD j [] := by
  simp [List.getD, List.getElem?_set_ne h]

theorem changeRows_4 {R : Type} (s9 : Str) (l : List Int) (hl : l.length < 1099511627776) (key : Int) (hk : key = 62 ∨ key = 60) (x14 : Int) (b16 : Bool) (high : Nat) (x18 : Int) (b19 : Bool) (s20 : Str) (x21 : Int) (s22 : Str) (x23 x24 : Int)
    (ke0 : Str → List Str → Int → Bool → Str → Int → Str → Int → Int → Option R) :
    ∀ (n i : Nat) (q : List Str), rowOf l high < q.length → q.length < 1099511627776 → (∀ j, i ≤ j → (q.getD j []).length ≤ 140737488355328) → i ≤ rowOf l high + 1 → rowOf l high + 1 < n + i →
      changeRows_L4 n s9 l (begins l) key q x14 (i : Int) b16 (high : Int) x18 b19 s20 x21 s22 x23 x24 ke0 = ke0 s9 (rowsGo key (rowOf l high + 1 - i) i q) x14 b19 s20 x21 s22 x23 x24 := by
  intro n
  induction n with
  | zero => intro i q h1 h2 h3 h4 h5; omega
  | succ n ih =>
    intro i q h1 h2 h3 h4 h5
    simp only [changeRows_L4, changeRows_B4]
    rw [MapRow_eq l l hl]
    by_cases h : i ≤ rowOf l high
    · rw [decide_eq_true (by omega : (i : Int) ≤ ((rowOf l high : Nat) : Int)), decide_eq_true (by omega : (0 : Int) ≤ (i : Int)), decide_eq_true (by omega : (i : Int) < (q.length : Int))]
      simp only [Bool.and_true, cond_true, Int.toNat_natCast]
      rw [wrap64 (x := (i : Int) + 1) (by omega) (by omega), show rowOf l high + 1 - i = (rowOf l high + 1 - (i + 1)) + 1 from by omega, rowsGo]
      have hi : i < q.length := by omega
      have next : ∀ v : Str, changeRows_L4 n s9 l (begins l) key (q.set i v) x14 ((i : Int) + 1) b16 (high : Int) x18 b19 s20 x21 s22 x23 x24 ke0 = ke0 s9 (rowsGo key (rowOf l high + 1 - (i + 1)) (i + 1) (q.set i v)) x14 b19 s20 x21 s22 x23 x24 := by
        intro v
        exact ih (i + 1) (q.set i v) (by simpa using h1) (by simpa using h2) (fun j hj => by rw [getD_set_ne (by omega)]; exact h3 j (by omega)) (by omega) (by omega)
      have hset := set_getD_self hi
      have hlen := h3 i (Nat.le_refl _)
      by_cases hq : q.getD i [] = []
      · have e : (q.getD i [] == ([] : Str)) = true := by rw [hq]; rfl
        rw [e, cond_true]
        have := next (q.getD i [])
        rw [hset] at this
        rw [this]
        congr 2
        rw [hq, shiftS, if_pos rfl, ← hq, hset]
      · have e : (q.getD i [] == ([] : Str)) = false := by simpa using hq
        rw [e, cond_false]
        have hs : shiftS key (q.getD i []) = if key = 62 then [32, 32] ++ q.getD i [] else dropB (dropB (q.getD i [])) := by rw [shiftS, if_neg hq]
        rcases hk with rfl | rfl
        · rw [if_pos rfl] at hs
          rw [hs, ← next]
          simp only [beq_self_eq_true, cond_true]
          rw [decide_eq_true (by simp only [List.length_cons, List.length_nil]; omega)]
          rfl
        · rw [if_neg (by decide)] at hs
          rw [hs, ← next]
          simp only [show ((60 : Int) == 62) = false from rfl, cond_false]
          rw [changeRows_7 s9 l (begins l) 60 q x14 i hi]
          rw [wrap64 (by omega) (by omega)]
    · rw [decide_eq_false (by omega : ¬ (i : Int) ≤ ((rowOf l high : Nat) : Int)), show rowOf l high + 1 - i = 0 from by omega]; rfl

/-- The rows that the loop leaves. -/
theorem rowsGo_eq (key : Int) : ∀ (n : Nat) (p : List Str) (rs : List (List Int)), (∀ r ∈ rs, scalL r) → n ≤ rs.length → rowsGo key n p.length (p ++ rs.map strOf) = p ++ (shiftN key n rs).map strOf
  | 0, _, _, _, _ => rfl
  | n + 1, p, [], _, h => by simp at h
  | n + 1, p, r :: rs, hr, h => by
    have ih := rowsGo_eq key n (p ++ [strOf (shiftR key r)]) rs (fun x hx => hr x (List.mem_cons_of_mem _ hx)) (by simpa using h)
    rw [rowsGo, shiftN]
    have e1 : (p ++ (r :: rs).map strOf).getD p.length [] = strOf r := by simp [List.getD]
    have e2 : (p ++ (r :: rs).map strOf).set p.length (strOf (shiftR key r)) = (p ++ [strOf (shiftR key r)]) ++ rs.map strOf := by
      rw [List.set_append_right _ _ (Nat.le_refl _)]; simp
    rw [e1, shiftS_strOf key (hr r (List.mem_cons_self ..)), e2]
    simp only [List.length_append, List.length_cons, List.length_nil, Nat.zero_add] at ih
    rw [ih]; simp

end Go.Proofs.YtleoffdjdgbanaaDoor

namespace Go.Proofs.YtleoffdjdgbanaaDoor
open Go Go.QA Go.Proofs

/-- A letter turned: small (117), great (85), the other one (126). -/
def turnOf (key x : Int) : Int := if (65 ≤ x ∧ x ≤ 90) ∧ key ≠ 85 then x + 32 else if (97 ≤ x ∧ x ≤ 122) ∧ key ≠ 117 then x - 32 else x

theorem turnOf_scal {key x : Int} (h : scal x) : scal (turnOf key x) := by
  unfold turnOf scal at *
  split
  · omega
  · split <;> omega

theorem wrap32 {x : Int} (h0 : -2147483648 ≤ x) (h1 : x ≤ 2147483647) : IntKind.wrap .i32 x = x := by
  simp only [IntKind.wrap, IntKind.bits, IntKind.signed, Bool.true_and]
  split <;> rename_i h <;> simp at h <;> omega

theorem Turned18_eq {R : Type} (x key : Int) (hx : isRune x) (k : Int → Option R) : Turned18_F x key k = k (turnOf key x) := by
  obtain ⟨h1, h2⟩ := hx
  rw [Turned18_F_T]; unfold Turned18_T turnOf
  rw [wrap32 (x := x + 97) (by omega) (by omega), wrap32 (x := x + 97 - 65) (by omega) (by omega), wrap32 (x := x - 97) (by omega) (by omega), wrap32 (x := x - 97 + 65) (by omega) (by omega)]
  simp only [cond_eq_ite, decide_eq_true_eq, bne_iff_ne]
  repeat' split
  all_goals first | rfl | (exfalso; omega) | (congr 1; omega)

theorem changeTurned_eq {R : Type} (x key : Int) (hx : isRune x) (hk : key = 117 ∨ key = 85 ∨ key = 126) (k : Int → Option R) : changeTurned_F x key k = k (turnOf key x) := by
  obtain ⟨h1, h2⟩ := hx
  rw [changeTurned_F_T]; unfold changeTurned_T
  by_cases h : x ≥ 128
  · rw [decide_eq_true h, cond_true]
    unfold turnOf; rw [if_neg (by omega), if_neg (by omega)]
  · rw [decide_eq_false h, cond_false]
    unfold libToLower_F libToUpper_F libIsUpper_F
    rw [decide_eq_true (by omega : x ≤ 127), decide_eq_true (by omega : (0 : Int) ≤ x), decide_eq_true (by omega : x < 256)]
    unfold turnOf Lib.toLowerR Lib.toUpperR Lib.isUpperL
    simp only [cond_eq_ite, decide_eq_true_eq, beq_iff_eq, Bool.and_true, if_true]
    repeat' split
    all_goals first | rfl | (exfalso; omega) | (congr 1; omega)

/-- Runes from an offset on, so many, turned. -/
def turnGo (key : Int) : Nat → Nat → List Int → List Int
  | 0, _, l => l
  | n + 1, i, l => turnGo key n (i + 1) (l.set i (turnOf key (l.getD i 0)))

theorem turnGo_length (key : Int) : ∀ n i l, (turnGo key n i l).length = l.length
  | 0, _, _ => rfl
  | n + 1, i, l => by rw [turnGo, turnGo_length key n]; simp

theorem getD_set_self {l : List Int} {i : Nat} (h : i < l.length) (v : Int) : (l.set i v).getD i 0 = v := by simp [List.getD, h]

theorem set_all {p : Int → Prop} {l : List Int} (h : ∀ x ∈ l, p x) {i : Nat} {v : Int} (hv : p v) : ∀ x ∈ l.set i v, p x := by
  intro x hx
  rcases List.mem_or_eq_of_mem_set hx with h1 | h1
  · exact h x h1
  · exact h1 ▸ hv

theorem getD_scal {l : List Int} (h : scalL l) {i : Nat} (hi : i < l.length) : scal (l.getD i 0) := by
  rw [getD_at hi]; exact h _ (List.getElem_mem hi)

theorem turnGo_scal (key : Int) : ∀ (n i : Nat) (l : List Int), i + n ≤ l.length → scalL l → scalL (turnGo key n i l)
  | 0, _, _, _, h => h
  | n + 1, i, l, hi, h => by
    rw [turnGo]
    exact turnGo_scal key n (i + 1) _ (by simp; omega) (set_all h (turnOf_scal (getD_scal h (by omega))))

theorem changeTurned1_L {R : Type} (s8 : Str) (l9 l10 : List Int) (key : Int) (hk : key = 117 ∨ key = 85 ∨ key = 126) (x12 : Int) (b15 : Bool) (x17 : Int) (b18 : Bool) (s19 : Str) (x20 : Int) (s21 : Str) (x22 x23 : Int)
    (ke0 : Str → List Int → List Int → Int → List Int → Bool → Int → Int → Bool → Str → Int → Str → Int → Int → Option R) :
    ∀ (n i high : Nat) (l : List Int), l.length < 1099511627776 → scalL l → i ≤ high → high ≤ l.length → high < n + i →
      changeTurned1_L3 n s8 l9 l10 key x12 l (i : Int) b15 (high : Int) x17 b18 s19 x20 s21 x22 x23 ke0 = ke0 s8 l9 l10 x12 (turnGo key (high - i) i l) b15 (high : Int) x17 b18 s19 x20 s21 x22 x23 := by
  intro n
  induction n with
  | zero => intro i high l _ _ h1 h2 h3; omega
  | succ n ih =>
    intro i high l hl hsc h1 h2 h3
    simp only [changeTurned1_L3, changeTurned1_B3]
    by_cases h : i < high
    · rw [decide_eq_true (by omega : (i : Int) < (high : Int)), decide_eq_true (by omega : (0 : Int) ≤ (i : Int)), decide_eq_true (by omega : (i : Int) < (l.length : Int))]
      simp only [Bool.and_true, cond_true, Int.toNat_natCast]
      have hg := getD_scal hsc (i := i) (by omega)
      rw [changeTurned_eq _ key (by unfold scal at hg; unfold isRune; omega) hk, wrap64 (by omega) (by omega)]
      have := ih (i + 1) high (l.set i (turnOf key (l.getD i 0))) (by simpa using hl) (set_all hsc (turnOf_scal hg)) (by omega) (by simpa using h2) (by omega)
      rw [show high - i = (high - (i + 1)) + 1 from by omega, turnGo]
      simpa using this
    · rw [decide_eq_false (by omega : ¬ (i : Int) < (high : Int)), show high - i = 0 from by omega]; rfl

theorem refChange_L {R : Type} (s36 : Str) (key : Int) (hk : key = 117 ∨ key = 85 ∨ key = 126) (x38 : Int) (b41 : Bool) (x43 : Int) (b44 : Bool) (s45 : Str) (x46 : Int) (s47 : Str) (x48 x49 : Int)
    (ke0 : Str → Int → List Int → Bool → Str → Int → Str → Int → Int → Option R) :
    ∀ (n i high : Nat) (l : List Int), l.length < 1099511627776 → scalL l → i ≤ high → high ≤ l.length → high < n + i →
      refChange_L20 n s36 (key + 16777216) x38 l (i : Int) b41 (high : Int) x43 b44 s45 x46 s47 x48 x49 ke0 = ke0 s36 x38 (turnGo key (high - i) i l) b44 s45 x46 s47 x48 x49 := by
  intro n
  induction n with
  | zero => intro i high l _ _ h1 h2 h3; omega
  | succ n ih =>
    intro i high l hl hsc h1 h2 h3
    simp only [refChange_L20, refChange_B20]
    by_cases h : i < high
    · rw [decide_eq_true (by omega : (i : Int) < (high : Int)), decide_eq_true (by omega : (0 : Int) ≤ (i : Int)), decide_eq_true (by omega : (i : Int) < (l.length : Int))]
      simp only [Bool.and_true, cond_true, Int.toNat_natCast]
      have hg := getD_scal hsc (i := i) (by omega)
      rw [wrap64 (x := key + 16777216 - 16777216) (by omega) (by omega), show key + 16777216 - 16777216 = key from by omega, Turned18_eq _ key (by unfold scal at hg; unfold isRune; omega), wrap64 (by omega) (by omega)]
      have := ih (i + 1) high (l.set i (turnOf key (l.getD i 0))) (by simpa using hl) (set_all hsc (turnOf_scal hg)) (by omega) (by simpa using h2) (by omega)
      rw [show high - i = (high - (i + 1)) + 1 from by omega, turnGo]
      simpa using this
    · rw [decide_eq_false (by omega : ¬ (i : Int) < (high : Int)), show high - i = 0 from by omega]; rfl

theorem changeTurned1_eq {R : Type} (s : Str) (hs : s.length ≤ 1000000) (key : Int) (hk : key = 117 ∨ key = 85 ∨ key = 126) (low high : Nat) (h1 : low ≤ high) (h2 : high ≤ (runesOf s).length) (b : Bool) (hb : b = true → beginOf (runesOf s) low = low)
    (at' : Nat) (hat : at' ≤ (runesOf s).length) (k : Int → Int → Str → Int → Str → Bool → Int → Option R) :
    changeTurned1_F s (runesOf s) (begins (runesOf s)) (low : Int) (high : Int) b key (at' : Int) k =
      (madeC s (strOf (turnGo key (high - low) low (runesOf s))) (standsOf (runesOf s) low b at' : Nat)).ap k := by
  have hle := runesOf_length_le s
  rw [changeTurned1_F_T]; unfold changeTurned1_T
  rw [changeTurned1_M3_eq]
  refine Eq.trans (changeTurned1_L s _ _ key hk _ b _ _ _ _ _ _ _ _ 4611686018427387904 low high _ (by omega) (runesOf_scal s) h1 h2 (by omega)) ?_
  rw [changeStands_eq _ (by omega) low (by omega) _ b hb at' hat, changeMade_eq _ _ hs]

end Go.Proofs.YtleoffdjdgbanaaDoor

set_option linter.unusedVariables false
namespace Go.Proofs.YtleoffdjdgbanaaDoor
open Go Go.QA Go.Proofs

/-- What is told where an error is. -/
def fixC (c : Chg) : Chg := bif c.err == 0 then c else ⟨0, 0, [], 0, [], false, c.err⟩

theorem madeC_err (s x : Str) (cur : Int) : (madeC s x cur).err = 0 ∨ madeC s x cur = ⟨0, 0, [], 0, [], false, 4⟩ := by
  unfold madeC
  cases mayOf x with
  | false => exact .inr rfl
  | true => exact .inl rfl

theorem fix_with {R : Type} (s x : Str) (cur : Int) (took : Str) (b : Bool) (k : Int → Int → Str → Int → Str → Bool → Int → Option R) :
    (madeC s x cur).ap (fun x14 x15 s16 x17 s18 b19 x20 => bif (x20 == (0 : Int)) then k x14 x15 s16 x17 took b x20 else k x14 x15 s16 x17 s18 b19 x20) = (fixC ((madeC s x cur).with took b)).ap k := by
  rcases madeC_err s x cur with h | h
  · unfold Chg.ap fixC
    have : ((madeC s x cur).with took b).err = 0 := h
    rw [this, h]; simp only [beq_self_eq_true, cond_true]
    unfold Chg.with; rw [h]
  · rw [h]; rfl

theorem fix_made {R : Type} (s x : Str) (cur : Int) (k : Int → Int → Str → Int → Str → Bool → Int → Option R) : (madeC s x cur).ap k = (fixC (madeC s x cur)).ap k := by
  rcases madeC_err s x cur with h | h
  · unfold fixC; rw [h]; rfl
  · rw [h]; rfl

/-- The program's answer is the reference's, or its error is. -/
def Agree (s : Str) (x y : Int) (b : Bool) (key at' : Int) : Prop :=
  ∃ c : Chg, (∀ (R : Type) (k : Int → Int → Str → Int → Str → Bool → Int → Option R), refChange_F s x y b key at' k = c.ap k) ∧
    (∀ (R : Type) (k : Int → Int → Str → Int → Str → Bool → Int → Option R), changeOf_F s x y b key at' k = (fixC c).ap k)

def formC : Chg := ⟨0, 0, [], 0, [], false, 1⟩

/-- What may not be is refused. -/
theorem changeOf_form {R : Type} (s : Str) (x y : Int) (b : Bool) (key at' : Int) (h : ¬ (mayOf s = true ∧ rangeB (runesOf s) x y b = true ∧ keyB key = true ∧ isB (runesOf s) at' = true))
    (k : Int → Int → Str → Int → Str → Bool → Int → Option R) : changeOf_F s x y b key at' k = formC.ap k := by
  rw [changeOf_F_T]; unfold changeOf_T
  rw [textMay_eq]
  cases h1 : mayOf s with
  | false => rfl
  | true =>
    have hlen := mayOf_len h1
    have hle := runesOf_length_le s
    simp only [Bool.not_true, cond_false]
    rw [changeIs_eq]
    cases h2 : keyB key with
    | false => rfl
    | true =>
      simp only [Bool.not_true, cond_false]
      rw [textOf_eq _ (by omega), changeMay_eq _ (by omega)]
      cases h3 : rangeB (runesOf s) x y b with
      | false => rfl
      | true =>
        simp only [Bool.not_true, cond_false]
        rw [MapIs_eq]
        cases h4 : isB (runesOf s) at' with
        | false => rfl
        | true => exact absurd ⟨h1, h3, h2, h4⟩ h

theorem MapCut_eq {R : Type} (l m : List Int) (low high : Nat) (h1 : low ≤ high) (h2 : high ≤ l.length) (k : Str → Option R) : MapCut_F l m (low : Int) (high : Int) k = k (strOf ((l.take high).drop low)) := by
  rw [MapCut_F_T]; unfold MapCut_T
  simp only [Int.toNat_natCast]
  rw [decide_eq_true (by omega : (0 : Int) ≤ (high : Int)), decide_eq_true (by omega : (high : Int) ≤ (l.length : Int)), decide_eq_true (by omega : (0 : Int) ≤ (low : Int)), decide_eq_true (by omega : (low : Int) ≤ (high : Int))]
  rfl

/-- The program's answer, where all may be: up to the key. -/
theorem changeOf_head {R : Type} (s : Str) (h1 : mayOf s = true) (low high : Nat) (b : Bool) (key : Int) (at' : Nat) (h2 : rangeB (runesOf s) (low : Int) (high : Int) b = true) (h3 : keyB key = true) (h4 : at' ≤ (runesOf s).length)
    (k : Int → Int → Str → Int → Str → Bool → Int → Option R) : changeOf_F s (low : Int) (high : Int) b key (at' : Int) k =
      (bif (key == (121 : Int)) then
        changeStands_F (runesOf s) (begins (runesOf s)) low high b at' (fun x13 => k ((0 : Int)) ((0 : Int)) [] x13 (strOf (((runesOf s).take high).drop low)) b ((0 : Int)))
       else (bif (key == (100 : Int)) then
         changeTaken_F s (runesOf s) (begins (runesOf s)) low high b (fun x14 x15 s16 x17 s18 b19 x20 => bif (x20 == (0 : Int)) then k x14 x15 s16 x17 (strOf (((runesOf s).take high).drop low)) b x20 else k x14 x15 s16 x17 s18 b19 x20)
        else (bif (key == (99 : Int)) then
          changeMade_F s (strOf ((runesOf s).take low) ++ strOf ((runesOf s).drop high)) low (fun x21 x22 s23 x24 s25 b26 x27 => bif (x27 == (0 : Int)) then k x21 x22 s23 x24 (strOf (((runesOf s).take high).drop low)) b x27 else k x21 x22 s23 x24 s25 b26 x27)
         else (bif (key == (62 : Int)) then changeRows_F s (runesOf s) (begins (runesOf s)) low high b key k
          else (bif (key == (60 : Int)) then changeRows_F s (runesOf s) (begins (runesOf s)) low high b key k
           else changeTurned1_F s (runesOf s) (begins (runesOf s)) low high b (IntKind.wrap .i64 (key - 16777216)) at' k))))) := by
  have hlen := mayOf_len h1
  have hle := runesOf_length_le s
  obtain ⟨hr1, hr2, hr3, hr4⟩ := rangeB_iff.1 h2
  have hroom := room (runesOf s) (by omega) low high
  rw [changeOf_F_T]; unfold changeOf_T
  rw [textMay_eq, h1]
  simp only [Bool.not_true, cond_false]
  rw [changeIs_eq, h3]
  simp only [Bool.not_true, cond_false]
  rw [textOf_eq _ (by omega), changeMay_eq _ (by omega), h2]
  simp only [Bool.not_true, cond_false]
  rw [MapIs_eq, show isB (runesOf s) (at' : Int) = true from by unfold isB; rw [decide_eq_true_eq]; omega]
  simp only [Bool.not_true, cond_false]
  rw [MapCut_eq _ _ _ _ (by omega) (by omega)]
  simp only [Int.toNat_natCast, List.drop_zero, List.take_length]
  rw [decide_eq_true (by omega : (0 : Int) ≤ (low : Int)), decide_eq_true (by omega : (low : Int) ≤ ((runesOf s).length : Int)), decide_eq_true (by omega : (0 : Int) ≤ (high : Int)), decide_eq_true (by omega : (high : Int) ≤ ((runesOf s).length : Int)), decide_eq_true hroom]
  rfl

/-- The reference's answer, where all may be: up to the key. -/
theorem refChange_head {R : Type} (s : Str) (h1 : mayOf s = true) (low high : Nat) (b : Bool) (key : Int) (at' : Nat) (h2 : rangeB (runesOf s) (low : Int) (high : Int) b = true) (h4 : at' ≤ (runesOf s).length)
    (k : Int → Int → Str → Int → Str → Bool → Int → Option R) : refChange_F s (low : Int) (high : Int) b key (at' : Int) k =
      (bif (key == (121 : Int)) then
        k ((0 : Int)) ((0 : Int)) [] ((standsOf (runesOf s) low b at' : Nat) : Int) (strOf (((runesOf s).take high).drop low)) b ((0 : Int))
       else (bif (key == (100 : Int)) then refDeleted_F s (runesOf s) low high b k
        else (bif (key == (99 : Int)) then
          made18_F s (strOf ((runesOf s).take low) ++ strOf ((runesOf s).drop high)) low (fun x15 x16 s17 x18 s19 b20 x21 => k x15 x16 s17 x18 (strOf (((runesOf s).take high).drop low)) b x21)
         else (bif (key == (62 : Int)) then refShifted_F s (runesOf s) low high b key k
          else (bif (key == (60 : Int)) then refShifted_F s (runesOf s) low high b key k
           else refChange_M20 s key ((standsOf (runesOf s) low b at' : Nat) : Int) (runesOf s) low b high low false [] ((0 : Int)) [] ((0 : Int)) ((0 : Int))
            (fun s51 x52 l53 b54 s55 x56 s57 x58 x59 => made18_F s51 (strOf l53) x52 k)))))) := by
  have hlen := mayOf_len h1
  have hle := runesOf_length_le s
  obtain ⟨hr1, hr2, hr3, hr4⟩ := rangeB_iff.1 h2
  have hroom := room (runesOf s) (by omega) low high
  rw [refChange_F_T]; unfold refChange_T
  simp only [Int.toNat_natCast, List.drop_zero, List.take_length]
  rw [decide_eq_true (by omega : (0 : Int) ≤ (high : Int)), decide_eq_true (by omega : (high : Int) ≤ ((runesOf s).length : Int)), decide_eq_true (by omega : (0 : Int) ≤ (low : Int)), decide_eq_true (by omega : (low : Int) ≤ (high : Int)), decide_eq_true (by omega : (low : Int) ≤ ((runesOf s).length : Int)), decide_eq_true hroom]
  simp only [Bool.and_true, cond_true]
  rw [refRest_eq _ (by omega) low (by omega)]
  cases b with
  | false => simp only [cond_false]; rfl
  | true =>
    simp only [cond_true]
    rw [refColumn_eq _ (by omega) low (by omega) at' h4]

theorem agree_plain (s : Str) (h1 : mayOf s = true) (x y : Int) (b : Bool) (key at' : Int) (h2 : rangeB (runesOf s) x y b = true) (h3 : keyB key = true) (h4 : isB (runesOf s) at' = true) (hk : key ≠ 62 ∧ key ≠ 60) : Agree s x y b key at' := by
  have hlen := mayOf_len h1
  have hle := runesOf_length_le s
  obtain ⟨hr1, hr2, hr3, hr4⟩ := rangeB_iff.1 h2
  obtain ⟨low, rfl⟩ : ∃ n : Nat, x = (n : Int) := ⟨x.toNat, by omega⟩
  obtain ⟨high, rfl⟩ : ∃ n : Nat, y = (n : Int) := ⟨y.toNat, by omega⟩
  obtain ⟨at', rfl, h5⟩ := isB_nat h4
  have hb : b = true → beginOf (runesOf s) low = low := fun e => by have := (hr4 e).1; rw [Int.toNat_natCast] at this; omega
  have hx62 : (key == 62) = false := by simpa using hk.1
  have hx60 : (key == 60) = false := by simpa using hk.2
  by_cases hy : key = 121
  · subst hy
    refine ⟨⟨0, 0, [], (standsOf (runesOf s) low b at' : Nat), strOf (((runesOf s).take high).drop low), b, 0⟩, fun R k => ?_, fun R k => ?_⟩
    · rw [refChange_head s h1 low high b _ at' h2 h5]; rfl
    · rw [changeOf_head s h1 low high b _ at' h2 h3 h5]
      simp only [beq_self_eq_true, cond_true]
      rw [changeStands_eq _ (by omega) low (by omega) _ b hb at' h5]; rfl
  have hy' : (key == 121) = false := by simpa using hy
  by_cases hd : key = 100
  · subst hd
    refine ⟨(madeC s (strOf (leftOf (runesOf s) low high b)) (afterOf (runesOf s) low high b : Nat)).with (strOf (((runesOf s).take high).drop low)) b, fun R k => ?_, fun R k => ?_⟩
    · rw [refChange_head s h1 low high b _ at' h2 h5, hy']
      simp only [beq_self_eq_true, cond_true, cond_false]
      rw [refDeleted_eq s (by omega) _ (by omega) (runesOf_scal s) low high (by omega) (by omega)]
    · rw [changeOf_head s h1 low high b _ at' h2 h3 h5, hy']
      simp only [beq_self_eq_true, cond_true, cond_false]
      rw [changeTaken_eq s (by omega) _ (by omega) (runesOf_scal s) low high (by omega) (by omega), fix_with]
  have hd' : (key == 100) = false := by simpa using hd
  by_cases hc : key = 99
  · subst hc
    refine ⟨(madeC s (strOf ((runesOf s).take low) ++ strOf ((runesOf s).drop high)) (low : Int)).with (strOf (((runesOf s).take high).drop low)) b, fun R k => ?_, fun R k => ?_⟩
    · rw [refChange_head s h1 low high b _ at' h2 h5, hy', hd']
      simp only [beq_self_eq_true, cond_true, cond_false]
      rw [made18_eq s _ (by omega)]; rfl
    · rw [changeOf_head s h1 low high b _ at' h2 h3 h5, hy', hd']
      simp only [beq_self_eq_true, cond_true, cond_false]
      rw [changeMade_eq s _ (by omega), fix_with]
  have hc' : (key == 99) = false := by simpa using hc
  have hkey : key - 16777216 = 117 ∨ key - 16777216 = 85 ∨ key - 16777216 = 126 := by
    unfold keyB at h3
    simp only [decide_eq_true_eq, List.mem_cons, List.not_mem_nil, or_false] at h3
    omega
  refine ⟨madeC s (strOf (turnGo (key - 16777216) (high - low) low (runesOf s))) (standsOf (runesOf s) low b at' : Nat), fun R k => ?_, fun R k => ?_⟩
  · rw [refChange_head s h1 low high b _ at' h2 h5, hy', hd', hc', hx62, hx60]
    simp only [cond_false]
    rw [refChange_M20_eq]
    have := refChange_L s (key - 16777216) hkey (standsOf (runesOf s) low b at' : Nat) b (low : Int) false [] 0 [] 0 0 (fun s51 x52 l53 b54 s55 x56 s57 x58 x59 => made18_F s51 (strOf l53) x52 k) 4611686018427387904 low high (runesOf s) (by omega) (runesOf_scal s) (by omega) (by omega) (by omega)
    rw [show key - 16777216 + 16777216 = key from by omega] at this
    refine this.trans ?_
    rw [made18_eq s _ (by omega)]
  · rw [changeOf_head s h1 low high b _ at' h2 h3 h5, hy', hd', hc', hx62, hx60]
    simp only [cond_false]
    rw [wrap64 (by omega) (by omega), changeTurned1_eq s (by omega) _ hkey low high (by omega) (by omega) b hb at' h5, fix_made]

end Go.Proofs.YtleoffdjdgbanaaDoor

set_option linter.unusedVariables false
namespace Go.Proofs.YtleoffdjdgbanaaDoor
open Go Go.QA Go.Proofs

/-- At this key program and reference agree. -/
def AgreeKey (key : Int) : Prop := ∀ (s : Str) (x y : Int) (b : Bool) (at' : Int), mayOf s = true → rangeB (runesOf s) x y b = true → keyB key = true → isB (runesOf s) at' = true → Agree s x y b key at'

theorem agreeKey_plain (key : Int) (h : key ≠ 62 ∧ key ≠ 60) : AgreeKey key := fun s x y b at' h1 h2 h3 h4 => agree_plain s h1 x y b key at' h2 h3 h4 h

theorem zeros_alike : ((0 : Int) == (0 : Int) && ((0 : Int) == (0 : Int) && (([] : Str) == [] && ((0 : Int) == (0 : Int) && (([] : Str) == [] && (false == false && true)))))) = true := rfl

theorem chg_alike (c : Chg) : (c.pat == c.pat && (c.del == c.del && (c.ins == c.ins && (c.cur == c.cur && (c.took == c.took && (c.line == c.line && true)))))) = true := by
  simp

theorem changes18_step {R : Type} (rec : List Int → Int → Str → List Int → List Rec → Int → Int → List Int → Int → Int → Int → Int → Int → Int → Int → Int → List Str → Option R)
    (l51 : List Int) (x52 : Int) (s : Str) (hs : s.length ≤ 1000000) (r55 : List Rec) (j kk : Nat) (hj : j < r55.length) (hk : kk < l51.length) (hA : AgreeKey (l51.getD kk 0)) (l58 : List Int) (h58 : l58.length = 3) (i : Nat) (hi : i < 3)
    (x60 x61 x62 x63 x64 x65 x66 : Int) (q67 : List Str) (ke0 : Bool → Option R) (ke1 : List Int → Int → Str → List Int → List Rec → Int → Int → Int → Int → Int → Int → Int → Int → Int → List Str → Option R) :
    changes18_B17 rec l51 x52 s (runesOf s) r55 (j : Int) (kk : Int) l58 (i : Int) x60 x61 x62 x63 x64 x65 x66 q67 ke0 ke1 =
      rec l51 x52 s (runesOf s) r55 (j : Int) (kk : Int) l58 ((i + 1 : Nat) : Int) x60 x61 x62 x63 x64 x65 x66 q67 := by
  have hle := runesOf_length_le s
  unfold changes18_B17
  simp only [num18_eq, Int.toNat_natCast]
  rw [decide_eq_true (by omega : (i : Int) < 3), decide_eq_true (by omega : (0 : Int) ≤ (j : Int)), decide_eq_true (by omega : (j : Int) < (r55.length : Int)), decide_eq_true (by omega : (0 : Int) ≤ (kk : Int)), decide_eq_true (by omega : (kk : Int) < (l51.length : Int)),
    decide_eq_true (by omega : (0 : Int) ≤ (i : Int)), decide_eq_true (by omega : (i : Int) < (l58.length : Int)), wrap64 (by omega) (by omega), show ((i : Int) + 1) = ((i + 1 : Nat) : Int) from by omega]
  simp only [Bool.and_true, cond_true]
  generalize (r55.getD j default).gi 0 = x
  generalize (r55.getD j default).gi (0 + 1) = y
  generalize (r55.getD j default).gb 0 = b
  generalize l58.getD i 0 = at'
  generalize l51.getD kk 0 = key at hA
  by_cases hall : mayOf s = true ∧ rangeB (runesOf s) x y b = true ∧ keyB key = true ∧ isB (runesOf s) at' = true
  · obtain ⟨h1, h2, h3, h4⟩ := hall
    obtain ⟨c, hc1, hc2⟩ := hA s x y b at' h1 h2 h3 h4
    rw [hc2]
    unfold Chg.ap
    dsimp only
    rw [refMay1_eq, h1, cond_true, refRange_eq _ (by omega), h2, cond_true, refKey_eq, h3, cond_true, refNum_eq, show decide (0 ≤ at' ∧ at' ≤ ((runesOf s).length : Int)) = true from h4, cond_true, hc1]
    unfold Chg.ap
    dsimp only
    unfold fixC
    by_cases he : c.err = 0
    · simp [he]
    · have h5 : (c.err == 0) = false := by simpa using he
      have h6 : (c.err != 0) = true := by simpa using he
      rw [h5, h6]
      simp
  · rw [changeOf_form s x y b key at' hall]
    unfold Chg.ap formC
    dsimp only
    rw [refMay1_eq]
    cases h1 : mayOf s with
    | false => simp
    | true =>
      rw [cond_true, refRange_eq _ (by omega)]
      cases h2 : rangeB (runesOf s) x y b with
      | false => simp
      | true =>
        rw [cond_true, refKey_eq]
        cases h3 : keyB key with
        | false => simp
        | true =>
          rw [cond_true, refNum_eq]
          cases h4 : isB (runesOf s) at' with
          | false =>
            rw [show decide (0 ≤ at' ∧ at' ≤ ((runesOf s).length : Int)) = false from h4]
            simp
          | true => exact absurd ⟨h1, h2, h3, h4⟩ hall

theorem changes18_17 {R : Type} (l51 : List Int) (x52 : Int) (s : Str) (hs : s.length ≤ 1000000) (r55 : List Rec) (j kk : Nat) (hj : j < r55.length) (hk : kk < l51.length) (hA : AgreeKey (l51.getD kk 0)) (l58 : List Int) (h58 : l58.length = 3)
    (x60 x61 x62 x63 x64 x65 x66 : Int) (q67 : List Str) (ke0 : Bool → Option R) (ke1 : List Int → Int → Str → List Int → List Rec → Int → Int → Int → Int → Int → Int → Int → Int → Int → List Str → Option R) : ∀ (n i : Nat), i ≤ 3 → 3 < n + i →
    changes18_L17 n l51 x52 s (runesOf s) r55 (j : Int) (kk : Int) l58 (i : Int) x60 x61 x62 x63 x64 x65 x66 q67 ke0 ke1 = ke1 l51 x52 s (runesOf s) r55 (j : Int) (kk : Int) x60 x61 x62 x63 x64 x65 x66 q67 := by
  intro n
  induction n with
  | zero => intro i h0; omega
  | succ n ih =>
    intro i h1 h2
    simp only [changes18_L17]
    by_cases h : i < 3
    · rw [changes18_step _ l51 x52 s hs r55 j kk hj hk hA l58 h58 i h]
      exact ih (i + 1) (by omega) (by omega)
    · unfold changes18_B17
      rw [decide_eq_false (by omega : ¬ (i : Int) < 3)]; rfl

theorem changes18_13 {R : Type} (l35 : List Int) (h35 : l35.length ≤ 100) (hA : ∀ kk, kk < l35.length → AgreeKey (l35.getD kk 0)) (x36 : Int) (s : Str) (hs : s.length ≤ 1000000) (r39 : List Rec) (j : Nat) (hj : j < r39.length)
    (x42 x43 x44 x45 x46 x47 x48 : Int) (q49 : List Str) (ke0 : Bool → Option R) (ke1 : List Int → Int → Str → List Int → List Rec → Int → Int → Int → Int → Int → Int → Int → Int → List Str → Option R) : ∀ (n kk : Nat), kk ≤ l35.length → l35.length < n + kk →
    changes18_L13 n l35 x36 s (runesOf s) r39 (j : Int) (kk : Int) x42 x43 x44 x45 x46 x47 x48 q49 ke0 ke1 = ke1 l35 x36 s (runesOf s) r39 (j : Int) x42 x43 x44 x45 x46 x47 x48 q49 := by
  have hle := runesOf_length_le s
  intro n
  induction n with
  | zero => intro i h0; omega
  | succ n ih =>
    intro kk h1 h2
    simp only [changes18_L13, changes18_B13]
    by_cases h : kk < l35.length
    · rw [decide_eq_true (by omega : (kk : Int) < (l35.length : Int)), cond_true, lawWithin_eq _ _ (by omega), changes18_M17_eq]
      refine (changes18_17 l35 x36 s hs r39 j kk hj h (hA kk h) _ rfl _ _ _ _ _ _ _ _ _ _ 4611686018427387904 0 (by omega) (by omega)).trans ?_
      rw [wrap64 (by omega) (by omega)]
      exact ih (kk + 1) (by omega) (by omega)
    · rw [decide_eq_false (by omega : ¬ (kk : Int) < (l35.length : Int))]; rfl

theorem changes18_10 {R : Type} (l21 : List Int) (h21 : l21.length ≤ 100) (hA : ∀ kk, kk < l21.length → AgreeKey (l21.getD kk 0)) (x22 : Int) (s : Str) (hs : s.length ≤ 1000000) (r25 : List Rec) (hr : r25.length ≤ 15)
    (x27 x28 x29 x30 x31 x32 x33 : Int) (q34 : List Str) (ke0 : Bool → Option R) (ke1 : List Int → Int → Int → Int → Int → Int → Int → Int → Int → List Str → Option R) : ∀ (n j : Nat), j ≤ r25.length → r25.length < n + j →
    changes18_L10 n l21 x22 s (runesOf s) r25 (j : Int) x27 x28 x29 x30 x31 x32 x33 q34 ke0 ke1 = ke1 l21 x22 x27 x28 x29 x30 x31 x32 x33 q34 := by
  intro n
  induction n with
  | zero => intro i h0; omega
  | succ n ih =>
    intro j h1 h2
    simp only [changes18_L10, changes18_B10]
    by_cases h : j < r25.length
    · rw [decide_eq_true (by omega : (j : Int) < (r25.length : Int)), cond_true, changes18_M13_eq]
      refine (changes18_13 l21 h21 hA x22 s hs r25 j h _ _ _ _ _ _ _ _ _ _ 4611686018427387904 0 (by omega) (by omega)).trans ?_
      rw [wrap64 (by omega) (by omega)]
      exact ih (j + 1) (by omega) (by omega)
    · rw [decide_eq_false (by omega : ¬ (j : Int) < (r25.length : Int))]; rfl

theorem changes18_4 {R : Type} (l10 : List Int) (h10 : l10.length ≤ 100) (hA : ∀ kk, kk < l10.length → AgreeKey (l10.getD kk 0)) (x12 x13 x14 x15 x16 x17 x18 : Int) (q : List Str) (hq : q.length ≤ 6000) (hq2 : ∀ s ∈ q, s.length ≤ 6000) (ke0 : Bool → Option R) (ke1 : Option R) :
    ∀ (n i : Nat), i ≤ 3 → 3 < n + i → changes18_L4 n l10 (i : Int) x12 x13 x14 x15 x16 x17 x18 q ke0 ke1 = ke1 := by
  intro n
  induction n with
  | zero => intro i h0; omega
  | succ n ih =>
    intro i h1 h2
    simp only [changes18_L4, changes18_B4]
    by_cases h : i < q.length
    · rw [decide_eq_true (by omega : (i : Int) < (q.length : Int)), cond_true]
      by_cases h3 : i < 3
      · rw [decide_eq_true (by omega : (i : Int) < 3), decide_eq_true (by omega : (0 : Int) ≤ (i : Int))]
        simp only [Bool.and_true, cond_true, Int.toNat_natCast]
        have hs := hq2 _ (getD_mem h)
        have hle := runesOf_length_le (q.getD i [])
        obtain ⟨rs, hrs, hl⟩ := Ranges18_tells q x18 x17 x16 x15 x14 x13 x12 (runesOf (q.getD i [])) (by omega) (fun r20 => changes18_M10 l10 (i : Int) (q.getD i []) (runesOf (q.getD i [])) r20 ((0 : Int)) x12 x13 x14 x15 x16 x17 x18 q
          (fun b123 => ke0 b123) (fun l124 x125 x126 x127 x128 x129 x130 x131 x132 q133 => changes18_L4 n l124 (IntKind.wrap .i64 (x125 + (1 : Int))) x126 x127 x128 x129 x130 x131 x132 q133 ke0 ke1))
        refine hrs.trans ?_
        rw [changes18_M10_eq]
        refine (changes18_10 l10 h10 hA (i : Int) _ (by omega) rs hl _ _ _ _ _ _ _ _ _ _ 4611686018427387904 0 (by omega) (by omega)).trans ?_
        rw [wrap64 (by omega) (by omega)]
        exact ih (i + 1) (by omega) (by omega)
      · rw [decide_eq_false (by omega : ¬ (i : Int) < 3)]; rfl
    · rw [decide_eq_false (by omega : ¬ (i : Int) < (q.length : Int))]; rfl

end Go.Proofs.YtleoffdjdgbanaaDoor

set_option linter.unusedVariables false
set_option maxRecDepth 100000
namespace Go.Proofs.YtleoffdjdgbanaaDoor
open Go Go.QA Go.Proofs

theorem wakes18_eq {R : Type} (k : Bool → Option R) : wakes18_F k = k true := by
  rw [wakes18_F_T]; unfold wakes18_T
  have h := changeOf_head (R := R) [97, 98] (by kernel_rfl) 0 1 false 100 0 (by kernel_rfl) (by kernel_rfl) (by omega)
  rw [show (((0 : Nat) : Int)) = (0 : Int) from rfl, show (((1 : Nat) : Int)) = (1 : Int) from rfl] at h
  rw [h]
  have h2 := changeTaken_eq (R := R) [97, 98] (by simp) (runesOf [97, 98]) (by have := runesOf_length_le [97, 98]; simp at this; omega) (runesOf_scal _) 0 1 (by omega) (Nat.le_of_ble_eq_true (by kernel_rfl)) false
  rw [show (((0 : Nat) : Int)) = (0 : Int) from rfl, show (((1 : Nat) : Int)) = (1 : Int) from rfl] at h2
  simp only [beq_self_eq_true, cond_true, show ((100 : Int) == 121) = false from rfl, cond_false]
  rw [h2]
  unfold Chg.ap
  simp only [num18_eq]
  rw [refApply_F_T]; unfold refApply_T
  refine Eq.trans ?_ (rfl : k true = k true)
  kernel_rfl

theorem changes18_true {R : Type} (q : List Str) (hq : Sized q) (x1 x2 x3 x4 x5 x6 x7 : Int) (keys : List Int) (hl : keys.length ≤ 100) (hA : ∀ key ∈ keys, AgreeKey key) (k : Bool → Option R) : changes18_F q x1 x2 x3 x4 x5 x6 x7 keys k = k true := by
  rw [changes18_F_T]; unfold changes18_T
  rcases lawHeavy10_eq q hq x1 x2 x3 x4 x5 x6 x7 (fun b9 => bif b9 then k true else changes18_M4 keys 0 x7 x6 x5 x4 x3 x2 x1 q (fun b134 => k b134) (wakes18_F (fun b135 => k b135))) with h | ⟨h, h1, h2⟩
  · exact h
  · refine h.trans ?_
    rw [cond_false, changes18_M4_eq]
    refine (changes18_4 keys hl (fun kk hk => hA _ ?_) x7 x6 x5 x4 x3 x2 x1 q h1 h2 _ _ 4611686018427387904 0 (by omega) (by omega)).trans ?_
    · rw [getD_at hk]; exact List.getElem_mem hk
    · exact wakes18_eq _

theorem ChangeDeletes_true {R : Type} (q : List Str) (hq : Sized q) (x1 x2 x3 x4 x5 x6 x7 : Int) (k : Bool → Option R) : ChangeDeletes_F q x1 x2 x3 x4 x5 x6 x7 k = k true := by
  rw [ChangeDeletes_F_T]; unfold ChangeDeletes_T
  exact changes18_true q hq _ _ _ _ _ _ _ _ (by simp) (by intro key h; simp at h; subst h; exact agreeKey_plain _ (by omega)) _

theorem ChangeChanges_true {R : Type} (q : List Str) (hq : Sized q) (x1 x2 x3 x4 x5 x6 x7 : Int) (k : Bool → Option R) : ChangeChanges_F q x1 x2 x3 x4 x5 x6 x7 k = k true := by
  rw [ChangeChanges_F_T]; unfold ChangeChanges_T
  exact changes18_true q hq _ _ _ _ _ _ _ _ (by simp) (by intro key h; simp at h; subst h; exact agreeKey_plain _ (by omega)) _

theorem ChangeYanks_true {R : Type} (q : List Str) (hq : Sized q) (x1 x2 x3 x4 x5 x6 x7 : Int) (k : Bool → Option R) : ChangeYanks_F q x1 x2 x3 x4 x5 x6 x7 k = k true := by
  rw [ChangeYanks_F_T]; unfold ChangeYanks_T
  exact changes18_true q hq _ _ _ _ _ _ _ _ (by simp) (by intro key h; simp at h; subst h; exact agreeKey_plain _ (by omega)) _

theorem ChangeCases_true {R : Type} (q : List Str) (hq : Sized q) (x1 x2 x3 x4 x5 x6 x7 : Int) (k : Bool → Option R) : ChangeCases_F q x1 x2 x3 x4 x5 x6 x7 k = k true := by
  rw [ChangeCases_F_T]; unfold ChangeCases_T
  exact changes18_true q hq _ _ _ _ _ _ _ _ (by simp) (by intro key h; simp at h; exact agreeKey_plain _ (by omega)) _

theorem OperLower_true {R : Type} (q : List Str) (hq : Sized q) (x1 x2 x3 x4 x5 x6 x7 : Int) (k : Bool → Option R) : OperLower_F q x1 x2 x3 x4 x5 x6 x7 k = k true := by
  rw [OperLower_F_T]; unfold OperLower_T
  exact changes18_true q hq _ _ _ _ _ _ _ _ (by simp) (by intro key h; simp at h; subst h; exact agreeKey_plain _ (by omega)) _

theorem OperUpper_true {R : Type} (q : List Str) (hq : Sized q) (x1 x2 x3 x4 x5 x6 x7 : Int) (k : Bool → Option R) : OperUpper_F q x1 x2 x3 x4 x5 x6 x7 k = k true := by
  rw [OperUpper_F_T]; unfold OperUpper_T
  exact changes18_true q hq _ _ _ _ _ _ _ _ (by simp) (by intro key h; simp at h; subst h; exact agreeKey_plain _ (by omega)) _

theorem OperTurn_true {R : Type} (q : List Str) (hq : Sized q) (x1 x2 x3 x4 x5 x6 x7 : Int) (k : Bool → Option R) : OperTurn_F q x1 x2 x3 x4 x5 x6 x7 k = k true := by
  rw [OperTurn_F_T]; unfold OperTurn_T
  exact changes18_true q hq _ _ _ _ _ _ _ _ (by simp) (by intro key h; simp at h; subst h; exact agreeKey_plain _ (by omega)) _

end Go.Proofs.YtleoffdjdgbanaaDoor
