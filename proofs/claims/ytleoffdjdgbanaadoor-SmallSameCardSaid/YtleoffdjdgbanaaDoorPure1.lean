/- Plain laws: the ends of rows; no program in sight but the printed functions. -/
import Derived.Test.YtleoffdjdgbanaaDoorWalk4
set_option linter.unusedVariables false
set_option linter.unusedSimpArgs false
namespace Go.Proofs.YtleoffdjdgbanaaDoor
open Go Go.QA Go.Proofs

theorem wrap64 {x : Int} (h0 : -9223372036854775808 ≤ x) (h1 : x ≤ 9223372036854775807) : IntKind.wrap .i64 x = x := by
  simp only [IntKind.wrap, IntKind.bits, IntKind.signed, Bool.true_and, decide_eq_true_eq]
  split <;> rename_i h <;> simp at h <;> omega

/-- Where a row ends: the first row's end at or behind x. -/
def endOf (l : List Int) (x : Nat) : Nat := x + ((l.drop x).takeWhile fun r => decide (r ≠ 10)).length

theorem getD_at {l : List Int} {x : Nat} (h : x < l.length) : l.getD x 0 = l[x] := by simp [List.getD, h]

theorem endOf_hit {l : List Int} {x : Nat} (h : x < l.length) (h2 : l.getD x 0 = 10) : endOf l x = x := by
  unfold endOf
  rw [getD_at h] at h2
  rw [List.drop_eq_getElem_cons h, List.takeWhile_cons, h2]
  simp

theorem endOf_miss {l : List Int} {x : Nat} (h : x < l.length) (h2 : l.getD x 0 ≠ 10) : endOf l x = endOf l (x + 1) := by
  unfold endOf
  rw [getD_at h] at h2
  rw [List.drop_eq_getElem_cons h, List.takeWhile_cons, if_pos (by simpa using h2)]
  simp only [List.length_cons]; omega

theorem endOf_over {l : List Int} {x : Nat} (h : l.length ≤ x) : endOf l x = x := by
  unfold endOf; simp [List.drop_eq_nil_of_le h]

theorem refEnd_L {R : Type} (l : List Int) (hl : l.length < 4611686018427387904) (ke : Int → Option R) : ∀ (n x : Nat), 0 < n → l.length < n + x → refEnd_L1 n l (x : Int) ke = ke (endOf l x : Nat) := by
  intro n
  induction n with
  | zero => intro x h0; omega
  | succ n ih =>
    intro x _ hx
    simp only [refEnd_L1, refEnd_B1]
    by_cases h : x < l.length
    · rw [decide_eq_true (by omega : (x : Int) < (l.length : Int))]
      simp only [cond_true, Bool.and_true]
      rw [decide_eq_true (by omega : (0 : Int) ≤ (x : Int))]
      simp only [cond_true, Int.toNat_natCast]
      by_cases h2 : l.getD x 0 = 10
      · rw [h2, endOf_hit h h2]; rfl
      · have h3 : (l.getD x 0 != 10) = true := by simpa using h2
        rw [h3, cond_true, wrap64 (by omega) (by omega), endOf_miss h h2]
        have := ih (x + 1) (by omega) (by omega)
        simpa using this
    · rw [decide_eq_false (by omega : ¬ (x : Int) < (l.length : Int)), endOf_over (by omega)]
      rfl

theorem refEnd_eq {R : Type} (l : List Int) (hl : l.length < 4611686018427387904) (x : Nat) (k : Int → Option R) : refEnd_F l (x : Int) k = k (endOf l x : Nat) := by
  rw [refEnd_F_T]; unfold refEnd_T; rw [refEnd_M1_eq, refEnd_L l hl _ _ _ (by omega) (by omega)]

/-- Where a row begins. -/
def beginOf (l : List Int) : Nat → Nat
  | 0 => 0
  | x + 1 => if l.getD x 0 = 10 then x + 1 else beginOf l x

theorem beginOf_le (l : List Int) : ∀ x, beginOf l x ≤ x
  | 0 => Nat.le_refl _
  | x + 1 => by
    unfold beginOf
    split
    · exact Nat.le_refl _
    · have := beginOf_le l x; omega

theorem refBegin_L {R : Type} (l : List Int) (hl : l.length < 4611686018427387904) (ke : Int → Option R) : ∀ (n x : Nat), x < n → x ≤ l.length → refBegin_L1 n l (x : Int) ke = ke (beginOf l x : Nat) := by
  intro n
  induction n with
  | zero => intro x h0; omega
  | succ n ih =>
    intro x hx hle
    simp only [refBegin_L1, refBegin_B1]
    cases x with
    | zero => rfl
    | succ x =>
      have hw : IntKind.wrap .i64 (((x + 1 : Nat) : Int) - 1) = (x : Int) := by rw [wrap64 (by omega) (by omega)]; omega
      rw [decide_eq_true (by omega : ((x + 1 : Nat) : Int) > 0)]
      simp only [cond_true, hw]
      rw [decide_eq_true (by omega : (0 : Int) ≤ (x : Int)), decide_eq_true (by omega : (x : Int) < (l.length : Int))]
      simp only [cond_true, Bool.and_true, Int.toNat_natCast, beginOf]
      by_cases h2 : l.getD x 0 = 10
      · rw [h2, if_pos rfl]; rfl
      · have h3 : (l.getD x 0 != 10) = true := by simpa using h2
        rw [h3, cond_true, if_neg h2]
        exact ih x (by omega) (by omega)

theorem refBegin_eq {R : Type} (l : List Int) (hl : l.length < 4611686018427387904) (x : Nat) (hx : x ≤ l.length) (k : Int → Option R) : refBegin_F l (x : Int) k = k (beginOf l x : Nat) := by
  rw [refBegin_F_T]; unfold refBegin_T; rw [refBegin_M1_eq, refBegin_L l hl _ _ _ (by omega) hx]

end Go.Proofs.YtleoffdjdgbanaaDoor

namespace Go.Proofs.YtleoffdjdgbanaaDoor
open Go Go.QA Go.Proofs

/-- What stands behind the rows' ends of a text from an offset on. -/
def nls : List Int → Nat → List Int
  | [], _ => []
  | r :: t, i => if r = 10 then ((i + 1 : Nat) : Int) :: nls t (i + 1) else nls t (i + 1)

def begins (l : List Int) : List Int := 0 :: nls l 0

theorem nls_hit {l : List Int} {i : Nat} (h : i < l.length) (h2 : l.getD i 0 = 10) : nls (l.drop i) i = ((i + 1 : Nat) : Int) :: nls (l.drop (i + 1)) (i + 1) := by
  rw [getD_at h] at h2
  rw [List.drop_eq_getElem_cons h, nls, if_pos h2]

theorem nls_miss {l : List Int} {i : Nat} (h : i < l.length) (h2 : l.getD i 0 ≠ 10) : nls (l.drop i) i = nls (l.drop (i + 1)) (i + 1) := by
  rw [getD_at h] at h2
  rw [List.drop_eq_getElem_cons h, nls, if_neg h2]

theorem textOf_L {R : Type} (l : List Int) (hl : l.length < 1099511627776) (l5 : List Int) (ke : List Int → List Int → Option R) : ∀ (n i : Nat) (acc : List Int), 0 < n → l.length < n + i → i ≤ l.length → acc.length ≤ i + 1 →
    textOf_L3 n l (l.length : Int) (i : Int) acc l5 ke = ke (acc ++ nls (l.drop i) i) l5 := by
  intro n
  induction n with
  | zero => intro x acc h0; omega
  | succ n ih =>
    intro i acc _ hx hi hacc
    simp only [textOf_L3, textOf_B3]
    by_cases h : i < l.length
    · rw [decide_eq_true (by omega : (i : Int) < (l.length : Int))]
      simp only [cond_true, Bool.and_true]
      rw [decide_eq_true (by omega : (0 : Int) ≤ (i : Int)), wrap64 (by omega) (by omega)]
      simp only [cond_true, Int.toNat_natCast]
      by_cases h2 : l.getD i 0 = 10
      · rw [h2, nls_hit h h2]
        have e1 : (acc ++ [(i : Int) + 1]).length ≤ i + 2 := by simp; omega
        rw [decide_eq_true (by omega : (acc ++ [(i : Int) + 1]).length * 8 ≤ 140737488355328), decide_eq_true (by omega : (acc ++ [(i : Int) + 1]).length ≤ 9223372036854775807)]
        simp only [Bool.and_true, beq_self_eq_true, cond_true]
        have := ih (i + 1) (acc ++ [(i : Int) + 1]) (by omega) (by omega) (by omega) (by omega)
        simpa using this
      · have h3 : (l.getD i 0 == 10) = false := by simpa using h2
        rw [h3, cond_false, nls_miss h h2]
        have := ih (i + 1) acc (by omega) (by omega) (by omega) (by omega)
        simpa using this
    · rw [decide_eq_false (by omega : ¬ (i : Int) < (l.length : Int)), List.drop_eq_nil_of_le (by omega)]
      simp [nls]

theorem textOf_eq {R : Type} (s : Str) (hl : (runesOf s).length < 1099511627776) (k : List Int → List Int → Option R) : textOf_F s k = k (runesOf s) (begins (runesOf s)) := by
  rw [textOf_F_T]; unfold textOf_T
  have := textOf_L (runesOf s) hl (runesOf s) (fun l6 l7 => k l7 l6) 4611686018427387904 0 [0] (by omega) (by omega) (by omega) (by simp)
  rw [textOf_M3_eq]
  simpa [begins] using this

end Go.Proofs.YtleoffdjdgbanaaDoor

namespace Go.Proofs.YtleoffdjdgbanaaDoor
open Go Go.QA Go.Proofs

/-- How many rows end ahead of an offset: its row. -/
def rowOf (l : List Int) (x : Nat) : Nat := (l.take x).countP (· == 10)

theorem nls_gt : ∀ (l : List Int) (i : Nat), ∀ y ∈ nls l i, (i : Int) < y
  | [], _, y, h => by cases h
  | r :: t, i, y, h => by
    unfold nls at h
    split at h
    · cases h with
      | head => omega
      | tail _ h => have := nls_gt t (i + 1) y h; omega
    · have := nls_gt t (i + 1) y h; omega

theorem nls_length : ∀ (l : List Int) (i : Nat), (nls l i).length = l.countP (· == 10)
  | [], _ => rfl
  | r :: t, i => by
    unfold nls
    by_cases h : r = 10
    · rw [if_pos h, List.length_cons, nls_length t, List.countP_cons_of_pos (by simpa using h)]
    · rw [if_neg h, nls_length t, List.countP_cons_of_neg (by simpa using h)]

theorem nls_le : ∀ (l : List Int) (i j x : Nat), i ≤ x → j < (nls l i).length → ((nls l i).getD j 0 ≤ (x : Int) ↔ j < (l.take (x - i)).countP (· == 10))
  | [], i, j, x, _, h => by simp [nls] at h
  | r :: t, i, j, x, hi, h => by
    by_cases hx : x = i
    · subst hx
      rw [Nat.sub_self, List.take_zero, List.countP_nil]
      constructor
      · intro h2
        have := nls_gt (r :: t) x _ (List.getElem_mem h)
        have e : (nls (r :: t) x).getD j 0 = (nls (r :: t) x)[j] := by simp [List.getD, h]
        rw [e] at h2; omega
      · intro h2; omega
    · obtain ⟨m, hm⟩ : ∃ m, x - i = m + 1 := ⟨x - i - 1, by omega⟩
      have hm' : x - (i + 1) = m := by omega
      rw [hm, List.take_succ_cons]
      by_cases hr : r = 10
      · have e : nls (r :: t) i = ((i + 1 : Nat) : Int) :: nls t (i + 1) := by rw [nls, if_pos hr]
        rw [e] at h ⊢
        rw [List.countP_cons_of_pos (by simpa using hr)]
        cases j with
        | zero => simp; omega
        | succ j =>
          have := nls_le t (i + 1) j x (by omega) (by simpa using h)
          rw [hm'] at this
          simpa using this
      · have e : nls (r :: t) i = nls t (i + 1) := by rw [nls, if_neg hr]
        rw [e] at h ⊢
        rw [List.countP_cons_of_neg (by simpa using hr)]
        have := nls_le t (i + 1) j x (by omega) h
        rw [hm'] at this
        exact this

theorem rowOf_le (l : List Int) (x : Nat) : rowOf l x ≤ (nls l 0).length := by
  rw [nls_length]; unfold rowOf
  exact List.Sublist.countP_le (List.take_sublist x l)

theorem MapRow_L {R : Type} (r l : List Int) (hl : l.length < 1099511627776) (x : Nat) (ke : Int → Option R) : ∀ (n j : Nat), (begins l).length < n + j → j ≤ rowOf l x → MapRow_L2 n r (begins l) (x : Int) (j : Int) ke = ke (rowOf l x : Nat) := by
  have hb : (begins l).length = (nls l 0).length + 1 := rfl
  have hle : (nls l 0).length ≤ l.length := by rw [nls_length]; exact List.countP_le_length
  have hro := rowOf_le l x
  intro n
  induction n with
  | zero => intro j h1 h2; omega
  | succ n ih =>
    intro j h1 h2
    simp only [MapRow_L2, MapRow_B2]
    rw [wrap64 (by omega) (by omega)]
    by_cases h : j + 1 < (begins l).length
    · rw [decide_eq_true (by omega : (j : Int) + 1 < ((begins l).length : Int)), decide_eq_true (by omega : (0 : Int) ≤ (j : Int) + 1)]
      simp only [cond_true, Bool.and_true]
      have e : (begins l).getD ((j : Int) + 1).toNat 0 = (nls l 0).getD j 0 := by
        rw [show ((j : Int) + 1).toNat = j + 1 from by omega]; simp [begins]
      rw [e]
      have hk := nls_le l 0 j x (by omega) (by omega)
      rw [Nat.sub_zero] at hk
      by_cases h3 : (nls l 0).getD j 0 ≤ (x : Int)
      · rw [decide_eq_true h3]
        have := ih (j + 1) (by omega) (by have := hk.1 h3; unfold rowOf; omega)
        simpa using this
      · rw [decide_eq_false h3]
        have : ¬ j < rowOf l x := fun h4 => h3 (hk.2 h4)
        rw [show rowOf l x = j from by omega]; rfl
    · rw [decide_eq_false (by omega : ¬ (j : Int) + 1 < ((begins l).length : Int)), show rowOf l x = j from by omega]; rfl

theorem MapRow_eq {R : Type} (r l : List Int) (hl : l.length < 1099511627776) (x : Nat) (k : Int → Option R) : MapRow_F r (begins l) (x : Int) k = k (rowOf l x : Nat) := by
  have hle : (nls l 0).length ≤ l.length := by rw [nls_length]; exact List.countP_le_length
  have hb : (begins l).length = (nls l 0).length + 1 := rfl
  rw [MapRow_F_T]; unfold MapRow_T; rw [MapRow_M2_eq]
  exact MapRow_L r l hl x _ _ 0 (by omega) (Nat.zero_le _)

end Go.Proofs.YtleoffdjdgbanaaDoor

namespace Go.Proofs.YtleoffdjdgbanaaDoor
open Go Go.QA Go.Proofs

theorem nls_at : ∀ (l : List Int) (i x : Nat), x < l.length → l.getD x 0 = 10 → (nls l i).getD ((l.take x).countP (· == 10)) 0 = ((i + x + 1 : Nat) : Int)
  | [], _, _, h, _ => by simp at h
  | r :: t, i, 0, _, h2 => by
    have hr : r = 10 := by simpa using h2
    rw [nls, if_pos hr]; simp
  | r :: t, i, x + 1, h, h2 => by
    have ih := nls_at t (i + 1) x (by simpa using h) (by simpa using h2)
    rw [List.take_succ_cons]
    by_cases hr : r = 10
    · rw [nls, if_pos hr, List.countP_cons_of_pos (by simpa using hr), List.getD_cons_succ, ih]; omega
    · rw [nls, if_neg hr, List.countP_cons_of_neg (by simpa using hr), ih]; omega

theorem rowOf_succ {l : List Int} {x : Nat} (h : x < l.length) : rowOf l (x + 1) = rowOf l x + if l.getD x 0 = 10 then 1 else 0 := by
  unfold rowOf
  rw [getD_at h, List.take_succ_eq_append_getElem h, List.countP_append]
  by_cases h2 : l[x] = 10
  · rw [if_pos h2]; simp [h2]
  · rw [if_neg h2]; simp [h2]

theorem begins_at (l : List Int) : ∀ x, x ≤ l.length → (begins l).getD (rowOf l x) 0 = (beginOf l x : Nat)
  | 0, _ => by simp [rowOf, begins, beginOf]
  | x + 1, h => by
    have h' : x < l.length := by omega
    rw [rowOf_succ h', beginOf]
    by_cases h2 : l.getD x 0 = 10
    · rw [if_pos h2, if_pos h2]
      have := nls_at l 0 x h' h2
      unfold begins
      rw [List.getD_cons_succ]
      simpa [rowOf] using this
    · rw [if_neg h2, if_neg h2, Nat.add_zero]
      exact begins_at l x (by omega)

theorem begins_end (l : List Int) : ∀ (d x : Nat), l.length - x = d → x ≤ l.length →
    (endOf l x < l.length ∧ rowOf l x + 1 < (begins l).length ∧ (begins l).getD (rowOf l x + 1) 0 = ((endOf l x + 1 : Nat) : Int)) ∨ (endOf l x = l.length ∧ (begins l).length = rowOf l x + 1) := by
  have hb : (begins l).length = (nls l 0).length + 1 := rfl
  intro d
  induction d with
  | zero =>
    intro x hd hx
    have e : x = l.length := by omega
    subst e
    refine .inr ⟨endOf_over (Nat.le_refl _), ?_⟩
    rw [hb, nls_length]; unfold rowOf; rw [List.take_length]
  | succ d ih =>
    intro x hd hx
    have h' : x < l.length := by omega
    have hs := rowOf_succ h'
    by_cases h2 : l.getD x 0 = 10
    · refine .inl ?_
      rw [endOf_hit h' h2]
      rw [if_pos h2] at hs
      have hle := rowOf_le l (x + 1)
      refine ⟨h', by omega, ?_⟩
      have := nls_at l 0 x h' h2
      unfold begins
      rw [List.getD_cons_succ]
      simpa [rowOf] using this
    · rw [if_neg h2] at hs
      have hs' : rowOf l x = rowOf l (x + 1) := by omega
      rw [endOf_miss h' h2, hs']
      exact ih (x + 1) (by omega) (by omega)

theorem endOf_le (l : List Int) (x : Nat) (hx : x ≤ l.length) : endOf l x ≤ l.length := by
  rcases begins_end l _ x rfl hx with h | h <;> omega

theorem MapEnd_eq {R : Type} (l : List Int) (hl : l.length < 1099511627776) (x : Nat) (hx : x ≤ l.length) (k : Int → Option R) : MapEnd_F l (begins l) (rowOf l x : Nat) k = k (endOf l x : Nat) := by
  have hle : (nls l 0).length ≤ l.length := by rw [nls_length]; exact List.countP_le_length
  have hb : (begins l).length = (nls l 0).length + 1 := rfl
  have hro := rowOf_le l x
  rw [MapEnd_F_T]; unfold MapEnd_T
  rw [wrap64 (by omega) (by omega)]
  rcases begins_end l _ x rfl hx with ⟨h1, h2, h3⟩ | ⟨h1, h2⟩
  · rw [decide_eq_true (by omega : ((rowOf l x : Nat) : Int) + 1 < ((begins l).length : Int)), decide_eq_true (by omega : (0 : Int) ≤ ((rowOf l x : Nat) : Int) + 1)]
    simp only [cond_true, Bool.and_true]
    rw [show (((rowOf l x : Nat) : Int) + 1).toNat = rowOf l x + 1 from by omega, h3, wrap64 (by omega) (by omega)]
    congr 1; omega
  · rw [decide_eq_false (by omega : ¬ ((rowOf l x : Nat) : Int) + 1 < ((begins l).length : Int)), cond_false, h1]

end Go.Proofs.YtleoffdjdgbanaaDoor

namespace Go.Proofs.YtleoffdjdgbanaaDoor
open Go Go.QA Go.Proofs

/-- Where the cursor rests. -/
def restOf (l : List Int) (x : Nat) : Nat := if x = endOf l x ∧ beginOf l x < x then x - 1 else x

theorem refRest_eq {R : Type} (l : List Int) (hl : l.length < 1099511627776) (x : Nat) (hx : x ≤ l.length) (k : Int → Option R) : refRest_F l (x : Int) k = k (restOf l x : Nat) := by
  rw [refRest_F_T]; unfold refRest_T restOf
  rw [refEnd_eq l (by omega)]
  by_cases h : x = endOf l x
  · rw [show ((x : Int) == ((endOf l x : Nat) : Int)) = true from by rw [← h]; simp, cond_true, refBegin_eq l (by omega) x hx]
    by_cases h2 : beginOf l x < x
    · rw [decide_eq_true (by omega : (x : Int) > ((beginOf l x : Nat) : Int)), cond_true, if_pos ⟨h, h2⟩, wrap64 (by omega) (by omega)]
      congr 1; omega
    · rw [decide_eq_false (by omega : ¬ (x : Int) > ((beginOf l x : Nat) : Int)), cond_false, if_neg (fun e => h2 e.2)]
  · rw [show ((x : Int) == ((endOf l x : Nat) : Int)) = false from by simpa using fun e => h (by omega), cond_false, if_neg (fun e => h e.1)]

theorem MapRest_eq {R : Type} (l : List Int) (hl : l.length < 1099511627776) (x : Nat) (hx : x ≤ l.length) (k : Int → Option R) : MapRest_F l (begins l) (x : Int) k = k (restOf l x : Nat) := by
  have hb : (begins l).length = (nls l 0).length + 1 := rfl
  have hro := rowOf_le l x
  rw [MapRest_F_T]; unfold MapRest_T restOf
  rw [MapRow_eq l l hl, MapEnd_eq l hl x hx]
  by_cases h : x = endOf l x
  · rw [show ((x : Int) == ((endOf l x : Nat) : Int)) = true from by rw [← h]; simp, cond_true]
    rw [decide_eq_true (by omega : (0 : Int) ≤ ((rowOf l x : Nat) : Int)), decide_eq_true (by omega : ((rowOf l x : Nat) : Int) < ((begins l).length : Int))]
    simp only [Bool.and_true, cond_true, Int.toNat_natCast]
    have hba := begins_at l x hx
    by_cases h2 : beginOf l x < x
    · rw [decide_eq_true (by omega : (x : Int) > (begins l).getD (rowOf l x) 0), cond_true, if_pos ⟨h, h2⟩, wrap64 (by omega) (by omega)]
      congr 1; omega
    · rw [decide_eq_false (by omega : ¬ (x : Int) > (begins l).getD (rowOf l x) 0), cond_false, if_neg (fun e => h2 e.2)]
  · rw [show ((x : Int) == ((endOf l x : Nat) : Int)) = false from by simpa using fun e => h (by omega), cond_false, if_neg (fun e => h e.1)]

end Go.Proofs.YtleoffdjdgbanaaDoor

namespace Go.Proofs.YtleoffdjdgbanaaDoor
open Go Go.QA Go.Proofs

/-- May a text be? -/
noncomputable def mayOf (s : Str) : Bool := decide (s.length ≤ 4000) && (Lib.validD s && s.all (· != 0))

theorem indexByte_zero : ∀ s : Str, decide (Lib.indexByte s 0 < 0) = s.all (· != 0)
  | [] => rfl
  | b :: s => by
    have ih := indexByte_zero s
    have hge := Lib.indexByte_ge s 0
    rw [List.all_cons, ← ih]
    by_cases h : b = 0
    · subst h; rfl
    · have h1 : (b == 0) = false := by simpa using h
      have h2 : (b != 0) = true := by simpa using h
      rw [h2, Bool.true_and, decide_eq_decide]
      have e : Lib.indexByte (b :: s) 0 = if Lib.indexByte s 0 == -1 then -1 else Lib.indexByte s 0 + 1 := by
        rw [Lib.indexByte, h1]; rfl
      rw [e]
      by_cases h3 : Lib.indexByte s 0 = -1
      · rw [h3]; simp
      · have h4 : (Lib.indexByte s 0 == -1) = false := by simpa using h3
        rw [h4, if_neg (by simp)]
        omega

theorem textMay_eq {R : Type} (s : Str) (k : Bool → Option R) : textMay_F s k = k (mayOf s) := by
  rw [textMay_F_T]; unfold textMay_T mayOf
  by_cases h : s.length ≤ 4000
  · rw [decide_eq_true (by omega : (s.length : Int) ≤ 4000), decide_eq_true h, cond_true, Bool.true_and, textWhole_F_T]
    unfold textWhole_T libValidString_F
    rw [decide_eq_true (by omega : s.length ≤ 9223372036854775807), cond_true]
    cases Lib.validD s with
    | false => rfl
    | true =>
      simp only [cond_true, libIndexByte_F, Bool.true_and]
      rw [show (0 : Int).toNat.toUInt8 = (0 : UInt8) from rfl, indexByte_zero]
  · rw [decide_eq_false (by omega : ¬ (s.length : Int) ≤ 4000), decide_eq_false h]; rfl

theorem refMay1_L {R : Type} (s : Str) (hl : s.length ≤ 4000) (ke0 : Bool → Option R) (ke1 : Option R) : ∀ (n x : Nat), 0 < n → s.length < n + x → refMay1_L4 n s (x : Int) ke0 ke1 = bif (s.drop x).all (· != 0) then ke1 else ke0 false := by
  intro n
  induction n with
  | zero => intro x h0; omega
  | succ n ih =>
    intro x _ hx
    simp only [refMay1_L4, refMay1_B4]
    by_cases h : x < s.length
    · rw [decide_eq_true (by omega : (x : Int) < (s.length : Int)), decide_eq_true (by omega : (0 : Int) ≤ (x : Int)), wrap64 (by omega) (by omega)]
      simp only [cond_true, Bool.and_true, Int.toNat_natCast]
      rw [List.drop_eq_getElem_cons h, List.all_cons]
      have e : s.getD x 0 = s[x] := by simp [List.getD, h]
      rw [e]
      by_cases h2 : s[x] = 0
      · rw [h2]; rfl
      · have h3 : (s[x] != 0) = true := by simpa using h2
        have h4 : (((s[x]).toNat : Int) == 0) = false := by
          simp only [beq_eq_false_iff_ne, ne_eq]
          intro h5
          exact h2 (UInt8.toNat_inj.1 (by simpa using h5))
        rw [h3, h4, cond_false, Bool.true_and]
        have := ih (x + 1) (by omega) (by omega)
        simpa using this
    · rw [decide_eq_false (by omega : ¬ (x : Int) < (s.length : Int)), List.drop_eq_nil_of_le (by omega)]; rfl

theorem refMay1_eq {R : Type} (s : Str) (k : Bool → Option R) : refMay1_F s k = k (mayOf s) := by
  rw [refMay1_F_T]; unfold refMay1_T mayOf
  by_cases h : s.length ≤ 4000
  · rw [decide_eq_false (by omega : ¬ (s.length : Int) > 4000), decide_eq_true h, cond_false, Bool.true_and]
    unfold libValidString_F
    rw [decide_eq_true (by omega : s.length ≤ 9223372036854775807), cond_true]
    cases Lib.validD s with
    | false => rfl
    | true =>
      simp only [Bool.not_true, cond_false, Bool.true_and]
      rw [refMay1_M4_eq]
      have := refMay1_L s h (fun b => k b) (k true) 4611686018427387904 0 (by omega) (by omega)
      rw [List.drop_zero] at this
      refine Eq.trans this ?_
      cases s.all (· != 0) <;> rfl
  · rw [decide_eq_true (by omega : (s.length : Int) > 4000), decide_eq_false h]; rfl

end Go.Proofs.YtleoffdjdgbanaaDoor

namespace Go.Proofs.YtleoffdjdgbanaaDoor
open Go Go.QA Go.Proofs

/-- How long two lists are alike at their heads. -/
def headOf : List Int → List Int → Nat
  | a :: s, b :: t => if a = b then headOf s t + 1 else 0
  | _, _ => 0

theorem headOf_le : ∀ l m : List Int, headOf l m ≤ l.length ∧ headOf l m ≤ m.length
  | [], _ => by simp [headOf]
  | _ :: _, [] => by simp [headOf]
  | a :: s, b :: t => by
    have := headOf_le s t
    unfold headOf
    split <;> simp <;> omega

theorem mm_false (a b : Int) : mm false a b = min a b := by
  unfold mm; simp only [cond_false]; split <;> omega

theorem headOf_drop {l m : List Int} {x : Nat} (h : x < l.length) (h2 : x < m.length) :
    headOf (l.drop x) (m.drop x) = if l.getD x 0 = m.getD x 0 then headOf (l.drop (x + 1)) (m.drop (x + 1)) + 1 else 0 := by
  rw [List.drop_eq_getElem_cons h, List.drop_eq_getElem_cons h2, headOf, getD_at h, getD_at h2]

theorem headOf_over {l m : List Int} {x : Nat} (h : l.length ≤ x ∨ m.length ≤ x) : headOf (l.drop x) (m.drop x) = 0 := by
  rcases h with h | h
  · rw [List.drop_eq_nil_of_le h, headOf]; simp
  · rw [List.drop_eq_nil_of_le h]; cases l.drop x <;> rfl

theorem patchOf_L {R : Type} (l m : List Int) (hl : l.length < 1099511627776) (hm : m.length < 1099511627776) (t : Str) (y z : Int) (ke : List Int → List Int → Int → Str → Int → Int → Option R) :
    ∀ (n x : Nat), 0 < n → l.length < n + x → patchOf_L3 n l m (x : Int) t y z ke = ke l m ((x + headOf (l.drop x) (m.drop x) : Nat) : Int) t y z := by
  intro n
  induction n with
  | zero => intro x h0; omega
  | succ n ih =>
    intro x _ hx
    simp only [patchOf_L3, patchOf_B3, mm_false]
    by_cases h : x < l.length ∧ x < m.length
    · obtain ⟨h, h'⟩ := h
      rw [decide_eq_true (by omega : (x : Int) < min (l.length : Int) (m.length : Int)), decide_eq_true (by omega : (0 : Int) ≤ (x : Int)), decide_eq_true (by omega : (x : Int) < (l.length : Int)),
        decide_eq_true (by omega : (x : Int) < (m.length : Int)), wrap64 (by omega) (by omega)]
      simp only [cond_true, Bool.and_true, Int.toNat_natCast]
      rw [headOf_drop h h']
      by_cases h2 : l.getD x 0 = m.getD x 0
      · rw [if_pos h2, h2, beq_self_eq_true, cond_true]
        have := ih (x + 1) (by omega) (by omega)
        rw [show (x + (headOf (l.drop (x + 1)) (m.drop (x + 1)) + 1)) = x + 1 + headOf (l.drop (x + 1)) (m.drop (x + 1)) from by omega]
        simpa using this
      · rw [if_neg h2, show (l.getD x 0 == m.getD x 0) = false from by simpa using h2]; rfl
    · rw [decide_eq_false (by omega : ¬ (x : Int) < min (l.length : Int) (m.length : Int)), headOf_over (by omega)]; rfl

end Go.Proofs.YtleoffdjdgbanaaDoor

namespace Go.Proofs.YtleoffdjdgbanaaDoor
open Go Go.QA Go.Proofs

/-- How long two lists are alike at their ends. -/
def tailOf (l m : List Int) : Nat := headOf l.reverse m.reverse

theorem take_pred {l : List Int} (h : 0 < l.length) : l.reverse = l.getD (l.length - 1) 0 :: (l.take (l.length - 1)).reverse := by
  have e : l = l.take (l.length - 1) ++ [l.getD (l.length - 1) 0] := by
    rw [getD_at (by omega)]
    have := List.take_succ_eq_append_getElem (l := l) (i := l.length - 1) (by omega)
    rw [show l.length - 1 + 1 = l.length from by omega, List.take_length] at this
    exact this
  have := congrArg List.reverse e
  rw [List.reverse_append] at this
  simpa using this

theorem tailOf_hit {l m : List Int} (h : 0 < l.length) (h2 : 0 < m.length) :
    tailOf l m = if l.getD (l.length - 1) 0 = m.getD (m.length - 1) 0 then tailOf (l.take (l.length - 1)) (m.take (m.length - 1)) + 1 else 0 := by
  unfold tailOf
  rw [take_pred h, take_pred h2, headOf]

theorem tailOf_over {l m : List Int} (h : l.length = 0 ∨ m.length = 0) : tailOf l m = 0 := by
  unfold tailOf
  rcases h with h | h
  · rw [List.length_eq_zero_iff.1 h]; simp [headOf]
  · rw [List.length_eq_zero_iff.1 h]; cases l.reverse <;> rfl

theorem tailOf_le (l m : List Int) : tailOf l m ≤ l.length ∧ tailOf l m ≤ m.length := by
  have := headOf_le l.reverse m.reverse
  simpa [tailOf] using this

theorem patchOf_L6_eq' {R : Type} (x : Int) (t : Str) (y z : Int) (ke : List Int → List Int → Int → Str → Int → Int → Option R) :
    ∀ (n : Nat) (l m : List Int), l.length < 1099511627776 → m.length < 1099511627776 → l.length < n → patchOf_L6 n l m x t y z ke = ke (l.take (l.length - tailOf l m)) (m.take (m.length - tailOf l m)) x t y z := by
  intro n
  induction n with
  | zero => intro l m _ _ h0; omega
  | succ n ih =>
    intro l m hl hm hx
    simp only [patchOf_L6, patchOf_B6]
    by_cases h : 0 < l.length ∧ 0 < m.length
    · obtain ⟨h, h'⟩ := h
      have e1 : IntKind.wrap .i64 ((l.length : Int) - 1) = ((l.length - 1 : Nat) : Int) := by rw [wrap64 (by omega) (by omega)]; omega
      have e2 : IntKind.wrap .i64 ((m.length : Int) - 1) = ((m.length - 1 : Nat) : Int) := by rw [wrap64 (by omega) (by omega)]; omega
      rw [decide_eq_true (by omega : (l.length : Int) > 0), decide_eq_true (by omega : (m.length : Int) > 0)]
      simp only [cond_true, e1, e2, Int.toNat_natCast]
      rw [decide_eq_true (by omega : (0 : Int) ≤ ((l.length - 1 : Nat) : Int)), decide_eq_true (by omega : ((l.length - 1 : Nat) : Int) < (l.length : Int)), decide_eq_true (by omega : ((l.length - 1 : Nat) : Int) ≤ (l.length : Int)),
        decide_eq_true (by omega : (0 : Int) ≤ ((m.length - 1 : Nat) : Int)), decide_eq_true (by omega : ((m.length - 1 : Nat) : Int) < (m.length : Int)), decide_eq_true (by omega : ((m.length - 1 : Nat) : Int) ≤ (m.length : Int))]
      simp only [Bool.and_true, cond_true, List.drop_zero]
      rw [tailOf_hit h h']
      by_cases h2 : l.getD (l.length - 1) 0 = m.getD (m.length - 1) 0
      · rw [if_pos h2, h2, beq_self_eq_true, cond_true, ih _ _ (by simp; omega) (by simp; omega) (by simp; omega)]
        simp only [List.take_take, List.length_take]
        have := tailOf_le (l.take (l.length - 1)) (m.take (m.length - 1))
        simp only [List.length_take] at this
        congr 2 <;> (congr 1; omega)
      · rw [if_neg h2, show (l.getD (l.length - 1) 0 == m.getD (m.length - 1) 0) = false from by simpa using h2]
        simp
    · rw [tailOf_over (by omega)]
      simp only [Nat.sub_zero, List.take_length]
      by_cases h3 : 0 < l.length
      · rw [decide_eq_true (by omega : (l.length : Int) > 0), decide_eq_false (by omega : ¬ (m.length : Int) > 0)]; rfl
      · rw [decide_eq_false (by omega : ¬ (l.length : Int) > 0)]; rfl

end Go.Proofs.YtleoffdjdgbanaaDoor

namespace Go.Proofs.YtleoffdjdgbanaaDoor
open Go Go.QA Go.Proofs

def atOf (l m : List Int) : Nat := headOf l m
def endsOf (l m : List Int) : Nat := tailOf (l.drop (headOf l m)) (m.drop (headOf l m))
def delOf (l m : List Int) : Nat := l.length - headOf l m - endsOf l m
def insOf (l m : List Int) : Str := strOf ((m.drop (headOf l m)).take (m.length - headOf l m - endsOf l m))

theorem patchOf_eq {R : Type} (s t : Str) (hs : (runesOf s).length < 1099511627776) (ht : (runesOf t).length < 1099511627776) (k : Int → Int → Str → Option R) :
    patchOf_F s t k = k (atOf (runesOf s) (runesOf t) : Nat) (delOf (runesOf s) (runesOf t) : Nat) (insOf (runesOf s) (runesOf t)) := by
  rw [patchOf_F_T]; unfold patchOf_T atOf delOf insOf endsOf
  generalize runesOf s = l at *
  generalize runesOf t = m at *
  have hh := headOf_le l m
  rw [patchOf_M3_eq]
  refine Eq.trans (patchOf_L l m hs ht [] 0 0 _ 4611686018427387904 0 (by omega) (by omega)) ?_
  simp only [List.drop_zero, Nat.zero_add]
  rw [decide_eq_true (by omega : (0 : Int) ≤ ((headOf l m : Nat) : Int)), decide_eq_true (by omega : ((headOf l m : Nat) : Int) ≤ (l.length : Int)), decide_eq_true (by omega : ((headOf l m : Nat) : Int) ≤ (m.length : Int))]
  simp only [Bool.and_true, cond_true, List.take_length, Int.toNat_natCast]
  rw [patchOf_M6_eq, patchOf_L6_eq' _ _ _ _ _ _ _ _ (by simp; omega) (by simp; omega) (by simp; omega)]
  have ht2 := tailOf_le (l.drop (headOf l m)) (m.drop (headOf l m))
  simp only [List.length_take, List.length_drop] at ht2 ⊢
  congr 1
  omega

theorem refBetween4_LA {R : Type} (l m : List Int) (hl : l.length < 1099511627776) (a1 : Str) (a2 a3 : Int) (a4 : Str) (a5 : Int) (ke : List Int → List Int → Str → Int → Int → Str → Int → Int → Option R) :
    ∀ (n x : Nat), 0 < n → l.length < n + x → refBetween4_L3 n l m a1 a2 a3 a4 a5 (x : Int) ke = ke l m a1 a2 a3 a4 a5 ((x + headOf (l.drop x) (m.drop x) : Nat) : Int) := by
  intro n
  induction n with
  | zero => intro x h0; omega
  | succ n ih =>
    intro x _ hx
    simp only [refBetween4_L3, refBetween4_B3]
    by_cases h : x < l.length
    · rw [decide_eq_true (by omega : (x : Int) < (l.length : Int))]
      by_cases h' : x < m.length
      · rw [decide_eq_true (by omega : (0 : Int) ≤ (x : Int)), decide_eq_true (by omega : (x : Int) < (m.length : Int)), wrap64 (by omega) (by omega)]
        simp only [cond_true, Bool.and_true, Int.toNat_natCast]
        rw [headOf_drop h h']
        by_cases h2 : l.getD x 0 = m.getD x 0
        · rw [if_pos h2, h2, beq_self_eq_true, cond_true]
          have := ih (x + 1) (by omega) (by omega)
          rw [show (x + (headOf (l.drop (x + 1)) (m.drop (x + 1)) + 1)) = x + 1 + headOf (l.drop (x + 1)) (m.drop (x + 1)) from by omega]
          simpa using this
        · rw [if_neg h2, show (l.getD x 0 == m.getD x 0) = false from by simpa using h2]; rfl
      · rw [decide_eq_false (by omega : ¬ (x : Int) < (m.length : Int)), headOf_over (by omega)]; rfl
    · rw [decide_eq_false (by omega : ¬ (x : Int) < (l.length : Int)), headOf_over (by omega)]; rfl

end Go.Proofs.YtleoffdjdgbanaaDoor

namespace Go.Proofs.YtleoffdjdgbanaaDoor
open Go Go.QA Go.Proofs

theorem getD_cut (l : List Int) (p x : Nat) (h : p + x < l.length) : ((l.drop p).take ((l.drop p).length - x)).getD (((l.drop p).take ((l.drop p).length - x)).length - 1) 0 = l.getD (l.length - 1 - x) 0 := by
  simp only [List.getD, List.length_take, List.length_drop, List.getElem?_take, List.getElem?_drop]
  rw [show min (l.length - p - x) (l.length - p) = l.length - p - x from by omega, if_pos (by omega), show p + (l.length - p - x - 1) = l.length - 1 - x from by omega]

theorem take_cut (l : List Int) (p x : Nat) (h : p + x < l.length) : ((l.drop p).take ((l.drop p).length - x)).take (((l.drop p).take ((l.drop p).length - x)).length - 1) = (l.drop p).take ((l.drop p).length - (x + 1)) := by
  rw [List.take_take, List.length_take, List.length_drop]
  congr 1; omega

theorem refBetween4_LB {R : Type} (l m : List Int) (hl : l.length < 1099511627776) (hm : m.length < 1099511627776) (p : Nat) (hp : p ≤ l.length) (hp' : p ≤ m.length) (a1 : Str) (a2 a3 : Int) (a4 : Str) (a5 : Int)
    (ke : List Int → List Int → Int → Str → Int → Int → Str → Int → Int → Option R) :
    ∀ (n x : Nat), 0 < n → l.length < n + x → p + x ≤ l.length → p + x ≤ m.length → refBetween4_L6 n l m (x : Int) a1 a2 a3 a4 a5 (p : Int) ke =
      ke l m ((x + tailOf ((l.drop p).take ((l.drop p).length - x)) ((m.drop p).take ((m.drop p).length - x)) : Nat) : Int) a1 a2 a3 a4 a5 (p : Int) := by
  intro n
  induction n with
  | zero => intro x h0; omega
  | succ n ih =>
    intro x _ hx h1 h2
    simp only [refBetween4_L6, refBetween4_B6]
    rw [show IntKind.wrap .i64 ((l.length : Int) - (p : Int)) = ((l.length - p : Nat) : Int) from by rw [wrap64 (by omega) (by omega)]; omega,
      show IntKind.wrap .i64 ((m.length : Int) - (p : Int)) = ((m.length - p : Nat) : Int) from by rw [wrap64 (by omega) (by omega)]; omega]
    by_cases h : p + x < l.length
    · rw [decide_eq_true (by omega : (x : Int) < ((l.length - p : Nat) : Int))]
      by_cases h' : p + x < m.length
      · have e1 : IntKind.wrap .i64 (IntKind.wrap .i64 ((l.length : Int) - 1) - (x : Int)) = ((l.length - 1 - x : Nat) : Int) := by rw [wrap64 (x := (l.length : Int) - 1) (by omega) (by omega), wrap64 (by omega) (by omega)]; omega
        have e2 : IntKind.wrap .i64 (IntKind.wrap .i64 ((m.length : Int) - 1) - (x : Int)) = ((m.length - 1 - x : Nat) : Int) := by rw [wrap64 (x := (m.length : Int) - 1) (by omega) (by omega), wrap64 (by omega) (by omega)]; omega
        rw [e1, e2, decide_eq_true (by omega : (x : Int) < ((m.length - p : Nat) : Int)), decide_eq_true (by omega : (0 : Int) ≤ ((l.length - 1 - x : Nat) : Int)), decide_eq_true (by omega : ((l.length - 1 - x : Nat) : Int) < (l.length : Int)),
          decide_eq_true (by omega : (0 : Int) ≤ ((m.length - 1 - x : Nat) : Int)), decide_eq_true (by omega : ((m.length - 1 - x : Nat) : Int) < (m.length : Int)), wrap64 (x := (x : Int) + 1) (by omega) (by omega)]
        simp only [cond_true, Bool.and_true, Int.toNat_natCast]
        rw [tailOf_hit (by simp; omega) (by simp; omega), getD_cut l p x h, getD_cut m p x h', take_cut l p x h, take_cut m p x h']
        by_cases h3 : l.getD (l.length - 1 - x) 0 = m.getD (m.length - 1 - x) 0
        · rw [if_pos h3, h3, beq_self_eq_true, cond_true]
          have := ih (x + 1) (by omega) (by omega) (by omega) (by omega)
          rw [show ∀ q : Nat, x + (q + 1) = x + 1 + q from fun q => by omega]
          simpa using this
        · rw [if_neg h3, show (l.getD (l.length - 1 - x) 0 == m.getD (m.length - 1 - x) 0) = false from by simpa using h3]; rfl
      · rw [decide_eq_false (by omega : ¬ (x : Int) < ((m.length - p : Nat) : Int)), tailOf_over (.inr (by simp; omega))]; rfl
    · rw [decide_eq_false (by omega : ¬ (x : Int) < ((l.length - p : Nat) : Int)), tailOf_over (.inl (by simp; omega))]; rfl

theorem refBetween4_eq {R : Type} (s t : Str) (hs : (runesOf s).length < 1099511627776) (ht : (runesOf t).length < 1099511627776) (k : Int → Int → Str → Option R) :
    refBetween4_F s t k = k (atOf (runesOf s) (runesOf t) : Nat) (delOf (runesOf s) (runesOf t) : Nat) (insOf (runesOf s) (runesOf t)) := by
  rw [refBetween4_F_T]; unfold refBetween4_T atOf delOf insOf endsOf
  generalize runesOf s = l at *
  generalize runesOf t = m at *
  have hh := headOf_le l m
  rw [refBetween4_M3_eq]
  refine Eq.trans (refBetween4_LA l m hs [] 0 0 [] 0 _ 4611686018427387904 0 (by omega) (by omega)) ?_
  simp only [List.drop_zero, Nat.zero_add]
  rw [refBetween4_M6_eq]
  refine Eq.trans (refBetween4_LB l m hs ht (headOf l m) hh.1 hh.2 [] 0 0 [] 0 _ 4611686018427387904 0 (by omega) (by omega) (by omega) (by omega)) ?_
  simp only [Nat.sub_zero, List.take_length, Nat.zero_add]
  have ht2 := tailOf_le (l.drop (headOf l m)) (m.drop (headOf l m))
  simp only [List.length_drop] at ht2
  generalize tailOf (l.drop (headOf l m)) (m.drop (headOf l m)) = q at *
  generalize headOf l m = p at *
  rw [show IntKind.wrap .i64 ((m.length : Int) - (q : Int)) = ((m.length - q : Nat) : Int) from by rw [wrap64 (by omega) (by omega)]; omega,
    show IntKind.wrap .i64 (IntKind.wrap .i64 ((l.length : Int) - (q : Int)) - (p : Int)) = ((l.length - p - q : Nat) : Int) from by rw [wrap64 (x := (l.length : Int) - q) (by omega) (by omega), wrap64 (by omega) (by omega)]; omega]
  simp only [Int.toNat_natCast]
  rw [decide_eq_true (by omega : (0 : Int) ≤ ((m.length - q : Nat) : Int)), decide_eq_true (by omega : ((m.length - q : Nat) : Int) ≤ (m.length : Int)), decide_eq_true (by omega : (0 : Int) ≤ (p : Int)), decide_eq_true (by omega : (p : Int) ≤ ((m.length - q : Nat) : Int))]
  simp only [Bool.and_true, cond_true]
  rw [List.drop_take, show m.length - q - p = m.length - p - q from by omega]

end Go.Proofs.YtleoffdjdgbanaaDoor
