/- Plain laws: rows that are shifted: the program's and the reference's are one; no program in sight but the printed functions. -/
import Derived.Test.YtleoffdjdgbanaaDoorPure2
set_option linter.unusedVariables false
set_option linter.unusedSimpArgs false
set_option linter.unusedVariables false
set_option linter.unusedSimpArgs false
namespace Go.Proofs.YtleoffdjdgbanaaDoor
open Go Go.QA Go.Proofs

/-- A text whose rows from that of one offset to that of another one are shifted. -/
def shiftedOf (key : Int) (l : List Int) (low high : Nat) : List Int :=
  l.take (beginOf l low) ++ unsplit 10 (shiftN key (rowOf l high - rowOf l low + 1) (splitC 10 (l.drop (beginOf l low))))

theorem shiftedOf_scal (key : Int) {l : List Int} (h : scalL l) (low high : Nat) : scalL (shiftedOf key l low high) :=
  scalL_append.2 ⟨h.take _, scalL_unsplit (scalL_shiftN key _ (scalL_splitC (h.drop _)))⟩

theorem unsplit_shiftN_len (key : Int) (n : Nat) (l : List Int) : (unsplit 10 (shiftN key n (splitC 10 l))).length ≤ 4 * l.length + 3 := by
  have h1 := unsplit_length 10 (shiftN key n (splitC 10 l))
  have h2 := sum_shiftN key n (splitC 10 l)
  have h3 := sum_splitC l
  have h4 := splitC_length 10 l
  rw [shiftN_length] at h1
  omega

theorem shiftedOf_length (key : Int) (l : List Int) (low high : Nat) : (shiftedOf key l low high).length ≤ 5 * l.length + 3 := by
  unfold shiftedOf
  have := unsplit_shiftN_len key (rowOf l high - rowOf l low + 1) (l.drop (beginOf l low))
  rw [List.length_drop] at this
  rw [List.length_append, List.length_take]; omega

theorem begin_nl (l : List Int) : ∀ x, x ≤ l.length → beginOf l x = 0 ∨ l[beginOf l x - 1]? = some 10
  | 0, _ => .inl rfl
  | x + 1, h => by
    rw [beginOf]
    by_cases h2 : l.getD x 0 = 10
    · rw [if_pos h2]
      right
      rw [getD_at (by omega)] at h2
      rw [Nat.add_sub_cancel, List.getElem?_eq_getElem (by omega), h2]
    · rw [if_neg h2]; exact begin_nl l x (by omega)

theorem rowOf_mono (l : List Int) {x y : Nat} (h : x ≤ y) : rowOf l x ≤ rowOf l y := by
  unfold rowOf
  exact List.Sublist.countP_le (by
    rw [show l.take x = (l.take y).take x from by rw [List.take_take]; congr 1; omega]
    exact List.take_sublist _ _)

theorem splitC_count : ∀ l : List Int, (splitC 10 l).length = l.countP (· == 10) + 1
  | [] => rfl
  | x :: t => by
    have ih := splitC_count t
    rw [splitC]
    by_cases h : x = 10
    · rw [if_pos h, List.length_cons, ih, List.countP_cons_of_pos (by simpa using h)]
    · rw [if_neg h, List.countP_cons_of_neg (by simpa using h), ← ih]
      cases hs : splitC (10 : Int) t with
      | nil => exact absurd hs (splitC_ne _ _)
      | cons r rs => rfl

theorem rowOf_shifted (key : Int) (l : List Int) (low high : Nat) (h1 : low ≤ l.length) : rowOf (shiftedOf key l low high) (beginOf l low) = rowOf l low := by
  have hb := beginOf_le l low
  rw [← rowOf_begin l low h1]
  unfold shiftedOf rowOf
  rw [List.take_append_of_le_length (by rw [List.length_take]; omega), List.take_take, Nat.min_self]

theorem len_le_sum : ∀ (rs : List (List Int)) (r : List Int), r ∈ rs → r.length ≤ (rs.map List.length).sum
  | [], r, h => by cases h
  | s :: t, r, h => by
    rcases List.mem_cons.1 h with rfl | h
    · simp
    · have := len_le_sum t r h; simp; omega

theorem changeRows_eq {R : Type} (s : Str) (hs : s.length ≤ 1000000) (hv : Lib.validD s = true) (key : Int) (hk : key = 62 ∨ key = 60) (low high : Nat) (h1 : low ≤ high) (h2 : high ≤ (runesOf s).length) (b : Bool)
    (k : Int → Int → Str → Int → Str → Bool → Int → Option R) :
    changeRows_F s (runesOf s) (begins (runesOf s)) (low : Int) (high : Int) b key k =
      (madeC s (strOf (shiftedOf key (runesOf s) low high)) (restOf (shiftedOf key (runesOf s) low high) (firstOf (shiftedOf key (runesOf s) low high) (beginOf (runesOf s) low)) : Nat)).ap k := by
  have hle := runesOf_length_le s
  have hsc := runesOf_scal s
  have hstr := strOf_runesOf hv
  rw [changeRows_F_T]; unfold changeRows_T libSplit_F
  rw [splitL_one, decide_eq_true (by omega : s.length < 4294967281), decide_eq_true (by simp : 1 ≤ List.length ([10] : Str))]
  simp only [Bool.and_true, cond_true]
  have hsp := splitC_strOf hsc
  rw [hstr] at hsp
  generalize hl : runesOf s = l at *
  rw [hsp, MapRow_eq l l (by omega)]
  have hb := beginOf_le l low
  have hrm := rowOf_mono l h1
  have hrc : rowOf l high ≤ l.countP (· == 10) := by have := rowOf_le l high; rwa [nls_length] at this
  have hcount := splitC_count l
  have hlen := splitC_length (10 : Int) l
  have hat := splitC_at (10 : Int) l (beginOf l low) (by omega) (begin_nl l low (by omega))
  have hrb : (l.take (beginOf l low)).countP (· == 10) = rowOf l low := by rw [← rowOf_begin l low (by omega)]; rfl
  rw [hrb] at hat
  rw [changeRows_M4_eq]
  have hq3 : ∀ j, rowOf l low ≤ j → (((splitC 10 l).map strOf).getD j []).length ≤ 140737488355328 := by
    intro j _
    by_cases hj : j < (splitC 10 l).length
    · have e : ((splitC 10 l).map strOf).getD j [] = strOf (splitC 10 l)[j] := by simp [List.getD, hj]
      rw [e]
      have h3 := strOf_length_le (splitC 10 l)[j]
      have h4 : ((splitC 10 l)[j]).length ≤ ((splitC 10 l).map List.length).sum := len_le_sum _ _ (List.getElem_mem hj)
      have h5 := sum_splitC l
      omega
    · have e : ((splitC 10 l).map strOf).getD j [] = [] := by simp [List.getD, List.getElem?_eq_none (Nat.le_of_not_lt hj)]
      rw [e]; simp
  refine Eq.trans (changeRows_4 s l (by omega) key hk (rowOf l low : Nat) b high (low : Int) false [] 0 [] 0 0 _ 4611686018427387904 (rowOf l low) ((splitC 10 l).map strOf) (by rw [List.length_map]; omega) (by rw [List.length_map]; omega) hq3 (by omega) (by omega)) ?_
  have hgo := rowsGo_eq key (rowOf l high + 1 - rowOf l low) (((splitC 10 l).take (rowOf l low)).map strOf) (splitC 10 (l.drop (beginOf l low))) (scalL_splitC (hsc.drop _)) (by
    rw [← hat.1, List.length_drop]; omega)
  rw [← List.map_append, ← hat.1, List.take_append_drop, List.length_map, List.length_take, show min (rowOf l low) (splitC 10 l).length = rowOf l low from by omega, ← List.map_append] at hgo
  rw [hgo, hat.1]
  unfold libJoin_F
  rw [join_strOf, hat.2 _ (shiftN_ne key _ (splitC_ne _ _)), show rowOf l high + 1 - rowOf l low = rowOf l high - rowOf l low + 1 from by omega]
  have hy : l.take (beginOf l low) ++ unsplit 10 (shiftN key (rowOf l high - rowOf l low + 1) (splitC 10 (l.drop (beginOf l low)))) = shiftedOf key l low high := rfl
  rw [hy]
  have hys := shiftedOf_scal key hsc low high
  have hyl := shiftedOf_length key l low high
  have hyr := rowOf_shifted key l low high (by omega)
  have hyp : beginOf l low ≤ (shiftedOf key l low high).length := by
    unfold shiftedOf; rw [List.length_append, List.length_take]; omega
  have hxl := strOf_length_le (shiftedOf key l low high)
  rw [decide_eq_true (by rw [List.length_map, List.length_append, shiftN_length, List.length_take, ← hat.1, List.length_drop]; omega), decide_eq_true (by omega)]
  simp only [Bool.and_true, cond_true]
  rw [textOf_eq _ (by rw [runesOf_strOf hys]; omega), runesOf_strOf hys, ← hyr]
  rw [MapFirst_eq _ (by omega) (rune_of_scal hys) _ hyp, MapRest_eq _ (by omega) _ (firstOf_le _ _ hyp), changeMade_eq _ _ hs]

/-! ### the reference -/

/-- Behind the blanks, so many at most. -/
def skipTo (l : List Int) (e : Nat) : Nat → Nat → Nat
  | 0, x => x
  | m + 1, x => if x < e ∧ classOf (l.getD x 0) = 0 then skipTo l e m (x + 1) else x

theorem dropR_cut (l : List Int) {e x : Nat} (he : e ≤ l.length) : dropR ((l.take e).drop x) = (l.take e).drop (if x < e ∧ classOf (l.getD x 0) = 0 then x + 1 else x) := by
  by_cases h : x < e
  · have hx : x < (l.take e).length := by rw [List.length_take]; omega
    rw [List.drop_eq_getElem_cons hx, dropR, List.getElem_take, ← getD_at (by omega : x < l.length)]
    by_cases hc : classOf (l.getD x 0) = 0
    · rw [if_pos hc, if_pos ⟨h, hc⟩]
    · rw [if_neg hc, if_neg (fun e => hc e.2), List.drop_eq_getElem_cons hx, List.getElem_take, ← getD_at (by omega : x < l.length)]
  · rw [if_neg (fun e => h e.1), List.drop_eq_nil_of_le (by rw [List.length_take]; omega)]; rfl

theorem skip_two (l : List Int) {e x : Nat} (he : e ≤ l.length) : (l.take e).drop (skipTo l e 2 x) = dropR (dropR ((l.take e).drop x)) := by
  rw [dropR_cut l he, dropR_cut l he]
  congr 1
  by_cases h : x < e ∧ classOf (l.getD x 0) = 0
  · rw [if_pos h, skipTo, if_pos h, skipTo]
    split <;> rfl
  · rw [if_neg h, skipTo, if_neg h, if_neg h]

theorem skipTo_le (l : List Int) (e : Nat) : ∀ m x, x ≤ e → skipTo l e m x ≤ e ∧ x ≤ skipTo l e m x
  | 0, x, h => ⟨h, Nat.le_refl _⟩
  | m + 1, x, h => by
    rw [skipTo]
    split
    · rename_i h2
      have := skipTo_le l e m (x + 1) h2.1
      omega
    · omega

theorem refShifted_6 {R : Type} (s23 : Str) (l : List Int) (hl : l.length < 1099511627776) (hr : ∀ r ∈ l, isRune r) (x25 : Int) (s26 : Str) (at' e : Nat) (he : e ≤ l.length) (b30 : Bool) (x31 x32 : Int) (b33 : Bool) (s34 : Str) (x35 : Int) (s36 : Str) (x37 x38 : Int)
    (ke0 : Str → List Int → Int → Str → Int → Int → Bool → Int → Int → Bool → Str → Int → Str → Int → Int → Option R) : ∀ (n x : Nat), at' ≤ x → x ≤ e → x ≤ at' + 2 → at' + 2 < n + x →
      refShifted_L6 n s23 l x25 s26 (at' : Int) (e : Int) (x : Int) b30 x31 x32 b33 s34 x35 s36 x37 x38 ke0 = ke0 s23 l x25 s26 (e : Int) (skipTo l e (at' + 2 - x) x : Nat) b30 x31 x32 b33 s34 x35 s36 x37 x38 := by
  intro n
  induction n with
  | zero => intro x h1 h2 h3 h4; omega
  | succ n ih =>
    intro x h1 h2 h3 h4
    simp only [refShifted_L6, refShifted_B6]
    rw [wrap64 (x := (at' : Int) + 2) (by omega) (by omega)]
    by_cases h : x < e
    · rw [decide_eq_true (by omega : (x : Int) < (e : Int)), cond_true]
      by_cases h5 : x < at' + 2
      · rw [decide_eq_true (by omega : (x : Int) < (at' : Int) + 2), decide_eq_true (by omega : (0 : Int) ≤ (x : Int)), decide_eq_true (by omega : (x : Int) < (l.length : Int))]
        simp only [Bool.and_true, cond_true, Int.toNat_natCast, runeWrap hr]
        rw [refClass_eq, show at' + 2 - x = (at' + 2 - (x + 1)) + 1 from by omega, skipTo]
        by_cases hc : classOf (l.getD x 0) = 0
        · rw [hc, beq_self_eq_true, cond_true, if_pos ⟨h, rfl⟩, wrap64 (by omega) (by omega)]
          exact ih (x + 1) (by omega) (by omega) (by omega) (by omega)
        · rw [show (classOf (l.getD x 0) == 0) = false from by simpa using hc, cond_false, if_neg (fun e => hc e.2)]
      · rw [decide_eq_false (by omega : ¬ (x : Int) < (at' : Int) + 2), show at' + 2 - x = 0 from by omega]; rfl
    · rw [decide_eq_false (by omega : ¬ (x : Int) < (e : Int)), cond_false]
      congr 1
      cases at' + 2 - x with
      | zero => rfl
      | succ m => rw [skipTo, if_neg (fun e => h e.1)]

theorem splitC_row (l : List Int) : ∀ (d x : Nat), l.length - x = d → x ≤ l.length →
    splitC 10 (l.drop x) = (l.take (endOf l x)).drop x :: (if endOf l x < l.length then splitC 10 (l.drop (endOf l x + 1)) else []) := by
  intro d
  induction d with
  | zero =>
    intro x hd hx
    rw [endOf_over (by omega), if_neg (by omega), List.drop_eq_nil_of_le (by omega), List.drop_eq_nil_of_le (by rw [List.length_take]; omega)]; rfl
  | succ d ih =>
    intro x hd hx
    have hx' : x < l.length := by omega
    by_cases h2 : l.getD x 0 = 10
    · rw [endOf_hit hx' h2, if_pos hx', List.drop_eq_getElem_cons hx']
      rw [getD_at hx'] at h2
      rw [splitC, if_pos h2, show (l.take x).drop x = [] from List.drop_eq_nil_of_le (by rw [List.length_take]; omega)]
    · have hge := endOf_ge l (x + 1)
      rw [endOf_miss hx' h2, List.drop_eq_getElem_cons hx']
      rw [getD_at hx'] at h2
      rw [splitC, if_neg h2, ih (x + 1) (by omega) (by omega), consHead]
      congr 1
      have hx2 : x < (l.take (endOf l (x + 1))).length := by rw [List.length_take]; omega
      rw [List.drop_eq_getElem_cons hx2, List.getElem_take]

theorem rowOf_same (l : List Int) : ∀ (d x y : Nat), y - x = d → x ≤ y → y ≤ endOf l x → y ≤ l.length → rowOf l y = rowOf l x := by
  intro d
  induction d with
  | zero => intro x y h1 h2 h3 h4; rw [show y = x from by omega]
  | succ d ih =>
    intro x y h1 h2 h3 h4
    have hx : x < l.length := by omega
    by_cases h5 : l.getD x 0 = 10
    · rw [endOf_hit hx h5] at h3; omega
    · rw [endOf_miss hx h5] at h3
      rw [ih (x + 1) y (by omega) (by omega) h3 h4, rowOf_succ hx, if_neg h5]; rfl

theorem rowOf_next (l : List Int) {x : Nat} (hx : x ≤ l.length) (h : endOf l x < l.length) : rowOf l (endOf l x + 1) = rowOf l x + 1 := by
  rw [rowOf_succ h, if_pos (endOf_nl l _ x rfl h), rowOf_same l _ x (endOf l x) rfl (endOf_ge l x) (Nat.le_refl _) (by omega)]

theorem refShifted_3 {R : Type} (s8 : Str) (l : List Int) (hl : l.length < 1000000000) (hsc : scalL l) (key : Int) (hk : key = 62 ∨ key = 60) (b13 : Bool) (high : Nat) (hh : high ≤ l.length) (x15 : Int) (b16 : Bool) (s17 : Str) (x18 : Int) (s19 : Str) (x20 x21 : Int)
    (ke0 : Str → List Int → Str → Bool → Int → Int → Bool → Str → Int → Str → Int → Int → Option R) : ∀ (n at' : Nat) (x : Str), at' ≤ high → l.length + 1 < n + at' → x.length + 10 * (l.length - at') ≤ 1000000000000 →
      refShifted_L3 n s8 l key x (at' : Int) b13 (high : Int) x15 b16 s17 x18 s19 x20 x21 ke0 =
        ke0 s8 l (x ++ strOf (unsplit 10 (shiftN key (rowOf l high - rowOf l at' + 1) (splitC 10 (l.drop at'))))) b13 (high : Int) x15 b16 s17 x18 s19 x20 x21 := by
  intro n
  induction n with
  | zero => intro at' x h1 h2; omega
  | succ n ih =>
    intro at' x h1 h2 h3
    simp only [refShifted_L3, refShifted_B3]
    rw [refEnd_eq l (by omega)]
    have hge := endOf_ge l at'
    have hle := endOf_le l at' (by omega)
    have hrow := splitC_row l _ at' rfl (by omega)
    have hrl : ((l.take (endOf l at')).drop at').length = endOf l at' - at' := by rw [List.length_drop, List.length_take]; omega
    generalize he : endOf l at' = e at *
    generalize hr : (l.take e).drop at' = r at *
    have hsl := strOf_length_le (shiftR key r)
    have hsl2 := shiftR_len key r
    have hsl3 := strOf_length_le (l.drop e)
    rw [List.length_drop] at hsl3
    -- behind the row
    have tail : ∀ X : Str, X = x ++ strOf (shiftR key r) →
        (bif (Decidable.decide ((e : Int) ≥ (high : Int))) then
          (bif (Decidable.decide ((0 : Int) ≤ (e : Int)) && Decidable.decide ((e : Int) ≤ (↑(List.length l) : Int))) then
           (bif (Decidable.decide (List.length X + List.length (strOf (List.drop (Int.toNat (e : Int)) (List.take (List.length l) l))) ≤ (9223372036854775807 : Nat))) then
            ke0 s8 l (X ++ strOf (List.drop (Int.toNat (e : Int)) (List.take (List.length l) l))) b13 (high : Int) x15 b16 s17 x18 s19 x20 x21
           else none)
          else none)
         else
          (bif (Decidable.decide (List.length X + List.length [(10 : UInt8)] ≤ (9223372036854775807 : Nat))) then
           refShifted_L3 n s8 l key (X ++ [(10 : UInt8)]) (Go.IntKind.wrap Go.IntKind.i64 ((e : Int) + (1 : Int))) b13 (high : Int) x15 b16 s17 x18 s19 x20 x21 ke0
          else none)) =
        ke0 s8 l (x ++ strOf (unsplit 10 (shiftN key (rowOf l high - rowOf l at' + 1) (splitC 10 (l.drop at'))))) b13 (high : Int) x15 b16 s17 x18 s19 x20 x21 := by
      intro X hX
      have hXl : X.length ≤ x.length + 4 * (e - at' + 2) := by rw [hX, List.length_append]; omega
      rw [hrow]
      by_cases hend : high ≤ e
      · rw [decide_eq_true (by omega : (e : Int) ≥ (high : Int)), cond_true, decide_eq_true (by omega : (0 : Int) ≤ (e : Int)), decide_eq_true (by omega : (e : Int) ≤ (l.length : Int))]
        simp only [Bool.and_true, cond_true, Int.toNat_natCast, List.take_length]
        rw [decide_eq_true (by omega), cond_true]
        have hrr : rowOf l high = rowOf l at' := rowOf_same l _ at' high rfl h1 (by rw [he]; exact hend) hh
        rw [hrr, Nat.sub_self, Nat.zero_add, shiftN, shiftN]
        congr 1
        rw [hX, List.append_assoc, ← strOf_append]
        congr 2
        by_cases hlt : e < l.length
        · rw [if_pos hlt, unsplit_cons _ _ (splitC_ne _ _), unsplit_splitC, List.drop_eq_getElem_cons hlt]
          have := endOf_nl l _ at' rfl (by rw [he]; exact hlt)
          rw [he, getD_at hlt] at this
          rw [this]
        · rw [if_neg hlt, List.drop_eq_nil_of_le (by omega), List.append_nil]; rfl
      · have hlt : e < l.length := by omega
        rw [decide_eq_false (by omega : ¬ (e : Int) ≥ (high : Int)), cond_false, decide_eq_true (by simp only [List.length_cons, List.length_nil]; omega), cond_true, wrap64 (by omega) (by omega), if_pos hlt]
        have hrn : rowOf l (e + 1) = rowOf l at' + 1 := by rw [← he]; exact rowOf_next l (by omega) (by rw [he]; exact hlt)
        have hrm := rowOf_mono l (show e + 1 ≤ high by omega)
        have := ih (e + 1) (X ++ [10]) (by omega) (by omega) (by simp only [List.length_append, List.length_cons, List.length_nil]; omega)
        refine this.trans ?_
        rw [show rowOf l high - rowOf l at' + 1 = (rowOf l high - rowOf l (e + 1) + 1) + 1 from by omega, shiftN, unsplit_cons _ _ (shiftN_ne key _ (splitC_ne _ _)), strOf_append, strOf_cons, enc_10, hX]
        simp only [List.append_assoc]
    rcases hk with rfl | rfl
    · simp only [show ((62 : Int) == 60) = false from rfl, cond_false]
      by_cases hgt : at' < e
      · have hrn : r ≠ [] := by intro e0; rw [e0] at hrl; simp at hrl; omega
        have hsr : strOf (shiftR 62 r) = [32, 32] ++ strOf r := by
          rw [shiftR, if_neg hrn, if_pos rfl, strOf_cons, strOf_cons, enc_32]; rfl
        have hsrl := strOf_length_le r
        rw [decide_eq_true (by omega : (e : Int) > (at' : Int)), decide_eq_true (by omega : (0 : Int) ≤ (e : Int)), decide_eq_true (by omega : (e : Int) ≤ (l.length : Int)), decide_eq_true (by omega : (0 : Int) ≤ (at' : Int))]
        simp only [Int.toNat_natCast, Bool.and_true, cond_true]
        simp only [hr]
        rw [decide_eq_true (by omega : (at' : Int) ≤ (e : Int)), decide_eq_true (by simp only [List.length_cons, List.length_nil]; omega), decide_eq_true (by simp only [List.length_append, List.length_cons, List.length_nil]; omega)]
        simp only [cond_true]
        have := tail (x ++ [32, 32] ++ strOf r) (by rw [hsr, List.append_assoc])
        simp only [Int.toNat_natCast] at this
        rw [decide_eq_true (by omega : (0 : Int) ≤ (e : Int)), decide_eq_true (by omega : (e : Int) ≤ (l.length : Int))] at this
        simpa using this
      · have hrn : r = [] := List.length_eq_zero_iff.1 (by rw [hrl]; omega)
        have hsr : strOf (shiftR 62 r) = strOf r := by rw [hrn]; rfl
        rw [decide_eq_false (by omega : ¬ (e : Int) > (at' : Int)), decide_eq_true (by omega : (0 : Int) ≤ (e : Int)), decide_eq_true (by omega : (e : Int) ≤ (l.length : Int)), decide_eq_true (by omega : (0 : Int) ≤ (at' : Int))]
        simp only [Int.toNat_natCast, Bool.and_true, cond_true, cond_false]
        simp only [hr]
        rw [decide_eq_true (by omega : (at' : Int) ≤ (e : Int)), decide_eq_true (by rw [hrn, strOf_nil]; simp only [List.length_nil]; omega)]
        simp only [cond_true]
        have := tail (x ++ strOf r) (by rw [hsr])
        simp only [Int.toNat_natCast] at this
        rw [decide_eq_true (by omega : (0 : Int) ≤ (e : Int)), decide_eq_true (by omega : (e : Int) ≤ (l.length : Int))] at this
        simpa using this
    · simp only [beq_self_eq_true, cond_true]
      rw [refShifted_M6_eq]
      refine (refShifted_6 s8 l (by omega) (rune_of_scal hsc) 60 x at' e (by omega) b13 (high : Int) x15 b16 s17 x18 s19 x20 x21 _ 4611686018427387904 at' (Nat.le_refl _) (by omega) (by omega) (by omega)).trans ?_
      rw [Nat.add_sub_cancel_left]
      have hsk := skipTo_le l e 2 at' (by omega)
      have hsr : strOf ((l.take e).drop (skipTo l e 2 at')) = strOf (shiftR 60 r) := by
        rw [skip_two l (by omega), hr]
        by_cases hrn : r = []
        · rw [hrn]; rfl
        · rw [shiftR, if_neg hrn, if_neg (by decide)]
      rw [decide_eq_true (by omega : (0 : Int) ≤ (e : Int)), decide_eq_true (by omega : (e : Int) ≤ (l.length : Int)), decide_eq_true (by omega : (0 : Int) ≤ ((skipTo l e 2 at' : Nat) : Int))]
      simp only [Int.toNat_natCast, Bool.and_true, cond_true]
      simp only [hsr]
      rw [decide_eq_true (by omega : ((skipTo l e 2 at' : Nat) : Int) ≤ (e : Int)), decide_eq_true (by omega)]
      simp only [cond_true]
      have := tail (x ++ strOf (shiftR 60 r)) rfl
      simp only [Int.toNat_natCast] at this
      rw [decide_eq_true (by omega : (0 : Int) ≤ (e : Int)), decide_eq_true (by omega : (e : Int) ≤ (l.length : Int))] at this
      simpa using this

end Go.Proofs.YtleoffdjdgbanaaDoor

set_option linter.unusedVariables false
set_option linter.unusedSimpArgs false
namespace Go.Proofs.YtleoffdjdgbanaaDoor
open Go Go.QA Go.Proofs

theorem refShifted_eq {R : Type} (s : Str) (hs : s.length ≤ 1000000) (l : List Int) (hl : l.length < 1000000) (hsc : scalL l) (key : Int) (hk : key = 62 ∨ key = 60) (low high : Nat) (h1 : low ≤ high) (h2 : high ≤ l.length) (b : Bool)
    (k : Int → Int → Str → Int → Str → Bool → Int → Option R) :
    refShifted_F s l (low : Int) (high : Int) b key k =
      (madeC s (strOf (shiftedOf key l low high)) (restOf (shiftedOf key l low high) (firstOf (shiftedOf key l low high) (beginOf l low)) : Nat)).ap k := by
  have hb := beginOf_le l low
  have hys := shiftedOf_scal key hsc low high
  have hyl := shiftedOf_length key l low high
  have hyp : beginOf l low ≤ (shiftedOf key l low high).length := by
    unfold shiftedOf; rw [List.length_append, List.length_take]; omega
  have hsl := strOf_length_le (l.take (beginOf l low))
  rw [List.length_take] at hsl
  rw [refShifted_F_T]; unfold refShifted_T
  rw [refBegin_eq l (by omega) low (by omega), decide_eq_true (by omega : (0 : Int) ≤ ((beginOf l low : Nat) : Int)), decide_eq_true (by omega : ((beginOf l low : Nat) : Int) ≤ (l.length : Int))]
  simp only [Bool.and_true, cond_true, Int.toNat_natCast, List.drop_zero]
  rw [refBegin_eq l (by omega) low (by omega), refShifted_M3_eq]
  refine (refShifted_3 s l (by omega) hsc key hk b high h2 (low : Int) false [] 0 [] 0 0 _ 4611686018427387904 (beginOf l low) _ (by omega) (by omega) (by omega)).trans ?_
  rw [← strOf_append, show rowOf l (beginOf l low) = rowOf l low from rowOf_begin l low (by omega)]
  have hy : l.take (beginOf l low) ++ unsplit 10 (shiftN key (rowOf l high - rowOf l low + 1) (splitC 10 (l.drop (beginOf l low)))) = shiftedOf key l low high := rfl
  rw [hy, refMay1_eq]
  cases hm : mayOf (strOf (shiftedOf key l low high)) with
  | false =>
    simp only [Bool.not_false, cond_true]
    unfold madeC
    rw [hm]; rfl
  | true =>
    simp only [Bool.not_true, cond_false]
    rw [refBegin_eq l (by omega) low (by omega), refTidy_eq _ (by rw [runesOf_strOf hys]; omega) _ (by rw [runesOf_strOf hys]; exact hyp), made18_eq _ _ hs, runesOf_strOf hys]

theorem agreeKey_shift (key : Int) (hk : key = 62 ∨ key = 60) : AgreeKey key := by
  intro s x y b at' h1 h2 h3 h4
  have hlen := mayOf_len h1
  have hle := runesOf_length_le s
  obtain ⟨hr1, hr2, hr3, hr4⟩ := rangeB_iff.1 h2
  obtain ⟨low, rfl⟩ : ∃ n : Nat, x = (n : Int) := ⟨x.toNat, by omega⟩
  obtain ⟨high, rfl⟩ : ∃ n : Nat, y = (n : Int) := ⟨y.toNat, by omega⟩
  obtain ⟨at', rfl, h5⟩ := isB_nat h4
  have e1 : (key == 121) = false := by rcases hk with rfl | rfl <;> rfl
  have e2 : (key == 100) = false := by rcases hk with rfl | rfl <;> rfl
  have e3 : (key == 99) = false := by rcases hk with rfl | rfl <;> rfl
  have e4 : ∀ (R : Type) (a b : Option R), (bif (key == (62 : Int)) then a else (bif (key == (60 : Int)) then a else b)) = a := by
    intro R a b
    rcases hk with rfl | rfl <;> rfl
  refine ⟨madeC s (strOf (shiftedOf key (runesOf s) low high)) (restOf (shiftedOf key (runesOf s) low high) (firstOf (shiftedOf key (runesOf s) low high) (beginOf (runesOf s) low)) : Nat), fun R k => ?_, fun R k => ?_⟩
  · rw [refChange_head s h1 low high b _ at' h2 h5, e1, e2, e3]
    simp only [cond_false]
    rw [e4, refShifted_eq s (by omega) _ (by omega) (runesOf_scal s) key hk low high (by omega) (by omega)]
  · rw [changeOf_head s h1 low high b _ at' h2 h3 h5, e1, e2, e3]
    simp only [cond_false]
    rw [e4, changeRows_eq s (by omega) (mayOf_valid h1) key hk low high (by omega) (by omega), fix_made]

theorem ChangeShifts_true {R : Type} (q : List Str) (hq : Sized q) (x1 x2 x3 x4 x5 x6 x7 : Int) (k : Bool → Option R) : ChangeShifts_F q x1 x2 x3 x4 x5 x6 x7 k = k true := by
  rw [ChangeShifts_F_T]; unfold ChangeShifts_T
  exact changes18_true q hq _ _ _ _ _ _ _ _ (by simp) (by intro key h; simp at h; exact agreeKey_shift _ (by omega)) _

theorem OperRight_true {R : Type} (q : List Str) (hq : Sized q) (x1 x2 x3 x4 x5 x6 x7 : Int) (k : Bool → Option R) : OperRight_F q x1 x2 x3 x4 x5 x6 x7 k = k true := by
  rw [OperRight_F_T]; unfold OperRight_T
  exact changes18_true q hq _ _ _ _ _ _ _ _ (by simp) (by intro key h; simp at h; subst h; exact agreeKey_shift _ (by omega)) _

theorem OperLeft_true {R : Type} (q : List Str) (hq : Sized q) (x1 x2 x3 x4 x5 x6 x7 : Int) (k : Bool → Option R) : OperLeft_F q x1 x2 x3 x4 x5 x6 x7 k = k true := by
  rw [OperLeft_F_T]; unfold OperLeft_T
  exact changes18_true q hq _ _ _ _ _ _ _ _ (by simp) (by intro key h; simp at h; subst h; exact agreeKey_shift _ (by omega)) _

end Go.Proofs.YtleoffdjdgbanaaDoor
