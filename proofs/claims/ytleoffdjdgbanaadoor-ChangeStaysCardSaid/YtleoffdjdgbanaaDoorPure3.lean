/- Plain laws: a patch that is made is one that may be, and makes the text; no program in sight but the printed functions. -/
import Derived.Test.YtleoffdjdgbanaaDoorPure2
set_option linter.unusedVariables false
set_option linter.unusedSimpArgs false
set_option linter.unusedVariables false
set_option linter.unusedSimpArgs false
namespace Go.Proofs.YtleoffdjdgbanaaDoor
open Go Go.QA Go.Proofs

theorem headOf_take : ∀ l m : List Int, l.take (headOf l m) = m.take (headOf l m)
  | [], m => by simp [headOf]
  | a :: s, [] => by simp [headOf]
  | a :: s, b :: t => by
    unfold headOf
    by_cases h : a = b
    · rw [if_pos h, List.take_succ_cons, List.take_succ_cons, h, headOf_take s t]
    · rw [if_neg h]; rfl

theorem tailOf_drop (l m : List Int) : l.drop (l.length - tailOf l m) = m.drop (m.length - tailOf l m) := by
  have h := headOf_take l.reverse m.reverse
  have h2 := congrArg List.reverse h
  rw [List.reverse_take, List.reverse_take] at h2
  simpa [tailOf] using h2

theorem apply_made {l m : List Int} : l.take (atOf l m) ++ ((m.drop (headOf l m)).take (m.length - headOf l m - endsOf l m) ++ l.drop (atOf l m + delOf l m)) = m := by
  have hh := headOf_le l m
  have ht := tailOf_le (l.drop (headOf l m)) (m.drop (headOf l m))
  have hd := tailOf_drop (l.drop (headOf l m)) (m.drop (headOf l m))
  have htk := headOf_take l m
  unfold atOf delOf endsOf
  simp only [List.length_drop] at ht hd
  generalize tailOf (l.drop (headOf l m)) (m.drop (headOf l m)) = t at *
  rw [List.drop_drop] at hd
  rw [hd, List.take_append_drop, htk, List.take_append_drop]

/-- A text that may be, by its runes. -/
theorem mayOf_iff {y : List Int} (hy : scalL y) : mayOf (strOf y) = true ↔ (strOf y).length ≤ 4000 ∧ (0 : Int) ∉ y := by
  unfold mayOf
  rw [validD_strOf hy, Bool.true_and, Bool.and_eq_true, decide_eq_true_eq]
  have h0 := strOf_low (b := 0) (by decide) hy
  have : (strOf y).all (· != 0) = true ↔ (0 : UInt8) ∉ strOf y := by
    rw [List.all_eq_true]
    constructor
    · intro h hm; have := h 0 hm; simp at this
    · intro h x hx; simp; rintro rfl; exact h hx
  rw [this, h0]
  simp

theorem mayOf_runes {s : Str} (h : mayOf s = true) : (0 : Int) ∉ runesOf s := by
  have hv := mayOf_valid h
  have e := strOf_runesOf hv
  rw [← e] at h
  exact ((mayOf_iff (runesOf_scal s)).1 h).2

theorem refMay4_L {R : Type} (s : Str) (hl : s.length < 1099511627776) (x11 x12 : Int) (ke0 : Bool → Option R) (ke1 : Option R) : ∀ (n x : Nat), 0 < n → s.length < n + x → refMay4_L5 n (x : Int) s x11 x12 ke0 ke1 = bif (s.drop x).all (· != 0) then ke1 else ke0 false := by
  intro n
  induction n with
  | zero => intro x h0; omega
  | succ n ih =>
    intro x _ hx
    simp only [refMay4_L5, refMay4_B5]
    by_cases h : x < s.length
    · rw [decide_eq_true (by omega : (x : Int) < (s.length : Int)), decide_eq_true (by omega : (0 : Int) ≤ (x : Int)), wrap64 (by omega) (by omega)]
      simp only [cond_true, Bool.and_true, Int.toNat_natCast]
      rw [List.drop_eq_getElem_cons h, List.all_cons]
      have e : s.getD x 0 = s[x] := by simp [List.getD, h]
      rw [e]
      by_cases h2 : s[x] = 0
      · rw [h2]; rfl
      · have h3 : (s[x] != 0) = true := by simpa using h2
        have h4 : (((s[x]).toNat : Int) == 0) = false := by
          simp only [beq_eq_false_iff_ne, ne_eq]
          intro h5
          exact h2 (UInt8.toNat_inj.1 (by simpa using h5))
        rw [h3, h4, cond_false, Bool.true_and]
        have := ih (x + 1) (by omega) (by omega)
        simpa using this
    · rw [decide_eq_false (by omega : ¬ (x : Int) < (s.length : Int)), List.drop_eq_nil_of_le (by omega)]; rfl

theorem refLen_eq {R : Type} (s : Str) (k : Int → Option R) : refLen_F s k = k ((runesOf s).length : Int) := by
  rw [refLen_F_T]; rfl

/-- The patch of a text that is made may be. -/
theorem refMay4_made {R : Type} (s x : Str) (hs : mayOf s = true) (hx : mayOf x = true) (k : Bool → Option R) :
    refMay4_F s (atOf (runesOf s) (runesOf x) : Nat) (delOf (runesOf s) (runesOf x) : Nat) (insOf (runesOf s) (runesOf x)) k = k true := by
  have h1 := mayOf_len hs
  have h2 := runesOf_length_le s
  have h3 := mayOf_len hx
  have h4 := runesOf_length_le x
  have hh := headOf_le (runesOf s) (runesOf x)
  have hsc : scalL (((runesOf x).drop (headOf (runesOf s) (runesOf x))).take ((runesOf x).length - headOf (runesOf s) (runesOf x) - endsOf (runesOf s) (runesOf x))) := ((runesOf_scal x).drop _).take _
  have hil := strOf_length_le (((runesOf x).drop (headOf (runesOf s) (runesOf x))).take ((runesOf x).length - headOf (runesOf s) (runesOf x) - endsOf (runesOf s) (runesOf x)))
  rw [List.length_take, List.length_drop] at hil
  have hz : (insOf (runesOf s) (runesOf x)).all (· != 0) = true := by
    rw [List.all_eq_true]
    intro b hb
    simp only [bne_iff_ne, ne_eq]
    rintro rfl
    have := (strOf_low (b := 0) (by decide) hsc).1 hb
    exact mayOf_runes hx (List.mem_of_mem_drop (List.mem_of_mem_take this))
  rw [refMay4_F_T]; unfold refMay4_T
  rw [refLen_eq, refMay1_eq, hs]
  simp only [Bool.not_true, cond_false]
  unfold atOf delOf
  rw [refNum_eq, decide_eq_true (by omega)]
  simp only [Bool.not_true, cond_false]
  rw [wrap64 (by omega) (by omega), refNum_eq, decide_eq_true (by omega)]
  simp only [Bool.not_true, cond_false]
  unfold libValidString_F
  rw [decide_eq_true (by unfold insOf; omega), cond_true, show Lib.validD (insOf (runesOf s) (runesOf x)) = true from validD_strOf hsc]
  simp only [Bool.not_true, cond_false]
  rw [refMay4_M5_eq]
  have := refMay4_L (insOf (runesOf s) (runesOf x)) (by unfold insOf; omega) ((runesOf s).length - headOf (runesOf s) (runesOf x) - endsOf (runesOf s) (runesOf x) : Nat) (headOf (runesOf s) (runesOf x) : Nat) (fun b13 => k b13) (k true) 4611686018427387904 0 (by omega) (by unfold insOf; omega)
  rw [List.drop_zero, hz] at this
  exact this

/-- It makes the text. -/
theorem refApply_made {R : Type} (s x : Str) (hs : mayOf s = true) (hx : mayOf x = true) (k : Str → Option R) :
    refApply_F s (atOf (runesOf s) (runesOf x) : Nat) (delOf (runesOf s) (runesOf x) : Nat) (insOf (runesOf s) (runesOf x)) k = k x := by
  have h1 := mayOf_len hs
  have h2 := runesOf_length_le s
  have h3 := mayOf_len hx
  have h4 := runesOf_length_le x
  have hh := headOf_le (runesOf s) (runesOf x)
  have hm := apply_made (l := runesOf s) (m := runesOf x)
  have hins : insOf (runesOf s) (runesOf x) = strOf (((runesOf x).drop (headOf (runesOf s) (runesOf x))).take ((runesOf x).length - headOf (runesOf s) (runesOf x) - endsOf (runesOf s) (runesOf x))) := rfl
  have hil := strOf_length_le (((runesOf x).drop (headOf (runesOf s) (runesOf x))).take ((runesOf x).length - headOf (runesOf s) (runesOf x) - endsOf (runesOf s) (runesOf x)))
  rw [List.length_take, List.length_drop] at hil
  have ha : atOf (runesOf s) (runesOf x) ≤ (runesOf s).length := hh.1
  have hd : atOf (runesOf s) (runesOf x) + delOf (runesOf s) (runesOf x) ≤ (runesOf s).length := by unfold atOf delOf; omega
  have e := congrArg strOf hm
  rw [strOf_append, strOf_append, strOf_runesOf (mayOf_valid hx), ← hins] at e
  have hl1 := strOf_length_le ((runesOf s).take (atOf (runesOf s) (runesOf x)))
  have hl2 := strOf_length_le ((runesOf s).drop (atOf (runesOf s) (runesOf x) + delOf (runesOf s) (runesOf x)))
  rw [List.length_take] at hl1
  rw [List.length_drop] at hl2
  rw [refApply_F_T]; unfold refApply_T
  rw [wrap64 (by omega) (by omega), show ((atOf (runesOf s) (runesOf x) : Nat) : Int) + ((delOf (runesOf s) (runesOf x) : Nat) : Int) = ((atOf (runesOf s) (runesOf x) + delOf (runesOf s) (runesOf x) : Nat) : Int) from by omega]
  simp only [Int.toNat_natCast, List.drop_zero, List.take_length]
  rw [decide_eq_true (by omega : (0 : Int) ≤ ((atOf (runesOf s) (runesOf x) : Nat) : Int)), decide_eq_true (by omega : ((atOf (runesOf s) (runesOf x) : Nat) : Int) ≤ ((runesOf s).length : Int)), decide_eq_true (by omega : (0 : Int) ≤ ((atOf (runesOf s) (runesOf x) + delOf (runesOf s) (runesOf x) : Nat) : Int)),
    decide_eq_true (by omega : ((atOf (runesOf s) (runesOf x) + delOf (runesOf s) (runesOf x) : Nat) : Int) ≤ ((runesOf s).length : Int)), decide_eq_true (by rw [hins]; omega), decide_eq_true (by rw [List.length_append, hins]; omega)]
  simp only [Bool.and_true, cond_true]
  rw [List.append_assoc, e]

/-- What is made of a text that may be. -/
theorem madeC_ok {s x : Str} (hx : mayOf x = true) (cur : Int) : madeC s x cur = ⟨(atOf (runesOf s) (runesOf x) : Nat), (delOf (runesOf s) (runesOf x) : Nat), insOf (runesOf s) (runesOf x), cur, [], false, 0⟩ := by
  unfold madeC; rw [hx]; rfl

end Go.Proofs.YtleoffdjdgbanaaDoor

set_option linter.unusedVariables false
set_option linter.unusedSimpArgs false
namespace Go.Proofs.YtleoffdjdgbanaaDoor
open Go Go.QA Go.Proofs

/-- A text whose rows from that of one offset to that of another one are shifted. -/
def shiftedOf (key : Int) (l : List Int) (low high : Nat) : List Int :=
  l.take (beginOf l low) ++ unsplit 10 (shiftN key (rowOf l high - rowOf l low + 1) (splitC 10 (l.drop (beginOf l low))))

theorem shiftedOf_scal (key : Int) {l : List Int} (h : scalL l) (low high : Nat) : scalL (shiftedOf key l low high) :=
  scalL_append.2 ⟨h.take _, scalL_unsplit (scalL_shiftN key _ (scalL_splitC (h.drop _)))⟩

theorem unsplit_shiftN_len (key : Int) (n : Nat) (l : List Int) : (unsplit 10 (shiftN key n (splitC 10 l))).length ≤ 4 * l.length + 3 := by
  have h1 := unsplit_length 10 (shiftN key n (splitC 10 l))
  have h2 := sum_shiftN key n (splitC 10 l)
  have h3 := sum_splitC l
  have h4 := splitC_length 10 l
  rw [shiftN_length] at h1
  omega

theorem shiftedOf_length (key : Int) (l : List Int) (low high : Nat) : (shiftedOf key l low high).length ≤ 5 * l.length + 3 := by
  unfold shiftedOf
  have := unsplit_shiftN_len key (rowOf l high - rowOf l low + 1) (l.drop (beginOf l low))
  rw [List.length_drop] at this
  rw [List.length_append, List.length_take]; omega

theorem begin_nl (l : List Int) : ∀ x, x ≤ l.length → beginOf l x = 0 ∨ l[beginOf l x - 1]? = some 10
  | 0, _ => .inl rfl
  | x + 1, h => by
    rw [beginOf]
    by_cases h2 : l.getD x 0 = 10
    · rw [if_pos h2]
      right
      rw [getD_at (by omega)] at h2
      rw [Nat.add_sub_cancel, List.getElem?_eq_getElem (by omega), h2]
    · rw [if_neg h2]; exact begin_nl l x (by omega)

theorem rowOf_mono (l : List Int) {x y : Nat} (h : x ≤ y) : rowOf l x ≤ rowOf l y := by
  unfold rowOf
  exact List.Sublist.countP_le (by
    rw [show l.take x = (l.take y).take x from by rw [List.take_take]; congr 1; omega]
    exact List.take_sublist _ _)

theorem splitC_count : ∀ l : List Int, (splitC 10 l).length = l.countP (· == 10) + 1
  | [] => rfl
  | x :: t => by
    have ih := splitC_count t
    rw [splitC]
    by_cases h : x = 10
    · rw [if_pos h, List.length_cons, ih, List.countP_cons_of_pos (by simpa using h)]
    · rw [if_neg h, List.countP_cons_of_neg (by simpa using h), ← ih]
      cases hs : splitC (10 : Int) t with
      | nil => exact absurd hs (splitC_ne _ _)
      | cons r rs => rfl

theorem rowOf_shifted (key : Int) (l : List Int) (low high : Nat) (h1 : low ≤ l.length) : rowOf (shiftedOf key l low high) (beginOf l low) = rowOf l low := by
  have hb := beginOf_le l low
  rw [← rowOf_begin l low h1]
  unfold shiftedOf rowOf
  rw [List.take_append_of_le_length (by rw [List.length_take]; omega), List.take_take, Nat.min_self]

theorem len_le_sum : ∀ (rs : List (List Int)) (r : List Int), r ∈ rs → r.length ≤ (rs.map List.length).sum
  | [], r, h => by cases h
  | s :: t, r, h => by
    rcases List.mem_cons.1 h with rfl | h
    · simp
    · have := len_le_sum t r h; simp; omega

theorem changeRows_eq {R : Type} (s : Str) (hs : s.length ≤ 1000000) (hv : Lib.validD s = true) (key : Int) (hk : key = 62 ∨ key = 60) (low high : Nat) (h1 : low ≤ high) (h2 : high ≤ (runesOf s).length) (b : Bool)
    (k : Int → Int → Str → Int → Str → Bool → Int → Option R) :
    changeRows_F s (runesOf s) (begins (runesOf s)) (low : Int) (high : Int) b key k =
      (madeC s (strOf (shiftedOf key (runesOf s) low high)) (restOf (shiftedOf key (runesOf s) low high) (firstOf (shiftedOf key (runesOf s) low high) (beginOf (runesOf s) low)) : Nat)).ap k := by
  have hle := runesOf_length_le s
  have hsc := runesOf_scal s
  have hstr := strOf_runesOf hv
  rw [changeRows_F_T]; unfold changeRows_T libSplit_F
  rw [splitL_one, decide_eq_true (by omega : s.length < 4294967281), decide_eq_true (by simp : 1 ≤ List.length ([10] : Str))]
  simp only [Bool.and_true, cond_true]
  have hsp := splitC_strOf hsc
  rw [hstr] at hsp
  generalize hl : runesOf s = l at *
  rw [hsp, MapRow_eq l l (by omega)]
  have hb := beginOf_le l low
  have hrm := rowOf_mono l h1
  have hrc : rowOf l high ≤ l.countP (· == 10) := by have := rowOf_le l high; rwa [nls_length] at this
  have hcount := splitC_count l
  have hlen := splitC_length (10 : Int) l
  have hat := splitC_at (10 : Int) l (beginOf l low) (by omega) (begin_nl l low (by omega))
  have hrb : (l.take (beginOf l low)).countP (· == 10) = rowOf l low := by rw [← rowOf_begin l low (by omega)]; rfl
  rw [hrb] at hat
  rw [changeRows_M4_eq]
  have hq3 : ∀ j, rowOf l low ≤ j → (((splitC 10 l).map strOf).getD j []).length ≤ 140737488355328 := by
    intro j _
    by_cases hj : j < (splitC 10 l).length
    · have e : ((splitC 10 l).map strOf).getD j [] = strOf (splitC 10 l)[j] := by simp [List.getD, hj]
      rw [e]
      have h3 := strOf_length_le (splitC 10 l)[j]
      have h4 : ((splitC 10 l)[j]).length ≤ ((splitC 10 l).map List.length).sum := len_le_sum _ _ (List.getElem_mem hj)
      have h5 := sum_splitC l
      omega
    · have e : ((splitC 10 l).map strOf).getD j [] = [] := by simp [List.getD, List.getElem?_eq_none (Nat.le_of_not_lt hj)]
      rw [e]; simp
  refine Eq.trans (changeRows_4 s l (by omega) key hk (rowOf l low : Nat) b high (low : Int) false [] 0 [] 0 0 _ 4611686018427387904 (rowOf l low) ((splitC 10 l).map strOf) (by rw [List.length_map]; omega) (by rw [List.length_map]; omega) hq3 (by omega) (by omega)) ?_
  have hgo := rowsGo_eq key (rowOf l high + 1 - rowOf l low) (((splitC 10 l).take (rowOf l low)).map strOf) (splitC 10 (l.drop (beginOf l low))) (scalL_splitC (hsc.drop _)) (by
    rw [← hat.1, List.length_drop]; omega)
  rw [← List.map_append, ← hat.1, List.take_append_drop, List.length_map, List.length_take, show min (rowOf l low) (splitC 10 l).length = rowOf l low from by omega, ← List.map_append] at hgo
  rw [hgo, hat.1]
  unfold libJoin_F
  rw [join_strOf, hat.2 _ (shiftN_ne key _ (splitC_ne _ _)), show rowOf l high + 1 - rowOf l low = rowOf l high - rowOf l low + 1 from by omega]
  have hy : l.take (beginOf l low) ++ unsplit 10 (shiftN key (rowOf l high - rowOf l low + 1) (splitC 10 (l.drop (beginOf l low)))) = shiftedOf key l low high := rfl
  rw [hy]
  have hys := shiftedOf_scal key hsc low high
  have hyl := shiftedOf_length key l low high
  have hyr := rowOf_shifted key l low high (by omega)
  have hyp : beginOf l low ≤ (shiftedOf key l low high).length := by
    unfold shiftedOf; rw [List.length_append, List.length_take]; omega
  have hxl := strOf_length_le (shiftedOf key l low high)
  rw [decide_eq_true (by rw [List.length_map, List.length_append, shiftN_length, List.length_take, ← hat.1, List.length_drop]; omega), decide_eq_true (by omega)]
  simp only [Bool.and_true, cond_true]
  rw [textOf_eq _ (by rw [runesOf_strOf hys]; omega), runesOf_strOf hys, ← hyr]
  rw [MapFirst_eq _ (by omega) (rune_of_scal hys) _ hyp, MapRest_eq _ (by omega) _ (firstOf_le _ _ hyp), changeMade_eq _ _ hs]

/-! ### the reference -/

/-- Behind the blanks, so many at most. -/
def skipTo (l : List Int) (e : Nat) : Nat → Nat → Nat
  | 0, x => x
  | m + 1, x => if x < e ∧ classOf (l.getD x 0) = 0 then skipTo l e m (x + 1) else x

theorem dropR_cut (l : List Int) {e x : Nat} (he : e ≤ l.length) : dropR ((l.take e).drop x) = (l.take e).drop (if x < e ∧ classOf (l.getD x 0) = 0 then x + 1 else x) := by
  by_cases h : x < e
  · have hx : x < (l.take e).length := by rw [List.length_take]; omega
    rw [List.drop_eq_getElem_cons hx, dropR, List.getElem_take, ← getD_at (by omega : x < l.length)]
    by_cases hc : classOf (l.getD x 0) = 0
    · rw [if_pos hc, if_pos ⟨h, hc⟩]
    · rw [if_neg hc, if_neg (fun e => hc e.2), List.drop_eq_getElem_cons hx, List.getElem_take, ← getD_at (by omega : x < l.length)]
  · rw [if_neg (fun e => h e.1), List.drop_eq_nil_of_le (by rw [List.length_take]; omega)]; rfl

theorem skip_two (l : List Int) {e x : Nat} (he : e ≤ l.length) : (l.take e).drop (skipTo l e 2 x) = dropR (dropR ((l.take e).drop x)) := by
  rw [dropR_cut l he, dropR_cut l he]
  congr 1
  by_cases h : x < e ∧ classOf (l.getD x 0) = 0
  · rw [if_pos h, skipTo, if_pos h, skipTo]
    split <;> rfl
  · rw [if_neg h, skipTo, if_neg h, if_neg h]

theorem skipTo_le (l : List Int) (e : Nat) : ∀ m x, x ≤ e → skipTo l e m x ≤ e ∧ x ≤ skipTo l e m x
  | 0, x, h => ⟨h, Nat.le_refl _⟩
  | m + 1, x, h => by
    rw [skipTo]
    split
    · rename_i h2
      have := skipTo_le l e m (x + 1) h2.1
      omega
    · omega

theorem refShifted_6 {R : Type} (s23 : Str) (l : List Int) (hl : l.length < 1099511627776) (hr : ∀ r ∈ l, isRune r) (x25 : Int) (s26 : Str) (at' e : Nat) (he : e ≤ l.length) (b30 : Bool) (x31 x32 : Int) (b33 : Bool) (s34 : Str) (x35 : Int) (s36 : Str) (x37 x38 : Int)
    (ke0 : Str → List Int → Int → Str → Int → Int → Bool → Int → Int → Bool → Str → Int → Str → Int → Int → Option R) : ∀ (n x : Nat), at' ≤ x → x ≤ e → x ≤ at' + 2 → at' + 2 < n + x →
      refShifted_L6 n s23 l x25 s26 (at' : Int) (e : Int) (x : Int) b30 x31 x32 b33 s34 x35 s36 x37 x38 ke0 = ke0 s23 l x25 s26 (e : Int) (skipTo l e (at' + 2 - x) x : Nat) b30 x31 x32 b33 s34 x35 s36 x37 x38 := by
  intro n
  induction n with
  | zero => intro x h1 h2 h3 h4; omega
  | succ n ih =>
    intro x h1 h2 h3 h4
    simp only [refShifted_L6, refShifted_B6]
    rw [wrap64 (x := (at' : Int) + 2) (by omega) (by omega)]
    by_cases h : x < e
    · rw [decide_eq_true (by omega : (x : Int) < (e : Int)), cond_true]
      by_cases h5 : x < at' + 2
      · rw [decide_eq_true (by omega : (x : Int) < (at' : Int) + 2), decide_eq_true (by omega : (0 : Int) ≤ (x : Int)), decide_eq_true (by omega : (x : Int) < (l.length : Int))]
        simp only [Bool.and_true, cond_true, Int.toNat_natCast, runeWrap hr]
        rw [refClass_eq, show at' + 2 - x = (at' + 2 - (x + 1)) + 1 from by omega, skipTo]
        by_cases hc : classOf (l.getD x 0) = 0
        · rw [hc, beq_self_eq_true, cond_true, if_pos ⟨h, rfl⟩, wrap64 (by omega) (by omega)]
          exact ih (x + 1) (by omega) (by omega) (by omega) (by omega)
        · rw [show (classOf (l.getD x 0) == 0) = false from by simpa using hc, cond_false, if_neg (fun e => hc e.2)]
      · rw [decide_eq_false (by omega : ¬ (x : Int) < (at' : Int) + 2), show at' + 2 - x = 0 from by omega]; rfl
    · rw [decide_eq_false (by omega : ¬ (x : Int) < (e : Int)), cond_false]
      congr 1
      cases at' + 2 - x with
      | zero => rfl
      | succ m => rw [skipTo, if_neg (fun e => h e.1)]

theorem splitC_row (l : List Int) : ∀ (d x : Nat), l.length - x = d → x ≤ l.length →
    splitC 10 (l.drop x) = (l.take (endOf l x)).drop x :: (if endOf l x < l.length then splitC 10 (l.drop (endOf l x + 1)) else []) := by
  intro d
  induction d with
  | zero =>
    intro x hd hx
    rw [endOf_over (by omega), if_neg (by omega), List.drop_eq_nil_of_le (by omega), List.drop_eq_nil_of_le (by rw [List.length_take]; omega)]; rfl
  | succ d ih =>
    intro x hd hx
    have hx' : x < l.length := by omega
    by_cases h2 : l.getD x 0 = 10
    · rw [endOf_hit hx' h2, if_pos hx', List.drop_eq_getElem_cons hx']
      rw [getD_at hx'] at h2
      rw [splitC, if_pos h2, show (l.take x).drop x = [] from List.drop_eq_nil_of_le (by rw [List.length_take]; omega)]
    · have hge := endOf_ge l (x + 1)
      rw [endOf_miss hx' h2, List.drop_eq_getElem_cons hx']
      rw [getD_at hx'] at h2
      rw [splitC, if_neg h2, ih (x + 1) (by omega) (by omega), consHead]
      congr 1
      have hx2 : x < (l.take (endOf l (x + 1))).length := by rw [List.length_take]; omega
      rw [List.drop_eq_getElem_cons hx2, List.getElem_take]

theorem rowOf_same (l : List Int) : ∀ (d x y : Nat), y - x = d → x ≤ y → y ≤ endOf l x → y ≤ l.length → rowOf l y = rowOf l x := by
  intro d
  induction d with
  | zero => intro x y h1 h2 h3 h4; rw [show y = x from by omega]
  | succ d ih =>
    intro x y h1 h2 h3 h4
    have hx : x < l.length := by omega
    by_cases h5 : l.getD x 0 = 10
    · rw [endOf_hit hx h5] at h3; omega
    · rw [endOf_miss hx h5] at h3
      rw [ih (x + 1) y (by omega) (by omega) h3 h4, rowOf_succ hx, if_neg h5]; rfl

theorem rowOf_next (l : List Int) {x : Nat} (hx : x ≤ l.length) (h : endOf l x < l.length) : rowOf l (endOf l x + 1) = rowOf l x + 1 := by
  rw [rowOf_succ h, if_pos (endOf_nl l _ x rfl h), rowOf_same l _ x (endOf l x) rfl (endOf_ge l x) (Nat.le_refl _) (by omega)]

theorem refShifted_3 {R : Type} (s8 : Str) (l : List Int) (hl : l.length < 1000000000) (hsc : scalL l) (key : Int) (hk : key = 62 ∨ key = 60) (b13 : Bool) (high : Nat) (hh : high ≤ l.length) (x15 : Int) (b16 : Bool) (s17 : Str) (x18 : Int) (s19 : Str) (x20 x21 : Int)
    (ke0 : Str → List Int → Str → Bool → Int → Int → Bool → Str → Int → Str → Int → Int → Option R) : ∀ (n at' : Nat) (x : Str), at' ≤ high → l.length + 1 < n + at' → x.length + 10 * (l.length - at') ≤ 1000000000000 →
      refShifted_L3 n s8 l key x (at' : Int) b13 (high : Int) x15 b16 s17 x18 s19 x20 x21 ke0 =
        ke0 s8 l (x ++ strOf (unsplit 10 (shiftN key (rowOf l high - rowOf l at' + 1) (splitC 10 (l.drop at'))))) b13 (high : Int) x15 b16 s17 x18 s19 x20 x21 := by
  intro n
  induction n with
  | zero => intro at' x h1 h2; omega
  | succ n ih =>
    intro at' x h1 h2 h3
    simp only [refShifted_L3, refShifted_B3]
    rw [refEnd_eq l (by omega)]
    have hge := endOf_ge l at'
    have hle := endOf_le l at' (by omega)
    have hrow := splitC_row l _ at' rfl (by omega)
    have hrl : ((l.take (endOf l at')).drop at').length = endOf l at' - at' := by rw [List.length_drop, List.length_take]; omega
    generalize he : endOf l at' = e at *
    generalize hr : (l.take e).drop at' = r at *
    have hsl := strOf_length_le (shiftR key r)
    have hsl2 := shiftR_len key r
    have hsl3 := strOf_length_le (l.drop e)
    rw [List.length_drop] at hsl3
    -- behind the row
    have tail : ∀ X : Str, X = x ++ strOf (shiftR key r) →
        (bif (Decidable.decide ((e : Int) ≥ (high : Int))) then
          (bif (Decidable.decide ((0 : Int) ≤ (e : Int)) && Decidable.decide ((e : Int) ≤ (↑(List.length l) : Int))) then
           (bif (Decidable.decide (List.length X + List.length (strOf (List.drop (Int.toNat (e : Int)) (List.take (List.length l) l))) ≤ (9223372036854775807 : Nat))) then
            ke0 s8 l (X ++ strOf (List.drop (Int.toNat (e : Int)) (List.take (List.length l) l))) b13 (high : Int) x15 b16 s17 x18 s19 x20 x21
           else none)
          else none)
         else
          (bif (Decidable.decide (List.length X + List.length [(10 : UInt8)] ≤ (9223372036854775807 : Nat))) then
           refShifted_L3 n s8 l key (X ++ [(10 : UInt8)]) (Go.IntKind.wrap Go.IntKind.i64 ((e : Int) + (1 : Int))) b13 (high : Int) x15 b16 s17 x18 s19 x20 x21 ke0
          else none)) =
        ke0 s8 l (x ++ strOf (unsplit 10 (shiftN key (rowOf l high - rowOf l at' + 1) (splitC 10 (l.drop at'))))) b13 (high : Int) x15 b16 s17 x18 s19 x20 x21 := by
      intro X hX
      have hXl : X.length ≤ x.length + 4 * (e - at' + 2) := by rw [hX, List.length_append]; omega
      rw [hrow]
      by_cases hend : high ≤ e
      · rw [decide_eq_true (by omega : (e : Int) ≥ (high : Int)), cond_true, decide_eq_true (by omega : (0 : Int) ≤ (e : Int)), decide_eq_true (by omega : (e : Int) ≤ (l.length : Int))]
        simp only [Bool.and_true, cond_true, Int.toNat_natCast, List.take_length]
        rw [decide_eq_true (by omega), cond_true]
        have hrr : rowOf l high = rowOf l at' := rowOf_same l _ at' high rfl h1 (by rw [he]; exact hend) hh
        rw [hrr, Nat.sub_self, Nat.zero_add, shiftN, shiftN]
        congr 1
        rw [hX, List.append_assoc, ← strOf_append]
        congr 2
        by_cases hlt : e < l.length
        · rw [if_pos hlt, unsplit_cons _ _ (splitC_ne _ _), unsplit_splitC, List.drop_eq_getElem_cons hlt]
          have := endOf_nl l _ at' rfl (by rw [he]; exact hlt)
          rw [he, getD_at hlt] at this
          rw [this]
        · rw [if_neg hlt, List.drop_eq_nil_of_le (by omega), List.append_nil]; rfl
      · have hlt : e < l.length := by omega
        rw [decide_eq_false (by omega : ¬ (e : Int) ≥ (high : Int)), cond_false, decide_eq_true (by simp only [List.length_cons, List.length_nil]; omega), cond_true, wrap64 (by omega) (by omega), if_pos hlt]
        have hrn : rowOf l (e + 1) = rowOf l at' + 1 := by rw [← he]; exact rowOf_next l (by omega) (by rw [he]; exact hlt)
        have hrm := rowOf_mono l (show e + 1 ≤ high by omega)
        have := ih (e + 1) (X ++ [10]) (by omega) (by omega) (by simp only [List.length_append, List.length_cons, List.length_nil]; omega)
        refine this.trans ?_
        rw [show rowOf l high - rowOf l at' + 1 = (rowOf l high - rowOf l (e + 1) + 1) + 1 from by omega, shiftN, unsplit_cons _ _ (shiftN_ne key _ (splitC_ne _ _)), strOf_append, strOf_cons, enc_10, hX]
        simp only [List.append_assoc]
    rcases hk with rfl | rfl
    · simp only [show ((62 : Int) == 60) = false from rfl, cond_false]
      by_cases hgt : at' < e
      · have hrn : r ≠ [] := by intro e0; rw [e0] at hrl; simp at hrl; omega
        have hsr : strOf (shiftR 62 r) = [32, 32] ++ strOf r := by
          rw [shiftR, if_neg hrn, if_pos rfl, strOf_cons, strOf_cons, enc_32]; rfl
        have hsrl := strOf_length_le r
        rw [decide_eq_true (by omega : (e : Int) > (at' : Int)), decide_eq_true (by omega : (0 : Int) ≤ (e : Int)), decide_eq_true (by omega : (e : Int) ≤ (l.length : Int)), decide_eq_true (by omega : (0 : Int) ≤ (at' : Int))]
        simp only [Int.toNat_natCast, Bool.and_true, cond_true]
        simp only [hr]
        rw [decide_eq_true (by omega : (at' : Int) ≤ (e : Int)), decide_eq_true (by simp only [List.length_cons, List.length_nil]; omega), decide_eq_true (by simp only [List.length_append, List.length_cons, List.length_nil]; omega)]
        simp only [cond_true]
        have := tail (x ++ [32, 32] ++ strOf r) (by rw [hsr, List.append_assoc])
        simp only [Int.toNat_natCast] at this
        rw [decide_eq_true (by omega : (0 : Int) ≤ (e : Int)), decide_eq_true (by omega : (e : Int) ≤ (l.length : Int))] at this
        simpa using this
      · have hrn : r = [] := List.length_eq_zero_iff.1 (by rw [hrl]; omega)
        have hsr : strOf (shiftR 62 r) = strOf r := by rw [hrn]; rfl
        rw [decide_eq_false (by omega : ¬ (e : Int) > (at' : Int)), decide_eq_true (by omega : (0 : Int) ≤ (e : Int)), decide_eq_true (by omega : (e : Int) ≤ (l.length : Int)), decide_eq_true (by omega : (0 : Int) ≤ (at' : Int))]
        simp only [Int.toNat_natCast, Bool.and_true, cond_true, cond_false]
        simp only [hr]
        rw [decide_eq_true (by omega : (at' : Int) ≤ (e : Int)), decide_eq_true (by rw [hrn, strOf_nil]; simp only [List.length_nil]; omega)]
        simp only [cond_true]
        have := tail (x ++ strOf r) (by rw [hsr])
        simp only [Int.toNat_natCast] at this
        rw [decide_eq_true (by omega : (0 : Int) ≤ (e : Int)), decide_eq_true (by omega : (e : Int) ≤ (l.length : Int))] at this
        simpa using this
    · simp only [beq_self_eq_true, cond_true]
      rw [refShifted_M6_eq]
      refine (refShifted_6 s8 l (by omega) (rune_of_scal hsc) 60 x at' e (by omega) b13 (high : Int) x15 b16 s17 x18 s19 x20 x21 _ 4611686018427387904 at' (Nat.le_refl _) (by omega) (by omega) (by omega)).trans ?_
      rw [Nat.add_sub_cancel_left]
      have hsk := skipTo_le l e 2 at' (by omega)
      have hsr : strOf ((l.take e).drop (skipTo l e 2 at')) = strOf (shiftR 60 r) := by
        rw [skip_two l (by omega), hr]
        by_cases hrn : r = []
        · rw [hrn]; rfl
        · rw [shiftR, if_neg hrn, if_neg (by decide)]
      rw [decide_eq_true (by omega : (0 : Int) ≤ (e : Int)), decide_eq_true (by omega : (e : Int) ≤ (l.length : Int)), decide_eq_true (by omega : (0 : Int) ≤ ((skipTo l e 2 at' : Nat) : Int))]
      simp only [Int.toNat_natCast, Bool.and_true, cond_true]
      simp only [hsr]
      rw [decide_eq_true (by omega : ((skipTo l e 2 at' : Nat) : Int) ≤ (e : Int)), decide_eq_true (by omega)]
      simp only [cond_true]
      have := tail (x ++ strOf (shiftR 60 r)) rfl
      simp only [Int.toNat_natCast] at this
      rw [decide_eq_true (by omega : (0 : Int) ≤ (e : Int)), decide_eq_true (by omega : (e : Int) ≤ (l.length : Int))] at this
      simpa using this

end Go.Proofs.YtleoffdjdgbanaaDoor

set_option linter.unusedVariables false
set_option linter.unusedSimpArgs false
namespace Go.Proofs.YtleoffdjdgbanaaDoor
open Go Go.QA Go.Proofs

theorem refShifted_eq {R : Type} (s : Str) (hs : s.length ≤ 1000000) (l : List Int) (hl : l.length < 1000000) (hsc : scalL l) (key : Int) (hk : key = 62 ∨ key = 60) (low high : Nat) (h1 : low ≤ high) (h2 : high ≤ l.length) (b : Bool)
    (k : Int → Int → Str → Int → Str → Bool → Int → Option R) :
    refShifted_F s l (low : Int) (high : Int) b key k =
      (madeC s (strOf (shiftedOf key l low high)) (restOf (shiftedOf key l low high) (firstOf (shiftedOf key l low high) (beginOf l low)) : Nat)).ap k := by
  have hb := beginOf_le l low
  have hys := shiftedOf_scal key hsc low high
  have hyl := shiftedOf_length key l low high
  have hyp : beginOf l low ≤ (shiftedOf key l low high).length := by
    unfold shiftedOf; rw [List.length_append, List.length_take]; omega
  have hsl := strOf_length_le (l.take (beginOf l low))
  rw [List.length_take] at hsl
  rw [refShifted_F_T]; unfold refShifted_T
  rw [refBegin_eq l (by omega) low (by omega), decide_eq_true (by omega : (0 : Int) ≤ ((beginOf l low : Nat) : Int)), decide_eq_true (by omega : ((beginOf l low : Nat) : Int) ≤ (l.length : Int))]
  simp only [Bool.and_true, cond_true, Int.toNat_natCast, List.drop_zero]
  rw [refBegin_eq l (by omega) low (by omega), refShifted_M3_eq]
  refine (refShifted_3 s l (by omega) hsc key hk b high h2 (low : Int) false [] 0 [] 0 0 _ 4611686018427387904 (beginOf l low) _ (by omega) (by omega) (by omega)).trans ?_
  rw [← strOf_append, show rowOf l (beginOf l low) = rowOf l low from rowOf_begin l low (by omega)]
  have hy : l.take (beginOf l low) ++ unsplit 10 (shiftN key (rowOf l high - rowOf l low + 1) (splitC 10 (l.drop (beginOf l low)))) = shiftedOf key l low high := rfl
  rw [hy, refMay1_eq]
  cases hm : mayOf (strOf (shiftedOf key l low high)) with
  | false =>
    simp only [Bool.not_false, cond_true]
    unfold madeC
    rw [hm]; rfl
  | true =>
    simp only [Bool.not_true, cond_false]
    rw [refBegin_eq l (by omega) low (by omega), refTidy_eq _ (by rw [runesOf_strOf hys]; omega) _ (by rw [runesOf_strOf hys]; exact hyp), made18_eq _ _ hs, runesOf_strOf hys]

theorem agreeKey_shift (key : Int) (hk : key = 62 ∨ key = 60) : AgreeKey key := by
  intro s x y b at' h1 h2 h3 h4
  have hlen := mayOf_len h1
  have hle := runesOf_length_le s
  obtain ⟨hr1, hr2, hr3, hr4⟩ := rangeB_iff.1 h2
  obtain ⟨low, rfl⟩ : ∃ n : Nat, x = (n : Int) := ⟨x.toNat, by omega⟩
  obtain ⟨high, rfl⟩ : ∃ n : Nat, y = (n : Int) := ⟨y.toNat, by omega⟩
  obtain ⟨at', rfl, h5⟩ := isB_nat h4
  have e1 : (key == 121) = false := by rcases hk with rfl | rfl <;> rfl
  have e2 : (key == 100) = false := by rcases hk with rfl | rfl <;> rfl
  have e3 : (key == 99) = false := by rcases hk with rfl | rfl <;> rfl
  have e4 : ∀ (R : Type) (a b : Option R), (bif (key == (62 : Int)) then a else (bif (key == (60 : Int)) then a else b)) = a := by
    intro R a b
    rcases hk with rfl | rfl <;> rfl
  refine ⟨madeC s (strOf (shiftedOf key (runesOf s) low high)) (restOf (shiftedOf key (runesOf s) low high) (firstOf (shiftedOf key (runesOf s) low high) (beginOf (runesOf s) low)) : Nat), fun R k => ?_, fun R k => ?_⟩
  · rw [refChange_head s h1 low high b _ at' h2 h5, e1, e2, e3]
    simp only [cond_false]
    rw [e4, refShifted_eq s (by omega) _ (by omega) (runesOf_scal s) key hk low high (by omega) (by omega)]
  · rw [changeOf_head s h1 low high b _ at' h2 h3 h5, e1, e2, e3]
    simp only [cond_false]
    rw [e4, changeRows_eq s (by omega) (mayOf_valid h1) key hk low high (by omega) (by omega), fix_made]

theorem ChangeShifts_true {R : Type} (q : List Str) (hq : Sized q) (x1 x2 x3 x4 x5 x6 x7 : Int) (k : Bool → Option R) : ChangeShifts_F q x1 x2 x3 x4 x5 x6 x7 k = k true := by
  rw [ChangeShifts_F_T]; unfold ChangeShifts_T
  exact changes18_true q hq _ _ _ _ _ _ _ _ (by simp) (by intro key h; simp at h; exact agreeKey_shift _ (by omega)) _

theorem OperRight_true {R : Type} (q : List Str) (hq : Sized q) (x1 x2 x3 x4 x5 x6 x7 : Int) (k : Bool → Option R) : OperRight_F q x1 x2 x3 x4 x5 x6 x7 k = k true := by
  rw [OperRight_F_T]; unfold OperRight_T
  exact changes18_true q hq _ _ _ _ _ _ _ _ (by simp) (by intro key h; simp at h; subst h; exact agreeKey_shift _ (by omega)) _

theorem OperLeft_true {R : Type} (q : List Str) (hq : Sized q) (x1 x2 x3 x4 x5 x6 x7 : Int) (k : Bool → Option R) : OperLeft_F q x1 x2 x3 x4 x5 x6 x7 k = k true := by
  rw [OperLeft_F_T]; unfold OperLeft_T
  exact changes18_true q hq _ _ _ _ _ _ _ _ (by simp) (by intro key h; simp at h; subst h; exact agreeKey_shift _ (by omega)) _

end Go.Proofs.YtleoffdjdgbanaaDoor

set_option linter.unusedVariables false
set_option linter.unusedSimpArgs false
namespace Go.Proofs.YtleoffdjdgbanaaDoor
open Go Go.QA Go.Proofs

/-! ### letters -/

theorem getD_set {l : List Int} {i j : Nat} {v : Int} : (l.set i v).getD j 0 = if i = j ∧ i < l.length then v else l.getD j 0 := by
  simp only [List.getD, List.getElem?_set]
  by_cases h : i = j
  · subst h
    by_cases h2 : i < l.length
    · simp [h2]
    · simp [h2]
  · simp [h]

theorem turnGo_getD (key : Int) : ∀ (n i j : Nat) (l : List Int), i + n ≤ l.length → (turnGo key n i l).getD j 0 = if i ≤ j ∧ j < i + n then turnOf key (l.getD j 0) else l.getD j 0
  | 0, i, j, l, _ => by rw [turnGo, if_neg (by omega)]
  | n + 1, i, j, l, h => by
    rw [turnGo, turnGo_getD key n (i + 1) j _ (by simp; omega), getD_set]
    by_cases h1 : i = j
    · subst h1
      rw [if_neg (by omega), if_pos ⟨rfl, by omega⟩, if_pos (by omega)]
    · rw [if_neg (show ¬ (i = j ∧ i < l.length) from fun e => h1 e.1)]
      by_cases h2 : i + 1 ≤ j ∧ j < i + 1 + n
      · rw [if_pos h2, if_pos (by omega)]
      · rw [if_neg h2, if_neg (by omega)]

theorem ext_getD {l m : List Int} (h : l.length = m.length) (h2 : ∀ j, l.getD j 0 = m.getD j 0) : l = m := by
  apply List.ext_getElem h
  intro i h3 h4
  have := h2 i
  rwa [getD_at h3, getD_at h4] at this

theorem turnOf_twice (x : Int) : turnOf 126 (turnOf 126 x) = x := by
  unfold turnOf
  repeat' split
  all_goals omega

theorem turnGo_twice (n i : Nat) (l : List Int) (h : i + n ≤ l.length) : turnGo 126 n i (turnGo 126 n i l) = l := by
  apply ext_getD (by rw [turnGo_length, turnGo_length])
  intro j
  rw [turnGo_getD 126 n i j _ (by rw [turnGo_length]; exact h), turnGo_getD 126 n i j l h]
  split
  · exact turnOf_twice _
  · rfl

theorem turnOf_10 (key x : Int) : turnOf key x = 10 ↔ x = 10 := by
  unfold turnOf
  repeat' split
  all_goals omega

theorem turnOf_0 (key x : Int) : turnOf key x = 0 ↔ x = 0 := by
  unfold turnOf
  repeat' split
  all_goals omega

theorem enc_turn (key : Int) {x : Int} (h : scal x) : (enc (turnOf key x)).length = (enc x).length := by
  unfold turnOf
  have low : ∀ y : Int, 0 ≤ y → y < 128 → (enc y).length = 1 := by
    intro y h1 h2
    obtain ⟨n, rfl⟩ : ∃ n : Nat, y = (n : Int) := ⟨y.toNat, by omega⟩
    rw [enc_one (by omega)]; rfl
  split
  · rw [low _ (by omega) (by omega), low _ (by omega) (by omega)]
  · split
    · rw [low _ (by omega) (by omega), low _ (by omega) (by omega)]
    · rfl

theorem strOf_set_len : ∀ (l : List Int) (i : Nat) (v : Int), i < l.length → (enc v).length = (enc (l.getD i 0)).length → (strOf (l.set i v)).length = (strOf l).length
  | [], i, v, h, _ => by simp at h
  | x :: t, 0, v, _, h => by
    rw [List.set_cons_zero, strOf_cons, strOf_cons, List.length_append, List.length_append, h]; rfl
  | x :: t, i + 1, v, h, h2 => by
    rw [List.set_cons_succ, strOf_cons, strOf_cons, List.length_append, List.length_append, strOf_set_len t i v (by simpa using h) (by simpa using h2)]

theorem turnGo_bytes (key : Int) : ∀ (n i : Nat) (l : List Int), i + n ≤ l.length → scalL l → (strOf (turnGo key n i l)).length = (strOf l).length
  | 0, _, _, _, _ => rfl
  | n + 1, i, l, h, hs => by
    have hg := getD_scal hs (i := i) (by omega)
    rw [turnGo, turnGo_bytes key n (i + 1) _ (by simp; omega) (set_all hs (turnOf_scal hg)), strOf_set_len l i _ (by omega) (enc_turn key hg)]

theorem turnGo_zero (key : Int) (n i : Nat) (l : List Int) (h : i + n ≤ l.length) (hz : (0 : Int) ∉ l) : (0 : Int) ∉ turnGo key n i l := by
  intro hm
  obtain ⟨j, hj, he⟩ := List.getElem_of_mem hm
  have h1 := turnGo_getD key n i j l h
  have hj2 : j < l.length := by rwa [turnGo_length] at hj
  rw [getD_at hj, he, getD_at hj2] at h1
  split at h1
  · exact hz (((turnOf_0 key _).1 h1.symm) ▸ List.getElem_mem hj2)
  · exact hz (h1 ▸ List.getElem_mem hj2)

/-- Newlines at the same places: rows begin and end at the same places. -/
theorem beginOf_same {l m : List Int} (h : ∀ j, l.getD j 0 = 10 ↔ m.getD j 0 = 10) : ∀ x, beginOf l x = beginOf m x
  | 0 => rfl
  | x + 1 => by
    rw [beginOf, beginOf, beginOf_same h x]
    by_cases h2 : l.getD x 0 = 10
    · rw [if_pos h2, if_pos ((h x).1 h2)]
    · rw [if_neg h2, if_neg (fun e => h2 ((h x).2 e))]

theorem endOf_same {l m : List Int} (hl : l.length = m.length) (h : ∀ j, l.getD j 0 = 10 ↔ m.getD j 0 = 10) : ∀ (d x : Nat), l.length - x = d → endOf l x = endOf m x := by
  intro d
  induction d with
  | zero => intro x hd; rw [endOf_over (by omega), endOf_over (by omega)]
  | succ d ih =>
    intro x hd
    by_cases h2 : l.getD x 0 = 10
    · rw [endOf_hit (by omega) h2, endOf_hit (by omega) ((h x).1 h2)]
    · rw [endOf_miss (by omega) h2, endOf_miss (by omega) (fun e => h2 ((h x).2 e)), ih (x + 1) (by omega)]

theorem rangeB_same {l m : List Int} (hl : l.length = m.length) (h : ∀ j, l.getD j 0 = 10 ↔ m.getD j 0 = 10) (x y : Int) (b : Bool) : rangeB l x y b = rangeB m x y b := by
  unfold rangeB
  rw [beginOf_same h, endOf_same hl h _ _ rfl, hl]

/-! ### rows -/

/-- What holds of each rune holds behind the cut, and behind the putting together. -/
theorem all_splitC {p : Int → Prop} : ∀ {l : List Int}, (∀ x ∈ l, p x) → ∀ r ∈ splitC 10 l, ∀ x ∈ r, p x
  | [], _, r, h => by simp [splitC] at h; subst h; intro x hx; cases hx
  | y :: t, hl, r, h => by
    have ih := fun r h => all_splitC (l := t) (fun x hx => hl x (List.mem_cons_of_mem _ hx)) r h
    rw [splitC] at h
    split at h
    · rcases List.mem_cons.1 h with rfl | h
      · intro x hx; cases hx
      · exact ih r h
    · cases hs : splitC (10 : Int) t with
      | nil => exact absurd hs (splitC_ne _ _)
      | cons s ss =>
        rw [hs] at h ih
        rw [consHead] at h
        rcases List.mem_cons.1 h with rfl | h
        · intro x hx
          rcases List.mem_cons.1 hx with rfl | hx
          · exact hl _ (List.mem_cons_self ..)
          · exact ih s (List.mem_cons_self ..) x hx
        · exact ih r (List.mem_cons_of_mem _ h)

theorem all_unsplit {p : Int → Prop} (h10 : p 10) : ∀ {rs : List (List Int)}, (∀ r ∈ rs, ∀ x ∈ r, p x) → ∀ x ∈ unsplit 10 rs, p x
  | [], _, x, hx => by cases hx
  | [r], h, x, hx => h r (List.mem_cons_self ..) x hx
  | r :: s :: t, h, x, hx => by
    rw [unsplit] at hx
    rcases List.mem_append.1 hx with hx | hx
    · exact h r (List.mem_cons_self ..) x hx
    · rcases List.mem_cons.1 hx with rfl | hx
      · exact h10
      · exact all_unsplit h10 (fun r hr => h r (List.mem_cons_of_mem _ hr)) x hx

theorem all_dropR {p : Int → Prop} {r : List Int} (h : ∀ x ∈ r, p x) : ∀ x ∈ dropR r, p x := by
  cases r with
  | nil => exact h
  | cons y t =>
    rw [dropR]
    split
    · exact fun x hx => h x (List.mem_cons_of_mem _ hx)
    · exact h

theorem all_shiftR {p : Int → Prop} (h32 : p 32) (key : Int) {r : List Int} (h : ∀ x ∈ r, p x) : ∀ x ∈ shiftR key r, p x := by
  unfold shiftR
  split
  · intro x hx; cases hx
  · split
    · intro x hx
      rcases List.mem_cons.1 hx with rfl | hx
      · exact h32
      · rcases List.mem_cons.1 hx with rfl | hx
        · exact h32
        · exact h x hx
    · exact all_dropR (all_dropR h)

theorem all_shiftN {p : Int → Prop} (h32 : p 32) (key : Int) : ∀ (n : Nat) {rs : List (List Int)}, (∀ r ∈ rs, ∀ x ∈ r, p x) → ∀ r ∈ shiftN key n rs, ∀ x ∈ r, p x
  | 0, _, h => h
  | _ + 1, [], h => h
  | n + 1, r :: rs, h => by
    intro s hs
    rw [shiftN] at hs
    rcases List.mem_cons.1 hs with rfl | hs
    · exact all_shiftR h32 key (h r (List.mem_cons_self ..))
    · exact all_shiftN h32 key n (fun y hy => h y (List.mem_cons_of_mem _ hy)) s hs

theorem all_shiftedOf {p : Int → Prop} (h32 : p 32) (h10 : p 10) (key : Int) {l : List Int} (h : ∀ x ∈ l, p x) (low high : Nat) : ∀ x ∈ shiftedOf key l low high, p x := by
  intro x hx
  unfold shiftedOf at hx
  rcases List.mem_append.1 hx with hx | hx
  · exact h x (List.mem_of_mem_take hx)
  · exact all_unsplit h10 (all_shiftN h32 key _ (all_splitC fun y hy => h y (List.mem_of_mem_drop hy))) x hx

theorem dropR_bytes (r : List Int) : (strOf (dropR r)).length ≤ (strOf r).length := by
  cases r with
  | nil => exact Nat.le_refl _
  | cons y t =>
    rw [dropR]
    split
    · rw [strOf_cons, List.length_append]; omega
    · exact Nat.le_refl _

theorem shiftR_bytes (key : Int) (r : List Int) : (strOf (shiftR key r)).length ≤ (strOf r).length + 2 := by
  unfold shiftR
  split
  · simp [strOf_nil]
  · split
    · rw [strOf_cons, strOf_cons, enc_32]; simp
    · have := dropR_bytes r; have := dropR_bytes (dropR r); omega

theorem shiftN_bytes (key : Int) : ∀ (n : Nat) (rs : List (List Int)), (strOf (unsplit 10 (shiftN key n rs))).length ≤ (strOf (unsplit 10 rs)).length + 2 * rs.length
  | 0, rs => by rw [shiftN]; omega
  | _ + 1, [] => by simp [shiftN]
  | n + 1, [r] => by
    have := shiftR_bytes key r
    cases n <;> simp [shiftN, unsplit] <;> omega
  | n + 1, r :: s :: t => by
    have ih := shiftN_bytes key n (s :: t)
    have := shiftR_bytes key r
    rw [shiftN, unsplit_cons _ _ (shiftN_ne key n (by simp)), unsplit_cons _ _ (show s :: t ≠ [] by simp), strOf_append, strOf_append, strOf_cons, strOf_cons]
    simp only [List.length_append, List.length_cons] at ih ⊢
    omega

theorem shiftedOf_bytes (key : Int) (l : List Int) (low high : Nat) : (strOf (shiftedOf key l low high)).length ≤ (strOf l).length + 2 * (l.length + 1) := by
  unfold shiftedOf
  have h1 := shiftN_bytes key (rowOf l high - rowOf l low + 1) (splitC 10 (l.drop (beginOf l low)))
  have h2 := splitC_length (10 : Int) (l.drop (beginOf l low))
  rw [unsplit_splitC] at h1
  rw [List.length_drop] at h2
  have e := congrArg (fun z => (strOf z).length) (List.take_append_drop (beginOf l low) l)
  simp only [strOf_append, List.length_append] at e ⊢
  omega

theorem mayOf_shifted (key : Int) {s : Str} (hs : mayOf s = true) (hl : s.length ≤ 1000) (low high : Nat) : mayOf (strOf (shiftedOf key (runesOf s) low high)) = true := by
  have hv := strOf_runesOf (mayOf_valid hs)
  have h1 := shiftedOf_bytes key (runesOf s) low high
  have h2 := runesOf_length_le s
  rw [hv] at h1
  rw [mayOf_iff (shiftedOf_scal key (runesOf_scal s) low high)]
  refine ⟨by omega, fun hz => ?_⟩
  exact (all_shiftedOf (p := fun x => x ≠ 0) (by decide) (by decide) key (fun x hx e => mayOf_runes hs (e ▸ hx)) low high) 0 hz rfl

/-- Cut and put together, where no part has a newline. -/
theorem splitC_unsplit : ∀ (rs : List (List Int)), rs ≠ [] → (∀ r ∈ rs, (10 : Int) ∉ r) → splitC 10 (unsplit 10 rs) = rs
  | [], h, _ => absurd rfl h
  | [r], _, h => by
    rw [unsplit]
    have := splitC_app (10 : Int) r (fun b hb e => h r (List.mem_cons_self ..) (e ▸ hb)) [] [] [] rfl
    simpa using this
  | r :: s :: t, _, h => by
    have ih := splitC_unsplit (s :: t) (by simp) (fun x hx => h x (List.mem_cons_of_mem _ hx))
    rw [unsplit]
    have := splitC_app (10 : Int) r (fun b hb e => h r (List.mem_cons_self ..) (e ▸ hb)) (10 :: unsplit 10 (s :: t)) [] (s :: t) (by rw [splitC, if_pos rfl, ih])
    simpa using this

theorem splitC_no10 : ∀ (l : List Int), ∀ r ∈ splitC 10 l, (10 : Int) ∉ r
  | [], r, h => by simp [splitC] at h; subst h; simp
  | x :: t, r, h => by
    have ih := splitC_no10 t
    rw [splitC] at h
    split at h
    · rcases List.mem_cons.1 h with rfl | h
      · simp
      · exact ih r h
    · rename_i hx
      cases hs : splitC (10 : Int) t with
      | nil => exact absurd hs (splitC_ne _ _)
      | cons s ss =>
        rw [hs] at h ih
        rw [consHead] at h
        rcases List.mem_cons.1 h with rfl | h
        · intro hm
          rcases List.mem_cons.1 hm with e | hm
          · exact hx e.symm
          · exact ih s (List.mem_cons_self ..) hm
        · exact ih r (List.mem_cons_of_mem _ h)

theorem shift_back (r : List Int) : shiftR 60 (shiftR 62 r) = r := by
  unfold shiftR
  by_cases h : r = []
  · rw [if_pos h, if_pos rfl, h]
  · rw [if_neg h, if_pos rfl, if_neg (by simp), if_neg (by decide)]
    rfl

theorem shift_no10 {r : List Int} (h : (10 : Int) ∉ r) : (10 : Int) ∉ shiftR 62 r := by
  intro hm
  exact all_shiftR (p := fun x => x ≠ 10) (by decide) 62 (fun x hx e => h (e ▸ hx)) 10 hm rfl

/-- One row, right and left again. -/
theorem row_back {l : List Int} {low high : Nat} (h1 : low ≤ high) (h2 : high ≤ l.length) (hb : beginOf l low = low) (he : high ≤ endOf l low) :
    beginOf (shiftedOf 62 l low high) low = low ∧ low ≤ (shiftedOf 62 l low high).length ∧
      shiftedOf 60 (shiftedOf 62 l low high) low (endOf (shiftedOf 62 l low high) low) = l := by
  have hrow := rowOf_same l _ low high rfl h1 he h2
  have hw : shiftedOf 62 l low high = l.take low ++ unsplit 10 (shiftN 62 1 (splitC 10 (l.drop low))) := by
    unfold shiftedOf; rw [hb, hrow, Nat.sub_self]
  obtain ⟨r, rest, hs⟩ : ∃ r rest, splitC 10 (l.drop low) = r :: rest := by
    cases hs : splitC 10 (l.drop low) with
    | nil => exact absurd hs (splitC_ne _ _)
    | cons r rest => exact ⟨r, rest, rfl⟩
  have hno := splitC_no10 (l.drop low)
  rw [hs] at hno
  rw [hs, shiftN, shiftN] at hw
  have htl : (l.take low).length = low := by rw [List.length_take]; omega
  generalize shiftedOf 62 l low high = w at *
  have hwt : w.take low = l.take low := by rw [hw, List.take_append_of_le_length (by omega), List.take_take, Nat.min_self]
  have hwd : w.drop low = unsplit 10 (shiftR 62 r :: rest) := by rw [hw, List.drop_append_of_le_length (by omega), List.drop_eq_nil_of_le (by omega), List.nil_append]
  have hwl : low ≤ w.length := by rw [hw, List.length_append]; omega
  have hbw : beginOf w low = low := by
    cases hlow : low with
    | zero => rfl
    | succ p =>
      rw [hlow] at hb hwt htl
      have e : w.getD p 0 = l.getD p 0 := by
        have a := congrArg (fun z => z.getD p 0) hwt
        simpa [List.getD, List.getElem?_take] using a
      rw [beginOf] at hb ⊢
      rw [e]
      by_cases h10 : l.getD p 0 = 10
      · rw [if_pos h10]
      · rw [if_neg h10] at hb; have := beginOf_le l p; omega
  refine ⟨hbw, hwl, ?_⟩
  have hwsp : splitC 10 (w.drop low) = shiftR 62 r :: rest := by
    rw [hwd]
    exact splitC_unsplit _ (by simp) (by
      intro x hx
      rcases List.mem_cons.1 hx with rfl | hx
      · exact shift_no10 (hno r (List.mem_cons_self ..))
      · exact hno x (List.mem_cons_of_mem _ hx))
  have hrw := rowOf_same w _ low (endOf w low) rfl (endOf_ge w low) (Nat.le_refl _) (endOf_le w low hwl)
  unfold shiftedOf
  rw [hbw, hrw, Nat.sub_self, hwsp, hwt, shiftN, shiftN, shift_back, ← hs, unsplit_splitC, List.take_append_drop]

end Go.Proofs.YtleoffdjdgbanaaDoor

set_option linter.unusedVariables false
set_option linter.unusedSimpArgs false
namespace Go.Proofs.YtleoffdjdgbanaaDoor
open Go Go.QA Go.Proofs

theorem changeOf_turn {R : Type} (s : Str) (h1 : mayOf s = true) (low high : Nat) (b : Bool) (h2 : rangeB (runesOf s) (low : Int) (high : Int) b = true) (k : Int → Int → Str → Int → Str → Bool → Int → Option R) :
    changeOf_F s (low : Int) (high : Int) b 16777342 0 k = (madeC s (strOf (turnGo 126 (high - low) low (runesOf s))) (standsOf (runesOf s) low b 0 : Nat)).ap k := by
  have hlen := mayOf_len h1
  have hle := runesOf_length_le s
  obtain ⟨hr1, hr2, hr3, hr4⟩ := rangeB_iff.1 h2
  have hb : b = true → beginOf (runesOf s) low = low := fun e => by have := (hr4 e).1; rw [Int.toNat_natCast] at this; omega
  have h := changeOf_head s h1 low high b 16777342 0 h2 (by decide) (Nat.zero_le _) k
  refine h.trans ?_
  rw [show (((16777342 : Int) == 121)) = false from rfl, show (((16777342 : Int) == 100)) = false from rfl, show (((16777342 : Int) == 99)) = false from rfl, show (((16777342 : Int) == 62)) = false from rfl, show (((16777342 : Int) == 60)) = false from rfl]
  simp only [cond_false]
  rw [wrap64 (by omega) (by omega)]
  exact changeTurned1_eq s (by omega) 126 (by omega) low high (by omega) (by omega) b hb 0 (Nat.zero_le _) k

theorem changeOf_yank {R : Type} (s : Str) (h1 : mayOf s = true) (low high : Nat) (b : Bool) (h2 : rangeB (runesOf s) (low : Int) (high : Int) b = true) (k : Int → Int → Str → Int → Str → Bool → Int → Option R) :
    changeOf_F s (low : Int) (high : Int) b 121 0 k = k 0 0 [] (standsOf (runesOf s) low b 0 : Nat) (strOf (((runesOf s).take high).drop low)) b 0 := by
  have hlen := mayOf_len h1
  have hle := runesOf_length_le s
  obtain ⟨hr1, hr2, hr3, hr4⟩ := rangeB_iff.1 h2
  have hb : b = true → beginOf (runesOf s) low = low := fun e => by have := (hr4 e).1; rw [Int.toNat_natCast] at this; omega
  have h := changeOf_head s h1 low high b 121 0 h2 (by decide) (Nat.zero_le _) k
  refine h.trans ?_
  rw [show (((121 : Int) == 121)) = true from rfl]
  simp only [cond_true]
  rw [changeStands_eq _ (by omega) low (by omega) _ b hb 0 (Nat.zero_le _)]

theorem changeOf_shift {R : Type} (s : Str) (h1 : mayOf s = true) (key : Int) (hk : key = 62 ∨ key = 60) (low high : Nat) (b : Bool) (h2 : rangeB (runesOf s) (low : Int) (high : Int) b = true) (k : Int → Int → Str → Int → Str → Bool → Int → Option R) :
    changeOf_F s (low : Int) (high : Int) b key 0 k = (madeC s (strOf (shiftedOf key (runesOf s) low high)) (restOf (shiftedOf key (runesOf s) low high) (firstOf (shiftedOf key (runesOf s) low high) (beginOf (runesOf s) low)) : Nat)).ap k := by
  have hlen := mayOf_len h1
  have hle := runesOf_length_le s
  obtain ⟨hr1, hr2, hr3, hr4⟩ := rangeB_iff.1 h2
  have e1 : (key == 121) = false := by rcases hk with rfl | rfl <;> rfl
  have e2 : (key == 100) = false := by rcases hk with rfl | rfl <;> rfl
  have e3 : (key == 99) = false := by rcases hk with rfl | rfl <;> rfl
  have e4 : ∀ (a b : Option R), (bif (key == (62 : Int)) then a else (bif (key == (60 : Int)) then a else b)) = a := by
    intro a b
    rcases hk with rfl | rfl <;> rfl
  have h := changeOf_head s h1 low high b key 0 h2 (by rcases hk with rfl | rfl <;> decide) (Nat.zero_le _) k
  refine h.trans ?_
  rw [e1, e2, e3]
  simp only [cond_false]
  rw [e4, changeRows_eq s (by omega) (mayOf_valid h1) key hk low high (by omega) (by omega)]

theorem mayOf_turned {s : Str} (hs : mayOf s = true) (n i : Nat) (h : i + n ≤ (runesOf s).length) : mayOf (strOf (turnGo 126 n i (runesOf s))) = true := by
  have hv := strOf_runesOf (mayOf_valid hs)
  have hb := turnGo_bytes 126 n i (runesOf s) h (runesOf_scal s)
  rw [hv] at hb
  rw [mayOf_iff (turnGo_scal 126 n i _ h (runesOf_scal s))]
  exact ⟨by have := mayOf_len hs; omega, turnGo_zero 126 n i _ h (mayOf_runes hs)⟩

theorem endOf_end (l : List Int) {x : Nat} (hx : x ≤ l.length) : endOf l (endOf l x) = endOf l x := by
  by_cases h : endOf l x < l.length
  · exact endOf_hit h (endOf_nl l _ x rfl h)
  · have := endOf_le l x hx
    exact endOf_over (by omega)

theorem ChangeStays_step {R : Type} (rec : Int → Str → List Int → List Rec → Int → Int → Int → Int → Int → Int → Int → Int → List Str → Option R) (x20 : Int) (s : Str) (hs : mayOf s = true) (hl : s.length ≤ 1000) (r23 : List Rec) (j : Nat) (hj : j < r23.length)
    (x25 x26 x27 x28 x29 x30 x31 : Int) (q32 : List Str) (ke0 : Bool → Option R) (ke1 : Int → Int → Int → Int → Int → Int → Int → Int → List Str → Option R) (hjb : j < 1000000) :
    ChangeStays_B11 rec x20 s (runesOf s) r23 (j : Int) x25 x26 x27 x28 x29 x30 x31 q32 ke0 ke1 = rec x20 s (runesOf s) r23 ((j + 1 : Nat) : Int) x25 x26 x27 x28 x29 x30 x31 q32 := by
  have hle := runesOf_length_le s
  unfold ChangeStays_B11
  simp only [num18_eq, Int.toNat_natCast]
  rw [decide_eq_true (by omega : (j : Int) < (r23.length : Int)), decide_eq_true (by omega : (0 : Int) ≤ (j : Int)), wrap64 (by omega) (by omega), show ((j : Int) + 1) = ((j + 1 : Nat) : Int) from by omega]
  simp only [Bool.and_true, cond_true]
  obtain ⟨x, hx⟩ : ∃ x, (r23.getD j default).gi 0 = x := ⟨_, rfl⟩
  obtain ⟨y, hy⟩ : ∃ y, (r23.getD j default).gi (0 + 1) = y := ⟨_, rfl⟩
  obtain ⟨b, hb⟩ : ∃ b, (r23.getD j default).gb 0 = b := ⟨_, rfl⟩
  simp only [hx, hy, hb]
  clear hx hy hb
  rw [refRange_eq _ (by omega)]
  cases h2 : rangeB (runesOf s) x y b with
  | false => rfl
  | true =>
    simp only [Bool.not_true, cond_false]
    obtain ⟨hr1, hr2, hr3, hr4⟩ := rangeB_iff.1 h2
    obtain ⟨low, rfl⟩ : ∃ n : Nat, x = (n : Int) := ⟨x.toNat, by omega⟩
    obtain ⟨high, rfl⟩ : ∃ n : Nat, y = (n : Int) := ⟨y.toNat, by omega⟩
    have hstr := strOf_runesOf (mayOf_valid hs)
    have hT := mayOf_turned hs (high - low) low (by omega)
    have hTs := turnGo_scal 126 (high - low) low (runesOf s) (by omega) (runesOf_scal s)
    have hS := mayOf_shifted 62 hs hl low high
    have hSs := shiftedOf_scal 62 (runesOf_scal s) low high
    rw [changeOf_yank s hs low high b h2, changeOf_turn s hs low high b h2, madeC_ok hT]
    unfold Chg.ap
    dsimp only
    rw [changeOf_shift s hs 62 (.inl rfl) low high b h2, madeC_ok hS]
    unfold Chg.ap
    dsimp only
    simp only [beq_self_eq_true, bne_self_eq_false, cond_false, Bool.and_true, Bool.not_true]
    rw [refMay4_made s _ hs hT]
    simp only [Bool.not_true, cond_false]
    rw [refMay4_made s _ hs hS]
    simp only [Bool.not_true, cond_false]
    rw [refApply_made s _ hs hT, refApply_made s _ hs hS]
    -- turned once more
    have hsame : ∀ i, (runesOf s).getD i 0 = 10 ↔ (turnGo 126 (high - low) low (runesOf s)).getD i 0 = 10 := by
      intro i
      rw [turnGo_getD 126 (high - low) low i _ (by omega)]
      split
      · rw [turnOf_10]
      · exact Iff.rfl
    have hrT : rangeB (runesOf (strOf (turnGo 126 (high - low) low (runesOf s)))) (low : Int) (high : Int) b = true := by
      rw [runesOf_strOf hTs, ← rangeB_same (by rw [turnGo_length]) hsame]; exact h2
    have hback : strOf (turnGo 126 (high - low) low (runesOf (strOf (turnGo 126 (high - low) low (runesOf s))))) = s := by
      rw [runesOf_strOf hTs, turnGo_twice _ _ _ (by omega), hstr]
    rw [changeOf_turn _ hT low high b hrT, hback, madeC_ok hs]
    unfold Chg.ap
    dsimp only
    simp only [bne_self_eq_false, cond_false]
    rw [refMay4_made _ s hT hs]
    simp only [Bool.not_true, cond_false]
    rw [refApply_made _ s hT hs]
    simp only [beq_self_eq_true, Bool.not_true, cond_false]
    -- the row shifted back
    rw [runesOf_strOf hSs]
    have hlowl : low ≤ (shiftedOf 62 (runesOf s) low high).length := by
      unfold shiftedOf
      have h5 := congrArg List.length (unsplit_splitC (10 : Int) ((runesOf s).drop (beginOf (runesOf s) low)))
      have h6 : ∀ (n : Nat) (rs : List (List Int)), (unsplit 10 rs).length ≤ (unsplit 10 (shiftN 62 n rs)).length := by
        intro n
        induction n with
        | zero => intro rs; rw [shiftN]; omega
        | succ n ih =>
          intro rs
          have hge : ∀ r : List Int, r.length ≤ (shiftR 62 r).length := by
            intro r
            unfold shiftR
            by_cases hr : r = []
            · rw [hr]; simp
            · rw [if_neg hr, if_pos rfl]; simp; omega
          match rs with
          | [] => rw [shiftN]; omega
          | [r] =>
            have := hge r
            cases n <;> simp [shiftN, unsplit] <;> omega
          | r :: t :: u =>
            have := hge r
            have := ih (t :: u)
            rw [shiftN, unsplit_cons _ _ (shiftN_ne 62 n (by simp)), unsplit_cons _ _ (show t :: u ≠ [] by simp)]
            simp only [List.length_append, List.length_cons]; omega
      have h7 := h6 (rowOf (runesOf s) high - rowOf (runesOf s) low + 1) (splitC 10 ((runesOf s).drop (beginOf (runesOf s) low)))
      rw [h5, List.length_drop] at h7
      have := beginOf_le (runesOf s) low
      rw [List.length_append, List.length_take]; omega
    have hwlen := shiftedOf_length 62 (runesOf s) low high
    have hbt : ∀ kk : Int → Int → Bool → Option R, refBetween15_F (shiftedOf 62 (runesOf s) low high) (low : Int) (low : Int) 2 kk = kk (beginOf (shiftedOf 62 (runesOf s) low high) low : Nat) (endOf (shiftedOf 62 (runesOf s) low high) low : Nat) true := by
      intro kk
      rw [refBetween15_F_T]; unfold refBetween15_T
      rw [mm_min, mm_max, Nat.min_self, Nat.max_self]
      rw [show (((2 : Int) == 1)) = false from rfl, show (((2 : Int) == 2)) = true from rfl, cond_false, cond_true, refBegin_eq _ (by omega) _ hlowl, refEnd_eq _ (by omega)]
    rw [hbt]
    cases b with
    | false => rfl
    | true =>
      simp only [Bool.not_true, cond_false]
      have hbl : beginOf (runesOf s) low = low := by have := (hr4 rfl).1; rw [Int.toNat_natCast] at this; omega
      rw [refEnd_eq _ (by omega)]
      by_cases hend : endOf (runesOf s) low < high
      · rw [decide_eq_true (by omega : (high : Int) > ((endOf (runesOf s) low : Nat) : Int))]; rfl
      · rw [decide_eq_false (by omega : ¬ (high : Int) > ((endOf (runesOf s) low : Nat) : Int)), cond_false]
        obtain ⟨hb1, hb2, hb3⟩ := row_back (l := runesOf s) (low := low) (high := high) (by omega) (by omega) hbl (by omega)
        have hee := endOf_le (shiftedOf 62 (runesOf s) low high) low hb2
        have hge := endOf_ge (shiftedOf 62 (runesOf s) low high) low
        have hrS : rangeB (runesOf (strOf (shiftedOf 62 (runesOf s) low high))) (low : Int) ((endOf (shiftedOf 62 (runesOf s) low high) low : Nat) : Int) true = true := by
          rw [runesOf_strOf hSs, rangeB_iff]
          refine ⟨by omega, by omega, by omega, fun _ => ⟨?_, ?_⟩⟩
          · rw [Int.toNat_natCast, hb1]
          · rw [Int.toNat_natCast, endOf_end _ hb2]
        have hback2 : strOf (shiftedOf 60 (runesOf (strOf (shiftedOf 62 (runesOf s) low high))) low (endOf (shiftedOf 62 (runesOf s) low high) low)) = s := by
          rw [runesOf_strOf hSs, hb3, hstr]
        rw [hb1, changeOf_shift _ hS 60 (.inr rfl) low _ true hrS, hback2, madeC_ok hs]
        unfold Chg.ap
        dsimp only
        simp only [bne_self_eq_false, cond_false]
        rw [refMay4_made _ s hS hs]
        simp only [Bool.not_true, cond_false]
        rw [refApply_made _ s hS hs]
        simp only [beq_self_eq_true, Bool.not_true, cond_false]
        cases Decidable.decide ((high : Int) > (low : Int)) <;> rfl

theorem ChangeStays_11 {R : Type} (x20 : Int) (s : Str) (hs : mayOf s = true) (hl : s.length ≤ 1000) (r23 : List Rec) (hr : r23.length ≤ 15)
    (x25 x26 x27 x28 x29 x30 x31 : Int) (q32 : List Str) (ke0 : Bool → Option R) (ke1 : Int → Int → Int → Int → Int → Int → Int → Int → List Str → Option R) : ∀ (n j : Nat), j ≤ r23.length → r23.length < n + j →
    ChangeStays_L11 n x20 s (runesOf s) r23 (j : Int) x25 x26 x27 x28 x29 x30 x31 q32 ke0 ke1 = ke1 x20 x25 x26 x27 x28 x29 x30 x31 q32 := by
  intro n
  induction n with
  | zero => intro j h0; omega
  | succ n ih =>
    intro j h1 h2
    simp only [ChangeStays_L11]
    by_cases h : j < r23.length
    · rw [ChangeStays_step _ x20 s hs hl r23 j h _ _ _ _ _ _ _ _ _ _ (by omega)]
      exact ih (j + 1) (by omega) (by omega)
    · unfold ChangeStays_B11
      rw [decide_eq_false (by omega : ¬ (j : Int) < (r23.length : Int))]; rfl

theorem ChangeStays_4 {R : Type} (x10 x11 x12 x13 x14 x15 x16 : Int) (q : List Str) (hq : q.length ≤ 6000) (hq2 : ∀ s ∈ q, s.length ≤ 6000) (ke0 : Bool → Option R) (ke1 : Option R) : ∀ (n i : Nat), i ≤ 3 → 3 < n + i →
    ChangeStays_L4 n (i : Int) x10 x11 x12 x13 x14 x15 x16 q ke0 ke1 = ke1 := by
  intro n
  induction n with
  | zero => intro i h0; omega
  | succ n ih =>
    intro i h1 h2
    simp only [ChangeStays_L4, ChangeStays_B4]
    by_cases h : i < q.length
    · rw [decide_eq_true (by omega : (i : Int) < (q.length : Int)), cond_true]
      by_cases h3 : i < 3
      · rw [decide_eq_true (by omega : (i : Int) < 3), decide_eq_true (by omega : (0 : Int) ≤ (i : Int))]
        simp only [Bool.and_true, cond_true, Int.toNat_natCast]
        have hs := hq2 _ (getD_mem h)
        have hle := runesOf_length_le (q.getD i [])
        rw [refMay1_eq, wrap64 (by omega) (by omega)]
        have next := ih (i + 1) (by omega) (by omega)
        rw [show (((i + 1 : Nat)) : Int) = (i : Int) + 1 from by omega] at next
        cases hm : mayOf (q.getD i []) with
        | false => exact next
        | true =>
          simp only [Bool.not_true, cond_false]
          by_cases h5 : (q.getD i []).length ≤ 1000
          · rw [decide_eq_false (by omega : ¬ ((q.getD i []).length : Int) > 1000), cond_false]
            obtain ⟨rs, hrs, hl⟩ := Ranges18_tells q x16 x15 x14 x13 x12 x11 x10 (runesOf (q.getD i [])) (by omega) (fun r19 => ChangeStays_M11 (i : Int) (q.getD i []) (runesOf (q.getD i [])) r19 ((0 : Int)) x10 x11 x12 x13 x14 x15 x16 q
              (fun b86 => ke0 b86) (fun x87 x88 x89 x90 x91 x92 x93 x94 q95 => ChangeStays_L4 n (IntKind.wrap .i64 (x87 + (1 : Int))) x88 x89 x90 x91 x92 x93 x94 q95 ke0 ke1))
            refine hrs.trans ?_
            rw [ChangeStays_M11_eq]
            refine (ChangeStays_11 (i : Int) _ hm h5 rs hl _ _ _ _ _ _ _ _ _ _ 4611686018427387904 0 (by omega) (by omega)).trans ?_
            rw [wrap64 (by omega) (by omega)]
            exact next
          · rw [decide_eq_true (by omega : ((q.getD i []).length : Int) > 1000), cond_true]
            exact next
      · rw [decide_eq_false (by omega : ¬ (i : Int) < 3)]; rfl
    · rw [decide_eq_false (by omega : ¬ (i : Int) < (q.length : Int))]; rfl

theorem ChangeStays_true {R : Type} (q : List Str) (hq : Sized q) (x1 x2 x3 x4 x5 x6 x7 : Int) (k : Bool → Option R) : ChangeStays_F q x1 x2 x3 x4 x5 x6 x7 k = k true := by
  rw [ChangeStays_F_T]; unfold ChangeStays_T
  rcases lawHeavy10_eq q hq x1 x2 x3 x4 x5 x6 x7 (fun b8 => bif b8 then k true else ChangeStays_M4 0 x7 x6 x5 x4 x3 x2 x1 q (fun b96 => k b96) (wakes18_F (fun b97 => k b97))) with h | ⟨h, h1, h2⟩
  · exact h
  · refine h.trans ?_
    rw [cond_false, ChangeStays_M4_eq]
    refine (ChangeStays_4 x7 x6 x5 x4 x3 x2 x1 q h1 h2 _ _ 4611686018427387904 0 (by omega) (by omega)).trans ?_
    exact wakes18_eq _

end Go.Proofs.YtleoffdjdgbanaaDoor
