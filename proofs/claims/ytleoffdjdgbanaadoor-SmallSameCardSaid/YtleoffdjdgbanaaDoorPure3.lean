/- Plain laws: a patch that is made is one that may be, and makes the text; no program in sight but the printed functions. -/
import Derived.Test.YtleoffdjdgbanaaDoorPure2
set_option linter.unusedVariables false
set_option linter.unusedSimpArgs false
set_option linter.unusedVariables false
set_option linter.unusedSimpArgs false
namespace Go.Proofs.YtleoffdjdgbanaaDoor
open Go Go.QA Go.Proofs

theorem headOf_take : ∀ l m : List Int, l.take (headOf l m) = m.take (headOf l m)
  | [], m => by simp [headOf]
  | a :: s, [] => by simp [headOf]
  | a :: s, b :: t => by
    unfold headOf
    by_cases h : a = b
    · rw [if_pos h, List.take_succ_cons, List.take_succ_cons, h, headOf_take s t]
    · rw [if_neg h]; rfl

theorem tailOf_drop (l m : List Int) : l.drop (l.length - tailOf l m) = m.drop (m.length - tailOf l m) := by
  have h := headOf_take l.reverse m.reverse
  have h2 := congrArg List.reverse h
  rw [List.reverse_take, List.reverse_take] at h2
  simpa [tailOf] using h2

theorem apply_made {l m : List Int} : l.take (atOf l m) ++ ((m.drop (headOf l m)).take (m.length - headOf l m - endsOf l m) ++ l.drop (atOf l m + delOf l m)) = m := by
  have hh := headOf_le l m
  have ht := tailOf_le (l.drop (headOf l m)) (m.drop (headOf l m))
  have hd := tailOf_drop (l.drop (headOf l m)) (m.drop (headOf l m))
  have htk := headOf_take l m
  unfold atOf delOf endsOf
  simp only [List.length_drop] at ht hd
  generalize tailOf (l.drop (headOf l m)) (m.drop (headOf l m)) = t at *
  rw [List.drop_drop] at hd
  rw [hd, List.take_append_drop, htk, List.take_append_drop]

/-- A text that may be, by its runes. -/
theorem mayOf_iff {y : List Int} (hy : scalL y) : mayOf (strOf y) = true ↔ (strOf y).length ≤ 4000 ∧ (0 : Int) ∉ y := by
  unfold mayOf
  rw [validD_strOf hy, Bool.true_and, Bool.and_eq_true, decide_eq_true_eq]
  have h0 := strOf_low (b := 0) (by decide) hy
  have : (strOf y).all (· != 0) = true ↔ (0 : UInt8) ∉ strOf y := by
    rw [List.all_eq_true]
    constructor
    · intro h hm; have := h 0 hm; simp at this
    · intro h x hx; simp; rintro rfl; exact h hx
  rw [this, h0]
  simp

theorem mayOf_runes {s : Str} (h : mayOf s = true) : (0 : Int) ∉ runesOf s := by
  have hv := mayOf_valid h
  have e := strOf_runesOf hv
  rw [← e] at h
  exact ((mayOf_iff (runesOf_scal s)).1 h).2

theorem refMay4_L {R : Type} (s : Str) (hl : s.length < 1099511627776) (x11 x12 : Int) (ke0 : Bool → Option R) (ke1 : Option R) : ∀ (n x : Nat), 0 < n → s.length < n + x → refMay4_L5 n (x : Int) s x11 x12 ke0 ke1 = bif (s.drop x).all (· != 0) then ke1 else ke0 false := by
  intro n
  induction n with
  | zero => intro x h0; omega
  | succ n ih =>
    intro x _ hx
    simp only [refMay4_L5, refMay4_B5]
    by_cases h : x < s.length
    · rw [decide_eq_true (by omega : (x : Int) < (s.length : Int)), decide_eq_true (by omega : (0 : Int) ≤ (x : Int)), wrap64 (by omega) (by omega)]
      simp only [cond_true, Bool.and_true, Int.toNat_natCast]
      rw [List.drop_eq_getElem_cons h, List.all_cons]
      have e : s.getD x 0 = s[x] := by simp [List.getD, h]
      rw [e]
      by_cases h2 : s[x] = 0
      · rw [h2]; rfl
      · have h3 : (s[x] != 0) = true := by simpa using h2
        have h4 : (((s[x]).toNat : Int) == 0) = false := by
          simp only [beq_eq_false_iff_ne, ne_eq]
          intro h5
          exact h2 (UInt8.toNat_inj.1 (by simpa using h5))
        rw [h3, h4, cond_false, Bool.true_and]
        have := ih (x + 1) (by omega) (by omega)
        simpa using this
    · rw [decide_eq_false (by omega : ¬ (x : Int) < (s.length : Int)), List.drop_eq_nil_of_le (by omega)]; rfl

theorem refLen_eq {R : Type} (s : Str) (k : Int → Option R) : refLen_F s k = k ((runesOf s).length : Int) := by
  rw [refLen_F_T]; rfl

/-- The patch of a text that is made may be. -/
theorem refMay4_made {R : Type} (s x : Str) (hs : mayOf s = true) (hx : mayOf x = true) (k : Bool → Option R) :
    refMay4_F s (atOf (runesOf s) (runesOf x) : Nat) (delOf (runesOf s) (runesOf x) : Nat) (insOf (runesOf s) (runesOf x)) k = k true := by
  have h1 := mayOf_len hs
  have h2 := runesOf_length_le s
  have h3 := mayOf_len hx
  have h4 := runesOf_length_le x
  have hh := headOf_le (runesOf s) (runesOf x)
  have hsc : scalL (((runesOf x).drop (headOf (runesOf s) (runesOf x))).take ((runesOf x).length - headOf (runesOf s) (runesOf x) - endsOf (runesOf s) (runesOf x))) := ((runesOf_scal x).drop _).take _
  have hil := strOf_length_le (((runesOf x).drop (headOf (runesOf s) (runesOf x))).take ((runesOf x).length - headOf (runesOf s) (runesOf x) - endsOf (runesOf s) (runesOf x)))
  rw [List.length_take, List.length_drop] at hil
  have hz : (insOf (runesOf s) (runesOf x)).all (· != 0) = true := by
    rw [List.all_eq_true]
    intro b hb
    simp only [bne_iff_ne, ne_eq]
    rintro rfl
    have := (strOf_low (b := 0) (by decide) hsc).1 hb
    exact mayOf_runes hx (List.mem_of_mem_drop (List.mem_of_mem_take this))
  rw [refMay4_F_T]; unfold refMay4_T
  rw [refLen_eq, refMay1_eq, hs]
  simp only [Bool.not_true, cond_false]
  unfold atOf delOf
  rw [refNum_eq, decide_eq_true (by omega)]
  simp only [Bool.not_true, cond_false]
  rw [wrap64 (by omega) (by omega), refNum_eq, decide_eq_true (by omega)]
  simp only [Bool.not_true, cond_false]
  unfold libValidString_F
  rw [decide_eq_true (by unfold insOf; omega), cond_true, show Lib.validD (insOf (runesOf s) (runesOf x)) = true from validD_strOf hsc]
  simp only [Bool.not_true, cond_false]
  rw [refMay4_M5_eq]
  have := refMay4_L (insOf (runesOf s) (runesOf x)) (by unfold insOf; omega) ((runesOf s).length - headOf (runesOf s) (runesOf x) - endsOf (runesOf s) (runesOf x) : Nat) (headOf (runesOf s) (runesOf x) : Nat) (fun b13 => k b13) (k true) 4611686018427387904 0 (by omega) (by unfold insOf; omega)
  rw [List.drop_zero, hz] at this
  exact this

/-- It makes the text. -/
theorem refApply_made {R : Type} (s x : Str) (hs : mayOf s = true) (hx : mayOf x = true) (k : Str → Option R) :
    refApply_F s (atOf (runesOf s) (runesOf x) : Nat) (delOf (runesOf s) (runesOf x) : Nat) (insOf (runesOf s) (runesOf x)) k = k x := by
  have h1 := mayOf_len hs
  have h2 := runesOf_length_le s
  have h3 := mayOf_len hx
  have h4 := runesOf_length_le x
  have hh := headOf_le (runesOf s) (runesOf x)
  have hm := apply_made (l := runesOf s) (m := runesOf x)
  have hins : insOf (runesOf s) (runesOf x) = strOf (((runesOf x).drop (headOf (runesOf s) (runesOf x))).take ((runesOf x).length - headOf (runesOf s) (runesOf x) - endsOf (runesOf s) (runesOf x))) := rfl
  have hil := strOf_length_le (((runesOf x).drop (headOf (runesOf s) (runesOf x))).take ((runesOf x).length - headOf (runesOf s) (runesOf x) - endsOf (runesOf s) (runesOf x)))
  rw [List.length_take, List.length_drop] at hil
  have ha : atOf (runesOf s) (runesOf x) ≤ (runesOf s).length := hh.1
  have hd : atOf (runesOf s) (runesOf x) + delOf (runesOf s) (runesOf x) ≤ (runesOf s).length := by unfold atOf delOf; omega
  have e := congrArg strOf hm
  rw [strOf_append, strOf_append, strOf_runesOf (mayOf_valid hx), ← hins] at e
  have hl1 := strOf_length_le ((runesOf s).take (atOf (runesOf s) (runesOf x)))
  have hl2 := strOf_length_le ((runesOf s).drop (atOf (runesOf s) (runesOf x) + delOf (runesOf s) (runesOf x)))
  rw [List.length_take] at hl1
  rw [List.length_drop] at hl2
  rw [refApply_F_T]; unfold refApply_T
  rw [wrap64 (by omega) (by omega), show ((atOf (runesOf s) (runesOf x) : Nat) : Int) + ((delOf (runesOf s) (runesOf x) : Nat) : Int) = ((atOf (runesOf s) (runesOf x) + delOf (runesOf s) (runesOf x) : Nat) : Int) from by omega]
  simp only [Int.toNat_natCast, List.drop_zero, List.take_length]
  rw [decide_eq_true (by omega : (0 : Int) ≤ ((atOf (runesOf s) (runesOf x) : Nat) : Int)), decide_eq_true (by omega : ((atOf (runesOf s) (runesOf x) : Nat) : Int) ≤ ((runesOf s).length : Int)), decide_eq_true (by omega : (0 : Int) ≤ ((atOf (runesOf s) (runesOf x) + delOf (runesOf s) (runesOf x) : Nat) : Int)),
    decide_eq_true (by omega : ((atOf (runesOf s) (runesOf x) + delOf (runesOf s) (runesOf x) : Nat) : Int) ≤ ((runesOf s).length : Int)), decide_eq_true (by rw [hins]; omega), decide_eq_true (by rw [List.length_append, hins]; omega)]
  simp only [Bool.and_true, cond_true]
  rw [List.append_assoc, e]

/-- What is made of a text that may be. -/
theorem madeC_ok {s x : Str} (hx : mayOf x = true) (cur : Int) : madeC s x cur = ⟨(atOf (runesOf s) (runesOf x) : Nat), (delOf (runesOf s) (runesOf x) : Nat), insOf (runesOf s) (runesOf x), cur, [], false, 0⟩ := by
  unfold madeC; rw [hx]; rfl

end Go.Proofs.YtleoffdjdgbanaaDoor

set_option linter.unusedVariables false
set_option linter.unusedSimpArgs false
namespace Go.Proofs.YtleoffdjdgbanaaDoor
open Go Go.QA Go.Proofs

/-- A text whose rows from that of one offset to that of another one are shifted. -/
def shiftedOf (key : Int) (l : List Int) (low high : Nat) : List Int :=
  l.take (beginOf l low) ++ unsplit 10 (shiftN key (rowOf l high - rowOf l low + 1) (splitC 10 (l.drop (beginOf l low))))

theorem shiftedOf_scal (key : Int) {l : List Int} (h : scalL l) (low high : Nat) : scalL (shiftedOf key l low high) :=
  scalL_append.2 ⟨h.take _, scalL_unsplit (scalL_shiftN key _ (scalL_splitC (h.drop _)))⟩

theorem unsplit_shiftN_len (key : Int) (n : Nat) (l : List Int) : (unsplit 10 (shiftN key n (splitC 10 l))).length ≤ 4 * l.length + 3 := by
  have h1 := unsplit_length 10 (shiftN key n (splitC 10 l))
  have h2 := sum_shiftN key n (splitC 10 l)
  have h3 := sum_splitC l
  have h4 := splitC_length 10 l
  rw [shiftN_length] at h1
  omega

theorem shiftedOf_length (key : Int) (l : List Int) (low high : Nat) : (shiftedOf key l low high).length ≤ 5 * l.length + 3 := by
  unfold shiftedOf
  have := unsplit_shiftN_len key (rowOf l high - rowOf l low + 1) (l.drop (beginOf l low))
  rw [List.length_drop] at this
  rw [List.length_append, List.length_take]; omega

theorem begin_nl (l : List Int) : ∀ x, x ≤ l.length → beginOf l x = 0 ∨ l[beginOf l x - 1]? = some 10
  | 0, _ => .inl rfl
  | x + 1, h => by
    rw [beginOf]
    by_cases h2 : l.getD x 0 = 10
    · rw [if_pos h2]
      right
      rw [getD_at (by omega)] at h2
      rw [Nat.add_sub_cancel, List.getElem?_eq_getElem (by omega), h2]
    · rw [if_neg h2]; exact begin_nl l x (by omega)

theorem rowOf_mono (l : List Int) {x y : Nat} (h : x ≤ y) : rowOf l x ≤ rowOf l y := by
  unfold rowOf
  exact List.Sublist.countP_le (by
    rw [show l.take x = (l.take y).take x from by rw [List.take_take]; congr 1; omega]
    exact List.take_sublist _ _)

theorem splitC_count : ∀ l : List Int, (splitC 10 l).length = l.countP (· == 10) + 1
  | [] => rfl
  | x :: t => by
    have ih := splitC_count t
    rw [splitC]
    by_cases h : x = 10
    · rw [if_pos h, List.length_cons, ih, List.countP_cons_of_pos (by simpa using h)]
    · rw [if_neg h, List.countP_cons_of_neg (by simpa using h), ← ih]
      cases hs : splitC (10 : Int) t with
      | nil => exact absurd hs (splitC_ne _ _)
      | cons r rs => rfl

theorem rowOf_shifted (key : Int) (l : List Int) (low high : Nat) (h1 : low ≤ l.length) : rowOf (shiftedOf key l low high) (beginOf l low) = rowOf l low := by
  have hb := beginOf_le l low
  rw [← rowOf_begin l low h1]
  unfold shiftedOf rowOf
  rw [List.take_append_of_le_length (by rw [List.length_take]; omega), List.take_take, Nat.min_self]

theorem len_le_sum : ∀ (rs : List (List Int)) (r : List Int), r ∈ rs → r.length ≤ (rs.map List.length).sum
  | [], r, h => by cases h
  | s :: t, r, h => by
    rcases List.mem_cons.1 h with rfl | h
    · simp
    · have := len_le_sum t r h; simp; omega

theorem changeRows_eq {R : Type} (s : Str) (hs : s.length ≤ 1000000) (hv : Lib.validD s = true) (key : Int) (hk : key = 62 ∨ key = 60) (low high : Nat) (h1 : low ≤ high) (h2 : high ≤ (runesOf s).length) (b : Bool)
    (k : Int → Int → Str → Int → Str → Bool → Int → Option R) :
    changeRows_F s (runesOf s) (begins (runesOf s)) (low : Int) (high : Int) b key k =
      (madeC s (strOf (shiftedOf key (runesOf s) low high)) (restOf (shiftedOf key (runesOf s) low high) (firstOf (shiftedOf key (runesOf s) low high) (beginOf (runesOf s) low)) : Nat)).ap k := by
  have hle := runesOf_length_le s
  have hsc := runesOf_scal s
  have hstr := strOf_runesOf hv
  rw [changeRows_F_T]; unfold changeRows_T libSplit_F
  rw [splitL_one, decide_eq_true (by omega : s.length < 4294967281), decide_eq_true (by simp : 1 ≤ List.length ([10] : Str))]
  simp only [Bool.and_true, cond_true]
  have hsp := splitC_strOf hsc
  rw [hstr] at hsp
  generalize hl : runesOf s = l at *
  rw [hsp, MapRow_eq l l (by omega)]
  have hb := beginOf_le l low
  have hrm := rowOf_mono l h1
  have hrc : rowOf l high ≤ l.countP (· == 10) := by have := rowOf_le l high; rwa [nls_length] at this
  have hcount := splitC_count l
  have hlen := splitC_length (10 : Int) l
  have hat := splitC_at (10 : Int) l (beginOf l low) (by omega) (begin_nl l low (by omega))
  have hrb : (l.take (beginOf l low)).countP (· == 10) = rowOf l low := by rw [← rowOf_begin l low (by omega)]; rfl
  rw [hrb] at hat
  rw [changeRows_M4_eq]
  have hq3 : ∀ j, rowOf l low ≤ j → (((splitC 10 l).map strOf).getD j []).length ≤ 140737488355328 := by
    intro j _
    by_cases hj : j < (splitC 10 l).length
    · have e : ((splitC 10 l).map strOf).getD j [] = strOf (splitC 10 l)[j] := by simp [List.getD, hj]
      rw [e]
      have h3 := strOf_length_le (splitC 10 l)[j]
      have h4 : ((splitC 10 l)[j]).length ≤ ((splitC 10 l).map List.length).sum := len_le_sum _ _ (List.getElem_mem hj)
      have h5 := sum_splitC l
      omega
    · have e : ((splitC 10 l).map strOf).getD j [] = [] := by simp [List.getD, List.getElem?_eq_none (Nat.le_of_not_lt hj)]
      rw [e]; simp
  refine Eq.trans (changeRows_4 s l (by omega) key hk (rowOf l low : Nat) b high (low : Int) false [] 0 [] 0 0 _ 4611686018427387904 (rowOf l low) ((splitC 10 l).map strOf) (by rw [List.length_map]; omega) (by rw [List.length_map]; omega) hq3 (by omega) (by omega)) ?_
  have hgo := rowsGo_eq key (rowOf l high + 1 - rowOf l low) (((splitC 10 l).take (rowOf l low)).map strOf) (splitC 10 (l.drop (beginOf l low))) (scalL_splitC (hsc.drop _)) (by
    rw [← hat.1, List.length_drop]; omega)
  rw [← List.map_append, ← hat.1, List.take_append_drop, List.length_map, List.length_take, show min (rowOf l low) (splitC 10 l).length = rowOf l low from by omega, ← List.map_append] at hgo
  rw [hgo, hat.1]
  unfold libJoin_F
  rw [join_strOf, hat.2 _ (shiftN_ne key _ (splitC_ne _ _)), show rowOf l high + 1 - rowOf l low = rowOf l high - rowOf l low + 1 from by omega]
  have hy : l.take (beginOf l low) ++ unsplit 10 (shiftN key (rowOf l high - rowOf l low + 1) (splitC 10 (l.drop (beginOf l low)))) = shiftedOf key l low high := rfl
  rw [hy]
  have hys := shiftedOf_scal key hsc low high
  have hyl := shiftedOf_length key l low high
  have hyr := rowOf_shifted key l low high (by omega)
  have hyp : beginOf l low ≤ (shiftedOf key l low high).length := by
    unfold shiftedOf; rw [List.length_append, List.length_take]; omega
  have hxl := strOf_length_le (shiftedOf key l low high)
  rw [decide_eq_true (by rw [List.length_map, List.length_append, shiftN_length, List.length_take, ← hat.1, List.length_drop]; omega), decide_eq_true (by omega)]
  simp only [Bool.and_true, cond_true]
  rw [textOf_eq _ (by rw [runesOf_strOf hys]; omega), runesOf_strOf hys, ← hyr]
  rw [MapFirst_eq _ (by omega) (rune_of_scal hys) _ hyp, MapRest_eq _ (by omega) _ (firstOf_le _ _ hyp), changeMade_eq _ _ hs]

/-! ### the reference -/

/-- Behind the blanks, so many at most. -/
def skipTo (l : List Int) (e : Nat) : Nat → Nat → Nat
  | 0, x => x
  | m + 1, x => if x < e ∧ classOf (l.getD x 0) = 0 then skipTo l e m (x + 1) else x

theorem dropR_cut (l : List Int) {e x : Nat} (he : e ≤ l.length) : dropR ((l.take e).drop x) = (l.take e).drop (if x < e ∧ classOf (l.getD x 0) = 0 then x + 1 else x) := by
  by_cases h : x < e
  · have hx : x < (l.take e).length := by rw [List.length_take]; omega
    rw [List.drop_eq_getElem_cons hx, dropR, List.getElem_take, ← getD_at (by omega : x < l.length)]
    by_cases hc : classOf (l.getD x 0) = 0
    · rw [if_pos hc, if_pos ⟨h, hc⟩]
    · rw [if_neg hc, if_neg (fun e => hc e.2), List.drop_eq_getElem_cons hx, List.getElem_take, ← getD_at (by omega : x < l.length)]
  · rw [if_neg (fun e => h e.1), List.drop_eq_nil_of_le (by rw [List.length_take]; omega)]; rfl

theorem skip_two (l : List Int) {e x : Nat} (he : e ≤ l.length) : (l.take e).drop (skipTo l e 2 x) = dropR (dropR ((l.take e).drop x)) := by
  rw [dropR_cut l he, dropR_cut l he]
  congr 1
  by_cases h : x < e ∧ classOf (l.getD x 0) = 0
  · rw [if_pos h, skipTo, if_pos h, skipTo]
    split <;> rfl
  · rw [if_neg h, skipTo, if_neg h, if_neg h]

theorem skipTo_le (l : List Int) (e : Nat) : ∀ m x, x ≤ e → skipTo l e m x ≤ e ∧ x ≤ skipTo l e m x
  | 0, x, h => ⟨h, Nat.le_refl _⟩
  | m + 1, x, h => by
    rw [skipTo]
    split
    · rename_i h2
      have := skipTo_le l e m (x + 1) h2.1
      omega
    · omega

theorem refShifted_6 {R : Type} (s23 : Str) (l : List Int) (hl : l.length < 1099511627776) (hr : ∀ r ∈ l, isRune r) (x25 : Int) (s26 : Str) (at' e : Nat) (he : e ≤ l.length) (b30 : Bool) (x31 x32 : Int) (b33 : Bool) (s34 : Str) (x35 : Int) (s36 : Str) (x37 x38 : Int)
    (ke0 : Str → List Int → Int → Str → Int → Int → Bool → Int → Int → Bool → Str → Int → Str → Int → Int → Option R) : ∀ (n x : Nat), at' ≤ x → x ≤ e → x ≤ at' + 2 → at' + 2 < n + x →
      refShifted_L6 n s23 l x25 s26 (at' : Int) (e : Int) (x : Int) b30 x31 x32 b33 s34 x35 s36 x37 x38 ke0 = ke0 s23 l x25 s26 (e : Int) (skipTo l e (at' + 2 - x) x : Nat) b30 x31 x32 b33 s34 x35 s36 x37 x38 := by
  intro n
  induction n with
  | zero => intro x h1 h2 h3 h4; omega
  | succ n ih =>
    intro x h1 h2 h3 h4
    simp only [refShifted_L6, refShifted_B6]
    rw [wrap64 (x := (at' : Int) + 2) (by omega) (by omega)]
    by_cases h : x < e
    · rw [decide_eq_true (by omega : (x : Int) < (e : Int)), cond_true]
      by_cases h5 : x < at' + 2
      · rw [decide_eq_true (by omega : (x : Int) < (at' : Int) + 2), decide_eq_true (by omega : (0 : Int) ≤ (x : Int)), decide_eq_true (by omega : (x : Int) < (l.length : Int))]
        simp only [Bool.and_true, cond_true, Int.toNat_natCast, runeWrap hr]
        rw [refClass_eq, show at' + 2 - x = (at' + 2 - (x + 1)) + 1 from by omega, skipTo]
        by_cases hc : classOf (l.getD x 0) = 0
        · rw [hc, beq_self_eq_true, cond_true, if_pos ⟨h, rfl⟩, wrap64 (by omega) (by omega)]
          exact ih (x + 1) (by omega) (by omega) (by omega) (by omega)
        · rw [show (classOf (l.getD x 0) == 0) = false from by simpa using hc, cond_false, if_neg (fun e => hc e.2)]
      · rw [decide_eq_false (by omega : ¬ (x : Int) < (at' : Int) + 2), show at' + 2 - x = 0 from by omega]; rfl
    · rw [decide_eq_false (by omega : ¬ (x : Int) < (e : Int)), cond_false]
      congr 1
      cases at' + 2 - x with
      | zero => rfl
      | succ m => rw [skipTo, if_neg (fun e => h e.1)]

theorem splitC_row (l : List Int) : ∀ (d x : Nat), l.length - x = d → x ≤ l.length →
    splitC 10 (l.drop x) = (l.take (endOf l x)).drop x :: (if endOf l x < l.length then splitC 10 (l.drop (endOf l x + 1)) else []) := by
  intro d
  induction d with
  | zero =>
    intro x hd hx
    rw [endOf_over (by omega), if_neg (by omega), List.drop_eq_nil_of_le (by omega), List.drop_eq_nil_of_le (by rw [List.length_take]; omega)]; rfl
  | succ d ih =>
    intro x hd hx
    have hx' : x < l.length := by omega
    by_cases h2 : l.getD x 0 = 10
    · rw [endOf_hit hx' h2, if_pos hx', List.drop_eq_getElem_cons hx']
      rw [getD_at hx'] at h2
      rw [splitC, if_pos h2, show (l.take x).drop x = [] from List.drop_eq_nil_of_le (by rw [List.length_take]; omega)]
    · have hge := endOf_ge l (x + 1)
      rw [endOf_miss hx' h2, List.drop_eq_getElem_cons hx']
      rw [getD_at hx'] at h2
      rw [splitC, if_neg h2, ih (x + 1) (by omega) (by omega), consHead]
      congr 1
      have hx2 : x < (l.take (endOf l (x + 1))).length := by rw [List.length_take]; omega
      rw [List.drop_eq_getElem_cons hx2, List.getElem_take]

theorem rowOf_same (l : List Int) : ∀ (d x y : Nat), y - x = d → x ≤ y → y ≤ endOf l x → y ≤ l.length → rowOf l y = rowOf l x := by
  intro d
  induction d with
  | zero => intro x y h1 h2 h3 h4; rw [show y = x from by omega]
  | succ d ih =>
    intro x y h1 h2 h3 h4
    have hx : x < l.length := by omega
    by_cases h5 : l.getD x 0 = 10
    · rw [endOf_hit hx h5] at h3; omega
    · rw [endOf_miss hx h5] at h3
      rw [ih (x + 1) y (by omega) (by omega) h3 h4, rowOf_succ hx, if_neg h5]; rfl

theorem rowOf_next (l : List Int) {x : Nat} (hx : x ≤ l.length) (h : endOf l x < l.length) : rowOf l (endOf l x + 1) = rowOf l x + 1 := by
  rw [rowOf_succ h, if_pos (endOf_nl l _ x rfl h), rowOf_same l _ x (endOf l x) rfl (endOf_ge l x) (Nat.le_refl _) (by omega)]

theorem refShifted_3 {R : Type} (s8 : Str) (l : List Int) (hl : l.length < 1000000000) (hsc : scalL l) (key : Int) (hk : key = 62 ∨ key = 60) (b13 : Bool) (high : Nat) (hh : high ≤ l.length) (x15 : Int) (b16 : Bool) (s17 : Str) (x18 : Int) (s19 : Str) (x20 x21 : Int)
    (ke0 : Str → List Int → Str → Bool → Int → Int → Bool → Str → Int → Str → Int → Int → Option R) : ∀ (n at' : Nat) (x : Str), at' ≤ high → l.length + 1 < n + at' → x.length + 10 * (l.length - at') ≤ 1000000000000 →
      refShifted_L3 n s8 l key x (at' : Int) b13 (high : Int) x15 b16 s17 x18 s19 x20 x21 ke0 =
        ke0 s8 l (x ++ strOf (unsplit 10 (shiftN key (rowOf l high - rowOf l at' + 1) (splitC 10 (l.drop at'))))) b13 (high : Int) x15 b16 s17 x18 s19 x20 x21 := by
  intro n
  induction n with
  | zero => intro at' x h1 h2; omega
  | succ n ih =>
    intro at' x h1 h2 h3
    simp only [refShifted_L3, refShifted_B3]
    rw [refEnd_eq l (by omega)]
    have hge := endOf_ge l at'
    have hle := endOf_le l at' (by omega)
    have hrow := splitC_row l _ at' rfl (by omega)
    have hrl : ((l.take (endOf l at')).drop at').length = endOf l at' - at' := by rw [List.length_drop, List.length_take]; omega
    generalize he : endOf l at' = e at *
    generalize hr : (l.take e).drop at' = r at *
    have hsl := strOf_length_le (shiftR key r)
    have hsl2 := shiftR_len key r
    have hsl3 := strOf_length_le (l.drop e)
    rw [List.length_drop] at hsl3
    -- behind the row
    have tail : ∀ X : Str, X = x ++ strOf (shiftR key r) →
        (bif (Decidable.decide ((e : Int) ≥ (high : Int))) then
          (bif (Decidable.decide ((0 : Int) ≤ (e : Int)) && Decidable.decide ((e : Int) ≤ (↑(List.length l) : Int))) then
           (bif (Decidable.decide (List.length X + List.length (strOf (List.drop (Int.toNat (e : Int)) (List.take (List.length l) l))) ≤ (9223372036854775807 : Nat))) then
            ke0 s8 l (X ++ strOf (List.drop (Int.toNat (e : Int)) (List.take (List.length l) l))) b13 (high : Int) x15 b16 s17 x18 s19 x20 x21
           else none)
          else none)
         else
          (bif (Decidable.decide (List.length X + List.length [(10 : UInt8)] ≤ (9223372036854775807 : Nat))) then
           refShifted_L3 n s8 l key (X ++ [(10 : UInt8)]) (Go.IntKind.wrap Go.IntKind.i64 ((e : Int) + (1 : Int))) b13 (high : Int) x15 b16 s17 x18 s19 x20 x21 ke0
          else none)) =
        ke0 s8 l (x ++ strOf (unsplit 10 (shiftN key (rowOf l high - rowOf l at' + 1) (splitC 10 (l.drop at'))))) b13 (high : Int) x15 b16 s17 x18 s19 x20 x21 := by
      intro X hX
      have hXl : X.length ≤ x.length + 4 * (e - at' + 2) := by rw [hX, List.length_append]; omega
      rw [hrow]
      by_cases hend : high ≤ e
      · rw [decide_eq_true (by omega : (e : Int) ≥ (high : Int)), cond_true, decide_eq_true (by omega : (0 : Int) ≤ (e : Int)), decide_eq_true (by omega : (e : Int) ≤ (l.length : Int))]
        simp only [Bool.and_true, cond_true, Int.toNat_natCast, List.take_length]
        rw [decide_eq_true (by omega), cond_true]
        have hrr : rowOf l high = rowOf l at' := rowOf_same l _ at' high rfl h1 (by rw [he]; exact hend) hh
        rw [hrr, Nat.sub_self, Nat.zero_add, shiftN, shiftN]
        congr 1
        rw [hX, List.append_assoc, ← strOf_append]
        congr 2
        by_cases hlt : e < l.length
        · rw [if_pos hlt, unsplit_cons _ _ (splitC_ne _ _), unsplit_splitC, List.drop_eq_getElem_cons hlt]
          have := endOf_nl l _ at' rfl (by rw [he]; exact hlt)
          rw [he, getD_at hlt] at this
          rw [this]
        · rw [if_neg hlt, List.drop_eq_nil_of_le (by omega), List.append_nil]; rfl
      · have hlt : e < l.length := by omega
        rw [decide_eq_false (by omega : ¬ (e : Int) ≥ (high : Int)), cond_false, decide_eq_true (by simp only [List.length_cons, List.length_nil]; omega), cond_true, wrap64 (by omega) (by omega), if_pos hlt]
        have hrn : rowOf l (e + 1) = rowOf l at' + 1 := by rw [← he]; exact rowOf_next l (by omega) (by rw [he]; exact hlt)
        have hrm := rowOf_mono l (show e + 1 ≤ high by omega)
        have := ih (e + 1) (X ++ [10]) (by omega) (by omega) (by simp only [List.length_append, List.length_cons, List.length_nil]; omega)
        refine this.trans ?_
        rw [show rowOf l high - rowOf l at' + 1 = (rowOf l high - rowOf l (e + 1) + 1) + 1 from by omega, shiftN, unsplit_cons _ _ (shiftN_ne key _ (splitC_ne _ _)), strOf_append, strOf_cons, enc_10, hX]
        simp only [List.append_assoc]
    rcases hk with rfl | rfl
    · simp only [show ((62 : Int) == 60) = false from rfl, cond_false]
      by_cases hgt : at' < e
      · have hrn : r ≠ [] := by intro e0; rw [e0] at hrl; simp at hrl; omega
        have hsr : strOf (shiftR 62 r) = [32, 32] ++ strOf r := by
          rw [shiftR, if_neg hrn, if_pos rfl, strOf_cons, strOf_cons, enc_32]; rfl
        have hsrl := strOf_length_le r
        rw [decide_eq_true (by omega : (e : Int) > (at' : Int)), decide_eq_true (by omega : (0 : Int) ≤ (e : Int)), decide_eq_true (by omega : (e : Int) ≤ (l.length : Int)), decide_eq_true (by omega : (0 : Int) ≤ (at' : Int))]
        simp only [Int.toNat_natCast, Bool.and_true, cond_true]
        simp only [hr]
        rw [decide_eq_true (by omega : (at' : Int) ≤ (e : Int)), decide_eq_true (by simp only [List.length_cons, List.length_nil]; omega), decide_eq_true (by simp only [List.length_append, List.length_cons, List.length_nil]; omega)]
        simp only [cond_true]
        have := tail (x ++ [32, 32] ++ strOf r) (by rw [hsr, List.append_assoc])
        simp only [Int.toNat_natCast] at this
        rw [decide_eq_true (by omega : (0 : Int) ≤ (e : Int)), decide_eq_true (by omega : (e : Int) ≤ (l.length : Int))] at this
        simpa using this
      · have hrn : r = [] := List.length_eq_zero_iff.1 (by rw [hrl]; omega)
        have hsr : strOf (shiftR 62 r) = strOf r := by rw [hrn]; rfl
        rw [decide_eq_false (by omega : ¬ (e : Int) > (at' : Int)), decide_eq_true (by omega : (0 : Int) ≤ (e : Int)), decide_eq_true (by omega : (e : Int) ≤ (l.length : Int)), decide_eq_true (by omega : (0 : Int) ≤ (at' : Int))]
        simp only [Int.toNat_natCast, Bool.and_true, cond_true, cond_false]
        simp only [hr]
        rw [decide_eq_true (by omega : (at' : Int) ≤ (e : Int)), decide_eq_true (by rw [hrn, strOf_nil]; simp only [List.length_nil]; omega)]
        simp only [cond_true]
        have := tail (x ++ strOf r) (by rw [hsr])
        simp only [Int.toNat_natCast] at this
        rw [decide_eq_true (by omega : (0 : Int) ≤ (e : Int)), decide_eq_true (by omega : (e : Int) ≤ (l.length : Int))] at this
        simpa using this
    · simp only [beq_self_eq_true, cond_true]
      rw [refShifted_M6_eq]
      refine (refShifted_6 s8 l (by omega) (rune_of_scal hsc) 60 x at' e (by omega) b13 (high : Int) x15 b16 s17 x18 s19 x20 x21 _ 4611686018427387904 at' (Nat.le_refl _) (by omega) (by omega) (by omega)).trans ?_
      rw [Nat.add_sub_cancel_left]
      have hsk := skipTo_le l e 2 at' (by omega)
      have hsr : strOf ((l.take e).drop (skipTo l e 2 at')) = strOf (shiftR 60 r) := by
        rw [skip_two l (by omega), hr]
        by_cases hrn : r = []
        · rw [hrn]; rfl
        · rw [shiftR, if_neg hrn, if_neg (by decide)]
      rw [decide_eq_true (by omega : (0 : Int) ≤ (e : Int)), decide_eq_true (by omega : (e : Int) ≤ (l.length : Int)), decide_eq_true (by omega : (0 : Int) ≤ ((skipTo l e 2 at' : Nat) : Int))]
      simp only [Int.toNat_natCast, Bool.and_true, cond_true]
      simp only [hsr]
      rw [decide_eq_true (by omega : ((skipTo l e 2 at' : Nat) : Int) ≤ (e : Int)), decide_eq_true (by omega)]
      simp only [cond_true]
      have := tail (x ++ strOf (shiftR 60 r)) rfl
      simp only [Int.toNat_natCast] at this
      rw [decide_eq_true (by omega : (0 : Int) ≤ (e : Int)), decide_eq_true (by omega : (e : Int) ≤ (l.length : Int))] at this
      simpa using this

end Go.Proofs.YtleoffdjdgbanaaDoor

set_option linter.unusedVariables false
set_option linter.unusedSimpArgs false
namespace Go.Proofs.YtleoffdjdgbanaaDoor
open Go Go.QA Go.Proofs

theorem refShifted_eq {R : Type} (s : Str) (hs : s.length ≤ 1000000) (l : List Int) (hl : l.length < 1000000) (hsc : scalL l) (key : Int) (hk : key = 62 ∨ key = 60) (low high : Nat) (h1 : low ≤ high) (h2 : high ≤ l.length) (b : Bool)
    (k : Int → Int → Str → Int → Str → Bool → Int → Option R) :
    refShifted_F s l (low : Int) (high : Int) b key k =
      (madeC s (strOf (shiftedOf key l low high)) (restOf (shiftedOf key l low high) (firstOf (shiftedOf key l low high) (beginOf l low)) : Nat)).ap k := by
  have hb := beginOf_le l low
  have hys := shiftedOf_scal key hsc low high
  have hyl := shiftedOf_length key l low high
  have hyp : beginOf l low ≤ (shiftedOf key l low high).length := by
    unfold shiftedOf; rw [List.length_append, List.length_take]; omega
  have hsl := strOf_length_le (l.take (beginOf l low))
  rw [List.length_take] at hsl
  rw [refShifted_F_T]; unfold refShifted_T
  rw [refBegin_eq l (by omega) low (by omega), decide_eq_true (by omega : (0 : Int) ≤ ((beginOf l low : Nat) : Int)), decide_eq_true (by omega : ((beginOf l low : Nat) : Int) ≤ (l.length : Int))]
  simp only [Bool.and_true, cond_true, Int.toNat_natCast, List.drop_zero]
  rw [refBegin_eq l (by omega) low (by omega), refShifted_M3_eq]
  refine (refShifted_3 s l (by omega) hsc key hk b high h2 (low : Int) false [] 0 [] 0 0 _ 4611686018427387904 (beginOf l low) _ (by omega) (by omega) (by omega)).trans ?_
  rw [← strOf_append, show rowOf l (beginOf l low) = rowOf l low from rowOf_begin l low (by omega)]
  have hy : l.take (beginOf l low) ++ unsplit 10 (shiftN key (rowOf l high - rowOf l low + 1) (splitC 10 (l.drop (beginOf l low)))) = shiftedOf key l low high := rfl
  rw [hy, refMay1_eq]
  cases hm : mayOf (strOf (shiftedOf key l low high)) with
  | false =>
    simp only [Bool.not_false, cond_true]
    unfold madeC
    rw [hm]; rfl
  | true =>
    simp only [Bool.not_true, cond_false]
    rw [refBegin_eq l (by omega) low (by omega), refTidy_eq _ (by rw [runesOf_strOf hys]; omega) _ (by rw [runesOf_strOf hys]; exact hyp), made18_eq _ _ hs, runesOf_strOf hys]

theorem agreeKey_shift (key : Int) (hk : key = 62 ∨ key = 60) : AgreeKey key := by
  intro s x y b at' h1 h2 h3 h4
  have hlen := mayOf_len h1
  have hle := runesOf_length_le s
  obtain ⟨hr1, hr2, hr3, hr4⟩ := rangeB_iff.1 h2
  obtain ⟨low, rfl⟩ : ∃ n : Nat, x = (n : Int) := ⟨x.toNat, by omega⟩
  obtain ⟨high, rfl⟩ : ∃ n : Nat, y = (n : Int) := ⟨y.toNat, by omega⟩
  obtain ⟨at', rfl, h5⟩ := isB_nat h4
  have e1 : (key == 121) = false := by rcases hk with rfl | rfl <;> rfl
  have e2 : (key == 100) = false := by rcases hk with rfl | rfl <;> rfl
  have e3 : (key == 99) = false := by rcases hk with rfl | rfl <;> rfl
  have e4 : ∀ (R : Type) (a b : Option R), (bif (key == (62 : Int)) then a else (bif (key == (60 : Int)) then a else b)) = a := by
    intro R a b
    rcases hk with rfl | rfl <;> rfl
  refine ⟨madeC s (strOf (shiftedOf key (runesOf s) low high)) (restOf (shiftedOf key (runesOf s) low high) (firstOf (shiftedOf key (runesOf s) low high) (beginOf (runesOf s) low)) : Nat), fun R k => ?_, fun R k => ?_⟩
  · rw [refChange_head s h1 low high b _ at' h2 h5, e1, e2, e3]
    simp only [cond_false]
    rw [e4, refShifted_eq s (by omega) _ (by omega) (runesOf_scal s) key hk low high (by omega) (by omega)]
  · rw [changeOf_head s h1 low high b _ at' h2 h3 h5, e1, e2, e3]
    simp only [cond_false]
    rw [e4, changeRows_eq s (by omega) (mayOf_valid h1) key hk low high (by omega) (by omega), fix_made]

theorem ChangeShifts_true {R : Type} (q : List Str) (hq : Sized q) (x1 x2 x3 x4 x5 x6 x7 : Int) (k : Bool → Option R) : ChangeShifts_F q x1 x2 x3 x4 x5 x6 x7 k = k true := by
  rw [ChangeShifts_F_T]; unfold ChangeShifts_T
  exact changes18_true q hq _ _ _ _ _ _ _ _ (by simp) (by intro key h; simp at h; exact agreeKey_shift _ (by omega)) _

theorem OperRight_true {R : Type} (q : List Str) (hq : Sized q) (x1 x2 x3 x4 x5 x6 x7 : Int) (k : Bool → Option R) : OperRight_F q x1 x2 x3 x4 x5 x6 x7 k = k true := by
  rw [OperRight_F_T]; unfold OperRight_T
  exact changes18_true q hq _ _ _ _ _ _ _ _ (by simp) (by intro key h; simp at h; subst h; exact agreeKey_shift _ (by omega)) _

theorem OperLeft_true {R : Type} (q : List Str) (hq : Sized q) (x1 x2 x3 x4 x5 x6 x7 : Int) (k : Bool → Option R) : OperLeft_F q x1 x2 x3 x4 x5 x6 x7 k = k true := by
  rw [OperLeft_F_T]; unfold OperLeft_T
  exact changes18_true q hq _ _ _ _ _ _ _ _ (by simp) (by intro key h; simp at h; subst h; exact agreeKey_shift _ (by omega)) _

end Go.Proofs.YtleoffdjdgbanaaDoor

set_option linter.unusedVariables false
set_option linter.unusedSimpArgs false
namespace Go.Proofs.YtleoffdjdgbanaaDoor
open Go Go.QA Go.Proofs

/-! ### letters -/

theorem getD_set {l : List Int} {i j : Nat} {v : Int} : (l.set i v).getD j 0 = if i = j ∧ i < l.length then v else l.getD j 0 := by
  simp only [List.getD, List.getElem?_set]
  by_cases h : i = j
  · subst h
    by_cases h2 : i < l.length
    · simp [h2]
    · simp [h2]
  · simp [h]

theorem turnGo_getD (key : Int) : ∀ (n i j : Nat) (l : List Int), i + n ≤ l.length → (turnGo key n i l).getD j 0 = if i ≤ j ∧ j < i + n then turnOf key (l.getD j 0) else l.getD j 0
  | 0, i, j, l, _ => by rw [turnGo, if_neg (by omega)]
  | n + 1, i, j, l, h => by
    rw [turnGo, turnGo_getD key n (i + 1) j _ (by simp; omega), getD_set]
    by_cases h1 : i = j
    · subst h1
      rw [if_neg (by omega), if_pos ⟨rfl, by omega⟩, if_pos (by omega)]
    · rw [if_neg (show ¬ (i = j ∧ i < l.length) from fun e => h1 e.1)]
      by_cases h2 : i + 1 ≤ j ∧ j < i + 1 + n
      · rw [if_pos h2, if_pos (by omega)]
      · rw [if_neg h2, if_neg (by omega)]

theorem ext_getD {l m : List Int} (h : l.length = m.length) (h2 : ∀ j, l.getD j 0 = m.getD j 0) : l = m := by
  apply List.ext_getElem h
  intro i h3 h4
  have := h2 i
  rwa [getD_at h3, getD_at h4] at this

theorem turnOf_twice (x : Int) : turnOf 126 (turnOf 126 x) = x := by
  unfold turnOf
  repeat' split
  all_goals omega

theorem turnGo_twice (n i : Nat) (l : List Int) (h : i + n ≤ l.length) : turnGo 126 n i (turnGo 126 n i l) = l := by
  apply ext_getD (by rw [turnGo_length, turnGo_length])
  intro j
  rw [turnGo_getD 126 n i j _ (by rw [turnGo_length]; exact h), turnGo_getD 126 n i j l h]
  split
  · exact turnOf_twice _
  · rfl

theorem turnOf_10 (key x : Int) : turnOf key x = 10 ↔ x = 10 := by
  unfold turnOf
  repeat' split
  all_goals omega

theorem turnOf_0 (key x : Int) : turnOf key x = 0 ↔ x = 0 := by
  unfold turnOf
  repeat' split
  all_goals omega

theorem enc_turn (key : Int) {x : Int} (h : scal x) : (enc (turnOf key x)).length = (enc x).length := by
  unfold turnOf
  have low : ∀ y : Int, 0 ≤ y → y < 128 → (enc y).length = 1 := by
    intro y h1 h2
    obtain ⟨n, rfl⟩ : ∃ n : Nat, y = (n : Int) := ⟨y.toNat, by omega⟩
    rw [enc_one (by omega)]; rfl
  split
  · rw [low _ (by omega) (by omega), low _ (by omega) (by omega)]
  · split
    · rw [low _ (by omega) (by omega), low _ (by omega) (by omega)]
    · rfl

theorem strOf_set_len : ∀ (l : List Int) (i : Nat) (v : Int), i < l.length → (enc v).length = (enc (l.getD i 0)).length → (strOf (l.set i v)).length = (strOf l).length
  | [], i, v, h, _ => by simp at h
  | x :: t, 0, v, _, h => by
    rw [List.set_cons_zero, strOf_cons, strOf_cons, List.length_append, List.length_append, h]; rfl
  | x :: t, i + 1, v, h, h2 => by
    rw [List.set_cons_succ, strOf_cons, strOf_cons, List.length_append, List.length_append, strOf_set_len t i v (by simpa using h) (by simpa using h2)]

theorem turnGo_bytes (key : Int) : ∀ (n i : Nat) (l : List Int), i + n ≤ l.length → scalL l → (strOf (turnGo key n i l)).length = (strOf l).length
  | 0, _, _, _, _ => rfl
  | n + 1, i, l, h, hs => by
    have hg := getD_scal hs (i := i) (by omega)
    rw [turnGo, turnGo_bytes key n (i + 1) _ (by simp; omega) (set_all hs (turnOf_scal hg)), strOf_set_len l i _ (by omega) (enc_turn key hg)]

theorem turnGo_zero (key : Int) (n i : Nat) (l : List Int) (h : i + n ≤ l.length) (hz : (0 : Int) ∉ l) : (0 : Int) ∉ turnGo key n i l := by
  intro hm
  obtain ⟨j, hj, he⟩ := List.getElem_of_mem hm
  have h1 := turnGo_getD key n i j l h
  have hj2 : j < l.length := by rwa [turnGo_length] at hj
  rw [getD_at hj, he, getD_at hj2] at h1
  split at h1
  · exact hz (((turnOf_0 key _).1 h1.symm) ▸ List.getElem_mem hj2)
  · exact hz (h1 ▸ List.getElem_mem hj2)

/-- Newlines at the same places: rows begin and end at the same places. -/
theorem beginOf_same {l m : List Int} (h : ∀ j, l.getD j 0 = 10 ↔ m.getD j 0 = 10) : ∀ x, beginOf l x = beginOf m x
  | 0 => rfl
  | x + 1 => by
    rw [beginOf, beginOf, beginOf_same h x]
    by_cases h2 : l.getD x 0 = 10
    · rw [if_pos h2, if_pos ((h x).1 h2)]
    · rw [if_neg h2, if_neg (fun e => h2 ((h x).2 e))]

theorem endOf_same {l m : List Int} (hl : l.length = m.length) (h : ∀ j, l.getD j 0 = 10 ↔ m.getD j 0 = 10) : ∀ (d x : Nat), l.length - x = d → endOf l x = endOf m x := by
  intro d
  induction d with
  | zero => intro x hd; rw [endOf_over (by omega), endOf_over (by omega)]
  | succ d ih =>
    intro x hd
    by_cases h2 : l.getD x 0 = 10
    · rw [endOf_hit (by omega) h2, endOf_hit (by omega) ((h x).1 h2)]
    · rw [endOf_miss (by omega) h2, endOf_miss (by omega) (fun e => h2 ((h x).2 e)), ih (x + 1) (by omega)]

theorem rangeB_same {l m : List Int} (hl : l.length = m.length) (h : ∀ j, l.getD j 0 = 10 ↔ m.getD j 0 = 10) (x y : Int) (b : Bool) : rangeB l x y b = rangeB m x y b := by
  unfold rangeB
  rw [beginOf_same h, endOf_same hl h _ _ rfl, hl]

/-! ### rows -/

/-- What holds of each rune holds behind the cut, and behind the putting together. -/
theorem all_splitC {p : Int → Prop} : ∀ {l : List Int}, (∀ x ∈ l, p x) → ∀ r ∈ splitC 10 l, ∀ x ∈ r, p x
  | [], _, r, h => by simp [splitC] at h; subst h; intro x hx; cases hx
  | y :: t, hl, r, h => by
    have ih := fun r h => all_splitC (l := t) (fun x hx => hl x (List.mem_cons_of_mem _ hx)) r h
    rw [splitC] at h
    split at h
    · rcases List.mem_cons.1 h with rfl | h
      · intro x hx; cases hx
      · exact ih r h
    · cases hs : splitC (10 : Int) t with
      | nil => exact absurd hs (splitC_ne _ _)
      | cons s ss =>
        rw [hs] at h ih
        rw [consHead] at h
        rcases List.mem_cons.1 h with rfl | h
        · intro x hx
          rcases List.mem_cons.1 hx with rfl | hx
          · exact hl _ (List.mem_cons_self ..)
          · exact ih s (List.mem_cons_self ..) x hx
        · exact ih r (List.mem_cons_of_mem _ h)

theorem all_unsplit {p : Int → Prop} (h10 : p 10) : ∀ {rs : List (List Int)}, (∀ r ∈ rs, ∀ x ∈ r, p x) → ∀ x ∈ unsplit 10 rs, p x
  | [], _, x, hx => by cases hx
  | [r], h, x, hx => h r (List.mem_cons_self ..) x hx
  | r :: s :: t, h, x, hx => by
    rw [unsplit] at hx
    rcases List.mem_append.1 hx with hx | hx
    · exact h r (List.mem_cons_self ..) x hx
    · rcases List.mem_cons.1 hx with rfl | hx
      · exact h10
      · exact all_unsplit h10 (fun r hr => h r (List.mem_cons_of_mem _ hr)) x hx

theorem all_dropR {p : Int → Prop} {r : List Int} (h : ∀ x ∈ r, p x) : ∀ x ∈ dropR r, p x := by
  cases r with
  | nil => exact h
  | cons y t =>
    rw [dropR]
    split
    · exact fun x hx => h x (List.mem_cons_of_mem _ hx)
    · exact h

theorem all_shiftR {p : Int → Prop} (h32 : p 32) (key : Int) {r : List Int} (h : ∀ x ∈ r, p x) : ∀ x ∈ shiftR key r, p x := by
  unfold shiftR
  split
  · intro x hx; cases hx
  · split
    · intro x hx
      rcases List.mem_cons.1 hx with rfl | hx
      · exact h32
      · rcases List.mem_cons.1 hx with rfl | hx
        · exact h32
        · exact h x hx
    · exact all_dropR (all_dropR h)

theorem all_shiftN {p : Int → Prop} (h32 : p 32) (key : Int) : ∀ (n : Nat) {rs : List (List Int)}, (∀ r ∈ rs, ∀ x ∈ r, p x) → ∀ r ∈ shiftN key n rs, ∀ x ∈ r, p x
  | 0, _, h => h
  | _ + 1, [], h => h
  | n + 1, r :: rs, h => by
    intro s hs
    rw [shiftN] at hs
    rcases List.mem_cons.1 hs with rfl | hs
    · exact all_shiftR h32 key (h r (List.mem_cons_self ..))
    · exact all_shiftN h32 key n (fun y hy => h y (List.mem_cons_of_mem _ hy)) s hs

theorem all_shiftedOf {p : Int → Prop} (h32 : p 32) (h10 : p 10) (key : Int) {l : List Int} (h : ∀ x ∈ l, p x) (low high : Nat) : ∀ x ∈ shiftedOf key l low high, p x := by
  intro x hx
  unfold shiftedOf at hx
  rcases List.mem_append.1 hx with hx | hx
  · exact h x (List.mem_of_mem_take hx)
  · exact all_unsplit h10 (all_shiftN h32 key _ (all_splitC fun y hy => h y (List.mem_of_mem_drop hy))) x hx

theorem dropR_bytes (r : List Int) : (strOf (dropR r)).length ≤ (strOf r).length := by
  cases r with
  | nil => exact Nat.le_refl _
  | cons y t =>
    rw [dropR]
    split
    · rw [strOf_cons, List.length_append]; omega
    · exact Nat.le_refl _

theorem shiftR_bytes (key : Int) (r : List Int) : (strOf (shiftR key r)).length ≤ (strOf r).length + 2 := by
  unfold shiftR
  split
  · simp [strOf_nil]
  · split
    · rw [strOf_cons, strOf_cons, enc_32]; simp
    · have := dropR_bytes r; have := dropR_bytes (dropR r); omega

theorem shiftN_bytes (key : Int) : ∀ (n : Nat) (rs : List (List Int)), (strOf (unsplit 10 (shiftN key n rs))).length ≤ (strOf (unsplit 10 rs)).length + 2 * rs.length
  | 0, rs => by rw [shiftN]; omega
  | _ + 1, [] => by simp [shiftN]
  | n + 1, [r] => by
    have := shiftR_bytes key r
    cases n <;> simp [shiftN, unsplit] <;> omega
  | n + 1, r :: s :: t => by
    have ih := shiftN_bytes key n (s :: t)
    have := shiftR_bytes key r
    rw [shiftN, unsplit_cons _ _ (shiftN_ne key n (by simp)), unsplit_cons _ _ (show s :: t ≠ [] by simp), strOf_append, strOf_append, strOf_cons, strOf_cons]
    simp only [List.length_append, List.length_cons] at ih ⊢
    omega

theorem shiftedOf_bytes (key : Int) (l : List Int) (low high : Nat) : (strOf (shiftedOf key l low high)).length ≤ (strOf l).length + 2 * (l.length + 1) := by
  unfold shiftedOf
  have h1 := shiftN_bytes key (rowOf l high - rowOf l low + 1) (splitC 10 (l.drop (beginOf l low)))
  have h2 := splitC_length (10 : Int) (l.drop (beginOf l low))
  rw [unsplit_splitC] at h1
  rw [List.length_drop] at h2
  have e := congrArg (fun z => (strOf z).length) (List.take_append_drop (beginOf l low) l)
  simp only [strOf_append, List.length_append] at e ⊢
  omega

theorem mayOf_shifted (key : Int) {s : Str} (hs : mayOf s = true) (hl : s.length ≤ 1000) (low high : Nat) : mayOf (strOf (shiftedOf key (runesOf s) low high)) = true := by
  have hv := strOf_runesOf (mayOf_valid hs)
  have h1 := shiftedOf_bytes key (runesOf s) low high
  have h2 := runesOf_length_le s
  rw [hv] at h1
  rw [mayOf_iff (shiftedOf_scal key (runesOf_scal s) low high)]
  refine ⟨by omega, fun hz => ?_⟩
  exact (all_shiftedOf (p := fun x => x ≠ 0) (by decide) (by decide) key (fun x hx e => mayOf_runes hs (e ▸ hx)) low high) 0 hz rfl

/-- Cut and put together, where no part has a newline. -/
theorem splitC_unsplit : ∀ (rs : List (List Int)), rs ≠ [] → (∀ r ∈ rs, (10 : Int) ∉ r) → splitC 10 (unsplit 10 rs) = rs
  | [], h, _ => absurd rfl h
  | [r], _, h => by
    rw [unsplit]
    have := splitC_app (10 : Int) r (fun b hb e => h r (List.mem_cons_self ..) (e ▸ hb)) [] [] [] rfl
    simpa using this
  | r :: s :: t, _, h => by
    have ih := splitC_unsplit (s :: t) (by simp) (fun x hx => h x (List.mem_cons_of_mem _ hx))
    rw [unsplit]
    have := splitC_app (10 : Int) r (fun b hb e => h r (List.mem_cons_self ..) (e ▸ hb)) (10 :: unsplit 10 (s :: t)) [] (s :: t) (by rw [splitC, if_pos rfl, ih])
    simpa using this

theorem splitC_no10 : ∀ (l : List Int), ∀ r ∈ splitC 10 l, (10 : Int) ∉ r
  | [], r, h => by simp [splitC] at h; subst h; simp
  | x :: t, r, h => by
    have ih := splitC_no10 t
    rw [splitC] at h
    split at h
    · rcases List.mem_cons.1 h with rfl | h
      · simp
      · exact ih r h
    · rename_i hx
      cases hs : splitC (10 : Int) t with
      | nil => exact absurd hs (splitC_ne _ _)
      | cons s ss =>
        rw [hs] at h ih
        rw [consHead] at h
        rcases List.mem_cons.1 h with rfl | h
        · intro hm
          rcases List.mem_cons.1 hm with e | hm
          · exact hx e.symm
          · exact ih s (List.mem_cons_self ..) hm
        · exact ih r (List.mem_cons_of_mem _ h)

theorem shift_back (r : List Int) : shiftR 60 (shiftR 62 r) = r := by
  unfold shiftR
  by_cases h : r = []
  · rw [if_pos h, if_pos rfl, h]
  · rw [if_neg h, if_pos rfl, if_neg (by simp), if_neg (by decide)]
    rfl

theorem shift_no10 {r : List Int} (h : (10 : Int) ∉ r) : (10 : Int) ∉ shiftR 62 r := by
  intro hm
  exact all_shiftR (p := fun x => x ≠ 10) (by decide) 62 (fun x hx e => h (e ▸ hx)) 10 hm rfl

/-- One row, right and left again. -/
theorem row_back {l : List Int} {low high : Nat} (h1 : low ≤ high) (h2 : high ≤ l.length) (hb : beginOf l low = low) (he : high ≤ endOf l low) :
    beginOf (shiftedOf 62 l low high) low = low ∧ low ≤ (shiftedOf 62 l low high).length ∧
      shiftedOf 60 (shiftedOf 62 l low high) low (endOf (shiftedOf 62 l low high) low) = l := by
  have hrow := rowOf_same l _ low high rfl h1 he h2
  have hw : shiftedOf 62 l low high = l.take low ++ unsplit 10 (shiftN 62 1 (splitC 10 (l.drop low))) := by
    unfold shiftedOf; rw [hb, hrow, Nat.sub_self]
  obtain ⟨r, rest, hs⟩ : ∃ r rest, splitC 10 (l.drop low) = r :: rest := by
    cases hs : splitC 10 (l.drop low) with
    | nil => exact absurd hs (splitC_ne _ _)
    | cons r rest => exact ⟨r, rest, rfl⟩
  have hno := splitC_no10 (l.drop low)
  rw [hs] at hno
  rw [hs, shiftN, shiftN] at hw
  have htl : (l.take low).length = low := by rw [List.length_take]; omega
  generalize shiftedOf 62 l low high = w at *
  have hwt : w.take low = l.take low := by rw [hw, List.take_append_of_le_length (by omega), List.take_take, Nat.min_self]
  have hwd : w.drop low = unsplit 10 (shiftR 62 r :: rest) := by rw [hw, List.drop_append_of_le_length (by omega), List.drop_eq_nil_of_le (by omega), List.nil_append]
  have hwl : low ≤ w.length := by rw [hw, List.length_append]; omega
  have hbw : beginOf w low = low := by
    cases hlow : low with
    | zero => rfl
    | succ p =>
      rw [hlow] at hb hwt htl
      have e : w.getD p 0 = l.getD p 0 := by
        have a := congrArg (fun z => z.getD p 0) hwt
        simpa [List.getD, List.getElem?_take] using a
      rw [beginOf] at hb ⊢
      rw [e]
      by_cases h10 : l.getD p 0 = 10
      · rw [if_pos h10]
      · rw [if_neg h10] at hb; have := beginOf_le l p; omega
  refine ⟨hbw, hwl, ?_⟩
  have hwsp : splitC 10 (w.drop low) = shiftR 62 r :: rest := by
    rw [hwd]
    exact splitC_unsplit _ (by simp) (by
      intro x hx
      rcases List.mem_cons.1 hx with rfl | hx
      · exact shift_no10 (hno r (List.mem_cons_self ..))
      · exact hno x (List.mem_cons_of_mem _ hx))
  have hrw := rowOf_same w _ low (endOf w low) rfl (endOf_ge w low) (Nat.le_refl _) (endOf_le w low hwl)
  unfold shiftedOf
  rw [hbw, hrw, Nat.sub_self, hwsp, hwt, shiftN, shiftN, shift_back, ← hs, unsplit_splitC, List.take_append_drop]

end Go.Proofs.YtleoffdjdgbanaaDoor

set_option linter.unusedVariables false
set_option linter.unusedSimpArgs false
namespace Go.Proofs.YtleoffdjdgbanaaDoor
open Go Go.QA Go.Proofs

/-- A piece taken away, or the error where there is none. -/
noncomputable def cutC (s : Str) (l : List Int) (low high : Nat) (cur : Int) : Chg :=
  if low = high then ⟨0, 0, [], 0, [], false, 6⟩ else (madeC s (strOf (l.take low ++ l.drop high)) cur).with (strOf ((l.take high).drop low)) false

theorem madeC_line (s x : Str) (cur : Int) : (madeC s x cur).line = false := by
  unfold madeC; cases mayOf x <;> rfl

theorem ap_took {R : Type} (s x : Str) (cur : Int) (took : Str) (k : Int → Int → Str → Int → Str → Bool → Int → Option R) : (madeC s x cur).ap (fun a b i c _ ln e => k a b i c took ln e) = ((madeC s x cur).with took false).ap k := by
  have := madeC_line s x cur
  unfold Chg.ap Chg.with
  rw [this]

theorem refSmall_x {R : Type} (s : Str) (hs : s.length ≤ 1000000) (at' : Nat) (hat : at' ≤ (runesOf s).length) (r : Int) (count : Nat) (hc : count ≤ 1000000) (k : Int → Int → Str → Int → Str → Bool → Int → Option R) :
    refSmall_F s (at' : Int) 120 r (count : Int) k =
      (cutC s (runesOf s) at' (min (endOf (runesOf s) at') (at' + count)) (restOf ((runesOf s).take at' ++ (runesOf s).drop (min (endOf (runesOf s) at') (at' + count))) at' : Nat)).ap k := by
  have hle := runesOf_length_le s
  have hsc := runesOf_scal s
  unfold refSmall_F
  rw [show ((120 : Int) == 114 || (120 : Int) == 126) = false from rfl, cond_false, refSmallA_F_T]
  unfold refSmallA_T cutC
  generalize hl : runesOf s = l at *
  have hge := endOf_ge l at'
  have hel := endOf_le l at' hat
  rw [refBegin_eq l (by omega) at' hat, refEnd_eq l (by omega)]
  rw [show ((120 : Int) == 120) = true from rfl, cond_true, show ((120 : Int) == 88) = false from rfl, cond_false]
  rw [wrap64 (x := (at' : Int) + count) (by omega) (by omega), show ((at' : Int) + (count : Int)) = ((at' + count : Nat) : Int) from by omega, mm_min]
  generalize hh : min (endOf l at') (at' + count) = high at *
  have h1 : at' ≤ high := by omega
  have h2 : high ≤ l.length := by omega
  have hroom := room l (by omega) at' high
  simp only [Int.toNat_natCast, List.drop_zero, List.take_length]
  by_cases he : at' = high
  · rw [if_pos he, show ((at' : Int) == (high : Int)) = true from by simp [he]]; rfl
  · rw [if_neg he, show ((at' : Int) == (high : Int)) = false from by simp; omega, cond_false]
    rw [decide_eq_true (by omega : (0 : Int) ≤ (at' : Int)), decide_eq_true (by omega : (at' : Int) ≤ (l.length : Int)), decide_eq_true (by omega : (0 : Int) ≤ (high : Int)), decide_eq_true (by omega : (high : Int) ≤ (l.length : Int)), decide_eq_true hroom, decide_eq_true (by omega : (at' : Int) ≤ (high : Int))]
    simp only [Bool.and_true, cond_true]
    have hys : scalL (l.take at' ++ l.drop high) := scalL_append.2 ⟨hsc.take _, hsc.drop _⟩
    have hyl : at' ≤ (l.take at' ++ l.drop high).length := by rw [List.length_append, List.length_take]; omega
    have hyl2 : (l.take at' ++ l.drop high).length ≤ l.length := by rw [List.length_append, List.length_take, List.length_drop]; omega
    rw [← strOf_append, runesOf_strOf hys, refRest_eq _ (by omega) at' hyl, made18_eq s _ hs, ap_took]

/-! ### rows of a text -/

theorem splitC_last (c : UInt8) : ∀ (p : Str), (∀ b ∈ p, b ≠ c) → splitC c p = [p]
  | [], _ => rfl
  | b :: p, h => by
    rw [splitC, if_neg (h b (List.mem_cons_self ..)), splitC_last c p fun x hx => h x (List.mem_cons_of_mem _ hx)]; rfl

theorem refRows_L {R : Type} (s : Str) (hs : s.length ≤ 1000000) (ke0 : Str → List Str → Int → Option R) : ∀ (n i from' : Nat) (q : List Str), 0 < n → s.length < n + i → i ≤ s.length → from' ≤ i → q.length ≤ i → (∀ b ∈ (s.take i).drop from', b ≠ 10) →
    ∃ (q' : List Str) (f : Nat), refRows_L4 n s q (from' : Int) (i : Int) ke0 = ke0 s q' (f : Int) ∧ f ≤ s.length ∧ q'.length ≤ s.length ∧ q' ++ [s.drop f] = q ++ splitC 10 (s.drop from') := by
  intro n
  induction n with
  | zero => intro i from' q h0; omega
  | succ n ih =>
    intro i from' q _ hx hi hf hq hno
    simp only [refRows_L4, refRows_B4]
    by_cases h : i < s.length
    · rw [decide_eq_true (by omega : (i : Int) < (s.length : Int)), decide_eq_true (by omega : (0 : Int) ≤ (i : Int)), wrap64 (by omega) (by omega)]
      simp only [Bool.and_true, cond_true, Int.toNat_natCast]
      have e : s.getD i 0 = s[i] := by simp [List.getD, h]
      rw [e]
      have hcut : (s.take (i + 1)).drop from' = (s.take i).drop from' ++ [s[i]] := by
        rw [List.take_succ_eq_append_getElem h, List.drop_append_of_le_length (by rw [List.length_take]; omega)]
      have hdrop : s.drop from' = (s.take i).drop from' ++ s[i] :: s.drop (i + 1) := by
        rw [← List.drop_eq_getElem_cons h]
        conv => lhs; rw [← List.take_append_drop i s]
        rw [List.drop_append_of_le_length (by rw [List.length_take]; omega)]
      by_cases h2 : s[i] = 10
      · rw [h2, show (((10 : UInt8).toNat : Int) == 10) = true from rfl, cond_true]
        rw [decide_eq_true (by omega : (i : Int) ≤ (s.length : Int)), decide_eq_true (by omega : (0 : Int) ≤ (from' : Int)), decide_eq_true (by omega : (from' : Int) ≤ (i : Int))]
        simp only [Bool.and_true, cond_true]
        rw [decide_eq_true (by simp only [List.length_append, List.length_cons, List.length_nil]; omega), decide_eq_true (by simp only [List.length_append, List.length_cons, List.length_nil]; omega)]
        simp only [Bool.and_true, cond_true]
        obtain ⟨q', f, a1, a2, a3, a4⟩ := ih (i + 1) (i + 1) (q ++ [(s.take i).drop from']) (by omega) (by omega) (by omega) (Nat.le_refl _) (by simp; omega) (by
          intro b hb
          rw [List.drop_eq_nil_of_le (by rw [List.length_take]; omega)] at hb
          cases hb)
        refine ⟨q', f, by simpa using a1, a2, a3, ?_⟩
        rw [a4, hdrop, h2]
        have := splitC_app (10 : UInt8) ((s.take i).drop from') hno (10 :: s.drop (i + 1)) [] (splitC 10 (s.drop (i + 1))) (by rw [splitC, if_pos rfl])
        rw [this]; simp
      · have h3 : (((s[i]).toNat : Int) == 10) = false := by
          simp only [beq_eq_false_iff_ne, ne_eq]
          intro h5
          exact h2 (UInt8.toNat_inj.1 (by
            have : (s[i]).toNat = 10 := by omega
            rw [this]; rfl))
        rw [h3, cond_false]
        obtain ⟨q', f, a1, a2, a3, a4⟩ := ih (i + 1) from' q (by omega) (by omega) (by omega) (by omega) (by omega) (by
          intro b hb
          rw [hcut] at hb
          rcases List.mem_append.1 hb with hb | hb
          · exact hno b hb
          · rw [List.mem_singleton] at hb; rw [hb]; exact h2)
        exact ⟨q', f, by simpa using a1, a2, a3, a4⟩
    · have hil : i = s.length := by omega
      rw [decide_eq_false (by omega : ¬ (i : Int) < (s.length : Int)), cond_false]
      refine ⟨q, from', rfl, by omega, by omega, ?_⟩
      rw [hil, List.take_length] at hno
      rw [splitC_last 10 _ hno]

theorem refRows_eq {R : Type} (s : Str) (hs : s.length ≤ 1000000) (k : List Str → Option R) : refRows_F s k = k (splitC 10 s) := by
  rw [refRows_F_T]; unfold refRows_T
  rw [refRows_M4_eq]
  obtain ⟨q', f, a1, a2, a3, a4⟩ := refRows_L s hs (fun s8 q9 x10 =>
    (bif (Decidable.decide ((0 : Int) ≤ x10) && Decidable.decide (x10 ≤ (↑(List.length s8) : Int))) then
     (bif (Decidable.decide (List.length (q9 ++ [List.drop (Int.toNat x10) (List.take (List.length s8) s8)]) * (16 : Nat) ≤ (140737488355328 : Nat)) && Decidable.decide (List.length (q9 ++ [List.drop (Int.toNat x10) (List.take (List.length s8) s8)]) ≤ (9223372036854775807 : Nat))) then
      k (q9 ++ [List.drop (Int.toNat x10) (List.take (List.length s8) s8)])
     else none)
    else none)) 4611686018427387904 0 0 [] (by omega) (by omega) (by omega) (Nat.le_refl _) (by simp) (by intro b hb; simp at hb)
  refine a1.trans ?_
  simp only [Int.toNat_natCast, List.take_length]
  rw [decide_eq_true (by omega : (0 : Int) ≤ (f : Int)), decide_eq_true (by omega : (f : Int) ≤ (s.length : Int)), decide_eq_true (by simp only [List.length_append, List.length_cons, List.length_nil]; omega), decide_eq_true (by simp only [List.length_append, List.length_cons, List.length_nil]; omega)]
  simp only [Bool.and_true, cond_true]
  rw [a4]; simp

end Go.Proofs.YtleoffdjdgbanaaDoor

set_option linter.unusedVariables false
set_option linter.unusedSimpArgs false
namespace Go.Proofs.YtleoffdjdgbanaaDoor
open Go Go.QA Go.Proofs

theorem num20_eq {R : Type} (x : Int) (k : Int → Option R) : num20_F x k = k x := by rw [num20_F_T]; rfl

def moveC : Chg := ⟨0, 0, [], 0, [], false, 6⟩

/-! ### x, X -/

theorem smallCut_eq {R : Type} (s : Str) (hs : s.length ≤ 1000000) (l : List Int) (hl : l.length ≤ 1000000) (hsc : scalL l) (low high : Nat) (h1 : low ≤ high) (h2 : high ≤ l.length) (k : Int → Int → Str → Int → Str → Bool → Int → Option R) :
    smallCut_F s l (begins l) (low : Int) (high : Int) k = (cutC s l low high (restOf (l.take low ++ l.drop high) low : Nat)).ap k := by
  have hroom := room l (by omega) low high
  rw [smallCut_F_T]; unfold smallCut_T cutC
  simp only [Int.toNat_natCast, List.drop_zero, List.take_length]
  by_cases he : low = high
  · rw [if_pos he, show ((low : Int) == (high : Int)) = true from by simp [he]]; rfl
  · rw [if_neg he, show ((low : Int) == (high : Int)) = false from by simp; omega, cond_false]
    rw [decide_eq_true (by omega : (0 : Int) ≤ (low : Int)), decide_eq_true (by omega : (low : Int) ≤ (l.length : Int)), decide_eq_true (by omega : (0 : Int) ≤ (high : Int)), decide_eq_true (by omega : (high : Int) ≤ (l.length : Int)), decide_eq_true hroom]
    simp only [Bool.and_true, cond_true]
    have hys : scalL (l.take low ++ l.drop high) := scalL_append.2 ⟨hsc.take _, hsc.drop _⟩
    have hyl : low ≤ (l.take low ++ l.drop high).length := by rw [List.length_append, List.length_take]; omega
    have hyl2 : (l.take low ++ l.drop high).length ≤ l.length := by rw [List.length_append, List.length_take, List.length_drop]; omega
    rw [← strOf_append, textOf_eq _ (by rw [runesOf_strOf hys]; omega), runesOf_strOf hys, MapRest_eq _ (by omega) low hyl, changeMade_eq s _ hs]
    simp only [MapCut_eq l (begins l) low high h1 h2]
    rw [ap_took]

theorem refSmall_X {R : Type} (s : Str) (hs : s.length ≤ 1000000) (at' : Nat) (hat : at' ≤ (runesOf s).length) (r : Int) (count : Nat) (hc : count ≤ 1000000) (k : Int → Int → Str → Int → Str → Bool → Int → Option R) :
    refSmall_F s (at' : Int) 88 r (count : Int) k =
      (cutC s (runesOf s) (max (beginOf (runesOf s) at') (at' - count)) at' (max (beginOf (runesOf s) at') (at' - count) : Nat)).ap k := by
  have hle := runesOf_length_le s
  have hsc := runesOf_scal s
  unfold refSmall_F
  rw [show ((88 : Int) == 114 || (88 : Int) == 126) = false from rfl, cond_false, refSmallA_F_T]
  unfold refSmallA_T cutC
  generalize hl : runesOf s = l at *
  have hbl := beginOf_le l at'
  rw [refBegin_eq l (by omega) at' hat, refEnd_eq l (by omega)]
  rw [show ((88 : Int) == 120) = false from rfl, cond_false, show ((88 : Int) == 88) = true from rfl, cond_true, cond_true]
  rw [wrap64 (x := (at' : Int) - count) (by omega) (by omega), mm_true, show (max ((beginOf l at' : Nat) : Int) ((at' : Int) - (count : Int))) = ((max (beginOf l at') (at' - count) : Nat) : Int) from by omega]
  generalize hh : max (beginOf l at') (at' - count) = low at *
  have h1 : low ≤ at' := by omega
  have hroom := room l (by omega) low at'
  simp only [Int.toNat_natCast, List.drop_zero, List.take_length]
  by_cases he : low = at'
  · rw [if_pos he, show ((low : Int) == (at' : Int)) = true from by simp [he]]; rfl
  · rw [if_neg he, show ((low : Int) == (at' : Int)) = false from by simp; omega, cond_false]
    rw [decide_eq_true (by omega : (0 : Int) ≤ (low : Int)), decide_eq_true (by omega : (low : Int) ≤ (l.length : Int)), decide_eq_true (by omega : (0 : Int) ≤ (at' : Int)), decide_eq_true (by omega : (at' : Int) ≤ (l.length : Int)), decide_eq_true hroom, decide_eq_true (by omega : (low : Int) ≤ (at' : Int))]
    simp only [Bool.and_true, cond_true]
    rw [← strOf_append, made18_eq s _ hs, ap_took, cond_false]

/-! ### r -/

/-- So many runes from one on, each this one. -/
def fillGo (v : Int) : Nat → Nat → List Int → List Int
  | 0, _, l => l
  | n + 1, i, l => fillGo v n (i + 1) (l.set i v)

theorem fillGo_length (v : Int) : ∀ n i l, (fillGo v n i l).length = l.length
  | 0, _, _ => rfl
  | n + 1, i, l => by rw [fillGo, fillGo_length v n]; simp

theorem smallBecome_L {R : Type} (s9 : Str) (at' count : Nat) (hb : at' + count < 1000000000) (r : Int) (b15 : Bool) (s16 : Str) (x17 : Int) (s18 : Str) (x19 x20 : Int) (ke0 : Str → Int → Int → List Int → Bool → Str → Int → Str → Int → Int → Option R) :
    ∀ (n i : Nat) (l : List Int), l.length < 1000000000 → at' + count ≤ l.length → i ≤ at' + count → at' + count < n + i →
      smallBecome_L5 n s9 (at' : Int) (count : Int) r l (i : Int) b15 s16 x17 s18 x19 x20 ke0 = ke0 s9 (at' : Int) (count : Int) (fillGo (IntKind.wrap .i32 r) (at' + count - i) i l) b15 s16 x17 s18 x19 x20 := by
  intro n
  induction n with
  | zero => intro i l _ _ h1 h2; omega
  | succ n ih =>
    intro i l hl hal h1 h2
    simp only [smallBecome_L5, smallBecome_B5]
    rw [wrap64 (x := (at' : Int) + count) (by omega) (by omega)]
    by_cases h : i < at' + count
    · rw [decide_eq_true (by omega : (i : Int) < (at' : Int) + (count : Int)), decide_eq_true (by omega : (0 : Int) ≤ (i : Int)), decide_eq_true (by omega : (i : Int) < (l.length : Int)), wrap64 (by omega) (by omega)]
      simp only [Bool.and_true, cond_true, Int.toNat_natCast]
      have := ih (i + 1) (l.set i (IntKind.wrap .i32 r)) (by simpa using hl) (by simpa using hal) (by omega) (by omega)
      rw [show at' + count - i = (at' + count - (i + 1)) + 1 from by omega, fillGo]
      simpa using this
    · rw [decide_eq_false (by omega : ¬ (i : Int) < (at' : Int) + (count : Int)), show at' + count - i = 0 from by omega]; rfl

theorem refSmallB_L24r {R : Type} (s7 : Str) (r : Int) (high : Nat) (hb : high < 1000000000) (b12 : Bool) (s13 : Str) (x14 : Int) (s15 : Str) (x16 x17 : Int) (ke0 : Str → List Int → Int → Bool → Str → Int → Str → Int → Int → Option R) :
    ∀ (n i : Nat) (l : List Int), l.length < 1000000000 → high ≤ l.length → i ≤ high → high < n + i →
      refSmallB_L24 n s7 r l (high : Int) (i : Int) b12 s13 x14 s15 x16 x17 ke0 = ke0 s7 (fillGo (IntKind.wrap .i32 r) (high - i) i l) (high : Int) b12 s13 x14 s15 x16 x17 := by
  intro n
  induction n with
  | zero => intro i l _ _ h1 h2; omega
  | succ n ih =>
    intro i l hl hal h1 h2
    simp only [refSmallB_L24, refSmallB_B24]
    by_cases h : i < high
    · rw [decide_eq_true (by omega : (i : Int) < (high : Int)), decide_eq_true (by omega : (0 : Int) ≤ (i : Int)), decide_eq_true (by omega : (i : Int) < (l.length : Int)), wrap64 (by omega) (by omega)]
      simp only [Bool.and_true, cond_true, Int.toNat_natCast]
      have := ih (i + 1) (l.set i (IntKind.wrap .i32 r)) (by simpa using hl) (by simpa using hal) (by omega) (by omega)
      rw [show high - i = (high - (i + 1)) + 1 from by omega, fillGo]
      simpa using this
    · rw [decide_eq_false (by omega : ¬ (i : Int) < (high : Int)), show high - i = 0 from by omega]; rfl

noncomputable def fillC (s : Str) (l : List Int) (at' : Nat) (r : Int) (count : Nat) : Chg :=
  if endOf l at' < at' + count then moveC else madeC s (strOf (fillGo (IntKind.wrap .i32 r) count at' l)) (((at' + count : Nat) : Int) - 1)

theorem smallBecome_eq {R : Type} (s : Str) (hs : s.length ≤ 1000000) (l : List Int) (hl : l.length ≤ 1000000) (at' : Nat) (hat : at' ≤ l.length) (count : Nat) (hc : count ≤ 1000000) (r : Int) (k : Int → Int → Str → Int → Str → Bool → Int → Option R) :
    smallBecome_F s l (begins l) (at' : Int) (count : Int) r k = (fillC s l at' r count).ap k := by
  have hel := endOf_le l at' hat
  rw [smallBecome_F_T]; unfold smallBecome_T fillC libClone_F
  rw [MapRow_eq l l (by omega), MapEnd_eq l (by omega) at' hat, wrap64 (x := (at' : Int) + count) (by omega) (by omega)]
  by_cases h : endOf l at' < at' + count
  · rw [if_pos h, decide_eq_true (by omega : (at' : Int) + (count : Int) > ((endOf l at' : Nat) : Int))]; rfl
  · rw [if_neg h, decide_eq_false (by omega : ¬ (at' : Int) + (count : Int) > ((endOf l at' : Nat) : Int)), cond_false, decide_eq_true (by omega), cond_true, smallBecome_M5_eq]
    refine (smallBecome_L s at' count (by omega) r false [] 0 [] 0 0 _ 4611686018427387904 at' l (by omega) (by omega) (by omega) (by omega)).trans ?_
    rw [Nat.add_sub_cancel_left, wrap64 (x := (at' : Int) + count) (by omega) (by omega), wrap64 (by omega) (by omega), show (at' : Int) + (count : Int) = ((at' + count : Nat) : Int) from by omega, changeMade_eq s _ hs]

theorem refSmall_r {R : Type} (s : Str) (hs : s.length ≤ 1000000) (at' : Nat) (hat : at' ≤ (runesOf s).length) (r : Int) (count : Nat) (hc : count ≤ 1000000) (k : Int → Int → Str → Int → Str → Bool → Int → Option R) :
    refSmall_F s (at' : Int) 114 r (count : Int) k = (fillC s (runesOf s) at' r count).ap k := by
  have hle := runesOf_length_le s
  unfold refSmall_F
  rw [show ((114 : Int) == 114 || (114 : Int) == 126) = true from rfl, cond_true, refSmallB_F_T]
  unfold refSmallB_T fillC
  generalize hl : runesOf s = l at *
  have hel := endOf_le l at' hat
  have hge := endOf_ge l at'
  rw [refBegin_eq l (by omega) at' hat, refEnd_eq l (by omega)]
  rw [show ((114 : Int) == 120) = false from rfl, cond_false, show ((114 : Int) == 88) = false from rfl, cond_false, show ((114 : Int) == 114) = true from rfl, cond_true]
  rw [wrap64 (x := (at' : Int) + count) (by omega) (by omega), show ((at' : Int) + (count : Int)) = ((at' + count : Nat) : Int) from by omega, mm_min, wrap64 (by omega) (by omega)]
  by_cases h : endOf l at' < at' + count
  · rw [if_pos h, decide_eq_true (by omega)]; rfl
  · rw [if_neg h, decide_eq_false (by omega), cond_false, show min (endOf l at') (at' + count) = at' + count from by omega, refSmallB_M24_eq]
    refine (refSmallB_L24r s r (at' + count) (by omega) false [] 0 [] 0 0 _ 4611686018427387904 at' l (by omega) (by omega) (by omega) (by omega)).trans ?_
    rw [Nat.add_sub_cancel_left, wrap64 (by omega) (by omega), made18_eq s _ hs]

/-! ### ~ -/

noncomputable def turnC (s : Str) (l : List Int) (at' high : Nat) : Chg :=
  if at' = high then moveC else madeC s (strOf (turnGo 126 (high - at') at' l)) (restOf l high : Nat)

theorem rest_turn (l : List Int) (n i x : Nat) (h : i + n ≤ l.length) : restOf (turnGo 126 n i l) x = restOf l x := by
  have hsame : ∀ j, (turnGo 126 n i l).getD j 0 = 10 ↔ l.getD j 0 = 10 := by
    intro j
    rw [turnGo_getD 126 n i j _ h]
    split
    · rw [turnOf_10]
    · exact Iff.rfl
  unfold restOf
  rw [beginOf_same hsame, endOf_same (by rw [turnGo_length]) hsame _ _ rfl]

theorem smallTurn_L {R : Type} (s6 : Str) (l7 l8 : List Int) (high : Nat) (hb : high < 1000000000) (b12 : Bool) (s13 : Str) (x14 : Int) (s15 : Str) (x16 x17 : Int) (ke0 : Str → List Int → List Int → Int → List Int → Bool → Str → Int → Str → Int → Int → Option R) :
    ∀ (n i : Nat) (l : List Int), l.length < 1000000000 → scalL l → high ≤ l.length → i ≤ high → high < n + i →
      smallTurn_L5 n s6 l7 l8 (high : Int) l (i : Int) b12 s13 x14 s15 x16 x17 ke0 = ke0 s6 l7 l8 (high : Int) (turnGo 126 (high - i) i l) b12 s13 x14 s15 x16 x17 := by
  intro n
  induction n with
  | zero => intro i l _ _ _ h1 h2; omega
  | succ n ih =>
    intro i l hl hsc hal h1 h2
    simp only [smallTurn_L5, smallTurn_B5]
    by_cases h : i < high
    · rw [decide_eq_true (by omega : (i : Int) < (high : Int)), decide_eq_true (by omega : (0 : Int) ≤ (i : Int)), decide_eq_true (by omega : (i : Int) < (l.length : Int)), wrap64 (by omega) (by omega)]
      simp only [Bool.and_true, cond_true, Int.toNat_natCast]
      have hg := getD_scal hsc (i := i) (by omega)
      rw [changeTurned_eq _ 126 (by unfold scal at hg; unfold isRune; omega) (by omega)]
      have := ih (i + 1) (l.set i (turnOf 126 (l.getD i 0))) (by simpa using hl) (set_all hsc (turnOf_scal hg)) (by simpa using hal) (by omega) (by omega)
      rw [show high - i = (high - (i + 1)) + 1 from by omega, turnGo]
      simpa using this
    · rw [decide_eq_false (by omega : ¬ (i : Int) < (high : Int)), show high - i = 0 from by omega]; rfl

theorem refSmallB_L32t {R : Type} (s34 : Str) (high : Nat) (hb : high < 1000000000) (b38 : Bool) (s39 : Str) (x40 : Int) (s41 : Str) (x42 x43 : Int) (ke0 : Str → List Int → Int → Bool → Str → Int → Str → Int → Int → Option R) :
    ∀ (n i : Nat) (l : List Int), l.length < 1000000000 → scalL l → high ≤ l.length → i ≤ high → high < n + i →
      refSmallB_L32 n s34 l (high : Int) (i : Int) b38 s39 x40 s41 x42 x43 ke0 = ke0 s34 (turnGo 126 (high - i) i l) (high : Int) b38 s39 x40 s41 x42 x43 := by
  intro n
  induction n with
  | zero => intro i l _ _ _ h1 h2; omega
  | succ n ih =>
    intro i l hl hsc hal h1 h2
    simp only [refSmallB_L32, refSmallB_B32]
    by_cases h : i < high
    · rw [decide_eq_true (by omega : (i : Int) < (high : Int)), decide_eq_true (by omega : (0 : Int) ≤ (i : Int)), decide_eq_true (by omega : (i : Int) < (l.length : Int)), wrap64 (by omega) (by omega)]
      simp only [Bool.and_true, cond_true, Int.toNat_natCast]
      have hg := getD_scal hsc (i := i) (by omega)
      rw [Turned18_eq _ 126 (by unfold scal at hg; unfold isRune; omega)]
      have := ih (i + 1) (l.set i (turnOf 126 (l.getD i 0))) (by simpa using hl) (set_all hsc (turnOf_scal hg)) (by simpa using hal) (by omega) (by omega)
      rw [show high - i = (high - (i + 1)) + 1 from by omega, turnGo]
      simpa using this
    · rw [decide_eq_false (by omega : ¬ (i : Int) < (high : Int)), show high - i = 0 from by omega]; rfl

theorem smallTurn_eq {R : Type} (s : Str) (hs : s.length ≤ 1000000) (l : List Int) (hl : l.length ≤ 1000000) (hsc : scalL l) (at' high : Nat) (h1 : at' ≤ high) (h2 : high ≤ l.length) (k : Int → Int → Str → Int → Str → Bool → Int → Option R) :
    smallTurn_F s l (begins l) (at' : Int) (high : Int) k = (turnC s l at' high).ap k := by
  rw [smallTurn_F_T]; unfold smallTurn_T turnC libClone_F
  by_cases he : at' = high
  · rw [if_pos he, show ((at' : Int) == (high : Int)) = true from by simp [he]]; rfl
  · rw [if_neg he, show ((at' : Int) == (high : Int)) = false from by simp; omega, cond_false, decide_eq_true (by omega), cond_true, smallTurn_M5_eq]
    refine (smallTurn_L s l (begins l) high (by omega) false [] 0 [] 0 0 _ 4611686018427387904 at' l (by omega) hsc h2 h1 (by omega)).trans ?_
    rw [MapRest_eq l (by omega) high h2, changeMade_eq s _ hs]

theorem refSmall_t {R : Type} (s : Str) (hs : s.length ≤ 1000000) (at' : Nat) (hat : at' ≤ (runesOf s).length) (r : Int) (count : Nat) (hc : count ≤ 1000000) (k : Int → Int → Str → Int → Str → Bool → Int → Option R) :
    refSmall_F s (at' : Int) 126 r (count : Int) k = (turnC s (runesOf s) at' (min (endOf (runesOf s) at') (at' + count))).ap k := by
  have hle := runesOf_length_le s
  have hsc := runesOf_scal s
  unfold refSmall_F
  rw [show ((126 : Int) == 114 || (126 : Int) == 126) = true from rfl, cond_true, refSmallB_F_T]
  unfold refSmallB_T turnC
  generalize hl : runesOf s = l at *
  have hel := endOf_le l at' hat
  have hge := endOf_ge l at'
  rw [refBegin_eq l (by omega) at' hat, refEnd_eq l (by omega)]
  rw [show ((126 : Int) == 120) = false from rfl, cond_false, show ((126 : Int) == 88) = false from rfl, cond_false, show ((126 : Int) == 114) = false from rfl, cond_false, show ((126 : Int) == 126) = true from rfl, cond_true]
  rw [wrap64 (x := (at' : Int) + count) (by omega) (by omega), show ((at' : Int) + (count : Int)) = ((at' + count : Nat) : Int) from by omega, mm_min]
  generalize hh : min (endOf l at') (at' + count) = high at *
  by_cases he : at' = high
  · rw [if_pos he, show ((high : Int) == (at' : Int)) = true from by simp [he]]; rfl
  · rw [if_neg he, show ((high : Int) == (at' : Int)) = false from by simp; omega, cond_false, refSmallB_M32_eq]
    refine (refSmallB_L32t s high (by omega) false [] 0 [] 0 0 _ 4611686018427387904 at' l (by omega) hsc (by omega) (by omega) (by omega)).trans ?_
    rw [refRest_eq _ (by rw [turnGo_length]; omega) high (by rw [turnGo_length]; omega), rest_turn l _ _ _ (by omega), made18_eq s _ hs]

end Go.Proofs.YtleoffdjdgbanaaDoor

set_option linter.unusedVariables false
set_option linter.unusedSimpArgs false
set_option maxRecDepth 100000
namespace Go.Proofs.YtleoffdjdgbanaaDoor
open Go Go.QA Go.Proofs

/-! ### what may be asked -/

def runeB (r : Int) : Bool := decide (32 ≤ r ∧ r ≤ 1114111 ∧ ¬ (55296 ≤ r ∧ r ≤ 57343))

theorem smallMay_eq {R : Type} (r : Int) (k : Bool → Option R) : smallMay_F r k = k (runeB r) := by
  rw [smallMay_F_T]; unfold smallMay_T runeB libValidRune_F
  by_cases h1 : 32 ≤ r
  · rw [decide_eq_true (by omega : r ≥ 32), cond_true]
    by_cases h2 : r ≤ 1114111
    · rw [decide_eq_true h2, cond_true, wrap32 (by omega) (by omega)]
      congr 1
      unfold Lib.validRune
      rw [decide_eq_decide]; omega
    · rw [decide_eq_false h2, cond_false, decide_eq_false (by omega)]
  · rw [decide_eq_false (by omega : ¬ r ≥ 32), cond_false, decide_eq_false (by omega)]

theorem refRune_eq {R : Type} (r : Int) (h : 32 ≤ r) (k : Bool → Option R) : refRune_F r k = k (runeB r) := by
  rw [refRune_F_T]; unfold refRune_T runeB
  rw [decide_eq_true (by omega : r ≥ 1), cond_true]
  by_cases h2 : r ≤ 1114111
  · rw [decide_eq_true h2, cond_true]
    by_cases h3 : 55296 ≤ r
    · rw [decide_eq_true (by omega : r ≥ 55296), cond_true]
      congr 1
      by_cases h4 : r ≤ 57343
      · rw [decide_eq_true h4, decide_eq_false (by omega)]; rfl
      · rw [decide_eq_false h4, decide_eq_true (by omega)]; rfl
    · rw [decide_eq_false (by omega : ¬ r ≥ 55296), cond_false, decide_eq_true (by omega)]; rfl
  · rw [decide_eq_false h2, cond_false, decide_eq_false (by omega)]

/-- May it be asked? -/
def smallB (l : List Int) (at' key r count : Int) : Bool :=
  isB l at' && (decide (key ∈ [120, 88, 114, 126, 74]) && (decide (1 ≤ count ∧ count ≤ 999) && (!(key == 114) || runeB r)))

theorem MaySmall_eq {R : Type} (l : List Int) (at' key r count : Int) (k : Bool → Option R) : MaySmall_F l at' key r count k = k (smallB l at' key r count) := by
  rw [MaySmall_F_T]; unfold MaySmall_T smallB isB
  rw [refNum_eq]
  cases h1 : decide (0 ≤ at' ∧ at' ≤ (l.length : Int)) with
  | false => simp
  | true =>
    simp only [Bool.not_true, cond_false, Bool.true_and]
    rw [refIn_eq _ (by simp)]
    have hin := inOf_ge key [120, 88, 114, 126, 74] 0
    by_cases h2 : key ∈ [120, 88, 114, 126, 74]
    · have := hin.2 h2
      rw [decide_eq_false (by omega), cond_false, decide_eq_true h2, Bool.true_and, refBetween0_eq]
      cases h3 : decide (1 ≤ count ∧ count ≤ 999) with
      | false => simp
      | true =>
        simp only [Bool.not_true, cond_false, Bool.true_and]
        by_cases h4 : key = 114
        · rw [show (key != 114) = false from by simp [h4], show (key == 114) = true from by simp [h4], cond_false]
          simp only [Bool.not_true, Bool.false_or]
          by_cases h5 : 32 ≤ r
          · rw [decide_eq_true (by omega : r ≥ 32), cond_true, refRune_eq r h5]
          · rw [decide_eq_false (by omega : ¬ r ≥ 32), cond_false]
            congr 1
            unfold runeB; rw [decide_eq_false (by omega)]
        · rw [show (key != 114) = true from by simpa using h4, show (key == 114) = false from by simpa using h4, cond_true]; rfl
    · have : ¬ inOf [120, 88, 114, 126, 74] key 0 ≥ 0 := fun e => h2 (hin.1 e)
      rw [decide_eq_true (by omega), cond_true, decide_eq_false h2]; rfl

/-- What may not be is refused. -/
theorem smallOf_form {R : Type} (s : Str) (at' key r count : Int) (h : ¬ (mayOf s = true ∧ smallB (runesOf s) at' key r count = true)) (k : Int → Int → Str → Int → Str → Bool → Int → Option R) : smallOf_F s at' key r count k = formC.ap k := by
  rw [smallOf_F_T]; unfold smallOf_T
  rw [textMay_eq]
  cases h1 : mayOf s with
  | false => rfl
  | true =>
    have hlen := mayOf_len h1
    have hle := runesOf_length_le s
    simp only [Bool.not_true, cond_false]
    by_cases h2 : count < 1
    · rw [decide_eq_true h2]; rfl
    rw [decide_eq_false h2, cond_false]
    by_cases h3 : count > 999
    · rw [decide_eq_true h3]; rfl
    rw [decide_eq_false h3, cond_false]
    have hb : smallB (runesOf s) at' key r count = false := by
      cases hb : smallB (runesOf s) at' key r count with
      | false => rfl
      | true => exact absurd ⟨h1, hb⟩ h
    unfold smallB at hb
    rw [decide_eq_true (show 1 ≤ count ∧ count ≤ 999 by omega), Bool.true_and] at hb
    have rest : ∀ (k1 : key ≠ 120) (k2 : key ≠ 88) (k3 : key ≠ 114) (k4 : key ≠ 126) (k5 : key ≠ 74), (key == 120) = false ∧ (key == 88) = false ∧ (key == 114) = false ∧ (key == 126) = false ∧ (key == 74) = false := by
      intro k1 k2 k3 k4 k5; simp [k1, k2, k3, k4, k5]
    by_cases h4 : key = 114
    · subst h4
      rw [show ((114 : Int) == 114) = true from rfl, cond_true, smallMay_eq]
      cases h5 : runeB r with
      | false => rfl
      | true =>
        simp only [Bool.not_true, cond_false]
        rw [textOf_eq _ (by omega), MapIs_eq]
        rw [h5, show decide ((114 : Int) ∈ [120, 88, 114, 126, 74]) = true from by decide] at hb
        simp only [Bool.or_true, Bool.and_true] at hb
        rw [hb]; rfl
    · rw [show (key == 114) = false from by simpa using h4, cond_false, textOf_eq _ (by omega), MapIs_eq]
      rw [show (key == 114) = false from by simpa using h4] at hb
      simp only [Bool.not_false, Bool.true_or, Bool.and_true] at hb
      cases h6 : isB (runesOf s) at' with
      | false => rfl
      | true =>
        rw [h6, Bool.true_and, decide_eq_false_iff_not] at hb
        simp only [List.mem_cons, List.not_mem_nil, or_false, not_or] at hb
        obtain ⟨e1, e2, e3, e4, e5⟩ := rest hb.1 hb.2.1 hb.2.2.1 hb.2.2.2.1 hb.2.2.2.2
        obtain ⟨n, rfl, hn⟩ := isB_nat h6
        simp only [Bool.not_true, cond_false]
        rw [MapRow_eq _ _ (by omega), MapEnd_eq _ (by omega) n hn, e1, e2, e4, e5]; rfl

theorem smallOf_head {R : Type} (s : Str) (h1 : mayOf s = true) (at' : Nat) (key r : Int) (count : Nat) (h2 : smallB (runesOf s) (at' : Int) key r (count : Int) = true) (k : Int → Int → Str → Int → Str → Bool → Int → Option R) :
    smallOf_F s (at' : Int) key r (count : Int) k =
      (bif (key == (120 : Int)) then smallCut_F s (runesOf s) (begins (runesOf s)) (at' : Int) ((min (at' + count) (endOf (runesOf s) at') : Nat) : Int) k
       else (bif (key == (88 : Int)) then smallCut_F s (runesOf s) (begins (runesOf s)) ((max (at' - count) (beginOf (runesOf s) at') : Nat) : Int) (at' : Int) (fun x19 x20 s21 x22 s23 b24 x25 => bif (x25 == (0 : Int)) then k x19 x20 s21 ((max (at' - count) (beginOf (runesOf s) at') : Nat) : Int) s23 b24 x25 else k x19 x20 s21 x22 s23 b24 x25)
        else (bif (key == (114 : Int)) then smallBecome_F s (runesOf s) (begins (runesOf s)) (at' : Int) (count : Int) r k
         else (bif (key == (126 : Int)) then smallTurn_F s (runesOf s) (begins (runesOf s)) (at' : Int) ((min (at' + count) (endOf (runesOf s) at') : Nat) : Int) k
          else (bif (key == (74 : Int)) then smallJoined_F s (runesOf s) (begins (runesOf s)) (at' : Int) ((max 1 (count - 1) : Nat) : Int) k else formC.ap k))))) := by
  have hlen := mayOf_len h1
  have hle := runesOf_length_le s
  unfold smallB at h2
  simp only [Bool.and_eq_true, decide_eq_true_eq] at h2
  obtain ⟨hb, hin, ⟨hc1, hc2⟩, hr⟩ := h2
  have hat : at' ≤ (runesOf s).length := by unfold isB at hb; rw [decide_eq_true_eq] at hb; omega
  have hro := rowOf_le (runesOf s) at'
  have hbl : (begins (runesOf s)).length = (nls (runesOf s) 0).length + 1 := rfl
  have hbg := beginOf_le (runesOf s) at'
  have e1 : mm false (IntKind.wrap .i64 ((at' : Int) + (count : Int))) ((endOf (runesOf s) at' : Nat) : Int) = ((min (at' + count) (endOf (runesOf s) at') : Nat) : Int) := by
    rw [wrap64 (by omega) (by omega), mm_false]; omega
  have e2 : mm true (IntKind.wrap .i64 ((at' : Int) - (count : Int))) ((beginOf (runesOf s) at' : Nat) : Int) = ((max (at' - count) (beginOf (runesOf s) at') : Nat) : Int) := by
    rw [wrap64 (by omega) (by omega), mm_true]; omega
  have e3 : mm true 1 (IntKind.wrap .i64 ((count : Int) - 1)) = ((max 1 (count - 1) : Nat) : Int) := by
    rw [wrap64 (by omega) (by omega), mm_true]; omega
  rw [smallOf_F_T]; unfold smallOf_T
  rw [textMay_eq, h1]
  simp only [Bool.not_true, cond_false]
  rw [decide_eq_false (by omega : ¬ (count : Int) < 1), decide_eq_false (by omega : ¬ (count : Int) > 999)]
  simp only [cond_false]
  by_cases h4 : key = 114
  · subst h4
    have hr' : runeB r = true := by simpa using hr
    rw [show ((114 : Int) == 114) = true from rfl, cond_true, smallMay_eq, hr']
    simp only [Bool.not_true, cond_false]
    rw [textOf_eq _ (by omega), MapIs_eq, hb]
    simp only [Bool.not_true, cond_false]
    rw [MapRow_eq _ _ (by omega), MapEnd_eq _ (by omega) at' hat]
    rfl
  · rw [show (key == 114) = false from by simpa using h4]
    simp only [cond_false]
    rw [textOf_eq _ (by omega), MapIs_eq, hb]
    simp only [Bool.not_true, cond_false]
    rw [MapRow_eq _ _ (by omega), MapEnd_eq _ (by omega) at' hat, decide_eq_true (by omega : (0 : Int) ≤ ((rowOf (runesOf s) at' : Nat) : Int)), decide_eq_true (by omega : ((rowOf (runesOf s) at' : Nat) : Int) < ((begins (runesOf s)).length : Int))]
    simp only [Bool.and_true, cond_true, Int.toNat_natCast]
    rw [begins_at _ at' hat, e1, e2, e3]
    rfl

/-! ### agreement -/

/-- At this key program and reference agree, at whatever may be asked. -/
def AgreeSmall (key : Int) : Prop := ∀ (s : Str) (at' r count : Int), mayOf s = true → smallB (runesOf s) at' key r count = true →
  ∃ c : Chg, (∀ (R : Type) (k : Int → Int → Str → Int → Str → Bool → Int → Option R), refSmall_F s at' key r count k = c.ap k) ∧
    (∀ (R : Type) (k : Int → Int → Str → Int → Str → Bool → Int → Option R), smallOf_F s at' key r count k = (fixC c).ap k)

theorem mayOf_sub {s : Str} (hs : mayOf s = true) {y : List Int} (hy : ∀ x ∈ y, x ∈ runesOf s) (hl : (strOf y).length ≤ 4000) : mayOf (strOf y) = true := by
  have hsc : scalL y := fun x hx => runesOf_scal s x (hy x hx)
  rw [mayOf_iff hsc]
  exact ⟨hl, fun h0 => mayOf_runes hs (hy 0 h0)⟩

/-- A text with a piece taken away may be. -/
theorem mayOf_cut {s : Str} (hs : mayOf s = true) {low high : Nat} (h1 : low ≤ high) : mayOf (strOf ((runesOf s).take low ++ (runesOf s).drop high)) = true := by
  have hv := strOf_runesOf (mayOf_valid hs)
  have hlen := mayOf_len hs
  refine mayOf_sub hs (fun x hx => ?_) ?_
  · rcases List.mem_append.1 hx with hx | hx
    · exact List.mem_of_mem_take hx
    · exact List.mem_of_mem_drop hx
  · have e := congrArg (fun z => (strOf z).length) (List.take_append_drop low (runesOf s))
    have e2 := congrArg (fun z => (strOf z).length) (List.take_append_drop (high - low) ((runesOf s).drop low))
    simp only [strOf_append, List.length_append, hv, List.drop_drop] at e e2 ⊢
    rw [show low + (high - low) = high from by omega] at e2
    omega

theorem fix_cut {s : Str} (hs : mayOf s = true) {low high : Nat} (h1 : low ≤ high) (cur : Int) : fixC (cutC s (runesOf s) low high cur) = cutC s (runesOf s) low high cur := by
  unfold cutC
  by_cases h : low = high
  · rw [if_pos h]; rfl
  · rw [if_neg h, madeC_ok (mayOf_cut hs h1)]; rfl

theorem fix_small {c : Chg} (h : c = moveC ∨ ∃ s x cur, c = madeC s x cur) {R : Type} (k : Int → Int → Str → Int → Str → Bool → Int → Option R) : c.ap k = (fixC c).ap k := by
  rcases h with rfl | ⟨s, x, cur, rfl⟩
  · rfl
  · exact fix_made s x cur k

theorem agreeSmall_plain (key : Int) (hk : key ≠ 74) : AgreeSmall key := by
  intro s at' r count h1 h2
  have hlen := mayOf_len h1
  have hle := runesOf_length_le s
  have hsc := runesOf_scal s
  have h2' := h2
  unfold smallB at h2'
  simp only [Bool.and_eq_true, decide_eq_true_eq, List.mem_cons, List.not_mem_nil, or_false] at h2'
  obtain ⟨hb, hin, ⟨hc1, hc2⟩, hr⟩ := h2'
  obtain ⟨n, rfl, hn⟩ := isB_nat hb
  obtain ⟨c, rfl⟩ : ∃ c : Nat, count = (c : Int) := ⟨count.toNat, by omega⟩
  have hge := endOf_ge (runesOf s) n
  have hel := endOf_le (runesOf s) n hn
  have hbg := beginOf_le (runesOf s) n
  rcases hin with rfl | rfl | rfl | rfl | rfl
  · refine ⟨_, fun R k => refSmall_x s (by omega) n hn r c (by omega) k, fun R k => ?_⟩
    rw [smallOf_head s h1 n 120 r c h2, show ((120 : Int) == 120) = true from rfl, cond_true, Nat.min_comm (n + c), smallCut_eq s (by omega) _ (by omega) hsc n _ (by omega) (by omega), fix_cut h1 (by omega)]
  · refine ⟨_, fun R k => refSmall_X s (by omega) n hn r c (by omega) k, fun R k => ?_⟩
    rw [smallOf_head s h1 n 88 r c h2, show ((88 : Int) == 120) = false from rfl, show ((88 : Int) == 88) = true from rfl, cond_false, cond_true, Nat.max_comm (n - c), smallCut_eq s (by omega) _ (by omega) hsc _ n (by omega) hn, fix_cut h1 (by omega)]
    unfold cutC
    by_cases h : max (beginOf (runesOf s) n) (n - c) = n
    · rw [if_pos h, if_pos h]; rfl
    · rw [if_neg h, if_neg h, madeC_ok (mayOf_cut h1 (by omega)), madeC_ok (mayOf_cut h1 (by omega))]; rfl
  · refine ⟨_, fun R k => refSmall_r s (by omega) n hn r c (by omega) k, fun R k => ?_⟩
    rw [smallOf_head s h1 n 114 r c h2, show ((114 : Int) == 120) = false from rfl, show ((114 : Int) == 88) = false from rfl, show ((114 : Int) == 114) = true from rfl, cond_false, cond_false, cond_true, smallBecome_eq s (by omega) _ (by omega) n hn c (by omega)]
    apply fix_small
    unfold fillC
    split
    · exact .inl rfl
    · exact .inr ⟨_, _, _, rfl⟩
  · refine ⟨_, fun R k => refSmall_t s (by omega) n hn r c (by omega) k, fun R k => ?_⟩
    rw [smallOf_head s h1 n 126 r c h2, show ((126 : Int) == 120) = false from rfl, show ((126 : Int) == 88) = false from rfl, show ((126 : Int) == 114) = false from rfl, show ((126 : Int) == 126) = true from rfl, cond_false, cond_false, cond_false, cond_true, Nat.min_comm (n + c), smallTurn_eq s (by omega) _ (by omega) hsc n _ (by omega) (by omega)]
    apply fix_small
    unfold turnC
    split
    · exact .inl rfl
    · exact .inr ⟨_, _, _, rfl⟩
  · exact absurd rfl hk

end Go.Proofs.YtleoffdjdgbanaaDoor
