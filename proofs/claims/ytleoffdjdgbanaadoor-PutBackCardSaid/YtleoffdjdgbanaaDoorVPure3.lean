/- Plain laws: a patch that is made is one that may be, and makes the text; no program in sight but the printed functions. -/
import Derived.Test.YtleoffdjdgbanaaDoorVPure2
set_option linter.unusedVariables false
set_option linter.unusedSimpArgs false
set_option linter.unusedVariables false
set_option linter.unusedSimpArgs false
namespace Go.Proofs.YtleoffdjdgbanaaDoor
open Go Go.QA Go.Proofs

theorem headOf_take : ∀ l m : List Int, l.take (headOf l m) = m.take (headOf l m)
  | [], m => by simp [headOf]
  | a :: s, [] => by simp [headOf]
  | a :: s, b :: t => by
    unfold headOf
    by_cases h : a = b
    · rw [if_pos h, List.take_succ_cons, List.take_succ_cons, h, headOf_take s t]
    · rw [if_neg h]; rfl

theorem tailOf_drop (l m : List Int) : l.drop (l.length - tailOf l m) = m.drop (m.length - tailOf l m) := by
  have h := headOf_take l.reverse m.reverse
  have h2 := congrArg List.reverse h
  rw [List.reverse_take, List.reverse_take] at h2
  simpa [tailOf] using h2

theorem apply_made {l m : List Int} : l.take (atOf l m) ++ ((m.drop (headOf l m)).take (m.length - headOf l m - endsOf l m) ++ l.drop (atOf l m + delOf l m)) = m := by
  have hh := headOf_le l m
  have ht := tailOf_le (l.drop (headOf l m)) (m.drop (headOf l m))
  have hd := tailOf_drop (l.drop (headOf l m)) (m.drop (headOf l m))
  have htk := headOf_take l m
  unfold atOf delOf endsOf
  simp only [List.length_drop] at ht hd
  generalize tailOf (l.drop (headOf l m)) (m.drop (headOf l m)) = t at *
  rw [List.drop_drop] at hd
  rw [hd, List.take_append_drop, htk, List.take_append_drop]

/-- A text that may be, by its runes. -/
theorem mayOf_iff {y : List Int} (hy : scalL y) : mayOf (strOf y) = true ↔ (strOf y).length ≤ 4000 ∧ (0 : Int) ∉ y := by
  unfold mayOf
  rw [validD_strOf hy, Bool.true_and, Bool.and_eq_true, decide_eq_true_eq]
  have h0 := strOf_low (b := 0) (by decide) hy
  have : (strOf y).all (· != 0) = true ↔ (0 : UInt8) ∉ strOf y := by
    rw [List.all_eq_true]
    constructor
    · intro h hm; have := h 0 hm; simp at this
    · intro h x hx; simp; rintro rfl; exact h hx
  rw [this, h0]
  simp

theorem mayOf_runes {s : Str} (h : mayOf s = true) : (0 : Int) ∉ runesOf s := by
  have hv := mayOf_valid h
  have e := strOf_runesOf hv
  rw [← e] at h
  exact ((mayOf_iff (runesOf_scal s)).1 h).2

theorem refMay4_L {R : Type} (s : Str) (hl : s.length < 1099511627776) (x11 x12 : Int) (ke0 : Bool → Option R) (ke1 : Option R) : ∀ (n x : Nat), 0 < n → s.length < n + x → refMay4_L5 n (x : Int) s x11 x12 ke0 ke1 = bif (s.drop x).all (· != 0) then ke1 else ke0 false := by
  intro n
  induction n with
  | zero => intro x h0; omega
  | succ n ih =>
    intro x _ hx
    simp only [refMay4_L5, refMay4_B5]
    by_cases h : x < s.length
    · rw [decide_eq_true (by omega : (x : Int) < (s.length : Int)), decide_eq_true (by omega : (0 : Int) ≤ (x : Int)), wrap64 (by omega) (by omega)]
      simp only [cond_true, Bool.and_true, Int.toNat_natCast]
      rw [List.drop_eq_getElem_cons h, List.all_cons]
      have e : s.getD x 0 = s[x] := by simp [List.getD, h]
      rw [e]
      by_cases h2 : s[x] = 0
      · rw [h2]; rfl
      · have h3 : (s[x] != 0) = true := by simpa using h2
        have h4 : (((s[x]).toNat : Int) == 0) = false := by
          simp only [beq_eq_false_iff_ne, ne_eq]
          intro h5
          exact h2 (UInt8.toNat_inj.1 (by simpa using h5))
        rw [h3, h4, cond_false, Bool.true_and]
        have := ih (x + 1) (by omega) (by omega)
        simpa using this
    · rw [decide_eq_false (by omega : ¬ (x : Int) < (s.length : Int)), List.drop_eq_nil_of_le (by omega)]; rfl

theorem refLen_eq {R : Type} (s : Str) (k : Int → Option R) : refLen_F s k = k ((runesOf s).length : Int) := by
  rw [refLen_F_T]; rfl

/-- The patch of a text that is made may be. -/
theorem refMay4_made {R : Type} (s x : Str) (hs : mayOf s = true) (hx : mayOf x = true) (k : Bool → Option R) :
    refMay4_F s (atOf (runesOf s) (runesOf x) : Nat) (delOf (runesOf s) (runesOf x) : Nat) (insOf (runesOf s) (runesOf x)) k = k true := by
  have h1 := mayOf_len hs
  have h2 := runesOf_length_le s
  have h3 := mayOf_len hx
  have h4 := runesOf_length_le x
  have hh := headOf_le (runesOf s) (runesOf x)
  have hsc : scalL (((runesOf x).drop (headOf (runesOf s) (runesOf x))).take ((runesOf x).length - headOf (runesOf s) (runesOf x) - endsOf (runesOf s) (runesOf x))) := ((runesOf_scal x).drop _).take _
  have hil := strOf_length_le (((runesOf x).drop (headOf (runesOf s) (runesOf x))).take ((runesOf x).length - headOf (runesOf s) (runesOf x) - endsOf (runesOf s) (runesOf x)))
  rw [List.length_take, List.length_drop] at hil
  have hz : (insOf (runesOf s) (runesOf x)).all (· != 0) = true := by
    rw [List.all_eq_true]
    intro b hb
    simp only [bne_iff_ne, ne_eq]
    rintro rfl
    have := (strOf_low (b := 0) (by decide) hsc).1 hb
    exact mayOf_runes hx (List.mem_of_mem_drop (List.mem_of_mem_take this))
  rw [refMay4_F_T]; unfold refMay4_T
  rw [refLen_eq, refMay1_eq, hs]
  simp only [Bool.not_true, cond_false]
  unfold atOf delOf
  rw [refNum_eq, decide_eq_true (by omega)]
  simp only [Bool.not_true, cond_false]
  rw [wrap64 (by omega) (by omega), refNum_eq, decide_eq_true (by omega)]
  simp only [Bool.not_true, cond_false]
  unfold libValidString_F
  rw [decide_eq_true (by unfold insOf; omega), cond_true, show Lib.validD (insOf (runesOf s) (runesOf x)) = true from validD_strOf hsc]
  simp only [Bool.not_true, cond_false]
  rw [refMay4_M5_eq]
  have := refMay4_L (insOf (runesOf s) (runesOf x)) (by unfold insOf; omega) ((runesOf s).length - headOf (runesOf s) (runesOf x) - endsOf (runesOf s) (runesOf x) : Nat) (headOf (runesOf s) (runesOf x) : Nat) (fun b13 => k b13) (k true) 4611686018427387904 0 (by omega) (by unfold insOf; omega)
  rw [List.drop_zero, hz] at this
  exact this

/-- It makes the text. -/
theorem refApply_made {R : Type} (s x : Str) (hs : mayOf s = true) (hx : mayOf x = true) (k : Str → Option R) :
    refApply_F s (atOf (runesOf s) (runesOf x) : Nat) (delOf (runesOf s) (runesOf x) : Nat) (insOf (runesOf s) (runesOf x)) k = k x := by
  have h1 := mayOf_len hs
  have h2 := runesOf_length_le s
  have h3 := mayOf_len hx
  have h4 := runesOf_length_le x
  have hh := headOf_le (runesOf s) (runesOf x)
  have hm := apply_made (l := runesOf s) (m := runesOf x)
  have hins : insOf (runesOf s) (runesOf x) = strOf (((runesOf x).drop (headOf (runesOf s) (runesOf x))).take ((runesOf x).length - headOf (runesOf s) (runesOf x) - endsOf (runesOf s) (runesOf x))) := rfl
  have hil := strOf_length_le (((runesOf x).drop (headOf (runesOf s) (runesOf x))).take ((runesOf x).length - headOf (runesOf s) (runesOf x) - endsOf (runesOf s) (runesOf x)))
  rw [List.length_take, List.length_drop] at hil
  have ha : atOf (runesOf s) (runesOf x) ≤ (runesOf s).length := hh.1
  have hd : atOf (runesOf s) (runesOf x) + delOf (runesOf s) (runesOf x) ≤ (runesOf s).length := by unfold atOf delOf; omega
  have e := congrArg strOf hm
  rw [strOf_append, strOf_append, strOf_runesOf (mayOf_valid hx), ← hins] at e
  have hl1 := strOf_length_le ((runesOf s).take (atOf (runesOf s) (runesOf x)))
  have hl2 := strOf_length_le ((runesOf s).drop (atOf (runesOf s) (runesOf x) + delOf (runesOf s) (runesOf x)))
  rw [List.length_take] at hl1
  rw [List.length_drop] at hl2
  rw [refApply_F_T]; unfold refApply_T
  rw [wrap64 (by omega) (by omega), show ((atOf (runesOf s) (runesOf x) : Nat) : Int) + ((delOf (runesOf s) (runesOf x) : Nat) : Int) = ((atOf (runesOf s) (runesOf x) + delOf (runesOf s) (runesOf x) : Nat) : Int) from by omega]
  simp only [Int.toNat_natCast, List.drop_zero, List.take_length]
  rw [decide_eq_true (by omega : (0 : Int) ≤ ((atOf (runesOf s) (runesOf x) : Nat) : Int)), decide_eq_true (by omega : ((atOf (runesOf s) (runesOf x) : Nat) : Int) ≤ ((runesOf s).length : Int)), decide_eq_true (by omega : (0 : Int) ≤ ((atOf (runesOf s) (runesOf x) + delOf (runesOf s) (runesOf x) : Nat) : Int)),
    decide_eq_true (by omega : ((atOf (runesOf s) (runesOf x) + delOf (runesOf s) (runesOf x) : Nat) : Int) ≤ ((runesOf s).length : Int)), decide_eq_true (by rw [hins]; omega), decide_eq_true (by rw [List.length_append, hins]; omega)]
  simp only [Bool.and_true, cond_true]
  rw [List.append_assoc, e]

/-- What is made of a text that may be. -/
theorem madeC_ok {s x : Str} (hx : mayOf x = true) (cur : Int) : madeC s x cur = ⟨(atOf (runesOf s) (runesOf x) : Nat), (delOf (runesOf s) (runesOf x) : Nat), insOf (runesOf s) (runesOf x), cur, [], false, 0⟩ := by
  unfold madeC; rw [hx]; rfl

end Go.Proofs.YtleoffdjdgbanaaDoor

set_option linter.unusedVariables false
set_option linter.unusedSimpArgs false
namespace Go.Proofs.YtleoffdjdgbanaaDoor
open Go Go.QA Go.Proofs

/-- A piece taken away, or the error where there is none. -/
noncomputable def cutC (s : Str) (l : List Int) (low high : Nat) (cur : Int) : Chg :=
  if low = high then ⟨0, 0, [], 0, [], false, 6⟩ else (madeC s (strOf (l.take low ++ l.drop high)) cur).with (strOf ((l.take high).drop low)) false

theorem madeC_line (s x : Str) (cur : Int) : (madeC s x cur).line = false := by
  unfold madeC; cases mayOf x <;> rfl

theorem ap_took {R : Type} (s x : Str) (cur : Int) (took : Str) (k : Int → Int → Str → Int → Str → Bool → Int → Option R) : (madeC s x cur).ap (fun a b i c _ ln e => k a b i c took ln e) = ((madeC s x cur).with took false).ap k := by
  have := madeC_line s x cur
  unfold Chg.ap Chg.with
  rw [this]

theorem refSmall_x {R : Type} (s : Str) (hs : s.length ≤ 1000000) (at' : Nat) (hat : at' ≤ (runesOf s).length) (r : Int) (count : Nat) (hc : count ≤ 1000000) (k : Int → Int → Str → Int → Str → Bool → Int → Option R) :
    refSmall_F s (at' : Int) 120 r (count : Int) k =
      (cutC s (runesOf s) at' (min (endOf (runesOf s) at') (at' + count)) (restOf ((runesOf s).take at' ++ (runesOf s).drop (min (endOf (runesOf s) at') (at' + count))) at' : Nat)).ap k := by
  have hle := runesOf_length_le s
  have hsc := runesOf_scal s
  unfold refSmall_F
  rw [show ((120 : Int) == 114 || (120 : Int) == 126) = false from rfl, cond_false, refSmallA_F_T]
  unfold refSmallA_T cutC
  generalize hl : runesOf s = l at *
  have hge := endOf_ge l at'
  have hel := endOf_le l at' hat
  rw [refBegin_eq l (by omega) at' hat, refEnd_eq l (by omega)]
  rw [show ((120 : Int) == 120) = true from rfl, cond_true, show ((120 : Int) == 88) = false from rfl, cond_false]
  rw [wrap64 (x := (at' : Int) + count) (by omega) (by omega), show ((at' : Int) + (count : Int)) = ((at' + count : Nat) : Int) from by omega, mm_min]
  generalize hh : min (endOf l at') (at' + count) = high at *
  have h1 : at' ≤ high := by omega
  have h2 : high ≤ l.length := by omega
  have hroom := room l (by omega) at' high
  simp only [Int.toNat_natCast, List.drop_zero, List.take_length]
  by_cases he : at' = high
  · rw [if_pos he, show ((at' : Int) == (high : Int)) = true from by simp [he]]; rfl
  · rw [if_neg he, show ((at' : Int) == (high : Int)) = false from by simp; omega, cond_false]
    rw [decide_eq_true (by omega : (0 : Int) ≤ (at' : Int)), decide_eq_true (by omega : (at' : Int) ≤ (l.length : Int)), decide_eq_true (by omega : (0 : Int) ≤ (high : Int)), decide_eq_true (by omega : (high : Int) ≤ (l.length : Int)), decide_eq_true hroom, decide_eq_true (by omega : (at' : Int) ≤ (high : Int))]
    simp only [Bool.and_true, cond_true]
    have hys : scalL (l.take at' ++ l.drop high) := scalL_append.2 ⟨hsc.take _, hsc.drop _⟩
    have hyl : at' ≤ (l.take at' ++ l.drop high).length := by rw [List.length_append, List.length_take]; omega
    have hyl2 : (l.take at' ++ l.drop high).length ≤ l.length := by rw [List.length_append, List.length_take, List.length_drop]; omega
    rw [← strOf_append, runesOf_strOf hys, refRest_eq _ (by omega) at' hyl, made18_eq s _ hs, ap_took]

/-! ### rows of a text -/

theorem splitC_last (c : UInt8) : ∀ (p : Str), (∀ b ∈ p, b ≠ c) → splitC c p = [p]
  | [], _ => rfl
  | b :: p, h => by
    rw [splitC, if_neg (h b (List.mem_cons_self ..)), splitC_last c p fun x hx => h x (List.mem_cons_of_mem _ hx)]; rfl

theorem refRows_L {R : Type} (s : Str) (hs : s.length ≤ 1000000) (ke0 : Str → List Str → Int → Option R) : ∀ (n i from' : Nat) (q : List Str), 0 < n → s.length < n + i → i ≤ s.length → from' ≤ i → q.length ≤ i → (∀ b ∈ (s.take i).drop from', b ≠ 10) →
    ∃ (q' : List Str) (f : Nat), refRows_L4 n s q (from' : Int) (i : Int) ke0 = ke0 s q' (f : Int) ∧ f ≤ s.length ∧ q'.length ≤ s.length ∧ q' ++ [s.drop f] = q ++ splitC 10 (s.drop from') := by
  intro n
  induction n with
  | zero => intro i from' q h0; omega
  | succ n ih =>
    intro i from' q _ hx hi hf hq hno
    simp only [refRows_L4, refRows_B4]
    by_cases h : i < s.length
    · rw [decide_eq_true (by omega : (i : Int) < (s.length : Int)), decide_eq_true (by omega : (0 : Int) ≤ (i : Int)), wrap64 (by omega) (by omega)]
      simp only [Bool.and_true, cond_true, Int.toNat_natCast]
      have e : s.getD i 0 = s[i] := by simp [List.getD, h]
      rw [e]
      have hcut : (s.take (i + 1)).drop from' = (s.take i).drop from' ++ [s[i]] := by
        rw [List.take_succ_eq_append_getElem h, List.drop_append_of_le_length (by rw [List.length_take]; omega)]
      have hdrop : s.drop from' = (s.take i).drop from' ++ s[i] :: s.drop (i + 1) := by
        rw [← List.drop_eq_getElem_cons h]
        conv => lhs; rw [← List.take_append_drop i s]
        rw [List.drop_append_of_le_length (by rw [List.length_take]; omega)]
      by_cases h2 : s[i] = 10
      · rw [h2, show (((10 : UInt8).toNat : Int) == 10) = true from rfl, cond_true]
        rw [decide_eq_true (by omega : (i : Int) ≤ (s.length : Int)), decide_eq_true (by omega : (0 : Int) ≤ (from' : Int)), decide_eq_true (by omega : (from' : Int) ≤ (i : Int))]
        simp only [Bool.and_true, cond_true]
        rw [decide_eq_true (by simp only [List.length_append, List.length_cons, List.length_nil]; omega), decide_eq_true (by simp only [List.length_append, List.length_cons, List.length_nil]; omega)]
        simp only [Bool.and_true, cond_true]
        obtain ⟨q', f, a1, a2, a3, a4⟩ := ih (i + 1) (i + 1) (q ++ [(s.take i).drop from']) (by omega) (by omega) (by omega) (Nat.le_refl _) (by simp; omega) (by
          intro b hb
          rw [List.drop_eq_nil_of_le (by rw [List.length_take]; omega)] at hb
          cases hb)
        refine ⟨q', f, by simpa using a1, a2, a3, ?_⟩
        rw [a4, hdrop, h2]
        have := splitC_app (10 : UInt8) ((s.take i).drop from') hno (10 :: s.drop (i + 1)) [] (splitC 10 (s.drop (i + 1))) (by rw [splitC, if_pos rfl])
        rw [this]; simp
      · have h3 : (((s[i]).toNat : Int) == 10) = false := by
          simp only [beq_eq_false_iff_ne, ne_eq]
          intro h5
          exact h2 (UInt8.toNat_inj.1 (by
            have : (s[i]).toNat = 10 := by omega
            rw [this]; rfl))
        rw [h3, cond_false]
        obtain ⟨q', f, a1, a2, a3, a4⟩ := ih (i + 1) from' q (by omega) (by omega) (by omega) (by omega) (by omega) (by
          intro b hb
          rw [hcut] at hb
          rcases List.mem_append.1 hb with hb | hb
          · exact hno b hb
          · rw [List.mem_singleton] at hb; rw [hb]; exact h2)
        exact ⟨q', f, by simpa using a1, a2, a3, a4⟩
    · have hil : i = s.length := by omega
      rw [decide_eq_false (by omega : ¬ (i : Int) < (s.length : Int)), cond_false]
      refine ⟨q, from', rfl, by omega, by omega, ?_⟩
      rw [hil, List.take_length] at hno
      rw [splitC_last 10 _ hno]

theorem refRows_eq {R : Type} (s : Str) (hs : s.length ≤ 1000000) (k : List Str → Option R) : refRows_F s k = k (splitC 10 s) := by
  rw [refRows_F_T]; unfold refRows_T
  rw [refRows_M4_eq]
  obtain ⟨q', f, a1, a2, a3, a4⟩ := refRows_L s hs (fun s8 q9 x10 =>
    (bif (Decidable.decide ((0 : Int) ≤ x10) && Decidable.decide (x10 ≤ (↑(List.length s8) : Int))) then
     (bif (Decidable.decide (List.length (q9 ++ [List.drop (Int.toNat x10) (List.take (List.length s8) s8)]) * (16 : Nat) ≤ (140737488355328 : Nat)) && Decidable.decide (List.length (q9 ++ [List.drop (Int.toNat x10) (List.take (List.length s8) s8)]) ≤ (9223372036854775807 : Nat))) then
      k (q9 ++ [List.drop (Int.toNat x10) (List.take (List.length s8) s8)])
     else none)
    else none)) 4611686018427387904 0 0 [] (by omega) (by omega) (by omega) (Nat.le_refl _) (by simp) (by intro b hb; simp at hb)
  refine a1.trans ?_
  simp only [Int.toNat_natCast, List.take_length]
  rw [decide_eq_true (by omega : (0 : Int) ≤ (f : Int)), decide_eq_true (by omega : (f : Int) ≤ (s.length : Int)), decide_eq_true (by simp only [List.length_append, List.length_cons, List.length_nil]; omega), decide_eq_true (by simp only [List.length_append, List.length_cons, List.length_nil]; omega)]
  simp only [Bool.and_true, cond_true]
  rw [a4]; simp

end Go.Proofs.YtleoffdjdgbanaaDoor

set_option linter.unusedVariables false
set_option linter.unusedSimpArgs false
set_option maxRecDepth 100000
namespace Go.Proofs.YtleoffdjdgbanaaDoor
open Go Go.QA Go.Proofs

theorem repeat_one (s : Str) : Lib.repeatL s 1 = s := by simp [Lib.repeatL]

theorem num19_eq {R : Type} (x : Int) (k : Int → Option R) : num19_F x k = k x := by rw [num19_F_T]; rfl

/-- A piece put ahead, once. -/
theorem putPiece_P {R : Type} (s : Str) (hs : s.length ≤ 1000000) (l : List Int) (hl : l.length ≤ 1000000) (hsc : scalL l) (at' : Nat) (hat : at' ≤ l.length) (x4 : Int) (t : Str) (ht : t.length ≤ 4000) (b : Bool) (k : Int → Int → Str → Int → Str → Bool → Int → Option R) :
    ∃ cur : Int, putPiece_F s l (begins l) (at' : Int) x4 t b 80 1 k = (madeC s (strOf (l.take at') ++ t ++ strOf (l.drop at')) cur).ap k := by
  have h1 := strOf_length_le (l.take at')
  have h2 := strOf_length_le (l.drop at')
  rw [List.length_take] at h1
  rw [List.length_drop] at h2
  rw [putPiece_F_T]; unfold putPiece_T libRepeat_F libRuneCount_F libContains_F
  rw [show ((80 : Int) == 112) = false from rfl, cond_false]
  simp only [Int.toNat_natCast, List.drop_zero, List.take_length]
  rw [decide_eq_true (by omega : (0 : Int) ≤ (at' : Int)), decide_eq_true (by omega : (at' : Int) ≤ (l.length : Int)), decide_eq_true (by omega : (0 : Int) ≤ 1), decide_eq_true (by omega : (1 : Int) ≤ 9223372036854775807), decide_eq_true (by show t.length * 1 ≤ _; omega)]
  simp only [Bool.and_true, cond_true]
  rw [show (1 : Int).toNat = 1 from rfl, repeat_one, decide_eq_true (by omega), decide_eq_true (by rw [List.length_append]; omega), decide_eq_true (by omega : t.length < 9223372036854775807), decide_eq_true (by omega : t.length < 4294967281)]
  simp only [cond_true]
  cases (IntKind.wrap .i64 (((Lib.runeCount ⟨⟨t⟩⟩) : Int) * 1) == 0) with
  | true =>
    rw [cond_true, MapRest_eq l (by omega) at' hat]
    exact ⟨_, changeMade_eq s _ hs _ _⟩
  | false =>
    rw [cond_false]
    cases Lib.contains t [10] with
    | false => exact ⟨_, changeMade_eq s _ hs _ _⟩
    | true => exact ⟨_, changeMade_eq s _ hs _ _⟩

theorem rowOf_same0 (l : List Int) (x : Nat) (hx : x ≤ l.length) : rowOf l (endOf l x) = rowOf l x := by
  have key : ∀ (d y : Nat), y - x = d → x ≤ y → y ≤ endOf l x → rowOf l y = rowOf l x := by
    intro d
    induction d with
    | zero => intro y h1 h2 h3; rw [show y = x from by omega]
    | succ d ih =>
      intro y h1 h2 h3
      have hin := endOf_in l _ x (y - 1) rfl (by omega) (by omega)
      have := ih (y - 1) (by omega) (by omega) (by omega)
      rw [show y = (y - 1) + 1 from by omega, rowOf_succ hin.1, if_neg hin.2.1, this]; rfl
  exact key _ _ rfl (endOf_ge l x) (Nat.le_refl _)

theorem rowOf_app (l : List Int) {e : Nat} (he : e ≤ l.length) (m : List Int) : rowOf (l.take e ++ 10 :: m) (e + 1) = rowOf l e + 1 := by
  unfold rowOf
  have : (l.take e).length = e := by rw [List.length_take]; omega
  rw [List.take_append, List.take_of_length_le (by omega), this, Nat.add_sub_cancel_left, List.take_succ_cons, List.take_zero, List.countP_append]
  simp

/-- The row "row" put behind, once. -/
theorem putRows_p {R : Type} (s : Str) (hs : s.length ≤ 1000000) (l : List Int) (hl : l.length ≤ 1000000) (hsc : scalL l) (at' : Nat) (hat : at' ≤ l.length) (x4 : Int) (b : Bool) (k : Int → Int → Str → Int → Str → Bool → Int → Option R) :
    ∃ cur : Int, putRows_F s l (begins l) (at' : Int) x4 [114, 111, 119] b 112 1 k = (madeC s (strOf (l.take (endOf l at') ++ 10 :: 114 :: 111 :: 119 :: l.drop (endOf l at'))) cur).ap k := by
  have hel := endOf_le l at' hat
  have hro := rowOf_le l at'
  have hnl : (nls l 0).length ≤ l.length := by rw [nls_length]; exact List.countP_le_length
  have hbl : (begins l).length = (nls l 0).length + 1 := rfl
  have h1 := strOf_length_le (l.take (endOf l at'))
  have h2 := strOf_length_le (l.drop (endOf l at'))
  rw [List.length_take] at h1
  rw [List.length_drop] at h2
  rw [putRows_F_T]; unfold putRows_T libRepeat_F
  rw [MapRow_eq l l (by omega)]
  rw [decide_eq_true (by decide : List.length ([114, 111, 119] : Str) + List.length ([10] : Str) ≤ 9223372036854775807), decide_eq_true (by omega : (0 : Int) ≤ 1), decide_eq_true (by omega : (1 : Int) ≤ 9223372036854775807), decide_eq_true (by decide : List.length ([114, 111, 119] ++ [10] : Str) * (1 : Int).toNat ≤ 140737488355328)]
  simp only [Bool.and_true, cond_true]
  rw [show (1 : Int).toNat = 1 from rfl, repeat_one, decide_eq_true (by omega : (0 : Int) ≤ ((rowOf l at' : Nat) : Int)), decide_eq_true (by omega : ((rowOf l at' : Nat) : Int) < ((begins l).length : Int)), show ((112 : Int) == 112) = true from rfl]
  simp only [Bool.and_true, cond_true]
  rw [MapEnd_eq l (by omega) at' hat]
  rw [show IntKind.wrap .i64 (((List.length ([114, 111, 119] ++ [10] : Str) : Nat) : Int) - 1) = 3 from by decide]
  rw [decide_eq_true (by decide : (0 : Int) ≤ 3), decide_eq_true (by decide : (3 : Int) ≤ ((List.length ([114, 111, 119] ++ [10] : Str) : Nat) : Int))]
  simp only [Bool.and_true, cond_true]
  rw [show List.drop 0 (List.take (3 : Int).toNat ([114, 111, 119] ++ [10] : Str)) = [114, 111, 119] from rfl]
  rw [decide_eq_true (by decide : List.length ([10] : Str) + List.length ([114, 111, 119] : Str) ≤ 9223372036854775807)]
  simp only [Int.toNat_natCast, List.drop_zero, List.take_length, cond_true]
  rw [decide_eq_true (by omega : (0 : Int) ≤ ((endOf l at' : Nat) : Int)), decide_eq_true (by omega : ((endOf l at' : Nat) : Int) ≤ (l.length : Int)), decide_eq_true (by simp only [List.length_append, List.length_cons, List.length_nil]; omega), decide_eq_true (by simp only [List.length_append, List.length_cons, List.length_nil]; omega)]
  simp only [Bool.and_true, cond_true]
  have hz : strOf (l.take (endOf l at')) ++ ([10] ++ [114, 111, 119]) ++ strOf (l.drop (endOf l at')) = strOf (l.take (endOf l at') ++ 10 :: 114 :: 111 :: 119 :: l.drop (endOf l at')) := by
    rw [strOf_append, strOf_cons, strOf_cons, strOf_cons, strOf_cons, show enc 10 = [10] from by decide, show enc 114 = [114] from by decide, show enc 111 = [111] from by decide, show enc 119 = [119] from by decide]
    simp
  rw [hz]
  have hzs : scalL (l.take (endOf l at') ++ 10 :: 114 :: 111 :: 119 :: l.drop (endOf l at')) := by
    rw [scalL_append, scalL_cons, scalL_cons, scalL_cons, scalL_cons]
    exact ⟨hsc.take _, .inl (by omega), .inl (by omega), .inl (by omega), .inl (by omega), hsc.drop _⟩
  have hzl : (l.take (endOf l at') ++ 10 :: 114 :: 111 :: 119 :: l.drop (endOf l at')).length = l.length + 4 := by
    rw [List.length_append, List.length_take]; simp only [List.length_cons, List.length_drop]; omega
  have hzr := rowOf_app l hel (114 :: 111 :: 119 :: l.drop (endOf l at'))
  rw [rowOf_same0 l at' hat] at hzr
  generalize l.take (endOf l at') ++ 10 :: 114 :: 111 :: 119 :: l.drop (endOf l at') = z at *
  rw [textOf_eq _ (by rw [runesOf_strOf hzs]; omega), runesOf_strOf hzs, wrap64 (by omega) (by omega), show ((rowOf l at' : Nat) : Int) + 1 = ((rowOf z (endOf l at' + 1) : Nat) : Int) from by omega]
  rw [MapFirst_eq z (by omega) (rune_of_scal hzs) _ (by omega), MapRest_eq z (by omega) _ (firstOf_le _ _ (by omega))]
  exact ⟨_, changeMade_eq s _ hs _ _⟩

end Go.Proofs.YtleoffdjdgbanaaDoor

set_option linter.unusedVariables false
set_option linter.unusedSimpArgs false
set_option maxRecDepth 100000
namespace Go.Proofs.YtleoffdjdgbanaaDoor
open Go Go.QA Go.Proofs

theorem putOf_head {R : Type} (s : Str) (h1 : mayOf s = true) (at' : Nat) (hat : at' ≤ (runesOf s).length) (x2 : Int) (t : Str) (h2 : mayOf t = true) (b : Bool) (key : Int) (hk : key = 112 ∨ key = 80) (k : Int → Int → Str → Int → Str → Bool → Int → Option R) :
    putOf_F s (at' : Int) x2 t b key 1 k = bif b then putRows_F s (runesOf s) (begins (runesOf s)) (at' : Int) x2 t b key 1 k else putPiece_F s (runesOf s) (begins (runesOf s)) (at' : Int) x2 t b key 1 k := by
  have hlen := mayOf_len h1
  have hle := runesOf_length_le s
  have hlen2 := mayOf_len h2
  have hb : isB (runesOf s) (at' : Int) = true := by unfold isB; rw [decide_eq_true_eq]; omega
  rw [putOf_F_T]; unfold putOf_T
  rw [textMay_eq, h1]
  simp only [Bool.not_true, cond_false]
  rw [textMay_eq, h2]
  simp only [Bool.not_true, cond_false]
  rw [decide_eq_false (by omega : ¬ (1 : Int) < 1), decide_eq_false (by omega : ¬ (1 : Int) > 999)]
  simp only [cond_false]
  rw [textOf_eq _ (by omega), MapIs_eq, hb, wrap64 (by omega) (by omega), decide_eq_false (by omega : ¬ ((t.length : Int) * 1) > 4000)]
  simp only [Bool.not_true, cond_false]
  rcases hk with rfl | rfl <;> rfl

theorem mayOf_part {s : Str} (hs : mayOf s = true) {y : List Int} (hy : ∀ x ∈ y, x ∈ runesOf s) (hl : (strOf y).length ≤ 4000) : mayOf (strOf y) = true := by
  have hsc : scalL y := fun x hx => runesOf_scal s x (hy x hx)
  rw [mayOf_iff hsc]
  exact ⟨hl, fun h0 => mayOf_runes hs (hy 0 h0)⟩

theorem countP_row (l : List Int) (e : Nat) : (l.take e ++ 10 :: 114 :: 111 :: 119 :: l.drop e).countP (· == 10) = l.countP (· == 10) + 1 := by
  conv => rhs; rw [← List.take_append_drop e l]
  simp only [List.countP_append, List.countP_cons]
  simp; omega

theorem splitC_count0 : ∀ l : List Int, (splitC 10 l).length = l.countP (· == 10) + 1
  | [] => rfl
  | x :: t => by
    have ih := splitC_count0 t
    rw [splitC]
    by_cases h : x = 10
    · rw [if_pos h, List.length_cons, ih, List.countP_cons_of_pos (by simpa using h)]
    · rw [if_neg h, List.countP_cons_of_neg (by simpa using h), ← ih]
      cases hs : splitC (10 : Int) t with
      | nil => exact absurd hs (splitC_ne _ _)
      | cons r rs => rfl

/-- Rows that are put: one more, and they may be taken again. -/
theorem PutBack_row {R : Type} (s : Str) (hs : mayOf s = true) (hl : s.length ≤ 1000) (at' : Nat) (hat : at' ≤ (runesOf s).length) (ok bad : Option R) :
    putOf_F s (at' : Int) 0 [114, 111, 119] true 112 1 (fun x49 x50 s51 x52 s53 b54 x55 =>
      num19_F x55 (fun x56 => bif (x56 != (0 : Int)) then bad else
        refMay4_F s x49 x50 s51 (fun b57 => bif !b57 then bad else
          refApply_F s x49 x50 s51 (fun s58 => refRows_F s58 (fun q59 => refRows_F s (fun q60 =>
            bif ((↑(List.length q59) : Int) != Go.IntKind.wrap Go.IntKind.i64 ((↑(List.length q60) : Int) + (1 : Int))) then bad else ok)))))) = ok := by
  have hle := runesOf_length_le s
  have hv := strOf_runesOf (mayOf_valid hs)
  have hel := endOf_le (runesOf s) at' hat
  rw [putOf_head s hs at' hat 0 _ (by kernel_rfl) true 112 (.inl rfl), cond_true]
  obtain ⟨cur, hc⟩ := putRows_p s (by omega) (runesOf s) (by omega) (runesOf_scal s) at' hat 0 true (fun x49 x50 s51 x52 s53 b54 x55 =>
      num19_F x55 (fun x56 => bif (x56 != (0 : Int)) then bad else
        refMay4_F s x49 x50 s51 (fun b57 => bif !b57 then bad else
          refApply_F s x49 x50 s51 (fun s58 => refRows_F s58 (fun q59 => refRows_F s (fun q60 =>
            bif ((↑(List.length q59) : Int) != Go.IntKind.wrap Go.IntKind.i64 ((↑(List.length q60) : Int) + (1 : Int))) then bad else ok))))))
  rw [hc]
  have hzs : scalL ((runesOf s).take (endOf (runesOf s) at') ++ 10 :: 114 :: 111 :: 119 :: (runesOf s).drop (endOf (runesOf s) at')) := by
    rw [scalL_append, scalL_cons, scalL_cons, scalL_cons, scalL_cons]
    exact ⟨(runesOf_scal s).take _, .inl (by omega), .inl (by omega), .inl (by omega), .inl (by omega), (runesOf_scal s).drop _⟩
  have hzb : (strOf ((runesOf s).take (endOf (runesOf s) at') ++ 10 :: 114 :: 111 :: 119 :: (runesOf s).drop (endOf (runesOf s) at'))).length = s.length + 4 := by
    rw [strOf_append, strOf_cons, strOf_cons, strOf_cons, strOf_cons, show enc 10 = [10] from by decide, show enc 114 = [114] from by decide, show enc 111 = [111] from by decide, show enc 119 = [119] from by decide]
    have e := congrArg (fun z => (strOf z).length) (List.take_append_drop (endOf (runesOf s) at') (runesOf s))
    simp only [strOf_append, List.length_append, hv] at e
    simp only [List.length_append, List.length_cons, List.length_nil]
    omega
  have hzm : mayOf (strOf ((runesOf s).take (endOf (runesOf s) at') ++ 10 :: 114 :: 111 :: 119 :: (runesOf s).drop (endOf (runesOf s) at'))) = true := by
    rw [mayOf_iff hzs]
    refine ⟨by omega, fun h0 => ?_⟩
    rcases List.mem_append.1 h0 with h0 | h0
    · exact mayOf_runes hs (List.mem_of_mem_take h0)
    · simp only [List.mem_cons] at h0
      rcases h0 with h0 | h0 | h0 | h0 | h0
      · cases h0
      · cases h0
      · cases h0
      · cases h0
      · exact mayOf_runes hs (List.mem_of_mem_drop h0)
  rw [madeC_ok hzm]
  unfold Chg.ap
  dsimp only
  rw [num19_eq, bne_self_eq_false, cond_false, refMay4_made s _ hs hzm]
  simp only [Bool.not_true, cond_false]
  rw [refApply_made s _ hs hzm, refRows_eq _ (by omega), refRows_eq _ (by omega), splitC_strOf hzs, List.length_map, splitC_count0, countP_row]
  have e : splitC (10 : UInt8) s = (splitC (10 : Int) (runesOf s)).map strOf := by rw [← splitC_strOf (runesOf_scal s), hv]
  rw [e, List.length_map, splitC_count0]
  have hcp : (runesOf s).countP (· == 10) ≤ (runesOf s).length := List.countP_le_length
  rw [wrap64 (by omega) (by omega), show (((runesOf s).countP (· == 10) + 1 + 1 : Nat) : Int) = ((((runesOf s).countP (· == 10) + 1 : Nat)) : Int) + 1 from by omega, bne_self_eq_false, cond_false]

theorem PutBack_step {R : Type} (rec : Int → Str → List Int → Int → Int → Int → Int → Int → Int → Int → Int → List Str → Option R) (x19 : Int) (s : Str) (hs : mayOf s = true) (hl : s.length ≤ 1000) (at' : Nat) (hat : at' < (runesOf s).length) (h60 : at' < 60)
    (x23 x24 x25 x26 x27 x28 x29 : Int) (q30 : List Str) (ke0 : Bool → Option R) (ke1 : Int → Int → Int → Int → Int → Int → Int → Int → List Str → Option R) :
    PutBack_B10 rec x19 s (runesOf s) (at' : Int) x23 x24 x25 x26 x27 x28 x29 q30 ke0 ke1 = rec x19 s (runesOf s) ((at' + 1 : Nat) : Int) x23 x24 x25 x26 x27 x28 x29 q30 := by
  have hle := runesOf_length_le s
  have hsc := runesOf_scal s
  have hv := strOf_runesOf (mayOf_valid hs)
  unfold PutBack_B10
  rw [decide_eq_true (by omega : (at' : Int) < ((runesOf s).length : Int)), decide_eq_true (by omega : (at' : Int) < 60)]
  simp only [cond_true]
  have hcount : IntKind.wrap .i64 ((1 : Int) + Int.tmod (at' : Int) 3) = ((1 + at' % 3 : Nat) : Int) := by
    rw [Int.tmod_eq_emod_of_nonneg (by omega), wrap64 (by omega) (by omega)]; omega
  rw [hcount, wrap64 (x := (at' : Int) + 1) (by omega) (by omega), show ((at' : Int) + 1) = ((at' + 1 : Nat) : Int) from by omega]
  rw [refSmall_x s (by omega) at' (by omega) 0 (1 + at' % 3) (by omega)]
  have hge := endOf_ge (runesOf s) at'
  have hel := endOf_le (runesOf s) at' (by omega)
  have hrow : ∀ bad ok : Option R, _ := fun bad ok => PutBack_row s hs hl at' (by omega) ok bad
  generalize hh : min (endOf (runesOf s) at') (at' + (1 + at' % 3)) = high
  have h1 : at' ≤ high := by omega
  have h2 : high ≤ (runesOf s).length := by omega
  unfold cutC
  by_cases he : at' = high
  · rw [if_pos he]; rfl
  · rw [if_neg he]
    generalize hy : (runesOf s).take at' ++ (runesOf s).drop high = y
    generalize ht : ((runesOf s).take high).drop at' = t
    have hsplit : (runesOf s).take at' ++ (t ++ (runesOf s).drop high) = runesOf s := by
      rw [← ht]
      conv => rhs; rw [← List.take_append_drop high (runesOf s), ← List.take_append_drop at' ((runesOf s).take high)]
      rw [List.take_take, show min at' high = at' from by omega, List.append_assoc]
    have hyin : ∀ x ∈ y, x ∈ runesOf s := by
      intro x hx
      rw [← hy] at hx
      rcases List.mem_append.1 hx with hx | hx
      · exact List.mem_of_mem_take hx
      · exact List.mem_of_mem_drop hx
    have htin : ∀ x ∈ t, x ∈ runesOf s := by
      intro x hx
      rw [← ht] at hx
      exact List.mem_of_mem_take (List.mem_of_mem_drop hx)
    have hys : scalL y := fun x hx => hsc x (hyin x hx)
    have hts : scalL t := fun x hx => hsc x (htin x hx)
    have hbytes : (strOf y).length + (strOf t).length = s.length := by
      have e := congrArg (fun z => (strOf z).length) hsplit
      rw [← hy]
      simp only [strOf_append, List.length_append, hv] at e ⊢
      omega
    have hym := mayOf_part hs hyin (by omega)
    have htm := mayOf_part hs htin (by omega)
    have hyl : y.length ≤ (runesOf s).length := by rw [← hy, List.length_append, List.length_take, List.length_drop]; omega
    have hyat : at' ≤ y.length := by rw [← hy, List.length_append, List.length_take]; omega
    have hp : restOf y at' ≤ y.length := by unfold restOf; split <;> omega
    rw [madeC_ok hym]
    unfold Chg.with Chg.ap
    dsimp only
    rw [bne_self_eq_false, cond_false, refApply_made s _ hs hym]
    rw [putOf_head _ hym (restOf y at') (by rw [runesOf_strOf hys]; exact hp) 0 _ htm false 80 (.inr rfl), cond_false, runesOf_strOf hys]
    obtain ⟨cur, hc⟩ := putPiece_P (R := R) (strOf y) (by omega) y (by omega) hys (restOf y at') hp 0 (strOf t) (by omega) false _
    refine hc.trans ?_
    have hx : strOf (y.take (restOf y at')) ++ strOf t ++ strOf (y.drop (restOf y at')) = strOf (y.take (restOf y at') ++ (t ++ y.drop (restOf y at'))) := by
      rw [strOf_append, strOf_append, List.append_assoc]
    rw [hx]
    have hxm : mayOf (strOf (y.take (restOf y at') ++ (t ++ y.drop (restOf y at')))) = true := by
      refine mayOf_part hs (fun z hz => ?_) ?_
      · rcases List.mem_append.1 hz with hz | hz
        · exact hyin z (List.mem_of_mem_take hz)
        · rcases List.mem_append.1 hz with hz | hz
          · exact htin z hz
          · exact hyin z (List.mem_of_mem_drop hz)
      · have e := congrArg (fun z => (strOf z).length) (List.take_append_drop (restOf y at') y)
        simp only [strOf_append, List.length_append] at e ⊢
        omega
    rw [madeC_ok hxm]
    unfold Chg.ap
    dsimp only
    rw [num19_eq, bne_self_eq_false, cond_false, refMay4_made _ _ hym hxm]
    simp only [Bool.not_true, cond_false]
    by_cases hpa : restOf y at' = at'
    · rw [show (((restOf y at' : Nat) : Int) == (at' : Int)) = true from by rw [hpa]; simp, cond_true, refApply_made _ _ hym hxm]
      have hback : strOf (y.take (restOf y at') ++ (t ++ y.drop (restOf y at'))) = s := by
        have hlen : ((runesOf s).take at').length = at' := by rw [List.length_take]; omega
        rw [hpa, ← hy, List.take_append_of_le_length (by omega), List.take_take, Nat.min_self, List.drop_append_of_le_length (by omega), List.drop_eq_nil_of_le (by omega), List.nil_append, hsplit, hv]
      rw [hback, beq_self_eq_true, Bool.not_true, cond_false]
      exact hrow _ _
    · rw [show (((restOf y at' : Nat) : Int) == (at' : Int)) = false from by simp; omega, cond_false]
      exact hrow _ _

theorem PutBack_10 {R : Type} (x19 : Int) (s : Str) (hs : mayOf s = true) (hl : s.length ≤ 1000)
    (x23 x24 x25 x26 x27 x28 x29 : Int) (q30 : List Str) (ke0 : Bool → Option R) (ke1 : Int → Int → Int → Int → Int → Int → Int → Int → List Str → Option R) : ∀ (n j : Nat), 0 < n → 1000 < n + j →
    PutBack_L10 n x19 s (runesOf s) (j : Int) x23 x24 x25 x26 x27 x28 x29 q30 ke0 ke1 = ke1 x19 x23 x24 x25 x26 x27 x28 x29 q30 := by
  have hle := runesOf_length_le s
  intro n
  induction n with
  | zero => intro j h0; omega
  | succ n ih =>
    intro j h1 h2
    simp only [PutBack_L10]
    by_cases h : j < (runesOf s).length
    · by_cases h3 : j < 60
      · rw [PutBack_step _ x19 s hs hl j h h3]
        exact ih (j + 1) (by omega) (by omega)
      · unfold PutBack_B10
        rw [decide_eq_true (by omega : (j : Int) < ((runesOf s).length : Int)), decide_eq_false (by omega : ¬ (j : Int) < 60)]; rfl
    · unfold PutBack_B10
      rw [decide_eq_false (by omega : ¬ (j : Int) < ((runesOf s).length : Int))]; rfl

theorem PutBack_4 {R : Type} (x10 x11 x12 x13 x14 x15 x16 : Int) (q : List Str) (hq : q.length ≤ 6000) (hq2 : ∀ s ∈ q, s.length ≤ 6000) (ke0 : Bool → Option R) (ke1 : Option R) : ∀ (n i : Nat), i ≤ 3 → 3 < n + i →
    PutBack_L4 n (i : Int) x10 x11 x12 x13 x14 x15 x16 q ke0 ke1 = ke1 := by
  intro n
  induction n with
  | zero => intro i h0; omega
  | succ n ih =>
    intro i h1 h2
    simp only [PutBack_L4, PutBack_B4]
    by_cases h : i < q.length
    · rw [decide_eq_true (by omega : (i : Int) < (q.length : Int)), cond_true]
      by_cases h3 : i < 3
      · rw [decide_eq_true (by omega : (i : Int) < 3), decide_eq_true (by omega : (0 : Int) ≤ (i : Int))]
        simp only [Bool.and_true, cond_true, Int.toNat_natCast]
        have hs := hq2 _ (getD_mem h)
        rw [refMay1_eq, wrap64 (by omega) (by omega)]
        have next := ih (i + 1) (by omega) (by omega)
        rw [show (((i + 1 : Nat)) : Int) = (i : Int) + 1 from by omega] at next
        cases hm : mayOf (q.getD i []) with
        | false => exact next
        | true =>
          simp only [Bool.not_true, cond_false]
          by_cases h5 : (q.getD i []).length ≤ 1000
          · rw [decide_eq_false (by omega : ¬ ((q.getD i []).length : Int) > 1000), cond_false, PutBack_M10_eq]
            refine (PutBack_10 (i : Int) _ hm h5 _ _ _ _ _ _ _ _ _ _ 4611686018427387904 0 (by omega) (by omega)).trans ?_
            rw [wrap64 (by omega) (by omega)]
            exact next
          · rw [decide_eq_true (by omega : ((q.getD i []).length : Int) > 1000), cond_true]
            exact next
      · rw [decide_eq_false (by omega : ¬ (i : Int) < 3)]; rfl
    · rw [decide_eq_false (by omega : ¬ (i : Int) < (q.length : Int))]; rfl

theorem wakes19_eq {R : Type} (k : Bool → Option R) : wakes19_F k = k true := by
  rw [wakes19_F_T]; unfold wakes19_T
  have h := putOf_head (R := R) [97] (by kernel_rfl) 0 (Nat.zero_le _) 0 [120] (by kernel_rfl) false 80 (.inr rfl)
  rw [show (((0 : Nat) : Int)) = (0 : Int) from rfl] at h
  rw [h, cond_false]
  obtain ⟨cur, hc⟩ := putPiece_P (R := R) [97] (by simp) (runesOf [97]) (Nat.le_of_ble_eq_true (by kernel_rfl)) (runesOf_scal _) 0 (Nat.zero_le _) 0 [120] (by simp) false _
  refine hc.trans ?_
  have hx : strOf ((runesOf [97]).take 0) ++ [120] ++ strOf ((runesOf [97]).drop 0) = [120, 97] := by kernel_rfl
  have hm1 : mayOf [97] = true := by kernel_rfl
  have hm2 : mayOf [120, 97] = true := by kernel_rfl
  rw [hx, madeC_ok hm2]
  unfold Chg.ap
  dsimp only
  rw [num19_eq, show ((0 : Int) == 0) = true from rfl, cond_true, refApply_made _ _ hm1 hm2]
  rfl

theorem PutBack_true {R : Type} (q : List Str) (hq : Sized q) (x1 x2 x3 x4 x5 x6 x7 : Int) (k : Bool → Option R) : PutBack_F q x1 x2 x3 x4 x5 x6 x7 k = k true := by
  have hw : ∀ f : Int → Option R, lawWithin_F 3 2 f = f 1 := by
    intro f
    rw [lawWithin_F_T]; unfold lawWithin_T
    refine Eq.trans ?_ (rfl : f 1 = f 1)
    kernel_rfl
  rw [PutBack_F_T]; unfold PutBack_T
  rcases lawHeavy10_eq q hq x1 x2 x3 x4 x5 x6 x7 (fun b8 => bif b8 then k true else PutBack_M4 0 x7 x6 x5 x4 x3 x2 x1 q (fun b83 => k b83) (lawWithin_F 3 2 (fun x84 => bif (x84 == (1 : Int)) then wakes19_F (fun b85 => k b85) else k false))) with h | ⟨h, h1, h2⟩
  · exact h
  · refine h.trans ?_
    rw [cond_false, PutBack_M4_eq]
    refine (PutBack_4 x7 x6 x5 x4 x3 x2 x1 q h1 h2 _ _ 4611686018427387904 0 (by omega) (by omega)).trans ?_
    rw [hw, show ((1 : Int) == 1) = true from rfl, cond_true]
    exact wakes19_eq _

end Go.Proofs.YtleoffdjdgbanaaDoor
