/- What is told of the program as the model has it: it, and the structs' types that are compared; no theorem of the program is proved here. -/
import Derived.Test.YtleoffdjdgbanaaDoorProg
import Derived.Test.YtleoffdjdgbanaaDoorQa4
import Derived.KernelRfl
import Derived.Laws.StructEq
import Derived.Shelf.Unicode.DecodeSlow
import Derived.Lib.AppendIntMem
import Derived.Lib.Props
import Derived.Test.YtleoffdjdgbanaaDoorShelf
import Derived.Shelf.Unicode.ValidAny
import Derived.Lib.SplitLaws
set_option linter.unusedVariables false
set_option linter.unusedSimpArgs false
set_option linter.unusedSimpArgs false
namespace Go.Proofs.YtleoffdjdgbanaaDoor
open Go Go.QA Go.Proofs Go.RowKit

/-- What the library's variables hold: MaxLen, the tables of utf8, the table of properties. -/
def LaidW (w : World) : Prop := (∃ m, w.cell? ⟨4, 0, none⟩ = some (.int .i64 m)) ∧ Lib.Utf8Tabs 0 1 w ∧ Lib.TabIs Tryd.prog w "unicode.properties" .u8 Lib.propertiesTab

/-- Blocks below B hold them. -/
def LaidI (B : Nat) (w : World) : Prop := ∃ w0, LaidW w0 ∧ w0.heap.size ≤ B ∧ Below w0.heap.size w0 w

theorem LaidI.here {B : Nat} {w : World} (h : LaidI B w) : LaidW w := by
  obtain ⟨w0, ⟨⟨m, h1⟩, h2, h3⟩, _, h4⟩ := h
  refine ⟨⟨m, ?_⟩, Utf8Tabs_below h2 h4, Lib.tabBelow_of_tabIs h3 w h4⟩
  have hb : w.heap[4]? = w0.heap[4]? := by
    rcases Nat.lt_or_ge 4 w0.heap.size with h | h
    · exact h4.block 4 h
    · simp [World.cell?, Array.getElem?_eq_none h] at h1
  simpa [World.cell?, hb] using h1

noncomputable def qP : Prg := ⟨Tryd.prog, [(33, [.int .i64, .int .i64, .str]), (35, [.int .i64, .int .i64, .str, .int .i64, .str, .bool])], LaidI, [94, 100]⟩

theorem fits_int {k : IntKind} {t : List Sc} {xs : List D} (h : schFits (.int k :: t) xs = true) : ∃ n ds, xs = .int k n :: ds ∧ schFits t ds = true := by
  cases xs with
  | nil => simp [schFits] at h
  | cons d ds =>
    cases d <;> simp [schFits] at h
    obtain ⟨rfl, h⟩ := h
    exact ⟨_, _, rfl, h⟩

theorem fits_str {t : List Sc} {xs : List D} (h : schFits (.str :: t) xs = true) : ∃ n ds, xs = .str n :: ds ∧ schFits t ds = true := by
  cases xs with
  | nil => simp [schFits] at h
  | cons d ds => cases d <;> simp [schFits] at h; exact ⟨_, _, rfl, h⟩

theorem fits_bool {t : List Sc} {xs : List D} (h : schFits (.bool :: t) xs = true) : ∃ n ds, xs = .bool n :: ds ∧ schFits t ds = true := by
  cases xs with
  | nil => simp [schFits] at h
  | cons d ds => cases d <;> simp [schFits] at h; exact ⟨_, _, rfl, h⟩

theorem fits_nil {xs : List D} (h : schFits [] xs = true) : xs = [] := by
  cases xs with
  | nil => rfl
  | cons d ds => simp [schFits] at h

theorem run33 (w : World) (d : Nat) (n1 n2 m1 m2 : Int) (s1 t1 : Str) :
    (Op.equalIn (d + 1 + 1) 33 (.agg #[.int .i64 n1, .int .i64 n2, strV s1]) (.agg #[.int .i64 m1, .int .i64 m2, strV t1])).run Tryd.prog w = .ok (n1 == m1 && (n2 == m2 && s1 == t1)) w := by
  have hf : Tryd.prog.fieldsOf 33 = #[⟨ "At", 3, 0, false, "", "", 0⟩, ⟨ "Del", 3, 1, false, "", "", 8⟩, ⟨ "Ins", 9, 2, false, "", "", 16⟩] := by kernel_rfl
  have h3 : Tryd.prog.underlying 3 = some (.int .i64) := by kernel_rfl
  have h9 : Tryd.prog.underlying 9 = some .string := by kernel_rfl
  rw [run_equalIn_struct w (d + 1) 33 _ _ (by kernel_rfl) (by kernel_rfl), hf]
  have hsl : (ByteArray.mk ⟨s1⟩).toList = s1 := Go.ByteArray.toList_mk s1
  have htl : (ByteArray.mk ⟨t1⟩).toList = t1 := Go.ByteArray.toList_mk t1
  simp [Op.eqFields, part, isAgg, run_underlying h3, run_underlying h9, strV, run_equalIn_int w d 3 .i64 .i64 _ _ h3, run_equalIn_string w d 9 _ _ h9, hsl, htl]
  by_cases e1 : n1 = m1 <;> by_cases e2 : n2 = m2 <;> by_cases e3 : s1 = t1 <;> simp [e1, e2, e3]

theorem eq33 : EqRun Tryd.prog 33 [.int .i64, .int .i64, .str] := by
  intro w xs ys b op x y hx hy hb
  obtain ⟨n1, _, rfl, hx1⟩ := fits_int hx
  obtain ⟨n2, _, rfl, hx2⟩ := fits_int hx1
  obtain ⟨s1, _, rfl, hx3⟩ := fits_str hx2
  obtain rfl := fits_nil hx3
  obtain ⟨m1, _, rfl, hy1⟩ := fits_int hy
  obtain ⟨m2, _, rfl, hy2⟩ := fits_int hy1
  obtain ⟨t1, _, rfl, hy3⟩ := fits_str hy2
  obtain rfl := fits_nil hy3
  simp only [eqL, eqD, decide_true, cond_true, Option.some.injEq, Bool.and_true] at hb
  subst hb
  have hg : Tryd.prog.eqGuardType Tryd.prog.depth 33 = false := by kernel_rfl
  refine ⟨?_, ?_⟩
  · cases op <;> simp [eqGuard, hg]
  · unfold Op.equal Op.maxDepth
    exact run33 w 9998 n1 n2 m1 m2 s1 t1

theorem eq35 : EqRun Tryd.prog 35 [.int .i64, .int .i64, .str, .int .i64, .str, .bool] := by
  intro w xs ys b op x y hx hy hb
  obtain ⟨n1, _, rfl, hx1⟩ := fits_int hx
  obtain ⟨n2, _, rfl, hx2⟩ := fits_int hx1
  obtain ⟨s1, _, rfl, hx3⟩ := fits_str hx2
  obtain ⟨n3, _, rfl, hx4⟩ := fits_int hx3
  obtain ⟨s2, _, rfl, hx5⟩ := fits_str hx4
  obtain ⟨b1, _, rfl, hx6⟩ := fits_bool hx5
  obtain rfl := fits_nil hx6
  obtain ⟨m1, _, rfl, hy1⟩ := fits_int hy
  obtain ⟨m2, _, rfl, hy2⟩ := fits_int hy1
  obtain ⟨t1, _, rfl, hy3⟩ := fits_str hy2
  obtain ⟨m3, _, rfl, hy4⟩ := fits_int hy3
  obtain ⟨t2, _, rfl, hy5⟩ := fits_str hy4
  obtain ⟨c1, _, rfl, hy6⟩ := fits_bool hy5
  obtain rfl := fits_nil hy6
  simp only [eqL, eqD, decide_true, cond_true, Option.some.injEq, Bool.and_true] at hb
  subst hb
  have hg : Tryd.prog.eqGuardType Tryd.prog.depth 35 = false := by kernel_rfl
  refine ⟨?_, ?_⟩
  · cases op <;> simp [eqGuard, hg]
  · unfold Op.equal Op.maxDepth
    rw [show (10000 : Nat) = 9997 + 1 + 1 + 1 from rfl]
    generalize (9997 : Nat) = d
    have hf : Tryd.prog.fieldsOf 35 = #[⟨ "Patch", 33, 0, false, "", "", 0⟩, ⟨ "At", 3, 3, false, "", "", 32⟩, ⟨ "Took", 9, 4, false, "", "", 40⟩, ⟨ "Line", 4, 5, false, "", "", 56⟩] := by kernel_rfl
    have h3 : Tryd.prog.underlying 3 = some (.int .i64) := by kernel_rfl
    have h4 : Tryd.prog.underlying 4 = some .bool := by kernel_rfl
    have h9 : Tryd.prog.underlying 9 = some .string := by kernel_rfl
    have hag : (isAgg 33).run Tryd.prog w = .ok true w := by kernel_rfl
    have hsz : (sizeOf 33).run Tryd.prog w = .ok 3 w := by kernel_rfl
    rw [run_equalIn_struct w (d + 1 + 1) 35 _ _ (by kernel_rfl) (by kernel_rfl), hf]
    have hsl : ∀ s : Str, (ByteArray.mk ⟨s⟩).toList = s := fun s => Go.ByteArray.toList_mk s
    have hag3 : (isAgg 3).run Tryd.prog w = .ok false w := by kernel_rfl
    have hag4 : (isAgg 4).run Tryd.prog w = .ok false w := by kernel_rfl
    have hag9 : (isAgg 9).run Tryd.prog w = .ok false w := by kernel_rfl
    have hp := run33 w d n1 n2 m1 m2 s1 t1
    simp only [strV] at hp
    simp [Op.eqFields, part, hag, hsz, hag3, hag4, hag9, scV, strV, hp, run_equalIn_int w (d + 1) 3 .i64 .i64 _ _ h3, run_equalIn_string w (d + 1) 9 _ _ h9, run_equalIn_bool' w (d + 1) 4 _ _ h4, hsl]
    by_cases e1 : n1 = m1 <;> by_cases e2 : n2 = m2 <;> by_cases e3 : s1 = t1 <;> by_cases e4 : n3 = m3 <;> by_cases e5 : s2 = t2 <;> by_cases e6 : b1 = c1 <;> simp [e1, e2, e3, e4, e5, e6]

theorem qOk : PrgOk qP := by
  refine ⟨by kernel_rfl, ?_, fun ⟨w0, h1, h2, h3⟩ hb => ⟨w0, h1, h2, h3.trans (hb.mono h2)⟩, fun ⟨w0, h1, h2, h3⟩ hb => ⟨w0, h1, Nat.le_trans h2 hb, h3⟩⟩
  intro t sch h
  simp only [qP, findSch] at h
  cases h1 : Nat.beq 33 t with
  | true =>
    rw [h1] at h
    rw [Nat.beq_eq] at h1
    subst h1
    simp only [cond_true, Option.some.injEq] at h
    subst h
    exact eq33
  | false =>
    rw [h1] at h
    cases h2 : Nat.beq 35 t with
    | true =>
      rw [h2] at h
      rw [Nat.beq_eq] at h2
      subst h2
      simp only [cond_true, cond_false, Option.some.injEq] at h
      subst h
      exact eq35
    | false => rw [h2] at h; simp at h

end Go.Proofs.YtleoffdjdgbanaaDoor

set_option linter.unusedVariables false
set_option linter.unusedSimpArgs false
namespace Go.Proofs.YtleoffdjdgbanaaDoor
open Go Go.QA Go.Proofs Go.RowKit

theorem acalls_of {f : FuncId} {args : List D} {r : D} (fn : Func) (hf : Tryd.prog.funcs[f]? = some fn) (hb : fn.body.isNone = false) (hn : (fn.name == "runtime.NumGoroutine") = false) (hfr : qP.fresh.contains f = false)
    (h : ∀ (X : Nat → Prop) (w : World) (vals : List Value), (∀ b, X b → b < w.heap.size) → qP.I w.heap.size w → RepL (iv X w) args vals →
      Calls Tryd.prog f ⟨vals⟩ w fun e w' => ∃ v, e = .returned v ∧ Below w.heap.size w w' ∧ Rep (iv X w') r v) : ACalls qP f args r :=
  ⟨⟨fn, hf, hb, hn⟩, fun X w vals hX hI hr => (h X w vals hX hI hr).mono fun e w' ⟨v, h1, h2, h3⟩ => ⟨v, h1, h2, h3, fun e => by rw [hfr] at e; cases e⟩⟩

theorem rep1 {V : Vw} {d : D} {vals : List Value} (h : RepL V [d] vals) : ∃ v, vals = [v] ∧ Rep V d v := by
  simp only [RepL] at h
  obtain ⟨v, r, rfl, h1, rfl⟩ := h
  exact ⟨v, rfl, h1⟩

theorem rep2 {V : Vw} {d e : D} {vals : List Value} (h : RepL V [d, e] vals) : ∃ v u, vals = [v, u] ∧ Rep V d v ∧ Rep V e u := by
  simp only [RepL] at h
  obtain ⟨v, r, rfl, h1, u, r', rfl, h2, rfl⟩ := h
  exact ⟨v, u, rfl, h1, h2⟩

/-! ### utf8.ValidRune -/

noncomputable def libValidRune_F {R : Type} (x : Int) (k : Bool → Option R) : Option R := k (Lib.validRune x)
noncomputable def libValidRune_abs (R : Type) (ds : List D) (k : D → Option R) : Option R :=
  match ds with
  | [D.int .i32 x] => libValidRune_F x fun b => k (.bool b)
  | _ => none
theorem libValidRune_ok : FnOk qP 99 libValidRune_abs := by
  intro R ds k r h
  unfold libValidRune_abs at h
  split at h
  · refine ⟨_, h, acalls_of _ Tryd.func99 (by kernel_rfl) (by kernel_rfl) (by kernel_rfl) ?_⟩
    intro X w vals hX hI hr
    obtain ⟨v, rfl, hv⟩ := rep1 hr
    simp only [Rep] at hv
    subst hv
    refine (Tryd.utf8_ValidRune _ w).mono ?_
    rintro e w' ⟨rfl, rfl⟩
    exact ⟨_, rfl, Below.refl _ _, rfl⟩
  · cases h

/-! ### strings.IndexByte -/

noncomputable def libIndexByte_F {R : Type} (s : Str) (c : Int) (k : Int → Option R) : Option R := k (Lib.indexByte s c.toNat.toUInt8)
noncomputable def libIndexByte_abs (R : Type) (ds : List D) (k : D → Option R) : Option R :=
  match ds with
  | [D.str s, D.int .u8 c] => libIndexByte_F s c fun b => k (.int .i64 b)
  | _ => none
theorem libIndexByte_ok : FnOk qP 103 libIndexByte_abs := by
  intro R ds k r h
  unfold libIndexByte_abs at h
  split at h
  · refine ⟨_, h, acalls_of _ Tryd.func103 (by kernel_rfl) (by kernel_rfl) (by kernel_rfl) ?_⟩
    intro X w vals hX hI hr
    obtain ⟨v, u, rfl, hv, hu⟩ := rep2 hr
    simp only [Rep] at hv hu
    subst hv; subst hu
    refine (Tryd.strings_IndexByte _ _ w).mono ?_
    rintro e w' ⟨rfl, rfl⟩
    exact ⟨_, rfl, Below.refl _ _, rfl⟩
  · cases h

/-! ### unicode.ToLower, ToUpper: below 128 -/

noncomputable def libToLower_F {R : Type} (x : Int) (k : Int → Option R) : Option R := bif decide (x ≤ 127) then k (Lib.toLowerR x) else none
noncomputable def libToLower_abs (R : Type) (ds : List D) (k : D → Option R) : Option R :=
  match ds with
  | [D.int .i32 x] => libToLower_F x fun b => k (.int .i32 b)
  | _ => none
theorem libToLower_ok : FnOk qP 115 libToLower_abs := by
  intro R ds k r h
  unfold libToLower_abs at h
  split at h
  · rename_i x
    unfold libToLower_F at h
    by_cases hx : x ≤ 127
    · rw [decide_eq_true hx] at h
      refine ⟨_, h, acalls_of _ Tryd.func115 (by kernel_rfl) (by kernel_rfl) (by kernel_rfl) ?_⟩
      intro X w vals hX hI hr
      obtain ⟨v, rfl, hv⟩ := rep1 hr
      simp only [Rep] at hv
      subst hv
      refine (Tryd.unicode_ToLower _ w hx).mono ?_
      rintro e w' ⟨rfl, rfl⟩
      exact ⟨_, rfl, Below.refl _ _, rfl⟩
    · rw [decide_eq_false hx] at h; cases h
  · cases h

noncomputable def libToUpper_F {R : Type} (x : Int) (k : Int → Option R) : Option R := bif decide (x ≤ 127) then k (Lib.toUpperR x) else none
noncomputable def libToUpper_abs (R : Type) (ds : List D) (k : D → Option R) : Option R :=
  match ds with
  | [D.int .i32 x] => libToUpper_F x fun b => k (.int .i32 b)
  | _ => none
theorem libToUpper_ok : FnOk qP 116 libToUpper_abs := by
  intro R ds k r h
  unfold libToUpper_abs at h
  split at h
  · rename_i x
    unfold libToUpper_F at h
    by_cases hx : x ≤ 127
    · rw [decide_eq_true hx] at h
      refine ⟨_, h, acalls_of _ Tryd.func116 (by kernel_rfl) (by kernel_rfl) (by kernel_rfl) ?_⟩
      intro X w vals hX hI hr
      obtain ⟨v, rfl, hv⟩ := rep1 hr
      simp only [Rep] at hv
      subst hv
      refine (Tryd.unicode_ToUpper _ w hx).mono ?_
      rintro e w' ⟨rfl, rfl⟩
      exact ⟨_, rfl, Below.refl _ _, rfl⟩
    · rw [decide_eq_false hx] at h; cases h
  · cases h

/-! ### utf8.RuneCountInString -/

noncomputable def libRuneCount_F {R : Type} (s : Str) (k : Int → Option R) : Option R := bif decide (s.length < 9223372036854775807) then k (Lib.runeCount ⟨⟨s⟩⟩) else none
noncomputable def libRuneCount_abs (R : Type) (ds : List D) (k : D → Option R) : Option R :=
  match ds with
  | [D.str s] => libRuneCount_F s fun b => k (.int .i64 b)
  | _ => none
theorem libRuneCount_ok : FnOk qP 84 libRuneCount_abs := by
  intro R ds k r h
  unfold libRuneCount_abs at h
  split at h
  · rename_i s
    unfold libRuneCount_F at h
    by_cases hx : s.length < 9223372036854775807
    · rw [decide_eq_true hx] at h
      refine ⟨_, h, acalls_of _ Tryd.func84 (by kernel_rfl) (by kernel_rfl) (by kernel_rfl) ?_⟩
      intro X w vals hX hI hr
      obtain ⟨v, rfl, hv⟩ := rep1 hr
      simp only [Rep] at hv
      subst hv
      refine (Tryd.utf8_RuneCountInString ⟨⟨s⟩⟩ w hx).mono ?_
      rintro e w' ⟨rfl, pos, rfl⟩
      exact ⟨_, rfl, (Below.refl _ _).alloc (Nat.le_refl _) _, rfl⟩
    · rw [decide_eq_false hx] at h; cases h
  · cases h

end Go.Proofs.YtleoffdjdgbanaaDoor

set_option linter.unusedVariables false
set_option linter.unusedSimpArgs false
namespace Go.Proofs.YtleoffdjdgbanaaDoor
open Go Go.QA Go.Proofs Go.RowKit

/-! ### utf8.ValidString -/

noncomputable def libValidString_F {R : Type} (s : Str) (k : Bool → Option R) : Option R := bif decide (s.length ≤ 9223372036854775807) then k (Lib.validD s) else none
noncomputable def libValidString_abs (R : Type) (ds : List D) (k : D → Option R) : Option R :=
  match ds with
  | [D.str s] => libValidString_F s fun b => k (.bool b)
  | _ => none
theorem libValidString_ok : FnOk qP 45 libValidString_abs := by
  intro R ds k r h
  unfold libValidString_abs at h
  split at h
  · rename_i s
    unfold libValidString_F at h
    by_cases hx : s.length ≤ 9223372036854775807
    · rw [decide_eq_true hx] at h
      refine ⟨_, h, acalls_of _ Tryd.func45 (by kernel_rfl) (by kernel_rfl) (by kernel_rfl) ?_⟩
      intro X w vals hX hI hr
      obtain ⟨v, rfl, hv⟩ := rep1 hr
      simp only [Rep] at hv
      subst hv
      refine (Any.utf8_ValidString Tryd.lays196 ⟨⟨s⟩⟩ w hx (LaidI.here hI).2.1).mono ?_
      rintro e w' ⟨rfl, hb⟩
      exact ⟨_, rfl, hb, rfl⟩
    · rw [decide_eq_false hx] at h; cases h
  · cases h

/-! ### strings.Contains -/

noncomputable def libContains_F {R : Type} (s t : Str) (k : Bool → Option R) : Option R := bif decide (s.length < 4294967281) then k (Lib.contains s t) else none
noncomputable def libContains_abs (R : Type) (ds : List D) (k : D → Option R) : Option R :=
  match ds with
  | [D.str s, D.str t] => libContains_F s t fun b => k (.bool b)
  | _ => none
theorem libContains_ok : FnOk qP 85 libContains_abs := by
  intro R ds k r h
  unfold libContains_abs at h
  split at h
  · rename_i s t
    unfold libContains_F at h
    by_cases hx : s.length < 4294967281
    · rw [decide_eq_true hx] at h
      refine ⟨_, h, acalls_of _ Tryd.func85 (by kernel_rfl) (by kernel_rfl) (by kernel_rfl) ?_⟩
      intro X w vals hX hI hr
      obtain ⟨v, u, rfl, hv, hu⟩ := rep2 hr
      simp only [Rep] at hv hu
      subst hv; subst hu
      obtain ⟨m, hm⟩ := (LaidI.here hI).1
      refine (Tryd.strings_Contains ⟨⟨s⟩⟩ ⟨⟨t⟩⟩ m w hx hm).mono ?_
      rintro e w' ⟨rfl, rfl⟩
      exact ⟨_, rfl, Below.refl _ _, rfl⟩
    · rw [decide_eq_false hx] at h; cases h
  · cases h

/-! ### strings.Repeat -/

noncomputable def libRepeat_F {R : Type} (s : Str) (c : Int) (k : Str → Option R) : Option R :=
  bif decide (0 ≤ c) && decide (c ≤ 9223372036854775807) && decide (s.length * c.toNat ≤ 140737488355328) then k (Lib.repeatL s c.toNat) else none
noncomputable def libRepeat_abs (R : Type) (ds : List D) (k : D → Option R) : Option R :=
  match ds with
  | [D.str s, D.int .i64 c] => libRepeat_F s c fun b => k (.str b)
  | _ => none
theorem libRepeat_ok : FnOk qP 81 libRepeat_abs := by
  intro R ds k r h
  unfold libRepeat_abs at h
  split at h
  · rename_i s c
    unfold libRepeat_F at h
    cases hx : (decide (0 ≤ c) && decide (c ≤ 9223372036854775807) && decide (s.length * c.toNat ≤ 140737488355328)) with
    | false => rw [hx] at h; cases h
    | true =>
      rw [hx] at h
      simp only [Bool.and_eq_true, decide_eq_true_eq] at hx
      obtain ⟨⟨h0, h1⟩, h2⟩ := hx
      refine ⟨_, h, acalls_of _ Tryd.func81 (by kernel_rfl) (by kernel_rfl) (by kernel_rfl) ?_⟩
      intro X w vals hX hI hr
      obtain ⟨v, u, rfl, hv, hu⟩ := rep2 hr
      simp only [Rep] at hv hu
      subst hv; subst hu
      have hc : c = (c.toNat : Int) := by omega
      have := Tryd.strings_Repeat ⟨⟨s⟩⟩ c.toNat w (by omega) h2
      rw [← hc] at this
      refine this.mono ?_
      rintro e w' ⟨rfl, hb⟩
      exact ⟨_, rfl, hb, rfl⟩
  · cases h

/-! ### unicode.IsUpper: below 256 -/

noncomputable def libIsUpper_F {R : Type} (x : Int) (k : Bool → Option R) : Option R := bif decide (0 ≤ x) && decide (x < 256) then k (Lib.isUpperL x) else none
noncomputable def libIsUpper_abs (R : Type) (ds : List D) (k : D → Option R) : Option R :=
  match ds with
  | [D.int .i32 x] => libIsUpper_F x fun b => k (.bool b)
  | _ => none
theorem libIsUpper_ok : FnOk qP 114 libIsUpper_abs := by
  intro R ds k r h
  unfold libIsUpper_abs at h
  split at h
  · rename_i x
    unfold libIsUpper_F at h
    cases hx : (decide (0 ≤ x) && decide (x < 256)) with
    | false => rw [hx] at h; cases h
    | true =>
      rw [hx] at h
      simp only [Bool.and_eq_true, decide_eq_true_eq] at hx
      obtain ⟨h0, h1⟩ := hx
      refine ⟨_, h, acalls_of _ Tryd.func114 (by kernel_rfl) (by kernel_rfl) (by kernel_rfl) ?_⟩
      intro X w vals hX hI hr
      obtain ⟨v, rfl, hv⟩ := rep1 hr
      simp only [Rep] at hv
      subst hv
      have hc : x = (x.toNat : Int) := by omega
      have := Tryd.unicode_IsUpper x.toNat w (by omega) (LaidI.here hI).2.2
      rw [← hc] at this
      refine this.mono ?_
      rintro e w' ⟨rfl, rfl⟩
      exact ⟨_, rfl, Below.refl _ _, rfl⟩
  · cases h

end Go.Proofs.YtleoffdjdgbanaaDoor

set_option linter.unusedVariables false
set_option linter.unusedSimpArgs false
namespace Go.Proofs.YtleoffdjdgbanaaDoor
open Go Go.QA Go.Proofs Go.RowKit

theorem map_strV (xs : List ByteArray) : (xs.map (·.data.toList)).map strV = xs.map Value.string := by
  rw [List.map_map]
  refine List.map_congr_left (fun x _ => ?_)
  cases x with | mk d => cases d; rfl

/-! ### strings.Split -/

noncomputable def splitL (s sep : Str) : List Str := (Lib.splitB ⟨⟨sep⟩⟩ 0 (Lib.countB ⟨⟨s⟩⟩ ⟨⟨sep⟩⟩) ⟨⟨s⟩⟩).map (·.data.toList)

noncomputable def libSplit_F {R : Type} (s sep : Str) (k : List Str → Option R) : Option R := bif decide (s.length < 4294967281) && decide (1 ≤ sep.length) then k (splitL s sep) else none
noncomputable def libSplit_abs (R : Type) (ds : List D) (k : D → Option R) : Option R :=
  match ds with
  | [D.str s, D.str t] => libSplit_F s t fun b => k (.sl (.strs b))
  | _ => none
theorem libSplit_ok : FnOk qP 94 libSplit_abs := by
  intro R ds k r h
  unfold libSplit_abs at h
  split at h
  · rename_i s t
    unfold libSplit_F at h
    cases hx : (decide (s.length < 4294967281) && decide (1 ≤ t.length)) with
    | false => rw [hx] at h; cases h
    | true =>
      rw [hx] at h
      simp only [Bool.and_eq_true, decide_eq_true_eq] at hx
      obtain ⟨h0, h1⟩ := hx
      refine ⟨_, h, ⟨_, Tryd.func94, by kernel_rfl, by kernel_rfl⟩, ?_⟩
      intro X w vals hX hI hr
      obtain ⟨v, u, rfl, hv, hu⟩ := rep2 hr
      simp only [Rep] at hv hu
      subst hv; subst hu
      obtain ⟨m, hm⟩ := (LaidI.here hI).1
      refine Calls.mono (Tryd.strings_Split ⟨⟨s⟩⟩ ⟨⟨t⟩⟩ m w h0 hm h1) ?_
      rintro e w' ⟨rfl, rfl⟩
      have hlen : (Con.strs (splitL s t)).len = Lib.countB ⟨⟨s⟩⟩ ⟨⟨t⟩⟩ + 1 := by
        simp only [Con.len, splitL, List.length_map]
        exact Lib.splitB_all ⟨⟨t⟩⟩ h1 _ _ _ rfl
      have hvals : (Con.strs (splitL s t)).vals = (Lib.splitB ⟨⟨t⟩⟩ 0 (Lib.countB ⟨⟨s⟩⟩ ⟨⟨t⟩⟩) ⟨⟨s⟩⟩).map Value.string := by
        simp only [Con.vals, splitL]; exact map_strV _
      have hvl : ((Lib.splitB ⟨⟨t⟩⟩ 0 (Lib.countB ⟨⟨s⟩⟩ ⟨⟨t⟩⟩) ⟨⟨s⟩⟩).map Value.string).length = Lib.countB ⟨⟨s⟩⟩ ⟨⟨t⟩⟩ + 1 := by
        rw [List.length_map]; exact Lib.splitB_all ⟨⟨t⟩⟩ h1 _ _ _ rfl
      refine ⟨_, rfl, (Below.refl _ _).alloc (Nat.le_refl _) _, ?_, ?_⟩
      · simp only [Rep]
        refine ⟨_, _, by rw [hlen], by omega, .inr ⟨_, rfl, rfl, by simp [iv], ?_, ?_⟩⟩
        · simp only [iv]; intro hb; have := hX _ hb; omega
        · refine ⟨_, _, _, heap_alloc_new _ _, ?_⟩
          intro i hi
          rw [hvals, Nat.zero_add]; simp
      · intro _ c hc
        cases hc
        refine .inr ⟨w.heap.size, _, _, _, by rw [hlen], by omega, Nat.le_refl _, heap_alloc_new _ _, ?_, ?_⟩
        · intro i hi
          rw [hvals]; simp
        · simp only [Con.esz, List.size_toArray, hvl]; omega
  · cases h

/-! ### strings.Join -/

noncomputable def libJoin_F {R : Type} (xs : List Str) (sep : Str) (k : Str → Option R) : Option R :=
  bif decide (xs.length ≤ 140737488355328) && decide ((Lib.join xs sep).length ≤ 140737488355328) then k (Lib.join xs sep) else none
noncomputable def libJoin_abs (R : Type) (ds : List D) (k : D → Option R) : Option R :=
  match ds with
  | [D.sl (.strs l), D.str t] => libJoin_F l t fun b => k (.str b)
  | _ => none
theorem libJoin_ok : FnOk qP 96 libJoin_abs := by
  intro R ds k r h
  unfold libJoin_abs at h
  split at h
  · rename_i l t
    unfold libJoin_F at h
    cases hx : (decide (l.length ≤ 140737488355328) && decide ((Lib.join l t).length ≤ 140737488355328)) with
    | false => rw [hx] at h; cases h
    | true =>
      rw [hx] at h
      simp only [Bool.and_eq_true, decide_eq_true_eq] at hx
      obtain ⟨h0, h1⟩ := hx
      refine ⟨_, h, acalls_of _ Tryd.func96 (by kernel_rfl) (by kernel_rfl) (by kernel_rfl) ?_⟩
      intro X w vals hX hI hr
      obtain ⟨v, u, rfl, hv, hu⟩ := rep2 hr
      simp only [Rep] at hv hu
      subst hu
      obtain ⟨a, cap, rfl, hcap, hcase⟩ := hv
      simp only [Con.len] at hcap hcase ⊢
      by_cases hl : l = []
      · subst hl
        refine (Tryd.strings_Join_none a cap ⟨⟨t⟩⟩ w).mono ?_
        rintro e w' ⟨rfl, rfl⟩
        exact ⟨_, rfl, Below.refl _ _, rfl⟩
      · rcases hcase with ⟨_, hz⟩ | ⟨ad, rfl, hsp, hblk, _, c, el, fr, hc, hvals⟩
        · cases l with
          | nil => exact absurd rfl hl
          | cons x y => simp at hz
        · obtain ⟨bk, off, sp⟩ := ad
          simp only at hsp hblk hc hvals
          subst hsp
          have hmap : (l.map fun s => (⟨⟨s⟩⟩ : ByteArray)).map (·.data.toList) = l := by
            rw [List.map_map]; exact List.map_id _
          have := Tryd.strings_Join bk off cap (l.map fun s => (⟨⟨s⟩⟩ : ByteArray)) ⟨⟨t⟩⟩ w (by
            intro j x hj
            rw [List.getElem?_map] at hj
            cases hlj : l[j]? with
            | none => rw [hlj] at hj; cases hj
            | some s =>
              rw [hlj] at hj
              simp only [Option.map_some, Option.some.injEq] at hj
              subst hj
              have hjl : j < l.length := by
                rcases Nat.lt_or_ge j l.length with h | h
                · exact h
                · rw [List.getElem?_eq_none h] at hlj; cases hlj
              have h2 := hvals j (by simpa [Con.vals] using hjl)
              simp only [Con.vals, List.getElem?_map, hlj, Option.map_some] at h2
              simp only [iv] at hc
              simp only [World.cell?, hc, strV] at h2 ⊢
              exact h2) (by simpa [iv] using hblk) (by simpa using h0) (by simpa using hcap) (by rw [hmap]; exact h1)
          rw [List.length_map, hmap] at this
          refine this.mono ?_
          rintro e w' ⟨rfl, hb⟩
          exact ⟨_, rfl, hb, rfl⟩
  · cases h

end Go.Proofs.YtleoffdjdgbanaaDoor
