/- What is told of the program as the model has it: it, and the structs' types that are compared; no theorem of the program is proved here. -/
import Derived.Test.YtleoffdjdgbanaaDoorProg
import Derived.Test.YtleoffdjdgbanaaDoorQa4
import Derived.KernelRfl
import Derived.Laws.StructEq
import Derived.Shelf.Unicode.DecodeSlow
import Derived.Lib.AppendIntMem
import Derived.Lib.Props
import Derived.Test.YtleoffdjdgbanaaDoorLaid
import Derived.Shelf.Unicode.ValidAny
import Derived.Lib.SplitLaws
import Derived.Shelf.RegionOpenPlain
import Derived.WalkKit
import Derived.Deep.LoopGhost
import Derived.Lib.Walk
import Derived.Lib.SliceRun
import Derived.Lib.AppendZerosOnto
set_option linter.unusedVariables false
set_option linter.unusedSimpArgs false
set_option linter.unusedSimpArgs false
namespace Go.Proofs.YtleoffdjdgbanaaDoor
open Go Go.QA Go.Proofs Go.RowKit

/-- What the library's variables hold: MaxLen, the tables of utf8, the table of properties. -/
def LaidW (w : World) : Prop := (∃ m, w.cell? ⟨4, 0, none⟩ = some (.int .i64 m)) ∧ Lib.Utf8Tabs 0 1 w ∧ Lib.TabIs Tryd.prog w "unicode.properties" .u8 Lib.propertiesTab

/-- Blocks below B hold them. -/
def LaidI (B : Nat) (w : World) : Prop := ∃ w0, LaidW w0 ∧ w0.heap.size ≤ B ∧ Below w0.heap.size w0 w

theorem LaidI.here {B : Nat} {w : World} (h : LaidI B w) : LaidW w := by
  obtain ⟨w0, ⟨⟨m, h1⟩, h2, h3⟩, _, h4⟩ := h
  refine ⟨⟨m, ?_⟩, Utf8Tabs_below h2 h4, Lib.tabBelow_of_tabIs h3 w h4⟩
  have hb : w.heap[4]? = w0.heap[4]? := by
    rcases Nat.lt_or_ge 4 w0.heap.size with h | h
    · exact h4.block 4 h
    · simp [World.cell?, Array.getElem?_eq_none h] at h1
  simpa [World.cell?, hb] using h1

noncomputable def qP : Prg := ⟨Tryd.prog, [(33, [.int .i64, .int .i64, .str]), (35, [.int .i64, .int .i64, .str, .int .i64, .str, .bool])], LaidI, [94, 100, 101, 117]⟩

theorem fits_int {k : IntKind} {t : List Sc} {xs : List D} (h : schFits (.int k :: t) xs = true) : ∃ n ds, xs = .int k n :: ds ∧ schFits t ds = true := by
  cases xs with
  | nil => simp [schFits] at h
  | cons d ds =>
    cases d <;> simp [schFits] at h
    obtain ⟨rfl, h⟩ := h
    exact ⟨_, _, rfl, h⟩

theorem fits_str {t : List Sc} {xs : List D} (h : schFits (.str :: t) xs = true) : ∃ n ds, xs = .str n :: ds ∧ schFits t ds = true := by
  cases xs with
  | nil => simp [schFits] at h
  | cons d ds => cases d <;> simp [schFits] at h; exact ⟨_, _, rfl, h⟩

theorem fits_bool {t : List Sc} {xs : List D} (h : schFits (.bool :: t) xs = true) : ∃ n ds, xs = .bool n :: ds ∧ schFits t ds = true := by
  cases xs with
  | nil => simp [schFits] at h
  | cons d ds => cases d <;> simp [schFits] at h; exact ⟨_, _, rfl, h⟩

theorem fits_nil {xs : List D} (h : schFits [] xs = true) : xs = [] := by
  cases xs with
  | nil => rfl
  | cons d ds => simp [schFits] at h

theorem run33 (w : World) (d : Nat) (n1 n2 m1 m2 : Int) (s1 t1 : Str) :
    (Op.equalIn (d + 1 + 1) 33 (.agg #[.int .i64 n1, .int .i64 n2, strV s1]) (.agg #[.int .i64 m1, .int .i64 m2, strV t1])).run Tryd.prog w = .ok (n1 == m1 && (n2 == m2 && s1 == t1)) w := by
  have hf : Tryd.prog.fieldsOf 33 = #[⟨ "At", 3, 0, false, "", "", 0⟩, ⟨ "Del", 3, 1, false, "", "", 8⟩, ⟨ "Ins", 9, 2, false, "", "", 16⟩] := by kernel_rfl
  have h3 : Tryd.prog.underlying 3 = some (.int .i64) := by kernel_rfl
  have h9 : Tryd.prog.underlying 9 = some .string := by kernel_rfl
  rw [run_equalIn_struct w (d + 1) 33 _ _ (by kernel_rfl) (by kernel_rfl), hf]
  have hsl : (ByteArray.mk ⟨s1⟩).toList = s1 := Go.ByteArray.toList_mk s1
  have htl : (ByteArray.mk ⟨t1⟩).toList = t1 := Go.ByteArray.toList_mk t1
  simp [Op.eqFields, part, isAgg, run_underlying h3, run_underlying h9, strV, run_equalIn_int w d 3 .i64 .i64 _ _ h3, run_equalIn_string w d 9 _ _ h9, hsl, htl]
  by_cases e1 : n1 = m1 <;> by_cases e2 : n2 = m2 <;> by_cases e3 : s1 = t1 <;> simp [e1, e2, e3]

theorem eq33 : EqRun Tryd.prog 33 [.int .i64, .int .i64, .str] := by
  intro w xs ys b op x y hx hy hb
  obtain ⟨n1, _, rfl, hx1⟩ := fits_int hx
  obtain ⟨n2, _, rfl, hx2⟩ := fits_int hx1
  obtain ⟨s1, _, rfl, hx3⟩ := fits_str hx2
  obtain rfl := fits_nil hx3
  obtain ⟨m1, _, rfl, hy1⟩ := fits_int hy
  obtain ⟨m2, _, rfl, hy2⟩ := fits_int hy1
  obtain ⟨t1, _, rfl, hy3⟩ := fits_str hy2
  obtain rfl := fits_nil hy3
  simp only [eqL, eqD, decide_true, cond_true, Option.some.injEq, Bool.and_true] at hb
  subst hb
  have hg : Tryd.prog.eqGuardType Tryd.prog.depth 33 = false := by kernel_rfl
  refine ⟨?_, ?_⟩
  · cases op <;> simp [eqGuard, hg]
  · unfold Op.equal Op.maxDepth
    exact run33 w 9998 n1 n2 m1 m2 s1 t1

theorem eq35 : EqRun Tryd.prog 35 [.int .i64, .int .i64, .str, .int .i64, .str, .bool] := by
  intro w xs ys b op x y hx hy hb
  obtain ⟨n1, _, rfl, hx1⟩ := fits_int hx
  obtain ⟨n2, _, rfl, hx2⟩ := fits_int hx1
  obtain ⟨s1, _, rfl, hx3⟩ := fits_str hx2
  obtain ⟨n3, _, rfl, hx4⟩ := fits_int hx3
  obtain ⟨s2, _, rfl, hx5⟩ := fits_str hx4
  obtain ⟨b1, _, rfl, hx6⟩ := fits_bool hx5
  obtain rfl := fits_nil hx6
  obtain ⟨m1, _, rfl, hy1⟩ := fits_int hy
  obtain ⟨m2, _, rfl, hy2⟩ := fits_int hy1
  obtain ⟨t1, _, rfl, hy3⟩ := fits_str hy2
  obtain ⟨m3, _, rfl, hy4⟩ := fits_int hy3
  obtain ⟨t2, _, rfl, hy5⟩ := fits_str hy4
  obtain ⟨c1, _, rfl, hy6⟩ := fits_bool hy5
  obtain rfl := fits_nil hy6
  simp only [eqL, eqD, decide_true, cond_true, Option.some.injEq, Bool.and_true] at hb
  subst hb
  have hg : Tryd.prog.eqGuardType Tryd.prog.depth 35 = false := by kernel_rfl
  refine ⟨?_, ?_⟩
  · cases op <;> simp [eqGuard, hg]
  · unfold Op.equal Op.maxDepth
    rw [show (10000 : Nat) = 9997 + 1 + 1 + 1 from rfl]
    generalize (9997 : Nat) = d
    have hf : Tryd.prog.fieldsOf 35 = #[⟨ "Patch", 33, 0, false, "", "", 0⟩, ⟨ "At", 3, 3, false, "", "", 32⟩, ⟨ "Took", 9, 4, false, "", "", 40⟩, ⟨ "Line", 4, 5, false, "", "", 56⟩] := by kernel_rfl
    have h3 : Tryd.prog.underlying 3 = some (.int .i64) := by kernel_rfl
    have h4 : Tryd.prog.underlying 4 = some .bool := by kernel_rfl
    have h9 : Tryd.prog.underlying 9 = some .string := by kernel_rfl
    have hag : (isAgg 33).run Tryd.prog w = .ok true w := by kernel_rfl
    have hsz : (sizeOf 33).run Tryd.prog w = .ok 3 w := by kernel_rfl
    rw [run_equalIn_struct w (d + 1 + 1) 35 _ _ (by kernel_rfl) (by kernel_rfl), hf]
    have hsl : ∀ s : Str, (ByteArray.mk ⟨s⟩).toList = s := fun s => Go.ByteArray.toList_mk s
    have hag3 : (isAgg 3).run Tryd.prog w = .ok false w := by kernel_rfl
    have hag4 : (isAgg 4).run Tryd.prog w = .ok false w := by kernel_rfl
    have hag9 : (isAgg 9).run Tryd.prog w = .ok false w := by kernel_rfl
    have hp := run33 w d n1 n2 m1 m2 s1 t1
    simp only [strV] at hp
    simp [Op.eqFields, part, hag, hsz, hag3, hag4, hag9, scV, strV, hp, run_equalIn_int w (d + 1) 3 .i64 .i64 _ _ h3, run_equalIn_string w (d + 1) 9 _ _ h9, run_equalIn_bool' w (d + 1) 4 _ _ h4, hsl]
    by_cases e1 : n1 = m1 <;> by_cases e2 : n2 = m2 <;> by_cases e3 : s1 = t1 <;> by_cases e4 : n3 = m3 <;> by_cases e5 : s2 = t2 <;> by_cases e6 : b1 = c1 <;> simp [e1, e2, e3, e4, e5, e6]

theorem qOk : PrgOk qP := by
  refine ⟨by kernel_rfl, ?_, fun ⟨w0, h1, h2, h3⟩ hb => ⟨w0, h1, h2, h3.trans (hb.mono h2)⟩, fun ⟨w0, h1, h2, h3⟩ hb => ⟨w0, h1, Nat.le_trans h2 hb, h3⟩⟩
  intro t sch h
  simp only [qP, findSch] at h
  cases h1 : Nat.beq 33 t with
  | true =>
    rw [h1] at h
    rw [Nat.beq_eq] at h1
    subst h1
    simp only [cond_true, Option.some.injEq] at h
    subst h
    exact eq33
  | false =>
    rw [h1] at h
    cases h2 : Nat.beq 35 t with
    | true =>
      rw [h2] at h
      rw [Nat.beq_eq] at h2
      subst h2
      simp only [cond_true, cond_false, Option.some.injEq] at h
      subst h
      exact eq35
    | false => rw [h2] at h; simp at h

end Go.Proofs.YtleoffdjdgbanaaDoor

set_option linter.unusedVariables false
set_option linter.unusedSimpArgs false
namespace Go.Proofs.YtleoffdjdgbanaaDoor
open Go Go.QA Go.Proofs Go.RowKit

theorem acalls_of {f : FuncId} {args : List D} {r : D} (fn : Func) (hf : Tryd.prog.funcs[f]? = some fn) (hb : fn.body.isNone = false) (hn : (fn.name == "runtime.NumGoroutine") = false) (hfr : qP.fresh.contains f = false)
    (h : ∀ (X : Nat → Prop) (w : World) (vals : List Value), (∀ b, X b → b < w.heap.size) → qP.I w.heap.size w → RepL (iv X w) args vals →
      Calls Tryd.prog f ⟨vals⟩ w fun e w' => ∃ v, e = .returned v ∧ Below w.heap.size w w' ∧ Rep (iv X w') r v) : ACalls qP f args r :=
  ⟨⟨fn, hf, hb, hn⟩, fun X w vals hX hI hr => (h X w vals hX hI hr).mono fun e w' ⟨v, h1, h2, h3⟩ => ⟨v, h1, h2, h3, fun e => by rw [hfr] at e; cases e⟩⟩

theorem rep1 {V : Vw} {d : D} {vals : List Value} (h : RepL V [d] vals) : ∃ v, vals = [v] ∧ Rep V d v := by
  simp only [RepL] at h
  obtain ⟨v, r, rfl, h1, rfl⟩ := h
  exact ⟨v, rfl, h1⟩

theorem rep2 {V : Vw} {d e : D} {vals : List Value} (h : RepL V [d, e] vals) : ∃ v u, vals = [v, u] ∧ Rep V d v ∧ Rep V e u := by
  simp only [RepL] at h
  obtain ⟨v, r, rfl, h1, u, r', rfl, h2, rfl⟩ := h
  exact ⟨v, u, rfl, h1, h2⟩

/-! ### utf8.ValidRune -/

noncomputable def libValidRune_F {R : Type} (x : Int) (k : Bool → Option R) : Option R := k (Lib.validRune x)
noncomputable def libValidRune_abs (R : Type) (ds : List D) (k : D → Option R) : Option R :=
  match ds with
  | [D.int .i32 x] => libValidRune_F x fun b => k (.bool b)
  | _ => none
theorem libValidRune_ok : FnOk qP 99 libValidRune_abs := by
  intro R ds k r h
  unfold libValidRune_abs at h
  split at h
  · refine ⟨_, h, acalls_of _ Tryd.func99 (by kernel_rfl) (by kernel_rfl) (by kernel_rfl) ?_⟩
    intro X w vals hX hI hr
    obtain ⟨v, rfl, hv⟩ := rep1 hr
    simp only [Rep] at hv
    subst hv
    refine (Tryd.utf8_ValidRune _ w).mono ?_
    rintro e w' ⟨rfl, rfl⟩
    exact ⟨_, rfl, Below.refl _ _, rfl⟩
  · cases h

/-! ### strings.IndexByte -/

noncomputable def libIndexByte_F {R : Type} (s : Str) (c : Int) (k : Int → Option R) : Option R := k (Lib.indexByte s c.toNat.toUInt8)
noncomputable def libIndexByte_abs (R : Type) (ds : List D) (k : D → Option R) : Option R :=
  match ds with
  | [D.str s, D.int .u8 c] => libIndexByte_F s c fun b => k (.int .i64 b)
  | _ => none
theorem libIndexByte_ok : FnOk qP 103 libIndexByte_abs := by
  intro R ds k r h
  unfold libIndexByte_abs at h
  split at h
  · refine ⟨_, h, acalls_of _ Tryd.func103 (by kernel_rfl) (by kernel_rfl) (by kernel_rfl) ?_⟩
    intro X w vals hX hI hr
    obtain ⟨v, u, rfl, hv, hu⟩ := rep2 hr
    simp only [Rep] at hv hu
    subst hv; subst hu
    refine (Tryd.strings_IndexByte _ _ w).mono ?_
    rintro e w' ⟨rfl, rfl⟩
    exact ⟨_, rfl, Below.refl _ _, rfl⟩
  · cases h

/-! ### unicode.ToLower, ToUpper: below 128 -/

noncomputable def libToLower_F {R : Type} (x : Int) (k : Int → Option R) : Option R := bif decide (x ≤ 127) then k (Lib.toLowerR x) else none
noncomputable def libToLower_abs (R : Type) (ds : List D) (k : D → Option R) : Option R :=
  match ds with
  | [D.int .i32 x] => libToLower_F x fun b => k (.int .i32 b)
  | _ => none
theorem libToLower_ok : FnOk qP 115 libToLower_abs := by
  intro R ds k r h
  unfold libToLower_abs at h
  split at h
  · rename_i x
    unfold libToLower_F at h
    by_cases hx : x ≤ 127
    · rw [decide_eq_true hx] at h
      refine ⟨_, h, acalls_of _ Tryd.func115 (by kernel_rfl) (by kernel_rfl) (by kernel_rfl) ?_⟩
      intro X w vals hX hI hr
      obtain ⟨v, rfl, hv⟩ := rep1 hr
      simp only [Rep] at hv
      subst hv
      refine (Tryd.unicode_ToLower _ w hx).mono ?_
      rintro e w' ⟨rfl, rfl⟩
      exact ⟨_, rfl, Below.refl _ _, rfl⟩
    · rw [decide_eq_false hx] at h; cases h
  · cases h

noncomputable def libToUpper_F {R : Type} (x : Int) (k : Int → Option R) : Option R := bif decide (x ≤ 127) then k (Lib.toUpperR x) else none
noncomputable def libToUpper_abs (R : Type) (ds : List D) (k : D → Option R) : Option R :=
  match ds with
  | [D.int .i32 x] => libToUpper_F x fun b => k (.int .i32 b)
  | _ => none
theorem libToUpper_ok : FnOk qP 116 libToUpper_abs := by
  intro R ds k r h
  unfold libToUpper_abs at h
  split at h
  · rename_i x
    unfold libToUpper_F at h
    by_cases hx : x ≤ 127
    · rw [decide_eq_true hx] at h
      refine ⟨_, h, acalls_of _ Tryd.func116 (by kernel_rfl) (by kernel_rfl) (by kernel_rfl) ?_⟩
      intro X w vals hX hI hr
      obtain ⟨v, rfl, hv⟩ := rep1 hr
      simp only [Rep] at hv
      subst hv
      refine (Tryd.unicode_ToUpper _ w hx).mono ?_
      rintro e w' ⟨rfl, rfl⟩
      exact ⟨_, rfl, Below.refl _ _, rfl⟩
    · rw [decide_eq_false hx] at h; cases h
  · cases h

/-! ### utf8.RuneCountInString -/

noncomputable def libRuneCount_F {R : Type} (s : Str) (k : Int → Option R) : Option R := bif decide (s.length < 9223372036854775807) then k (Lib.runeCount ⟨⟨s⟩⟩) else none
noncomputable def libRuneCount_abs (R : Type) (ds : List D) (k : D → Option R) : Option R :=
  match ds with
  | [D.str s] => libRuneCount_F s fun b => k (.int .i64 b)
  | _ => none
theorem libRuneCount_ok : FnOk qP 84 libRuneCount_abs := by
  intro R ds k r h
  unfold libRuneCount_abs at h
  split at h
  · rename_i s
    unfold libRuneCount_F at h
    by_cases hx : s.length < 9223372036854775807
    · rw [decide_eq_true hx] at h
      refine ⟨_, h, acalls_of _ Tryd.func84 (by kernel_rfl) (by kernel_rfl) (by kernel_rfl) ?_⟩
      intro X w vals hX hI hr
      obtain ⟨v, rfl, hv⟩ := rep1 hr
      simp only [Rep] at hv
      subst hv
      refine (Tryd.utf8_RuneCountInString ⟨⟨s⟩⟩ w hx).mono ?_
      rintro e w' ⟨rfl, pos, rfl⟩
      exact ⟨_, rfl, (Below.refl _ _).alloc (Nat.le_refl _) _, rfl⟩
    · rw [decide_eq_false hx] at h; cases h
  · cases h

end Go.Proofs.YtleoffdjdgbanaaDoor

set_option linter.unusedVariables false
set_option linter.unusedSimpArgs false
namespace Go.Proofs.YtleoffdjdgbanaaDoor
open Go Go.QA Go.Proofs Go.RowKit

/-! ### utf8.ValidString -/

noncomputable def libValidString_F {R : Type} (s : Str) (k : Bool → Option R) : Option R := bif decide (s.length ≤ 9223372036854775807) then k (Lib.validD s) else none
noncomputable def libValidString_abs (R : Type) (ds : List D) (k : D → Option R) : Option R :=
  match ds with
  | [D.str s] => libValidString_F s fun b => k (.bool b)
  | _ => none
theorem libValidString_ok : FnOk qP 45 libValidString_abs := by
  intro R ds k r h
  unfold libValidString_abs at h
  split at h
  · rename_i s
    unfold libValidString_F at h
    by_cases hx : s.length ≤ 9223372036854775807
    · rw [decide_eq_true hx] at h
      refine ⟨_, h, acalls_of _ Tryd.func45 (by kernel_rfl) (by kernel_rfl) (by kernel_rfl) ?_⟩
      intro X w vals hX hI hr
      obtain ⟨v, rfl, hv⟩ := rep1 hr
      simp only [Rep] at hv
      subst hv
      refine (Any.utf8_ValidString Tryd.lays196 ⟨⟨s⟩⟩ w hx (LaidI.here hI).2.1).mono ?_
      rintro e w' ⟨rfl, hb⟩
      exact ⟨_, rfl, hb, rfl⟩
    · rw [decide_eq_false hx] at h; cases h
  · cases h

/-! ### strings.Contains -/

noncomputable def libContains_F {R : Type} (s t : Str) (k : Bool → Option R) : Option R := bif decide (s.length < 4294967281) then k (Lib.contains s t) else none
noncomputable def libContains_abs (R : Type) (ds : List D) (k : D → Option R) : Option R :=
  match ds with
  | [D.str s, D.str t] => libContains_F s t fun b => k (.bool b)
  | _ => none
theorem libContains_ok : FnOk qP 85 libContains_abs := by
  intro R ds k r h
  unfold libContains_abs at h
  split at h
  · rename_i s t
    unfold libContains_F at h
    by_cases hx : s.length < 4294967281
    · rw [decide_eq_true hx] at h
      refine ⟨_, h, acalls_of _ Tryd.func85 (by kernel_rfl) (by kernel_rfl) (by kernel_rfl) ?_⟩
      intro X w vals hX hI hr
      obtain ⟨v, u, rfl, hv, hu⟩ := rep2 hr
      simp only [Rep] at hv hu
      subst hv; subst hu
      obtain ⟨m, hm⟩ := (LaidI.here hI).1
      refine (Tryd.strings_Contains ⟨⟨s⟩⟩ ⟨⟨t⟩⟩ m w hx hm).mono ?_
      rintro e w' ⟨rfl, rfl⟩
      exact ⟨_, rfl, Below.refl _ _, rfl⟩
    · rw [decide_eq_false hx] at h; cases h
  · cases h

/-! ### strings.Repeat -/

noncomputable def libRepeat_F {R : Type} (s : Str) (c : Int) (k : Str → Option R) : Option R :=
  bif decide (0 ≤ c) && decide (c ≤ 9223372036854775807) && decide (s.length * c.toNat ≤ 140737488355328) then k (Lib.repeatL s c.toNat) else none
noncomputable def libRepeat_abs (R : Type) (ds : List D) (k : D → Option R) : Option R :=
  match ds with
  | [D.str s, D.int .i64 c] => libRepeat_F s c fun b => k (.str b)
  | _ => none
theorem libRepeat_ok : FnOk qP 81 libRepeat_abs := by
  intro R ds k r h
  unfold libRepeat_abs at h
  split at h
  · rename_i s c
    unfold libRepeat_F at h
    cases hx : (decide (0 ≤ c) && decide (c ≤ 9223372036854775807) && decide (s.length * c.toNat ≤ 140737488355328)) with
    | false => rw [hx] at h; cases h
    | true =>
      rw [hx] at h
      simp only [Bool.and_eq_true, decide_eq_true_eq] at hx
      obtain ⟨⟨h0, h1⟩, h2⟩ := hx
      refine ⟨_, h, acalls_of _ Tryd.func81 (by kernel_rfl) (by kernel_rfl) (by kernel_rfl) ?_⟩
      intro X w vals hX hI hr
      obtain ⟨v, u, rfl, hv, hu⟩ := rep2 hr
      simp only [Rep] at hv hu
      subst hv; subst hu
      have hc : c = (c.toNat : Int) := by omega
      have := Tryd.strings_Repeat ⟨⟨s⟩⟩ c.toNat w (by omega) h2
      rw [← hc] at this
      refine this.mono ?_
      rintro e w' ⟨rfl, hb⟩
      exact ⟨_, rfl, hb, rfl⟩
  · cases h

/-! ### unicode.IsUpper: below 256 -/

noncomputable def libIsUpper_F {R : Type} (x : Int) (k : Bool → Option R) : Option R := bif decide (0 ≤ x) && decide (x < 256) then k (Lib.isUpperL x) else none
noncomputable def libIsUpper_abs (R : Type) (ds : List D) (k : D → Option R) : Option R :=
  match ds with
  | [D.int .i32 x] => libIsUpper_F x fun b => k (.bool b)
  | _ => none
theorem libIsUpper_ok : FnOk qP 114 libIsUpper_abs := by
  intro R ds k r h
  unfold libIsUpper_abs at h
  split at h
  · rename_i x
    unfold libIsUpper_F at h
    cases hx : (decide (0 ≤ x) && decide (x < 256)) with
    | false => rw [hx] at h; cases h
    | true =>
      rw [hx] at h
      simp only [Bool.and_eq_true, decide_eq_true_eq] at hx
      obtain ⟨h0, h1⟩ := hx
      refine ⟨_, h, acalls_of _ Tryd.func114 (by kernel_rfl) (by kernel_rfl) (by kernel_rfl) ?_⟩
      intro X w vals hX hI hr
      obtain ⟨v, rfl, hv⟩ := rep1 hr
      simp only [Rep] at hv
      subst hv
      have hc : x = (x.toNat : Int) := by omega
      have := Tryd.unicode_IsUpper x.toNat w (by omega) (LaidI.here hI).2.2
      rw [← hc] at this
      refine this.mono ?_
      rintro e w' ⟨rfl, rfl⟩
      exact ⟨_, rfl, Below.refl _ _, rfl⟩
  · cases h

end Go.Proofs.YtleoffdjdgbanaaDoor

set_option linter.unusedVariables false
set_option linter.unusedSimpArgs false
namespace Go.Proofs.YtleoffdjdgbanaaDoor
open Go Go.QA Go.Proofs Go.RowKit

theorem map_strV (xs : List ByteArray) : (xs.map (·.data.toList)).map strV = xs.map Value.string := by
  rw [List.map_map]
  refine List.map_congr_left (fun x _ => ?_)
  cases x with | mk d => cases d; rfl

/-! ### strings.Split -/

noncomputable def splitL (s sep : Str) : List Str := (Lib.splitB ⟨⟨sep⟩⟩ 0 (Lib.countB ⟨⟨s⟩⟩ ⟨⟨sep⟩⟩) ⟨⟨s⟩⟩).map (·.data.toList)

noncomputable def libSplit_F {R : Type} (s sep : Str) (k : List Str → Option R) : Option R := bif decide (s.length < 4294967281) && decide (1 ≤ sep.length) then k (splitL s sep) else none
noncomputable def libSplit_abs (R : Type) (ds : List D) (k : D → Option R) : Option R :=
  match ds with
  | [D.str s, D.str t] => libSplit_F s t fun b => k (.sl (.strs b))
  | _ => none
theorem libSplit_ok : FnOk qP 94 libSplit_abs := by
  intro R ds k r h
  unfold libSplit_abs at h
  split at h
  · rename_i s t
    unfold libSplit_F at h
    cases hx : (decide (s.length < 4294967281) && decide (1 ≤ t.length)) with
    | false => rw [hx] at h; cases h
    | true =>
      rw [hx] at h
      simp only [Bool.and_eq_true, decide_eq_true_eq] at hx
      obtain ⟨h0, h1⟩ := hx
      refine ⟨_, h, ⟨_, Tryd.func94, by kernel_rfl, by kernel_rfl⟩, ?_⟩
      intro X w vals hX hI hr
      obtain ⟨v, u, rfl, hv, hu⟩ := rep2 hr
      simp only [Rep] at hv hu
      subst hv; subst hu
      obtain ⟨m, hm⟩ := (LaidI.here hI).1
      refine Calls.mono (Tryd.strings_Split ⟨⟨s⟩⟩ ⟨⟨t⟩⟩ m w h0 hm h1) ?_
      rintro e w' ⟨rfl, rfl⟩
      have hlen : (Con.strs (splitL s t)).len = Lib.countB ⟨⟨s⟩⟩ ⟨⟨t⟩⟩ + 1 := by
        simp only [Con.len, splitL, List.length_map]
        exact Lib.splitB_all ⟨⟨t⟩⟩ h1 _ _ _ rfl
      have hvals : (Con.strs (splitL s t)).vals = (Lib.splitB ⟨⟨t⟩⟩ 0 (Lib.countB ⟨⟨s⟩⟩ ⟨⟨t⟩⟩) ⟨⟨s⟩⟩).map Value.string := by
        simp only [Con.vals, splitL]; exact map_strV _
      have hvl : ((Lib.splitB ⟨⟨t⟩⟩ 0 (Lib.countB ⟨⟨s⟩⟩ ⟨⟨t⟩⟩) ⟨⟨s⟩⟩).map Value.string).length = Lib.countB ⟨⟨s⟩⟩ ⟨⟨t⟩⟩ + 1 := by
        rw [List.length_map]; exact Lib.splitB_all ⟨⟨t⟩⟩ h1 _ _ _ rfl
      refine ⟨_, rfl, (Below.refl _ _).alloc (Nat.le_refl _) _, ?_, ?_⟩
      · simp only [Rep]
        refine ⟨_, _, by rw [hlen], by omega, .inr ⟨_, rfl, rfl, by simp [iv], ?_, ?_⟩⟩
        · simp only [iv]; intro hb; have := hX _ hb; omega
        · refine ⟨_, _, _, heap_alloc_new _ _, ?_⟩
          intro i hi
          rw [hvals, Nat.zero_add]; simp
      · intro _ c hc
        cases hc
        refine .inr ⟨w.heap.size, _, _, _, by rw [hlen], by omega, Nat.le_refl _, heap_alloc_new _ _, ?_, ?_⟩
        · intro i hi
          rw [hvals]; simp
        · simp only [Con.esz, List.size_toArray, hvl]; omega
  · cases h

/-! ### strings.Join -/

noncomputable def libJoin_F {R : Type} (xs : List Str) (sep : Str) (k : Str → Option R) : Option R :=
  bif decide (xs.length ≤ 140737488355328) && decide ((Lib.join xs sep).length ≤ 140737488355328) then k (Lib.join xs sep) else none
noncomputable def libJoin_abs (R : Type) (ds : List D) (k : D → Option R) : Option R :=
  match ds with
  | [D.sl (.strs l), D.str t] => libJoin_F l t fun b => k (.str b)
  | _ => none
theorem libJoin_ok : FnOk qP 96 libJoin_abs := by
  intro R ds k r h
  unfold libJoin_abs at h
  split at h
  · rename_i l t
    unfold libJoin_F at h
    cases hx : (decide (l.length ≤ 140737488355328) && decide ((Lib.join l t).length ≤ 140737488355328)) with
    | false => rw [hx] at h; cases h
    | true =>
      rw [hx] at h
      simp only [Bool.and_eq_true, decide_eq_true_eq] at hx
      obtain ⟨h0, h1⟩ := hx
      refine ⟨_, h, acalls_of _ Tryd.func96 (by kernel_rfl) (by kernel_rfl) (by kernel_rfl) ?_⟩
      intro X w vals hX hI hr
      obtain ⟨v, u, rfl, hv, hu⟩ := rep2 hr
      simp only [Rep] at hv hu
      subst hu
      obtain ⟨a, cap, rfl, hcap, hcase⟩ := hv
      simp only [Con.len] at hcap hcase ⊢
      by_cases hl : l = []
      · subst hl
        refine (Tryd.strings_Join_none a cap ⟨⟨t⟩⟩ w).mono ?_
        rintro e w' ⟨rfl, rfl⟩
        exact ⟨_, rfl, Below.refl _ _, rfl⟩
      · rcases hcase with ⟨_, hz⟩ | ⟨ad, rfl, hsp, hblk, _, c, el, fr, hc, hvals⟩
        · cases l with
          | nil => exact absurd rfl hl
          | cons x y => simp at hz
        · obtain ⟨bk, off, sp⟩ := ad
          simp only at hsp hblk hc hvals
          subst hsp
          have hmap : (l.map fun s => (⟨⟨s⟩⟩ : ByteArray)).map (·.data.toList) = l := by
            rw [List.map_map]; exact List.map_id _
          have := Tryd.strings_Join bk off cap (l.map fun s => (⟨⟨s⟩⟩ : ByteArray)) ⟨⟨t⟩⟩ w (by
            intro j x hj
            rw [List.getElem?_map] at hj
            cases hlj : l[j]? with
            | none => rw [hlj] at hj; cases hj
            | some s =>
              rw [hlj] at hj
              simp only [Option.map_some, Option.some.injEq] at hj
              subst hj
              have hjl : j < l.length := by
                rcases Nat.lt_or_ge j l.length with h | h
                · exact h
                · rw [List.getElem?_eq_none h] at hlj; cases hlj
              have h2 := hvals j (by simpa [Con.vals] using hjl)
              simp only [Con.vals, List.getElem?_map, hlj, Option.map_some] at h2
              simp only [iv] at hc
              simp only [World.cell?, hc, strV] at h2 ⊢
              exact h2) (by simpa [iv] using hblk) (by simpa using h0) (by simpa using hcap) (by rw [hmap]; exact h1)
          rw [List.length_map, hmap] at this
          refine this.mono ?_
          rintro e w' ⟨rfl, hb⟩
          exact ⟨_, rfl, hb, rfl⟩
  · cases h

end Go.Proofs.YtleoffdjdgbanaaDoor

set_option linter.unusedVariables false
set_option linter.unusedSimpArgs false
namespace Go.Proofs.YtleoffdjdgbanaaDoor
open Go Go.QA Go.Proofs Go.RowKit Go.Lib

set_option maxHeartbeats 2000000 in
set_option maxRecDepth 100000 in
theorem clone_some (b off n c : Nat) (zs : List Int) (w : World) (hz : n ≤ zs.length) (hbig : n * 4 ≤ 140737488355328) (hc : ∀ j, j < zs.length → w.cell? ⟨b, off + j, none⟩ = some (.int .i32 (zs.getD j 0))) :
    Calls Tryd.prog 100 #[.slice (some ⟨b, off, none⟩) n c] w fun e w' => ∃ v', e = .returned v' ∧ w'.ownsRow w.heap.size 21 1 v' n ((zs.take n).map (Value.int .i32)) ∧ v' ≠ .slice none 0 0 ∧ Below w.heap.size w w' := by
  obtain ⟨i0, hi, hz0, hz1, hz2⟩ := info_parts (show (Tryd.prog.info? 21).map (fun i => (i.zero, i.size, i.bytes)) = some (some (.int .i32 0), 1, 4) by kernel_rfl)
  have q22 : ∀ (w : World) (a : Option Addr) (n c n' c' : Nat), (binOp .eql 30 (.slice a n c) (.slice none n' c')).run Tryd.prog w = .ok (.bool a.isNone) w := fun w a n c n' c' => Lib.run_eql_slice_nil w _ _ a n c n' c' Tryd.underlying30
  have A : Aside (∀ j, j < zs.length → w.cell? ⟨b, off + j, none⟩ = some (.int .i32 (zs.getD j 0))) := hc
  clear hc
  go_enter Tryd.func100, Tryd.ntmps100
  go_wp2_with (at_builtin; refine wpList_append_own _ rfl _ _ 30 rfl w.heap.size 21 i0 (.int .i32 0) 1 4 Tryd.underlying30 hi hz0 hz1 hz2 rfl (by decide) _ _ _ rfl (World.ownsRow_made w #[] 0 (Nat.le_refl _) (Nat.zero_le _) rfl) ⟨b, off, none⟩ n c ((zs.take n).map (Value.int .i32)) rfl ?qc1 ?qc2 ?qc3 ?qc4 ?qc5 ?qc6 ?_)
  case qc1 => simp; omega
  case qc2 =>
    intro j u hj
    have hjn : j < n ∧ j < zs.length := by
      have := (List.getElem?_eq_some_iff.1 hj).1
      simp at this
      omega
    rw [Addr.add_lit]
    refine Lib.cell?_alloc_some _ ?_
    rw [A.out j hjn.2]
    have e : ((zs.take n).map (Value.int .i32))[j]? = some (Value.int .i32 (zs.getD j 0)) := by simp [List.getD, hjn.1, List.getElem?_eq_getElem hjn.2]
    rw [e] at hj
    exact hj
  case qc3 => intro u hu; obtain ⟨x, _, rfl⟩ := List.mem_map.1 hu; rfl
  case qc4 => unfold maxLen; omega
  case qc5 => omega
  case qc6 => simp
  intro v' w1 hown hgrow hnil
  go_wp2
  go_ret
  refine ⟨v', rfl, by simpa using hown, ?_, ?_⟩
  · exact hnil
  · exact ((Below.refl _ w).alloc (Nat.le_refl _) _).grown hgrow (by simp) (by intro k hk; simp [Value.ownBlock] at hk; omega)

set_option maxHeartbeats 1000000 in
set_option maxRecDepth 100000 in
theorem clone_nil (n c : Nat) (w : World) : Calls Tryd.prog 100 #[.slice none n c] w fun e w' => e = .returned (.slice none 0 0) ∧ w' = w := by
  have q22 : ∀ (w : World) (a : Option Addr) (n c n' c' : Nat), (binOp .eql 30 (.slice a n c) (.slice none n' c')).run Tryd.prog w = .ok (.bool a.isNone) w := fun w a n c n' c' => Lib.run_eql_slice_nil w _ _ a n c n' c' Tryd.underlying30
  go_enter Tryd.func100, Tryd.ntmps100
  go_wp2
  go_ret
  exact ⟨rfl, rfl⟩

noncomputable def libClone_F {R : Type} (l : List Int) (k : List Int → Option R) : Option R := bif decide (l.length * 4 ≤ 140737488355328) then k l else none
noncomputable def libClone_abs (R : Type) (ds : List D) (k : D → Option R) : Option R :=
  match ds with
  | [D.sl (.ints .i32 l)] => libClone_F l fun b => k (.sl (.ints .i32 b))
  | _ => none
theorem libClone_ok : FnOk qP 100 libClone_abs := by
  intro R ds k r h
  unfold libClone_abs at h
  split at h
  · rename_i l
    unfold libClone_F at h
    cases hx : decide (l.length * 4 ≤ 140737488355328) with
    | false => rw [hx] at h; cases h
    | true =>
      rw [hx] at h
      rw [decide_eq_true_eq] at hx
      refine ⟨_, h, ⟨_, Tryd.func100, by kernel_rfl, by kernel_rfl⟩, ?_⟩
      intro X w vals hX hI hr
      obtain ⟨v, rfl, hv⟩ := rep1 hr
      simp only [Rep] at hv
      obtain ⟨a, cap, rfl, hcap, hcase⟩ := hv
      simp only [Con.len] at hcap hcase ⊢
      rcases hcase with ⟨rfl, hz⟩ | ⟨ad, rfl, hsp, hblk, _, c, el, fr, hc, hvals⟩
      · have hl : l = [] := List.length_eq_zero_iff.1 hz
        subst hl
        refine (clone_nil _ cap w).mono ?_
        rintro e w' ⟨rfl, rfl⟩
        refine ⟨_, rfl, Below.refl _ _, ?_, fun _ c hc => ?_⟩
        · simp only [Rep]; exact ⟨none, 0, rfl, Nat.le_refl _, .inl ⟨rfl, rfl⟩⟩
        · cases hc; exact .inl ⟨rfl, rfl⟩
      · obtain ⟨bk, off, sp⟩ := ad
        simp only at hsp hblk hc hvals
        subst hsp
        refine (clone_some bk off l.length cap l w (Nat.le_refl _) hx ?_).mono ?_
        · intro j hj
          have h2 := hvals j (by simpa [Con.vals] using hj)
          simp only [iv] at hc
          simp only [World.cell?, hc]
          rw [h2]
          simp [Con.vals, List.getD, hj]
        · rintro e w' ⟨v', rfl, hown, hnn, hb⟩
          obtain ⟨_, hcase⟩ := hown
          rcases hcase with ⟨e1, _⟩ | ⟨g, cap', cur, rfl, hg, hheap, hle, _, hsz, htake⟩
          · exact absurd e1 hnn
          · have hget : ∀ i, i < (Con.ints .i32 l).vals.length → cur[i]? = (Con.ints .i32 l).vals[i]? := by
              intro i hi
              simp only [Con.vals, List.length_map] at hi
              have h3 := congrArg (fun z => z[i]?) htake
              simp only [Nat.mul_one, List.take_length, List.getElem?_take] at h3
              rw [if_pos hi] at h3
              simpa [Con.vals] using h3
            refine ⟨_, rfl, hb, ?_, fun _ c hc => ?_⟩
            · simp only [Rep]
              refine ⟨_, cap', rfl, hle, .inr ⟨_, rfl, rfl, ?_, ?_, cur, 21, (0, 0), hheap, ?_⟩⟩
              · simp only [iv]
                rcases Nat.lt_or_ge g w'.heap.size with h | h
                · exact h
                · rw [Array.getElem?_eq_none h] at hheap; cases hheap
              · simp only [iv]; intro hb2; have := hX _ hb2; omega
              · intro i hi; rw [Nat.zero_add]; exact hget i hi
            · cases hc
              exact .inr ⟨g, cap', cur, 21, rfl, hle, hg, hheap, hget, by simp only [Con.esz]; omega⟩
  · cases h

end Go.Proofs.YtleoffdjdgbanaaDoor

set_option linter.unusedVariables false
set_option linter.unusedSimpArgs false
namespace Go.Proofs.YtleoffdjdgbanaaDoor
open Go Go.QA Go.Proofs Go.RowKit Go.Lib

set_option maxHeartbeats 2000000 in
set_option maxRecDepth 100000 in
theorem grow_zero (w : World) : Calls Tryd.prog 117 #[.slice none 0 0, .int .i64 0] w fun e w' => e = .returned (.slice none 0 0) ∧ w' = w := by
  go_enter Tryd.func117, Tryd.ntmps117
  go_wp2
  go_ret
  exact ⟨rfl, rfl⟩

set_option maxHeartbeats 2000000 in
set_option maxRecDepth 100000 in
theorem grow_some (n : Nat) (w : World) (h0 : 0 < n) (hbig : n * 16 ≤ 140737488355328) :
    Calls Tryd.prog 117 #[.slice none 0 0, .int .i64 n] w fun e w' => ∃ cap cs, n ≤ cap ∧ cs.size = cap ∧
      e = .returned (.slice (some ⟨w.heap.size, 0, none⟩) 0 cap) ∧ w' = w.drew.alloc (.cells cs 9) := by
  obtain ⟨i0, hi, hz0, hz1, hz2⟩ := info_parts (show (Tryd.prog.info? 9).map (fun i => (i.zero, i.size, i.bytes)) = some (some (strV []), 1, 16) by kernel_rfl)
  have h1 : ¬ ((n : Int) < 0) := by omega
  have h4 : (n : Int) > 0 := by omega
  have hold : (Builtin.firstCells i0.size 0 (.slice none 0 0)).run Tryd.prog w.drew = .ok #[] w.drew := run_firstCells_none w.drew i0.size 0 0 0
  have hrz : ∀ ty, (Builtin.append_ #[22, 3] ty #[.slice none 0 0, .int .i64 (n : Int)]).run Tryd.prog w =
      .ok (.slice (some ⟨w.heap.size, 0, none⟩) n (grownCap w n 0 9)) (w.drew.alloc (.cells (#[] ++ Builtin.zeroCells (strV []).cells n ++ Builtin.zeroCells (strV []).cells (grownCap w n 0 9 - n)) 9)) := fun ty => by
    have h := Lib.run_append_grow_zeros w 22 3 ty 9 i0 (strV []) .i64 .i64 Tryd.underlying22 Tryd.underlying3 hi hz0 none 0 0 [] hold n h0 (by rw [hz1]; decide) (by omega) (by omega)
      (by rw [hz2]; omega)
      (by rw [Nat.zero_add, hz2]; exact growslice_fits (by omega) hbig)
    rw [Nat.zero_add] at h
    exact h
  have hGn : n ≤ grownCap w n 0 9 := grownCap_ge w _ _ _
  obtain ⟨G, hG⟩ : ∃ G, G = grownCap w n 0 9 := ⟨_, rfl⟩
  rw [← hG] at hrz hGn
  have hG63 : G ≤ 9223372036854775807 := by
    have := grownCap_le_maxLen w n 0 9 (by unfold maxLen; omega)
    rw [← hG] at this
    unfold maxLen at this
    omega
  clear hold hG
  go_enter Tryd.func117, Tryd.ntmps117
  go_wp2_with (at_builtin; refine Lib.wpList_append_run _ rfl _ _ _ _ rfl _ _ rfl rfl _ _ (hrz _) ?_)
  all_goals (go_ret; refine ⟨G, hGn, Builtin.zeroCells #[strV []] n ++ Builtin.zeroCells #[strV []] (G - n), ?_, rfl, rfl⟩; simp [size_zeroCells, strV, Value.cells]; omega)

noncomputable def libGrow_F {R : Type} (n : Int) (k : List Str → Option R) : Option R := bif decide (0 ≤ n) && decide (n * 16 ≤ 140737488355328) then k [] else none
noncomputable def libGrow_abs (R : Type) (ds : List D) (k : D → Option R) : Option R :=
  match ds with
  | [D.nils, D.int .i64 n] => libGrow_F n fun b => k (.sl (.strs b))
  | _ => none
theorem libGrow_ok : FnOk qP 117 libGrow_abs := by
  intro R ds k r h
  unfold libGrow_abs at h
  split at h
  · rename_i n
    unfold libGrow_F at h
    cases hx : (decide (0 ≤ n) && decide (n * 16 ≤ 140737488355328)) with
    | false => rw [hx] at h; cases h
    | true =>
      rw [hx] at h
      rw [Bool.and_eq_true, decide_eq_true_eq, decide_eq_true_eq] at hx
      obtain ⟨m, rfl⟩ : ∃ m : Nat, n = m := ⟨n.toNat, by omega⟩
      refine ⟨_, h, ⟨_, Tryd.func117, by kernel_rfl, by kernel_rfl⟩, ?_⟩
      intro X w vals hX hI hr
      obtain ⟨v1, v2, rfl, hv1, hv2⟩ := rep2 hr
      simp only [Rep] at hv1 hv2
      subst hv1; subst hv2
      rcases Nat.eq_zero_or_pos m with rfl | hm
      · refine (grow_zero w).mono ?_
        rintro e w' ⟨rfl, rfl⟩
        refine ⟨_, rfl, Below.refl _ _, ?_, fun _ c hc => ?_⟩
        · simp only [Rep]; exact ⟨none, 0, rfl, Nat.le_refl _, .inl ⟨rfl, rfl⟩⟩
        · cases hc; exact .inl ⟨rfl, rfl⟩
      · refine (grow_some m w hm (by omega)).mono ?_
        rintro e w' ⟨cap, cs, hcap, hcs, rfl, rfl⟩
        have hheap : (w.drew.alloc (.cells cs 9)).heap[w.heap.size]? = some (.cells cs 9 (0, 0)) := heap_alloc_new w.drew _
        refine ⟨_, rfl, ((Below.refl _ w).drew).alloc (Nat.le_refl _) _, ?_, fun _ c hc => ?_⟩
        · simp only [Rep]
          refine ⟨_, cap, rfl, Nat.zero_le _, .inr ⟨_, rfl, rfl, ?_, ?_, cs, 9, (0, 0), hheap, fun i hi => by simp [Con.vals] at hi⟩⟩
          · simp only [iv]; exact getElem?_lt hheap
          · simp only [iv]; intro hb2; have := hX _ hb2; omega
        · cases hc
          exact .inr ⟨w.heap.size, cap, cs, 9, rfl, Nat.zero_le _, Nat.le_refl _, hheap, fun i hi => by simp [Con.vals] at hi, by simp only [Con.esz]; omega⟩
  · cases h

end Go.Proofs.YtleoffdjdgbanaaDoor
