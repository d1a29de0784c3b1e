/- For every input the statement SmallSame says true, and its argument reads as before; conditions: none beyond the row's own (the library's tables are as its text lays them). -/
import Derived.Test.YtleoffdjdgbanaaDoorRowKit
import Derived.Test.YtleoffdjdgbanaaDoorPure4
import Derived.Test.YtleoffdjdgbanaaDoorCards
import Derived.Test.YtleoffdjdgbanaaDoorTie
set_option linter.unusedVariables false
set_option linter.unusedSimpArgs false
set_option linter.unusedVariables false
set_option linter.unusedSimpArgs false
set_option maxRecDepth 100000
namespace Go.Proofs.YtleoffdjdgbanaaDoor
open Go Go.QA Go.Proofs Go.RowKit Go.ChangeShapes Go.WideShapes Go.ChangeAt

theorem SmallSame_lifted (os : Os) (started : os.Started) (H : Type) (enc : TypeId × Value → H) :
    ReturnsInHanded {} Tryd.checked os 17 .any (fun w args => (Rows.smallSameSpec.pre enc Tryd.prog Tryd.f17 [] false w args ∧ laidMetH Tryd.prog Rows.smallSameRow.laid w) ∧ sizedMet enc Tryd.prog Tryd.f17 (OpenSpec.ofChange Rows.smallSameSpec) false w args)
      (Rows.smallSameSpec.post enc Tryd.prog Tryd.f17 false true false false) := by
  refine law28 (laid := Rows.smallSameRow.laid) rfl (fun _ _ => rfl) Tryd.func17 Tryd.params17 (by kernel_rfl) (by kernel_rfl) (by kernel_rfl)
    (fun W h1 h2 => ⟨rowMaxLen h2, rowUtf8 h1 (by simp [Rows.smallSameRow]) (by simp [Rows.smallSameRow]), rowProps h1 (by simp [Rows.smallSameRow])⟩) SmallSame_ok ?_ os started
    (ChangeSpec.witness_shaped (enc := enc) (C := Tryd.checked) (os := os) (X := fun w _ => laidMetH Tryd.prog Rows.smallSameRow.laid w) false (World.laidAll Tryd.prog os Rows.smallSameRow.laid) #[.agg #[.slice none 0 0, .int .i64 0, .int .i64 0, .int .i64 0, .int .i64 0, .int .i64 0, .int .i64 0, .int .i64 0]] 8 (World.laidAll_os _ _ _)
      (World.shaped_of_ZipB (by kernel_rfl) (by kernel_rfl)) (by kernel_rfl) (by kernel_rfl) (by kernel_rfl)
      (by rw [MakeChecks.laidMetH_plain _ _ _ (by kernel_rfl)]; exact laidMet_laidAll _ (by kernel_rfl) (by kernel_rfl)))
  intro q hq x1 x2 x3 x4 x5 x6 x7 k
  exact SmallSame_true q hq x1 x2 x3 x4 x5 x6 x7 _

theorem smallSame_row : Rows.SmallSameSaid :=
  OpenClaim.holds_of_wide 17 Tryd.f17 rfl rfl rfl rfl rfl rfl rfl ⟨rfl, rfl, rfl, rfl, rfl⟩ rfl rfl rfl rfl rfl (by kernel_rfl) Tryd.func17 (by kernel_rfl)
    (of_decide_eq_true (by kernel_rfl)) (by unfold Func.isWrapper; first | (rw [if_pos (by decide +kernel)]; kernel_rfl) | (rw [if_neg (by decide +kernel)]; exact ⟨rfl, rfl⟩))
    (fun os started H enc _ => SmallSame_lifted os started H enc)

theorem smallSame_holds : Rows.SmallSameCardSaid :=
  Claim7.holds_tied_plain_at .later [] [.data, .data, .pinned, .pinned, .pinned] true (true, "f3912674dcdda81b802a1dcea0a63c3e984df34a1db26691d2058e72efd053ce") false smallSame_row (fun _ h => by cases h) (by kernel_rfl) (fun _ h => by cases h) smallSame_row_tie rfl ⟨rfl, rfl⟩ (by kernel_rfl) rfl
    (fun f fn hf hfn => by
      obtain rfl : f = 17 := Option.some.inj ((show Tryd.prog.funcNamed "quill/quilllaw20.SmallSame" = some 17 by kernel_rfl).symm.trans hf) |>.symm
      obtain rfl : fn = Tryd.f17 := (Option.some.inj (Tryd.func17.symm.trans hfn)).symm
      exact ⟨by kernel_rfl, fun j t ht => by
        rw [Tryd.params17] at ht
        have hm : t ∈ [28] := by simpa using Array.mem_of_getElem? ht
        have hall : ([28].all fun u => !Tryd.prog.wantsStandIn u) = true := by kernel_rfl
        exact (show Tryd.prog.wantsStandIn t = false by simpa using List.all_eq_true.1 hall t hm)⟩)
    (by kernel_rfl)
#print axioms smallSame_holds
end Go.Proofs.YtleoffdjdgbanaaDoor
