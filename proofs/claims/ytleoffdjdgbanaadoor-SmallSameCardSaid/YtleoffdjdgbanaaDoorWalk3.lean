/- Functions as the model has them, and plain functions with the same answers: printed by a program of mine. -/
import Derived.Test.YtleoffdjdgbanaaDoorWalk2
set_option linter.unusedVariables false
set_option linter.unusedSimpArgs false
set_option linter.unusedVariables false
set_option linter.unusedSimpArgs false
set_option maxRecDepth 1000000
namespace Go.Proofs.YtleoffdjdgbanaaDoor
open Go Go.QA Go.Proofs

/-! ### smallJoined: function 76 -/

noncomputable def smallJoined_C : Cfg := ⟨qP, Tryd.f76.ntmps, [35, 70, 72]⟩
noncomputable def smallJoined_code : Code := Tryd.f76.body.getD .skip
noncomputable def smallJoined_G (R : Type) : Orc R := fun f args k => bif Nat.beq f 71 then MapRow_abs R args k else (fun f args k => bif Nat.beq f 92 then MapRows_abs R args k else (fun f args k => bif Nat.beq f 94 then libSplit_abs R args k else (fun f args k => bif Nat.beq f 95 then textClass_abs R args k else (fun f args k => bif Nat.beq f 101 then smallBetween_abs R args k else (fun f args k => bif Nat.beq f 102 then slicesConcat_abs R args k else (fun f args k => bif Nat.beq f 96 then libJoin_abs R args k else (fun f args k => bif Nat.beq f 52 then textOf_abs R args k else (fun f args k => bif Nat.beq f 82 then MapRest_abs R args k else (fun f args k => bif Nat.beq f 65 then changeMade_abs R args k else (fun _ _ _ => none) f args k) f args k) f args k) f args k) f args k) f args k) f args k) f args k) f args k) f args k
theorem smallJoined_Gok (R : Type) : OrcOk qP (smallJoined_G R) := (orc_cons MapRow_ok (orc_cons MapRows_ok (orc_cons libSplit_ok (orc_cons textClass_ok (orc_cons smallBetween_ok (orc_cons slicesConcat_ok (orc_cons libJoin_ok (orc_cons textOf_ok (orc_cons MapRest_ok (orc_cons changeMade_ok orc_nil))))))))))
noncomputable def smallJoined_B11 {R : Type} (rec : Str → List Int → List Int → Int → Int → List Str → List Int → List Int → List Str → Int → Int → Bool → Str → Int → Str → Int → Int → Option R) (s25 : Str) (l26 : List Int) (l27 : List Int) (x28 : Int) (x29 : Int) (q30 : List Str) (l31 : List Int) (l32 : List Int) (q33 : List Str) (x34 : Int) (x35 : Int) (b36 : Bool) (s37 : Str) (x38 : Int) (s39 : Str) (x40 : Int) (x41 : Int) (ke0 : Str → List Int → List Int → Int → Int → List Str → List Int → List Int → List Str → Int → Int → Bool → Str → Int → Str → Int → Int → Option R) : Option R :=
  (bif (Decidable.decide ((↑(List.length l32) : Int) > (0 : Int))) then
  (bif (Decidable.decide ((0 : Int) ≤ (0 : Int)) && Decidable.decide ((0 : Int) < (↑(List.length l32) : Int))) then
   textClass_F (Go.IntKind.wrap Go.IntKind.i64 (List.getD l32 (Int.toNat (0 : Int)) (0 : Int))) (fun x42 =>
    (bif (x42 == (0 : Int)) then
     (bif (Decidable.decide ((0 : Int) ≤ (1 : Int)) && Decidable.decide ((1 : Int) ≤ (↑(List.length l32) : Int))) then
      rec s25 l26 l27 x28 x29 q30 l31 (List.drop (Int.toNat (1 : Int)) (List.take (List.length l32) l32)) q33 x34 x35 b36 s37 x38 s39 x40 x41
     else
      none)
    else
     ke0 s25 l26 l27 x28 x29 q30 l31 l32 q33 x34 x35 b36 s37 x38 s39 x40 x41))
  else
   none)
 else
  ke0 s25 l26 l27 x28 x29 q30 l31 l32 q33 x34 x35 b36 s37 x38 s39 x40 x41)
noncomputable def smallJoined_L11 {R : Type} : Nat → Str → List Int → List Int → Int → Int → List Str → List Int → List Int → List Str → Int → Int → Bool → Str → Int → Str → Int → Int → (Str → List Int → List Int → Int → Int → List Str → List Int → List Int → List Str → Int → Int → Bool → Str → Int → Str → Int → Int → Option R) → Option R
  | 0, _, _, _, _, _, _, _, _, _, _, _, _, _, _, _, _, _, _ => none
  | n + 1, s25, l26, l27, x28, x29, q30, l31, l32, q33, x34, x35, b36, s37, x38, s39, x40, x41, ke0 => smallJoined_B11 (fun s25 l26 l27 x28 x29 q30 l31 l32 q33 x34 x35 b36 s37 x38 s39 x40 x41 => smallJoined_L11 n s25 l26 l27 x28 x29 q30 l31 l32 q33 x34 x35 b36 s37 x38 s39 x40 x41 ke0) s25 l26 l27 x28 x29 q30 l31 l32 q33 x34 x35 b36 s37 x38 s39 x40 x41 ke0
noncomputable def smallJoined_M11 {R : Type} : Str → List Int → List Int → Int → Int → List Str → List Int → List Int → List Str → Int → Int → Bool → Str → Int → Str → Int → Int → (Str → List Int → List Int → Int → Int → List Str → List Int → List Int → List Str → Int → Int → Bool → Str → Int → Str → Int → Int → Option R) → Option R := lock (smallJoined_L11 4611686018427387904)
theorem smallJoined_M11_eq {R : Type} : @smallJoined_M11 R = smallJoined_L11 4611686018427387904 := lock_eq _
noncomputable def smallJoined_B8 {R : Type} (rec : Str → List Int → List Int → Int → Int → List Str → List Int → Int → List Str → Int → Int → Bool → Str → Int → Str → Int → Int → Option R) (s8 : Str) (l9 : List Int) (l10 : List Int) (x11 : Int) (x12 : Int) (q13 : List Str) (l14 : List Int) (x15 : Int) (q16 : List Str) (x17 : Int) (x18 : Int) (b19 : Bool) (s20 : Str) (x21 : Int) (s22 : Str) (x23 : Int) (x24 : Int) (ke0 : Str → List Int → List Int → Int → Int → List Str → List Int → Int → Bool → Str → Int → Str → Int → Int → Option R) : Option R :=
  (bif (Decidable.decide (x18 < x17)) then
  (bif (Decidable.decide ((0 : Int) ≤ x18) && Decidable.decide (x18 < (↑(List.length q16) : Int))) then
   smallJoined_M11 s8 l9 l10 x11 x12 q13 l14 (Go.QA.runesOf (List.getD q16 (Int.toNat x18) [])) q16 x17 x18 b19 s20 x21 s22 x23 x24
    (fun s43 l44 l45 x46 x47 q48 l49 l50 q51 x52 x53 b54 s55 x56 s57 x58 x59 =>
    smallBetween_F l49 l50 (fun l60 =>
     (bif (Decidable.decide (List.length (l49 ++ l60) * (4 : Nat) ≤ (140737488355328 : Nat)) && Decidable.decide (List.length (l49 ++ l60) ≤ (9223372036854775807 : Nat))) then
      (bif (Decidable.decide (List.length (l49 ++ l60 ++ l50) * (4 : Nat) ≤ (140737488355328 : Nat)) && Decidable.decide (List.length (l49 ++ l60 ++ l50) ≤ (9223372036854775807 : Nat))) then
       rec s43 l44 l45 x46 x47 q48 (l49 ++ l60 ++ l50) ((↑(List.length l49) : Int)) q51 x52 (Go.IntKind.wrap Go.IntKind.i64 (x53 + (1 : Int))) b54 s55 x56 s57 x58 x59
      else
       none)
     else
      none)))
  else
   none)
 else
  ke0 s8 l9 l10 x11 x12 q13 l14 x15 b19 s20 x21 s22 x23 x24)
noncomputable def smallJoined_L8 {R : Type} : Nat → Str → List Int → List Int → Int → Int → List Str → List Int → Int → List Str → Int → Int → Bool → Str → Int → Str → Int → Int → (Str → List Int → List Int → Int → Int → List Str → List Int → Int → Bool → Str → Int → Str → Int → Int → Option R) → Option R
  | 0, _, _, _, _, _, _, _, _, _, _, _, _, _, _, _, _, _, _ => none
  | n + 1, s8, l9, l10, x11, x12, q13, l14, x15, q16, x17, x18, b19, s20, x21, s22, x23, x24, ke0 => smallJoined_B8 (fun s8 l9 l10 x11 x12 q13 l14 x15 q16 x17 x18 b19 s20 x21 s22 x23 x24 => smallJoined_L8 n s8 l9 l10 x11 x12 q13 l14 x15 q16 x17 x18 b19 s20 x21 s22 x23 x24 ke0) s8 l9 l10 x11 x12 q13 l14 x15 q16 x17 x18 b19 s20 x21 s22 x23 x24 ke0
noncomputable def smallJoined_M8 {R : Type} : Str → List Int → List Int → Int → Int → List Str → List Int → Int → List Str → Int → Int → Bool → Str → Int → Str → Int → Int → (Str → List Int → List Int → Int → Int → List Str → List Int → Int → Bool → Str → Int → Str → Int → Int → Option R) → Option R := lock (smallJoined_L8 4611686018427387904)
theorem smallJoined_M8_eq {R : Type} : @smallJoined_M8 R = smallJoined_L8 4611686018427387904 := lock_eq _
noncomputable def smallJoined_Lam0 (R : Type) : Lam R := fun _ _ _ => none
noncomputable def smallJoined_body11 : Code := (findLoop 11 smallJoined_code).getD .skip
def smallJoined_S11 : QA.Spec := (⟨[.t 0, .t 1, .t 3, .t 10, .t 11, .t 12, .t 16, .t 43, .t 44, .t 45, .c 8 5, .c 8 4, .c 8 3, .c 8 2, .c 8 1, .c 8 0], [8], [], [(.t 8, 8, 0)], []⟩ : QA.Spec)
def smallJoined_S11e2 : QA.Spec := (⟨[.t 0, .t 1, .t 3, .t 10, .t 11, .t 12, .t 16, .t 43, .t 44, .t 45, .c 8 5, .c 8 4, .c 8 3, .c 8 2, .c 8 1, .c 8 0], [8], [], [(.t 8, 8, 0)], []⟩ : QA.Spec)
def smallJoined_X11 : AExit → Option QA.Spec
  | .normal => none
  | .exit j => bif Nat.beq j 2 then some smallJoined_S11e2 else none
  | .ret => none
theorem smallJoined_L11_eq {R : Type} (k : AExit → St → Option R) : ∀ (n : Nat) (a0 : Str) (a1 : List Int) (a2 : List Int) (a3 : Int) (a4 : Int) (a5 : List Str) (a6 : List Int) (a7 : List Int) (a8 : List Str) (a9 : Int) (a10 : Int) (a11 : Bool) (a12 : Str) (a13 : Int) (a14 : Str) (a15 : Int) (a16 : Int), aloop smallJoined_C (smallJoined_G R) (smallJoined_Lam0 R) smallJoined_S11 smallJoined_X11 smallJoined_body11 n [D.str a0, D.ptr [D.sl (.ints .i32 a1), D.sl (.ints .i64 a2)], D.int .i64 a3, D.int .i64 a4, D.sl (.strs a5), D.con (.ints .i32 a6), D.sl (.ints .i32 a7), D.sl (.strs a8), D.int .i64 a9, D.int .i64 a10, D.bool a11, D.str a12, D.int .i64 a13, D.str a14, D.int .i64 a15, D.int .i64 a16] k = smallJoined_L11 n a0 a1 a2 a3 a4 a5 a6 a7 a8 a9 a10 a11 a12 a13 a14 a15 a16 (fun y0 y1 y2 y3 y4 y5 y6 y7 y8 y9 y10 y11 y12 y13 y14 y15 y16 => k (.exit 2) (mkSt smallJoined_S11e2 [D.str y0, D.ptr [D.sl (.ints .i32 y1), D.sl (.ints .i64 y2)], D.int .i64 y3, D.int .i64 y4, D.sl (.strs y5), D.con (.ints .i32 y6), D.sl (.ints .i32 y7), D.sl (.strs y8), D.int .i64 y9, D.int .i64 y10, D.bool y11, D.str y12, D.int .i64 y13, D.str y14, D.int .i64 y15, D.int .i64 y16]))
  | 0, _, _, _, _, _, _, _, _, _, _, _, _, _, _, _, _, _ => rfl
  | n + 1, a0, a1, a2, a3, a4, a5, a6, a7, a8, a9, a10, a11, a12, a13, a14, a15, a16 => by
    have h : (fun a0 a1 a2 a3 a4 a5 a6 a7 a8 a9 a10 a11 a12 a13 a14 a15 a16 => aloop smallJoined_C (smallJoined_G R) (smallJoined_Lam0 R) smallJoined_S11 smallJoined_X11 smallJoined_body11 n [D.str a0, D.ptr [D.sl (.ints .i32 a1), D.sl (.ints .i64 a2)], D.int .i64 a3, D.int .i64 a4, D.sl (.strs a5), D.con (.ints .i32 a6), D.sl (.ints .i32 a7), D.sl (.strs a8), D.int .i64 a9, D.int .i64 a10, D.bool a11, D.str a12, D.int .i64 a13, D.str a14, D.int .i64 a15, D.int .i64 a16] k) = (fun a0 a1 a2 a3 a4 a5 a6 a7 a8 a9 a10 a11 a12 a13 a14 a15 a16 => smallJoined_L11 n a0 a1 a2 a3 a4 a5 a6 a7 a8 a9 a10 a11 a12 a13 a14 a15 a16 (fun y0 y1 y2 y3 y4 y5 y6 y7 y8 y9 y10 y11 y12 y13 y14 y15 y16 => k (.exit 2) (mkSt smallJoined_S11e2 [D.str y0, D.ptr [D.sl (.ints .i32 y1), D.sl (.ints .i64 y2)], D.int .i64 y3, D.int .i64 y4, D.sl (.strs y5), D.con (.ints .i32 y6), D.sl (.ints .i32 y7), D.sl (.strs y8), D.int .i64 y9, D.int .i64 y10, D.bool y11, D.str y12, D.int .i64 y13, D.str y14, D.int .i64 y15, D.int .i64 y16]))) := by
      funext a0 a1 a2 a3 a4 a5 a6 a7 a8 a9 a10 a11 a12 a13 a14 a15 a16; exact smallJoined_L11_eq k n a0 a1 a2 a3 a4 a5 a6 a7 a8 a9 a10 a11 a12 a13 a14 a15 a16
    have s : aloop smallJoined_C (smallJoined_G R) (smallJoined_Lam0 R) smallJoined_S11 smallJoined_X11 smallJoined_body11 (n + 1) [D.str a0, D.ptr [D.sl (.ints .i32 a1), D.sl (.ints .i64 a2)], D.int .i64 a3, D.int .i64 a4, D.sl (.strs a5), D.con (.ints .i32 a6), D.sl (.ints .i32 a7), D.sl (.strs a8), D.int .i64 a9, D.int .i64 a10, D.bool a11, D.str a12, D.int .i64 a13, D.str a14, D.int .i64 a15, D.int .i64 a16] k = smallJoined_B11 (fun a0 a1 a2 a3 a4 a5 a6 a7 a8 a9 a10 a11 a12 a13 a14 a15 a16 => aloop smallJoined_C (smallJoined_G R) (smallJoined_Lam0 R) smallJoined_S11 smallJoined_X11 smallJoined_body11 n [D.str a0, D.ptr [D.sl (.ints .i32 a1), D.sl (.ints .i64 a2)], D.int .i64 a3, D.int .i64 a4, D.sl (.strs a5), D.con (.ints .i32 a6), D.sl (.ints .i32 a7), D.sl (.strs a8), D.int .i64 a9, D.int .i64 a10, D.bool a11, D.str a12, D.int .i64 a13, D.str a14, D.int .i64 a15, D.int .i64 a16] k) a0 a1 a2 a3 a4 a5 a6 a7 a8 a9 a10 a11 a12 a13 a14 a15 a16 (fun y0 y1 y2 y3 y4 y5 y6 y7 y8 y9 y10 y11 y12 y13 y14 y15 y16 => k (.exit 2) (mkSt smallJoined_S11e2 [D.str y0, D.ptr [D.sl (.ints .i32 y1), D.sl (.ints .i64 y2)], D.int .i64 y3, D.int .i64 y4, D.sl (.strs y5), D.con (.ints .i32 y6), D.sl (.ints .i32 y7), D.sl (.strs y8), D.int .i64 y9, D.int .i64 y10, D.bool y11, D.str y12, D.int .i64 y13, D.str y14, D.int .i64 y15, D.int .i64 y16])) := by kernel_rfl
    rw [s, h]; rfl
noncomputable def smallJoined_A11 (R : Type) (ds : List D) (k : AExit → St → Option R) : Option R :=
  match ds with
  | [D.str a0, D.ptr [D.sl (.ints .i32 a1), D.sl (.ints .i64 a2)], D.int .i64 a3, D.int .i64 a4, D.sl (.strs a5), D.con (.ints .i32 a6), D.sl (.ints .i32 a7), D.sl (.strs a8), D.int .i64 a9, D.int .i64 a10, D.bool a11, D.str a12, D.int .i64 a13, D.str a14, D.int .i64 a15, D.int .i64 a16] => smallJoined_M11 a0 a1 a2 a3 a4 a5 a6 a7 a8 a9 a10 a11 a12 a13 a14 a15 a16 (fun y0 y1 y2 y3 y4 y5 y6 y7 y8 y9 y10 y11 y12 y13 y14 y15 y16 => k (.exit 2) (mkSt smallJoined_S11e2 [D.str y0, D.ptr [D.sl (.ints .i32 y1), D.sl (.ints .i64 y2)], D.int .i64 y3, D.int .i64 y4, D.sl (.strs y5), D.con (.ints .i32 y6), D.sl (.ints .i32 y7), D.sl (.strs y8), D.int .i64 y9, D.int .i64 y10, D.bool y11, D.str y12, D.int .i64 y13, D.str y14, D.int .i64 y15, D.int .i64 y16]))
  | _ => none
noncomputable def smallJoined_Lam1 (R : Type) : Lam R := fun key st k => bif Nat.beq key 11 then (match readSt smallJoined_S11 st with | some ds => smallJoined_A11 R ds k | none => none) else smallJoined_Lam0 R key st k
theorem smallJoined_A11_ok {R : Type} : ∀ ds k r, smallJoined_A11 R ds k = some r → ∃ e st', k e st' = some r ∧ QA.Reach smallJoined_C (.loop smallJoined_body11) (mkSt smallJoined_S11 ds) e st' := by
  intro ds k r h
  unfold smallJoined_A11 at h
  split at h
  · rw [smallJoined_M11_eq, ← smallJoined_L11_eq] at h
    refine aloop_ok (C := smallJoined_C) qOk (smallJoined_Gok R) ?_ _ _ _ _ h
    rw [show loopsIn smallJoined_body11 = [] from by kernel_rfl]
    intro b hb
    cases hb
  · cases h
noncomputable def smallJoined_body8 : Code := (findLoop 8 smallJoined_code).getD .skip
def smallJoined_S8 : QA.Spec := (⟨[.t 0, .t 1, .t 3, .t 10, .t 11, .t 12, .t 13, .t 43, .t 44, .t 45, .c 8 5, .c 8 4, .c 8 3, .c 8 2, .c 8 1, .c 8 0], [8], [], [(.t 8, 8, 0)], []⟩ : QA.Spec)
def smallJoined_S8e0 : QA.Spec := (⟨[.t 0, .t 1, .t 3, .t 10, .t 11, .t 12, .t 13, .c 8 5, .c 8 4, .c 8 3, .c 8 2, .c 8 1, .c 8 0], [8], [], [(.t 8, 8, 0)], []⟩ : QA.Spec)
def smallJoined_X8 : AExit → Option QA.Spec
  | .normal => none
  | .exit j => bif Nat.beq j 0 then some smallJoined_S8e0 else none
  | .ret => none
theorem smallJoined_L8_eq {R : Type} (k : AExit → St → Option R) : ∀ (n : Nat) (a0 : Str) (a1 : List Int) (a2 : List Int) (a3 : Int) (a4 : Int) (a5 : List Str) (a6 : List Int) (a7 : Int) (a8 : List Str) (a9 : Int) (a10 : Int) (a11 : Bool) (a12 : Str) (a13 : Int) (a14 : Str) (a15 : Int) (a16 : Int), aloop smallJoined_C (smallJoined_G R) (smallJoined_Lam1 R) smallJoined_S8 smallJoined_X8 smallJoined_body8 n [D.str a0, D.ptr [D.sl (.ints .i32 a1), D.sl (.ints .i64 a2)], D.int .i64 a3, D.int .i64 a4, D.sl (.strs a5), D.con (.ints .i32 a6), D.int .i64 a7, D.sl (.strs a8), D.int .i64 a9, D.int .i64 a10, D.bool a11, D.str a12, D.int .i64 a13, D.str a14, D.int .i64 a15, D.int .i64 a16] k = smallJoined_L8 n a0 a1 a2 a3 a4 a5 a6 a7 a8 a9 a10 a11 a12 a13 a14 a15 a16 (fun y0 y1 y2 y3 y4 y5 y6 y7 y8 y9 y10 y11 y12 y13 => k (.exit 0) (mkSt smallJoined_S8e0 [D.str y0, D.ptr [D.sl (.ints .i32 y1), D.sl (.ints .i64 y2)], D.int .i64 y3, D.int .i64 y4, D.sl (.strs y5), D.con (.ints .i32 y6), D.int .i64 y7, D.bool y8, D.str y9, D.int .i64 y10, D.str y11, D.int .i64 y12, D.int .i64 y13]))
  | 0, _, _, _, _, _, _, _, _, _, _, _, _, _, _, _, _, _ => rfl
  | n + 1, a0, a1, a2, a3, a4, a5, a6, a7, a8, a9, a10, a11, a12, a13, a14, a15, a16 => by
    have h : (fun a0 a1 a2 a3 a4 a5 a6 a7 a8 a9 a10 a11 a12 a13 a14 a15 a16 => aloop smallJoined_C (smallJoined_G R) (smallJoined_Lam1 R) smallJoined_S8 smallJoined_X8 smallJoined_body8 n [D.str a0, D.ptr [D.sl (.ints .i32 a1), D.sl (.ints .i64 a2)], D.int .i64 a3, D.int .i64 a4, D.sl (.strs a5), D.con (.ints .i32 a6), D.int .i64 a7, D.sl (.strs a8), D.int .i64 a9, D.int .i64 a10, D.bool a11, D.str a12, D.int .i64 a13, D.str a14, D.int .i64 a15, D.int .i64 a16] k) = (fun a0 a1 a2 a3 a4 a5 a6 a7 a8 a9 a10 a11 a12 a13 a14 a15 a16 => smallJoined_L8 n a0 a1 a2 a3 a4 a5 a6 a7 a8 a9 a10 a11 a12 a13 a14 a15 a16 (fun y0 y1 y2 y3 y4 y5 y6 y7 y8 y9 y10 y11 y12 y13 => k (.exit 0) (mkSt smallJoined_S8e0 [D.str y0, D.ptr [D.sl (.ints .i32 y1), D.sl (.ints .i64 y2)], D.int .i64 y3, D.int .i64 y4, D.sl (.strs y5), D.con (.ints .i32 y6), D.int .i64 y7, D.bool y8, D.str y9, D.int .i64 y10, D.str y11, D.int .i64 y12, D.int .i64 y13]))) := by
      funext a0 a1 a2 a3 a4 a5 a6 a7 a8 a9 a10 a11 a12 a13 a14 a15 a16; exact smallJoined_L8_eq k n a0 a1 a2 a3 a4 a5 a6 a7 a8 a9 a10 a11 a12 a13 a14 a15 a16
    have s : aloop smallJoined_C (smallJoined_G R) (smallJoined_Lam1 R) smallJoined_S8 smallJoined_X8 smallJoined_body8 (n + 1) [D.str a0, D.ptr [D.sl (.ints .i32 a1), D.sl (.ints .i64 a2)], D.int .i64 a3, D.int .i64 a4, D.sl (.strs a5), D.con (.ints .i32 a6), D.int .i64 a7, D.sl (.strs a8), D.int .i64 a9, D.int .i64 a10, D.bool a11, D.str a12, D.int .i64 a13, D.str a14, D.int .i64 a15, D.int .i64 a16] k = smallJoined_B8 (fun a0 a1 a2 a3 a4 a5 a6 a7 a8 a9 a10 a11 a12 a13 a14 a15 a16 => aloop smallJoined_C (smallJoined_G R) (smallJoined_Lam1 R) smallJoined_S8 smallJoined_X8 smallJoined_body8 n [D.str a0, D.ptr [D.sl (.ints .i32 a1), D.sl (.ints .i64 a2)], D.int .i64 a3, D.int .i64 a4, D.sl (.strs a5), D.con (.ints .i32 a6), D.int .i64 a7, D.sl (.strs a8), D.int .i64 a9, D.int .i64 a10, D.bool a11, D.str a12, D.int .i64 a13, D.str a14, D.int .i64 a15, D.int .i64 a16] k) a0 a1 a2 a3 a4 a5 a6 a7 a8 a9 a10 a11 a12 a13 a14 a15 a16 (fun y0 y1 y2 y3 y4 y5 y6 y7 y8 y9 y10 y11 y12 y13 => k (.exit 0) (mkSt smallJoined_S8e0 [D.str y0, D.ptr [D.sl (.ints .i32 y1), D.sl (.ints .i64 y2)], D.int .i64 y3, D.int .i64 y4, D.sl (.strs y5), D.con (.ints .i32 y6), D.int .i64 y7, D.bool y8, D.str y9, D.int .i64 y10, D.str y11, D.int .i64 y12, D.int .i64 y13])) := by kernel_rfl
    rw [s, h]; rfl
noncomputable def smallJoined_A8 (R : Type) (ds : List D) (k : AExit → St → Option R) : Option R :=
  match ds with
  | [D.str a0, D.ptr [D.sl (.ints .i32 a1), D.sl (.ints .i64 a2)], D.int .i64 a3, D.int .i64 a4, D.sl (.strs a5), D.con (.ints .i32 a6), D.int .i64 a7, D.sl (.strs a8), D.int .i64 a9, D.int .i64 a10, D.bool a11, D.str a12, D.int .i64 a13, D.str a14, D.int .i64 a15, D.int .i64 a16] => smallJoined_M8 a0 a1 a2 a3 a4 a5 a6 a7 a8 a9 a10 a11 a12 a13 a14 a15 a16 (fun y0 y1 y2 y3 y4 y5 y6 y7 y8 y9 y10 y11 y12 y13 => k (.exit 0) (mkSt smallJoined_S8e0 [D.str y0, D.ptr [D.sl (.ints .i32 y1), D.sl (.ints .i64 y2)], D.int .i64 y3, D.int .i64 y4, D.sl (.strs y5), D.con (.ints .i32 y6), D.int .i64 y7, D.bool y8, D.str y9, D.int .i64 y10, D.str y11, D.int .i64 y12, D.int .i64 y13]))
  | _ => none
noncomputable def smallJoined_Lam2 (R : Type) : Lam R := fun key st k => bif Nat.beq key 8 then (match readSt smallJoined_S8 st with | some ds => smallJoined_A8 R ds k | none => none) else smallJoined_Lam1 R key st k
theorem smallJoined_A8_ok {R : Type} : ∀ ds k r, smallJoined_A8 R ds k = some r → ∃ e st', k e st' = some r ∧ QA.Reach smallJoined_C (.loop smallJoined_body8) (mkSt smallJoined_S8 ds) e st' := by
  intro ds k r h
  unfold smallJoined_A8 at h
  split at h
  · rw [smallJoined_M8_eq, ← smallJoined_L8_eq] at h
    refine aloop_ok (C := smallJoined_C) qOk (smallJoined_Gok R) ?_ _ _ _ _ h
    rw [show loopsIn smallJoined_body8 = [smallJoined_body11] from by kernel_rfl]
    intro b hb
    simp only [List.mem_cons, List.not_mem_nil, or_false] at hb
    subst hb
    exact lam_of (key := 11) (S := smallJoined_S11) (L := smallJoined_A11 R) (fun st k => by kernel_rfl) (by kernel_rfl) smallJoined_A11_ok
  · cases h
noncomputable def smallJoined_T {R : Type} (s0 : Str) (l1 : List Int) (l2 : List Int) (x3 : Int) (x4 : Int) (k : Int → Int → Str → Int → Str → Bool → Int → Option R) : Option R :=
  MapRow_F l1 l2 x3 (fun x5 =>
  MapRows_F l1 l2 (fun x6 =>
   (bif (Decidable.decide (x4 > Go.IntKind.wrap Go.IntKind.i64 (Go.IntKind.wrap Go.IntKind.i64 (x6 - (1 : Int)) - x5))) then
    k ((0 : Int)) ((0 : Int)) [] ((0 : Int)) [] Bool.false ((6 : Int))
   else
    libSplit_F s0 ([(10 : UInt8)]) (fun q7 =>
     (bif (Decidable.decide ((0 : Int) ≤ x5) && Decidable.decide (x5 < (↑(List.length q7) : Int))) then
      (bif (Decidable.decide ((0 : Int) ≤ Go.IntKind.wrap Go.IntKind.i64 (Go.IntKind.wrap Go.IntKind.i64 (x5 + (1 : Int)) + x4)) && Decidable.decide (Go.IntKind.wrap Go.IntKind.i64 (Go.IntKind.wrap Go.IntKind.i64 (x5 + (1 : Int)) + x4) ≤ (↑(List.length q7) : Int))) then
       (bif (Decidable.decide ((0 : Int) ≤ Go.IntKind.wrap Go.IntKind.i64 (x5 + (1 : Int))) && Decidable.decide (Go.IntKind.wrap Go.IntKind.i64 (x5 + (1 : Int)) ≤ (↑(Int.toNat (Go.IntKind.wrap Go.IntKind.i64 (Go.IntKind.wrap Go.IntKind.i64 (x5 + (1 : Int)) + x4))) : Int))) then
        smallJoined_M8 s0 l1 l2 x4 x5 q7 (Go.QA.runesOf (List.getD q7 (Int.toNat x5) [])) ((0 : Int)) (List.drop (Int.toNat (Go.IntKind.wrap Go.IntKind.i64 (x5 + (1 : Int)))) (List.take (Int.toNat (Go.IntKind.wrap Go.IntKind.i64 (Go.IntKind.wrap Go.IntKind.i64 (x5 + (1 : Int)) + x4))) q7)) ((↑(List.length (List.drop (Int.toNat (Go.IntKind.wrap Go.IntKind.i64 (x5 + (1 : Int)))) (List.take (Int.toNat (Go.IntKind.wrap Go.IntKind.i64 (Go.IntKind.wrap Go.IntKind.i64 (x5 + (1 : Int)) + x4))) q7))) : Int)) ((0 : Int)) Bool.false [] ((0 : Int)) [] ((0 : Int)) ((0 : Int))
         (fun s61 l62 l63 x64 x65 q66 l67 x68 b69 s70 x71 s72 x73 x74 =>
         (bif (Decidable.decide ((0 : Int) ≤ x65) && Decidable.decide (x65 ≤ (↑(List.length q66) : Int))) then
          (bif (Decidable.decide ((0 : Int) ≤ Go.IntKind.wrap Go.IntKind.i64 (Go.IntKind.wrap Go.IntKind.i64 (x65 + (1 : Int)) + x64)) && Decidable.decide (Go.IntKind.wrap Go.IntKind.i64 (Go.IntKind.wrap Go.IntKind.i64 (x65 + (1 : Int)) + x64) ≤ (↑(List.length q66) : Int))) then
           slicesConcat_F (List.drop (0 : Nat) (List.take (Int.toNat x65) q66)) ([Go.QA.strOf l67]) (List.drop (Int.toNat (Go.IntKind.wrap Go.IntKind.i64 (Go.IntKind.wrap Go.IntKind.i64 (x65 + (1 : Int)) + x64))) (List.take (List.length q66) q66)) (fun q75 =>
            libJoin_F q75 ([(10 : UInt8)]) (fun s76 =>
             textOf_F s76 (fun l77 l78 =>
              (bif (Decidable.decide ((0 : Int) ≤ x65) && Decidable.decide (x65 < (↑(List.length l63) : Int))) then
               MapRest_F l77 l78 (Go.IntKind.wrap Go.IntKind.i64 (List.getD l63 (Int.toNat x65) (0 : Int) + x68)) (fun x79 =>
                changeMade_F s61 s76 x79 (fun x80 x81 s82 x83 s84 b85 x86 =>
                 k x80 x81 s82 x83 s84 b85 x86))
              else
               none))))
          else
           none)
         else
          none))
       else
        none)
      else
       none)
     else
      none)))))
noncomputable def smallJoined_F {R : Type} : Str → List Int → List Int → Int → Int → (Int → Int → Str → Int → Str → Bool → Int → Option R) → Option R := lock smallJoined_T
theorem smallJoined_F_T {R : Type} : @smallJoined_F R = smallJoined_T := lock_eq _
theorem smallJoined_F_eq {R : Type} (s0 : Str) (l1 : List Int) (l2 : List Int) (x3 : Int) (x4 : Int) (k : D → Option R) : afun qP [35, 70, 72] (smallJoined_G R) (smallJoined_Lam2 R) Tryd.f76 [D.str s0, D.ptr [D.sl (.ints .i32 l1), D.sl (.ints .i64 l2)], D.int .i64 x3, D.int .i64 x4] k = smallJoined_T s0 l1 l2 x3 x4 (fun y0 y1 y2 y3 y4 y5 y6 => k (D.tup [D.agg [D.int .i64 y0, D.int .i64 y1, D.str y2, D.int .i64 y3, D.str y4, D.bool y5], D.int .i64 y6])) := by kernel_rfl
noncomputable def smallJoined_abs (R : Type) (ds : List D) (k : D → Option R) : Option R :=
  match ds with
  | [D.str s0, D.ptr [D.sl (.ints .i32 l1), D.sl (.ints .i64 l2)], D.int .i64 x3, D.int .i64 x4] => smallJoined_F s0 l1 l2 x3 x4 (fun y0 y1 y2 y3 y4 y5 y6 => k (D.tup [D.agg [D.int .i64 y0, D.int .i64 y1, D.str y2, D.int .i64 y3, D.str y4, D.bool y5], D.int .i64 y6]))
  | _ => none
theorem smallJoined_ok : FnOk qP 76 smallJoined_abs := by
  intro R ds k r h
  unfold smallJoined_abs at h
  split at h
  · rw [smallJoined_F_T, ← smallJoined_F_eq] at h
    refine afun_ok (P := qP) (c := smallJoined_code) qOk (smallJoined_Gok R) Tryd.func76 (by kernel_rfl) (by kernel_rfl) ?_ ?_ (by kernel_rfl) h
    rotate_left
    · exact Nat.le_of_ble_eq_true (by kernel_rfl)
    rw [show loopsIn smallJoined_code = [smallJoined_body8] from by kernel_rfl]
    intro b hb
    simp only [List.mem_cons, List.not_mem_nil, or_false] at hb
    subst hb
    exact lam_of (key := 8) (S := smallJoined_S8) (L := smallJoined_A8 R) (fun st k => by kernel_rfl) (by kernel_rfl) smallJoined_A8_ok
  · cases h

/-! ### smallTurn: function 75 -/

noncomputable def smallTurn_C : Cfg := ⟨qP, Tryd.f75.ntmps, [20]⟩
noncomputable def smallTurn_code : Code := Tryd.f75.body.getD .skip
noncomputable def smallTurn_G (R : Type) : Orc R := fun f args k => bif Nat.beq f 100 then libClone_abs R args k else (fun f args k => bif Nat.beq f 97 then changeTurned_abs R args k else (fun f args k => bif Nat.beq f 82 then MapRest_abs R args k else (fun f args k => bif Nat.beq f 65 then changeMade_abs R args k else (fun _ _ _ => none) f args k) f args k) f args k) f args k
theorem smallTurn_Gok (R : Type) : OrcOk qP (smallTurn_G R) := (orc_cons libClone_ok (orc_cons changeTurned_ok (orc_cons MapRest_ok (orc_cons changeMade_ok orc_nil))))
noncomputable def smallTurn_B5 {R : Type} (rec : Str → List Int → List Int → Int → List Int → Int → Bool → Str → Int → Str → Int → Int → Option R) (s6 : Str) (l7 : List Int) (l8 : List Int) (x9 : Int) (l10 : List Int) (x11 : Int) (b12 : Bool) (s13 : Str) (x14 : Int) (s15 : Str) (x16 : Int) (x17 : Int) (ke0 : Str → List Int → List Int → Int → List Int → Bool → Str → Int → Str → Int → Int → Option R) : Option R :=
  (bif (Decidable.decide (x11 < x9)) then
  (bif (Decidable.decide ((0 : Int) ≤ x11) && Decidable.decide (x11 < (↑(List.length l10) : Int))) then
   changeTurned_F (List.getD l10 (Int.toNat x11) (0 : Int)) ((126 : Int)) (fun x18 =>
    (bif (Decidable.decide ((0 : Int) ≤ x11) && Decidable.decide (x11 < (↑(List.length l10) : Int))) then
     rec s6 l7 l8 x9 (List.set l10 (Int.toNat x11) x18) (Go.IntKind.wrap Go.IntKind.i64 (x11 + (1 : Int))) b12 s13 x14 s15 x16 x17
    else
     none))
  else
   none)
 else
  ke0 s6 l7 l8 x9 l10 b12 s13 x14 s15 x16 x17)
noncomputable def smallTurn_L5 {R : Type} : Nat → Str → List Int → List Int → Int → List Int → Int → Bool → Str → Int → Str → Int → Int → (Str → List Int → List Int → Int → List Int → Bool → Str → Int → Str → Int → Int → Option R) → Option R
  | 0, _, _, _, _, _, _, _, _, _, _, _, _, _ => none
  | n + 1, s6, l7, l8, x9, l10, x11, b12, s13, x14, s15, x16, x17, ke0 => smallTurn_B5 (fun s6 l7 l8 x9 l10 x11 b12 s13 x14 s15 x16 x17 => smallTurn_L5 n s6 l7 l8 x9 l10 x11 b12 s13 x14 s15 x16 x17 ke0) s6 l7 l8 x9 l10 x11 b12 s13 x14 s15 x16 x17 ke0
noncomputable def smallTurn_M5 {R : Type} : Str → List Int → List Int → Int → List Int → Int → Bool → Str → Int → Str → Int → Int → (Str → List Int → List Int → Int → List Int → Bool → Str → Int → Str → Int → Int → Option R) → Option R := lock (smallTurn_L5 4611686018427387904)
theorem smallTurn_M5_eq {R : Type} : @smallTurn_M5 R = smallTurn_L5 4611686018427387904 := lock_eq _
noncomputable def smallTurn_Lam0 (R : Type) : Lam R := fun _ _ _ => none
noncomputable def smallTurn_body5 : Code := (findLoop 5 smallTurn_code).getD .skip
def smallTurn_S5 : QA.Spec := (⟨[.t 0, .t 1, .t 3, .t 10, .t 11, .c 8 5, .c 8 4, .c 8 3, .c 8 2, .c 8 1, .c 8 0], [8], [], [(.t 8, 8, 0)], []⟩ : QA.Spec)
def smallTurn_S5e0 : QA.Spec := (⟨[.t 0, .t 1, .t 3, .t 10, .c 8 5, .c 8 4, .c 8 3, .c 8 2, .c 8 1, .c 8 0], [8], [], [(.t 8, 8, 0)], []⟩ : QA.Spec)
def smallTurn_X5 : AExit → Option QA.Spec
  | .normal => none
  | .exit j => bif Nat.beq j 0 then some smallTurn_S5e0 else none
  | .ret => none
theorem smallTurn_L5_eq {R : Type} (k : AExit → St → Option R) : ∀ (n : Nat) (a0 : Str) (a1 : List Int) (a2 : List Int) (a3 : Int) (a4 : List Int) (a5 : Int) (a6 : Bool) (a7 : Str) (a8 : Int) (a9 : Str) (a10 : Int) (a11 : Int), aloop smallTurn_C (smallTurn_G R) (smallTurn_Lam0 R) smallTurn_S5 smallTurn_X5 smallTurn_body5 n [D.str a0, D.ptr [D.sl (.ints .i32 a1), D.sl (.ints .i64 a2)], D.int .i64 a3, D.con (.ints .i32 a4), D.int .i64 a5, D.bool a6, D.str a7, D.int .i64 a8, D.str a9, D.int .i64 a10, D.int .i64 a11] k = smallTurn_L5 n a0 a1 a2 a3 a4 a5 a6 a7 a8 a9 a10 a11 (fun y0 y1 y2 y3 y4 y5 y6 y7 y8 y9 y10 => k (.exit 0) (mkSt smallTurn_S5e0 [D.str y0, D.ptr [D.sl (.ints .i32 y1), D.sl (.ints .i64 y2)], D.int .i64 y3, D.con (.ints .i32 y4), D.bool y5, D.str y6, D.int .i64 y7, D.str y8, D.int .i64 y9, D.int .i64 y10]))
  | 0, _, _, _, _, _, _, _, _, _, _, _, _ => rfl
  | n + 1, a0, a1, a2, a3, a4, a5, a6, a7, a8, a9, a10, a11 => by
    have h : (fun a0 a1 a2 a3 a4 a5 a6 a7 a8 a9 a10 a11 => aloop smallTurn_C (smallTurn_G R) (smallTurn_Lam0 R) smallTurn_S5 smallTurn_X5 smallTurn_body5 n [D.str a0, D.ptr [D.sl (.ints .i32 a1), D.sl (.ints .i64 a2)], D.int .i64 a3, D.con (.ints .i32 a4), D.int .i64 a5, D.bool a6, D.str a7, D.int .i64 a8, D.str a9, D.int .i64 a10, D.int .i64 a11] k) = (fun a0 a1 a2 a3 a4 a5 a6 a7 a8 a9 a10 a11 => smallTurn_L5 n a0 a1 a2 a3 a4 a5 a6 a7 a8 a9 a10 a11 (fun y0 y1 y2 y3 y4 y5 y6 y7 y8 y9 y10 => k (.exit 0) (mkSt smallTurn_S5e0 [D.str y0, D.ptr [D.sl (.ints .i32 y1), D.sl (.ints .i64 y2)], D.int .i64 y3, D.con (.ints .i32 y4), D.bool y5, D.str y6, D.int .i64 y7, D.str y8, D.int .i64 y9, D.int .i64 y10]))) := by
      funext a0 a1 a2 a3 a4 a5 a6 a7 a8 a9 a10 a11; exact smallTurn_L5_eq k n a0 a1 a2 a3 a4 a5 a6 a7 a8 a9 a10 a11
    have s : aloop smallTurn_C (smallTurn_G R) (smallTurn_Lam0 R) smallTurn_S5 smallTurn_X5 smallTurn_body5 (n + 1) [D.str a0, D.ptr [D.sl (.ints .i32 a1), D.sl (.ints .i64 a2)], D.int .i64 a3, D.con (.ints .i32 a4), D.int .i64 a5, D.bool a6, D.str a7, D.int .i64 a8, D.str a9, D.int .i64 a10, D.int .i64 a11] k = smallTurn_B5 (fun a0 a1 a2 a3 a4 a5 a6 a7 a8 a9 a10 a11 => aloop smallTurn_C (smallTurn_G R) (smallTurn_Lam0 R) smallTurn_S5 smallTurn_X5 smallTurn_body5 n [D.str a0, D.ptr [D.sl (.ints .i32 a1), D.sl (.ints .i64 a2)], D.int .i64 a3, D.con (.ints .i32 a4), D.int .i64 a5, D.bool a6, D.str a7, D.int .i64 a8, D.str a9, D.int .i64 a10, D.int .i64 a11] k) a0 a1 a2 a3 a4 a5 a6 a7 a8 a9 a10 a11 (fun y0 y1 y2 y3 y4 y5 y6 y7 y8 y9 y10 => k (.exit 0) (mkSt smallTurn_S5e0 [D.str y0, D.ptr [D.sl (.ints .i32 y1), D.sl (.ints .i64 y2)], D.int .i64 y3, D.con (.ints .i32 y4), D.bool y5, D.str y6, D.int .i64 y7, D.str y8, D.int .i64 y9, D.int .i64 y10])) := by kernel_rfl
    rw [s, h]; rfl
noncomputable def smallTurn_A5 (R : Type) (ds : List D) (k : AExit → St → Option R) : Option R :=
  match ds with
  | [D.str a0, D.ptr [D.sl (.ints .i32 a1), D.sl (.ints .i64 a2)], D.int .i64 a3, D.con (.ints .i32 a4), D.int .i64 a5, D.bool a6, D.str a7, D.int .i64 a8, D.str a9, D.int .i64 a10, D.int .i64 a11] => smallTurn_M5 a0 a1 a2 a3 a4 a5 a6 a7 a8 a9 a10 a11 (fun y0 y1 y2 y3 y4 y5 y6 y7 y8 y9 y10 => k (.exit 0) (mkSt smallTurn_S5e0 [D.str y0, D.ptr [D.sl (.ints .i32 y1), D.sl (.ints .i64 y2)], D.int .i64 y3, D.con (.ints .i32 y4), D.bool y5, D.str y6, D.int .i64 y7, D.str y8, D.int .i64 y9, D.int .i64 y10]))
  | _ => none
noncomputable def smallTurn_Lam1 (R : Type) : Lam R := fun key st k => bif Nat.beq key 5 then (match readSt smallTurn_S5 st with | some ds => smallTurn_A5 R ds k | none => none) else smallTurn_Lam0 R key st k
theorem smallTurn_A5_ok {R : Type} : ∀ ds k r, smallTurn_A5 R ds k = some r → ∃ e st', k e st' = some r ∧ QA.Reach smallTurn_C (.loop smallTurn_body5) (mkSt smallTurn_S5 ds) e st' := by
  intro ds k r h
  unfold smallTurn_A5 at h
  split at h
  · rw [smallTurn_M5_eq, ← smallTurn_L5_eq] at h
    refine aloop_ok (C := smallTurn_C) qOk (smallTurn_Gok R) ?_ _ _ _ _ h
    rw [show loopsIn smallTurn_body5 = [] from by kernel_rfl]
    intro b hb
    cases hb
  · cases h
noncomputable def smallTurn_T {R : Type} (s0 : Str) (l1 : List Int) (l2 : List Int) (x3 : Int) (x4 : Int) (k : Int → Int → Str → Int → Str → Bool → Int → Option R) : Option R :=
  (bif (x3 == x4) then
  k ((0 : Int)) ((0 : Int)) [] ((0 : Int)) [] Bool.false ((6 : Int))
 else
  libClone_F l1 (fun l5 =>
   smallTurn_M5 s0 l1 l2 x4 l5 x3 Bool.false [] ((0 : Int)) [] ((0 : Int)) ((0 : Int))
    (fun s19 l20 l21 x22 l23 b24 s25 x26 s27 x28 x29 =>
    MapRest_F l20 l21 x22 (fun x30 =>
     changeMade_F s19 (Go.QA.strOf l23) x30 (fun x31 x32 s33 x34 s35 b36 x37 =>
      k x31 x32 s33 x34 s35 b36 x37)))))
noncomputable def smallTurn_F {R : Type} : Str → List Int → List Int → Int → Int → (Int → Int → Str → Int → Str → Bool → Int → Option R) → Option R := lock smallTurn_T
theorem smallTurn_F_T {R : Type} : @smallTurn_F R = smallTurn_T := lock_eq _
theorem smallTurn_F_eq {R : Type} (s0 : Str) (l1 : List Int) (l2 : List Int) (x3 : Int) (x4 : Int) (k : D → Option R) : afun qP [20] (smallTurn_G R) (smallTurn_Lam1 R) Tryd.f75 [D.str s0, D.ptr [D.sl (.ints .i32 l1), D.sl (.ints .i64 l2)], D.int .i64 x3, D.int .i64 x4] k = smallTurn_T s0 l1 l2 x3 x4 (fun y0 y1 y2 y3 y4 y5 y6 => k (D.tup [D.agg [D.int .i64 y0, D.int .i64 y1, D.str y2, D.int .i64 y3, D.str y4, D.bool y5], D.int .i64 y6])) := by kernel_rfl
noncomputable def smallTurn_abs (R : Type) (ds : List D) (k : D → Option R) : Option R :=
  match ds with
  | [D.str s0, D.ptr [D.sl (.ints .i32 l1), D.sl (.ints .i64 l2)], D.int .i64 x3, D.int .i64 x4] => smallTurn_F s0 l1 l2 x3 x4 (fun y0 y1 y2 y3 y4 y5 y6 => k (D.tup [D.agg [D.int .i64 y0, D.int .i64 y1, D.str y2, D.int .i64 y3, D.str y4, D.bool y5], D.int .i64 y6]))
  | _ => none
theorem smallTurn_ok : FnOk qP 75 smallTurn_abs := by
  intro R ds k r h
  unfold smallTurn_abs at h
  split at h
  · rw [smallTurn_F_T, ← smallTurn_F_eq] at h
    refine afun_ok (P := qP) (c := smallTurn_code) qOk (smallTurn_Gok R) Tryd.func75 (by kernel_rfl) (by kernel_rfl) ?_ ?_ (by kernel_rfl) h
    rotate_left
    · exact Nat.le_of_ble_eq_true (by kernel_rfl)
    rw [show loopsIn smallTurn_code = [smallTurn_body5] from by kernel_rfl]
    intro b hb
    simp only [List.mem_cons, List.not_mem_nil, or_false] at hb
    subst hb
    exact lam_of (key := 5) (S := smallTurn_S5) (L := smallTurn_A5 R) (fun st k => by kernel_rfl) (by kernel_rfl) smallTurn_A5_ok
  · cases h

/-! ### changeOf: function 34 -/

noncomputable def changeOf_C : Cfg := ⟨qP, Tryd.f34.ntmps, []⟩
noncomputable def changeOf_code : Code := Tryd.f34.body.getD .skip
noncomputable def changeOf_G (R : Type) : Orc R := fun f args k => bif Nat.beq f 51 then textMay_abs R args k else (fun f args k => bif Nat.beq f 60 then changeIs_abs R args k else (fun f args k => bif Nat.beq f 52 then textOf_abs R args k else (fun f args k => bif Nat.beq f 61 then changeMay_abs R args k else (fun f args k => bif Nat.beq f 53 then MapIs_abs R args k else (fun f args k => bif Nat.beq f 62 then MapCut_abs R args k else (fun f args k => bif Nat.beq f 63 then changeStands_abs R args k else (fun f args k => bif Nat.beq f 64 then changeTaken_abs R args k else (fun f args k => bif Nat.beq f 65 then changeMade_abs R args k else (fun f args k => bif Nat.beq f 66 then changeRows_abs R args k else (fun f args k => bif Nat.beq f 67 then changeTurned1_abs R args k else (fun _ _ _ => none) f args k) f args k) f args k) f args k) f args k) f args k) f args k) f args k) f args k) f args k) f args k
theorem changeOf_Gok (R : Type) : OrcOk qP (changeOf_G R) := (orc_cons textMay_ok (orc_cons changeIs_ok (orc_cons textOf_ok (orc_cons changeMay_ok (orc_cons MapIs_ok (orc_cons MapCut_ok (orc_cons changeStands_ok (orc_cons changeTaken_ok (orc_cons changeMade_ok (orc_cons changeRows_ok (orc_cons changeTurned1_ok orc_nil)))))))))))
noncomputable def changeOf_Lam0 (R : Type) : Lam R := fun _ _ _ => none
noncomputable def changeOf_T {R : Type} (s0 : Str) (x1 : Int) (x2 : Int) (b3 : Bool) (x4 : Int) (x5 : Int) (k : Int → Int → Str → Int → Str → Bool → Int → Option R) : Option R :=
  textMay_F s0 (fun b6 =>
  (bif !b6 then
   k ((0 : Int)) ((0 : Int)) [] ((0 : Int)) [] Bool.false ((1 : Int))
  else
   changeIs_F x4 (fun b7 =>
    (bif !b7 then
     k ((0 : Int)) ((0 : Int)) [] ((0 : Int)) [] Bool.false ((1 : Int))
    else
     textOf_F s0 (fun l8 l9 =>
      changeMay_F l8 l9 x1 x2 b3 (fun b10 =>
       (bif !b10 then
        k ((0 : Int)) ((0 : Int)) [] ((0 : Int)) [] Bool.false ((1 : Int))
       else
        MapIs_F l8 l9 x5 (fun b11 =>
         (bif !b11 then
          k ((0 : Int)) ((0 : Int)) [] ((0 : Int)) [] Bool.false ((1 : Int))
         else
          MapCut_F l8 l9 x1 x2 (fun s12 =>
           (bif (x4 == (121 : Int)) then
            changeStands_F l8 l9 x1 x2 b3 x5 (fun x13 =>
             k ((0 : Int)) ((0 : Int)) [] x13 s12 b3 ((0 : Int)))
           else
            (bif (x4 == (100 : Int)) then
             changeTaken_F s0 l8 l9 x1 x2 b3 (fun x14 x15 s16 x17 s18 b19 x20 =>
              (bif (x20 == (0 : Int)) then
               k x14 x15 s16 x17 s12 b3 x20
              else
               k x14 x15 s16 x17 s18 b19 x20))
            else
             (bif (x4 == (99 : Int)) then
              (bif (Decidable.decide ((0 : Int) ≤ x1) && Decidable.decide (x1 ≤ (↑(List.length l8) : Int))) then
               (bif (Decidable.decide ((0 : Int) ≤ x2) && Decidable.decide (x2 ≤ (↑(List.length l8) : Int))) then
                (bif (Decidable.decide (List.length (Go.QA.strOf (List.drop (0 : Nat) (List.take (Int.toNat x1) l8))) + List.length (Go.QA.strOf (List.drop (Int.toNat x2) (List.take (List.length l8) l8))) ≤ (9223372036854775807 : Nat))) then
                 changeMade_F s0 (Go.QA.strOf (List.drop (0 : Nat) (List.take (Int.toNat x1) l8)) ++ Go.QA.strOf (List.drop (Int.toNat x2) (List.take (List.length l8) l8))) x1 (fun x21 x22 s23 x24 s25 b26 x27 =>
                  (bif (x27 == (0 : Int)) then
                   k x21 x22 s23 x24 s12 b3 x27
                  else
                   k x21 x22 s23 x24 s25 b26 x27))
                else
                 none)
               else
                none)
              else
               none)
             else
              (bif (x4 == (62 : Int)) then
               changeRows_F s0 l8 l9 x1 x2 b3 x4 (fun x28 x29 s30 x31 s32 b33 x34 =>
                k x28 x29 s30 x31 s32 b33 x34)
              else
               (bif (x4 == (60 : Int)) then
                changeRows_F s0 l8 l9 x1 x2 b3 x4 (fun x35 x36 s37 x38 s39 b40 x41 =>
                 k x35 x36 s37 x38 s39 b40 x41)
               else
                changeTurned1_F s0 l8 l9 x1 x2 b3 (Go.IntKind.wrap Go.IntKind.i64 (x4 - (16777216 : Int))) x5 (fun x42 x43 s44 x45 s46 b47 x48 =>
                 k x42 x43 s44 x45 s46 b47 x48))))))))))))))))
noncomputable def changeOf_F {R : Type} : Str → Int → Int → Bool → Int → Int → (Int → Int → Str → Int → Str → Bool → Int → Option R) → Option R := lock changeOf_T
theorem changeOf_F_T {R : Type} : @changeOf_F R = changeOf_T := lock_eq _
theorem changeOf_F_eq {R : Type} (s0 : Str) (x1 : Int) (x2 : Int) (b3 : Bool) (x4 : Int) (x5 : Int) (k : D → Option R) : afun qP [] (changeOf_G R) (changeOf_Lam0 R) Tryd.f34 [D.str s0, D.agg [D.int .i64 x1, D.int .i64 x2, D.bool b3], D.int .i64 x4, D.int .i64 x5] k = changeOf_T s0 x1 x2 b3 x4 x5 (fun y0 y1 y2 y3 y4 y5 y6 => k (D.tup [D.agg [D.int .i64 y0, D.int .i64 y1, D.str y2, D.int .i64 y3, D.str y4, D.bool y5], D.int .i64 y6])) := by kernel_rfl
noncomputable def changeOf_abs (R : Type) (ds : List D) (k : D → Option R) : Option R :=
  match ds with
  | [D.str s0, D.agg [D.int .i64 x1, D.int .i64 x2, D.bool b3], D.int .i64 x4, D.int .i64 x5] => changeOf_F s0 x1 x2 b3 x4 x5 (fun y0 y1 y2 y3 y4 y5 y6 => k (D.tup [D.agg [D.int .i64 y0, D.int .i64 y1, D.str y2, D.int .i64 y3, D.str y4, D.bool y5], D.int .i64 y6]))
  | _ => none
theorem changeOf_ok : FnOk qP 34 changeOf_abs := by
  intro R ds k r h
  unfold changeOf_abs at h
  split at h
  · rw [changeOf_F_T, ← changeOf_F_eq] at h
    refine afun_ok (P := qP) (c := changeOf_code) qOk (changeOf_Gok R) Tryd.func34 (by kernel_rfl) (by kernel_rfl) ?_ ?_ (by kernel_rfl) h
    rotate_left
    · exact Nat.le_of_ble_eq_true (by kernel_rfl)
    rw [show loopsIn changeOf_code = [] from by kernel_rfl]
    intro b hb
    cases hb
  · cases h

/-! ### refChange: function 58 -/

noncomputable def refChange_C : Cfg := ⟨qP, Tryd.f58.ntmps, [91]⟩
noncomputable def refChange_code : Code := Tryd.f58.body.getD .skip
noncomputable def refChange_G (R : Type) : Orc R := fun f args k => bif Nat.beq f 47 then refRest_abs R args k else (fun f args k => bif Nat.beq f 87 then refColumn_abs R args k else (fun f args k => bif Nat.beq f 88 then refDeleted_abs R args k else (fun f args k => bif Nat.beq f 48 then made18_abs R args k else (fun f args k => bif Nat.beq f 89 then refShifted_abs R args k else (fun f args k => bif Nat.beq f 49 then Turned18_abs R args k else (fun _ _ _ => none) f args k) f args k) f args k) f args k) f args k) f args k
theorem refChange_Gok (R : Type) : OrcOk qP (refChange_G R) := (orc_cons refRest_ok (orc_cons refColumn_ok (orc_cons refDeleted_ok (orc_cons made18_ok (orc_cons refShifted_ok (orc_cons Turned18_ok orc_nil))))))
noncomputable def refChange_B20 {R : Type} (rec : Str → Int → Int → List Int → Int → Bool → Int → Int → Bool → Str → Int → Str → Int → Int → Option R) (s36 : Str) (x37 : Int) (x38 : Int) (l39 : List Int) (x40 : Int) (b41 : Bool) (x42 : Int) (x43 : Int) (b44 : Bool) (s45 : Str) (x46 : Int) (s47 : Str) (x48 : Int) (x49 : Int) (ke0 : Str → Int → List Int → Bool → Str → Int → Str → Int → Int → Option R) : Option R :=
  (bif (Decidable.decide (x40 < x42)) then
  (bif (Decidable.decide ((0 : Int) ≤ x40) && Decidable.decide (x40 < (↑(List.length l39) : Int))) then
   Turned18_F (List.getD l39 (Int.toNat x40) (0 : Int)) (Go.IntKind.wrap Go.IntKind.i64 (x37 - (16777216 : Int))) (fun x50 =>
    (bif (Decidable.decide ((0 : Int) ≤ x40) && Decidable.decide (x40 < (↑(List.length l39) : Int))) then
     rec s36 x37 x38 (List.set l39 (Int.toNat x40) x50) (Go.IntKind.wrap Go.IntKind.i64 (x40 + (1 : Int))) b41 x42 x43 b44 s45 x46 s47 x48 x49
    else
     none))
  else
   none)
 else
  ke0 s36 x38 l39 b44 s45 x46 s47 x48 x49)
noncomputable def refChange_L20 {R : Type} : Nat → Str → Int → Int → List Int → Int → Bool → Int → Int → Bool → Str → Int → Str → Int → Int → (Str → Int → List Int → Bool → Str → Int → Str → Int → Int → Option R) → Option R
  | 0, _, _, _, _, _, _, _, _, _, _, _, _, _, _, _ => none
  | n + 1, s36, x37, x38, l39, x40, b41, x42, x43, b44, s45, x46, s47, x48, x49, ke0 => refChange_B20 (fun s36 x37 x38 l39 x40 b41 x42 x43 b44 s45 x46 s47 x48 x49 => refChange_L20 n s36 x37 x38 l39 x40 b41 x42 x43 b44 s45 x46 s47 x48 x49 ke0) s36 x37 x38 l39 x40 b41 x42 x43 b44 s45 x46 s47 x48 x49 ke0
noncomputable def refChange_M20 {R : Type} : Str → Int → Int → List Int → Int → Bool → Int → Int → Bool → Str → Int → Str → Int → Int → (Str → Int → List Int → Bool → Str → Int → Str → Int → Int → Option R) → Option R := lock (refChange_L20 4611686018427387904)
theorem refChange_M20_eq {R : Type} : @refChange_M20 R = refChange_L20 4611686018427387904 := lock_eq _
noncomputable def refChange_Lam0 (R : Type) : Lam R := fun _ _ _ => none
noncomputable def refChange_body20 : Code := (findLoop 20 refChange_code).getD .skip
def refChange_S20 : QA.Spec := (⟨[.t 0, .t 2, .t 12, .t 15, .t 16, .c 5 2, .c 5 1, .c 5 0, .c 8 5, .c 8 4, .c 8 3, .c 8 2, .c 8 1, .c 8 0], [5, 8], [], [(.t 5, 5, 0), (.t 8, 8, 0)], []⟩ : QA.Spec)
def refChange_S20e1 : QA.Spec := (⟨[.t 0, .t 12, .t 15, .c 8 5, .c 8 4, .c 8 3, .c 8 2, .c 8 1, .c 8 0], [8], [], [(.t 8, 8, 0)], []⟩ : QA.Spec)
def refChange_X20 : AExit → Option QA.Spec
  | .normal => none
  | .exit j => bif Nat.beq j 1 then some refChange_S20e1 else none
  | .ret => none
theorem refChange_L20_eq {R : Type} (k : AExit → St → Option R) : ∀ (n : Nat) (a0 : Str) (a1 : Int) (a2 : Int) (a3 : List Int) (a4 : Int) (a5 : Bool) (a6 : Int) (a7 : Int) (a8 : Bool) (a9 : Str) (a10 : Int) (a11 : Str) (a12 : Int) (a13 : Int), aloop refChange_C (refChange_G R) (refChange_Lam0 R) refChange_S20 refChange_X20 refChange_body20 n [D.str a0, D.int .i64 a1, D.int .i64 a2, D.con (.ints .i32 a3), D.int .i64 a4, D.bool a5, D.int .i64 a6, D.int .i64 a7, D.bool a8, D.str a9, D.int .i64 a10, D.str a11, D.int .i64 a12, D.int .i64 a13] k = refChange_L20 n a0 a1 a2 a3 a4 a5 a6 a7 a8 a9 a10 a11 a12 a13 (fun y0 y1 y2 y3 y4 y5 y6 y7 y8 => k (.exit 1) (mkSt refChange_S20e1 [D.str y0, D.int .i64 y1, D.con (.ints .i32 y2), D.bool y3, D.str y4, D.int .i64 y5, D.str y6, D.int .i64 y7, D.int .i64 y8]))
  | 0, _, _, _, _, _, _, _, _, _, _, _, _, _, _ => rfl
  | n + 1, a0, a1, a2, a3, a4, a5, a6, a7, a8, a9, a10, a11, a12, a13 => by
    have h : (fun a0 a1 a2 a3 a4 a5 a6 a7 a8 a9 a10 a11 a12 a13 => aloop refChange_C (refChange_G R) (refChange_Lam0 R) refChange_S20 refChange_X20 refChange_body20 n [D.str a0, D.int .i64 a1, D.int .i64 a2, D.con (.ints .i32 a3), D.int .i64 a4, D.bool a5, D.int .i64 a6, D.int .i64 a7, D.bool a8, D.str a9, D.int .i64 a10, D.str a11, D.int .i64 a12, D.int .i64 a13] k) = (fun a0 a1 a2 a3 a4 a5 a6 a7 a8 a9 a10 a11 a12 a13 => refChange_L20 n a0 a1 a2 a3 a4 a5 a6 a7 a8 a9 a10 a11 a12 a13 (fun y0 y1 y2 y3 y4 y5 y6 y7 y8 => k (.exit 1) (mkSt refChange_S20e1 [D.str y0, D.int .i64 y1, D.con (.ints .i32 y2), D.bool y3, D.str y4, D.int .i64 y5, D.str y6, D.int .i64 y7, D.int .i64 y8]))) := by
      funext a0 a1 a2 a3 a4 a5 a6 a7 a8 a9 a10 a11 a12 a13; exact refChange_L20_eq k n a0 a1 a2 a3 a4 a5 a6 a7 a8 a9 a10 a11 a12 a13
    have s : aloop refChange_C (refChange_G R) (refChange_Lam0 R) refChange_S20 refChange_X20 refChange_body20 (n + 1) [D.str a0, D.int .i64 a1, D.int .i64 a2, D.con (.ints .i32 a3), D.int .i64 a4, D.bool a5, D.int .i64 a6, D.int .i64 a7, D.bool a8, D.str a9, D.int .i64 a10, D.str a11, D.int .i64 a12, D.int .i64 a13] k = refChange_B20 (fun a0 a1 a2 a3 a4 a5 a6 a7 a8 a9 a10 a11 a12 a13 => aloop refChange_C (refChange_G R) (refChange_Lam0 R) refChange_S20 refChange_X20 refChange_body20 n [D.str a0, D.int .i64 a1, D.int .i64 a2, D.con (.ints .i32 a3), D.int .i64 a4, D.bool a5, D.int .i64 a6, D.int .i64 a7, D.bool a8, D.str a9, D.int .i64 a10, D.str a11, D.int .i64 a12, D.int .i64 a13] k) a0 a1 a2 a3 a4 a5 a6 a7 a8 a9 a10 a11 a12 a13 (fun y0 y1 y2 y3 y4 y5 y6 y7 y8 => k (.exit 1) (mkSt refChange_S20e1 [D.str y0, D.int .i64 y1, D.con (.ints .i32 y2), D.bool y3, D.str y4, D.int .i64 y5, D.str y6, D.int .i64 y7, D.int .i64 y8])) := by kernel_rfl
    rw [s, h]; rfl
noncomputable def refChange_A20 (R : Type) (ds : List D) (k : AExit → St → Option R) : Option R :=
  match ds with
  | [D.str a0, D.int .i64 a1, D.int .i64 a2, D.con (.ints .i32 a3), D.int .i64 a4, D.bool a5, D.int .i64 a6, D.int .i64 a7, D.bool a8, D.str a9, D.int .i64 a10, D.str a11, D.int .i64 a12, D.int .i64 a13] => refChange_M20 a0 a1 a2 a3 a4 a5 a6 a7 a8 a9 a10 a11 a12 a13 (fun y0 y1 y2 y3 y4 y5 y6 y7 y8 => k (.exit 1) (mkSt refChange_S20e1 [D.str y0, D.int .i64 y1, D.con (.ints .i32 y2), D.bool y3, D.str y4, D.int .i64 y5, D.str y6, D.int .i64 y7, D.int .i64 y8]))
  | _ => none
noncomputable def refChange_Lam1 (R : Type) : Lam R := fun key st k => bif Nat.beq key 20 then (match readSt refChange_S20 st with | some ds => refChange_A20 R ds k | none => none) else refChange_Lam0 R key st k
theorem refChange_A20_ok {R : Type} : ∀ ds k r, refChange_A20 R ds k = some r → ∃ e st', k e st' = some r ∧ QA.Reach refChange_C (.loop refChange_body20) (mkSt refChange_S20 ds) e st' := by
  intro ds k r h
  unfold refChange_A20 at h
  split at h
  · rw [refChange_M20_eq, ← refChange_L20_eq] at h
    refine aloop_ok (C := refChange_C) qOk (refChange_Gok R) ?_ _ _ _ _ h
    rw [show loopsIn refChange_body20 = [] from by kernel_rfl]
    intro b hb
    cases hb
  · cases h
noncomputable def refChange_T {R : Type} (s0 : Str) (x1 : Int) (x2 : Int) (b3 : Bool) (x4 : Int) (x5 : Int) (k : Int → Int → Str → Int → Str → Bool → Int → Option R) : Option R :=
  (bif (Decidable.decide ((0 : Int) ≤ x2) && Decidable.decide (x2 ≤ (↑(List.length (Go.QA.runesOf s0)) : Int))) then
  (bif (Decidable.decide ((0 : Int) ≤ x1) && Decidable.decide (x1 ≤ (↑(Int.toNat x2) : Int))) then
   refRest_F (Go.QA.runesOf s0) x1 (fun x6 =>
    (bif b3 then
     refColumn_F (Go.QA.runesOf s0) x1 x5 (fun x7 =>
      (bif (x4 == (121 : Int)) then
       k ((0 : Int)) ((0 : Int)) [] x7 (Go.QA.strOf (List.drop (Int.toNat x1) (List.take (Int.toNat x2) (Go.QA.runesOf s0)))) b3 ((0 : Int))
      else
       (bif (x4 == (100 : Int)) then
        refDeleted_F s0 (Go.QA.runesOf s0) x1 x2 b3 (fun x8 x9 s10 x11 s12 b13 x14 =>
         k x8 x9 s10 x11 s12 b13 x14)
       else
        (bif (x4 == (99 : Int)) then
         (bif (Decidable.decide ((0 : Int) ≤ x1) && Decidable.decide (x1 ≤ (↑(List.length (Go.QA.runesOf s0)) : Int))) then
          (bif (Decidable.decide ((0 : Int) ≤ x2) && Decidable.decide (x2 ≤ (↑(List.length (Go.QA.runesOf s0)) : Int))) then
           (bif (Decidable.decide (List.length (Go.QA.strOf (List.drop (0 : Nat) (List.take (Int.toNat x1) (Go.QA.runesOf s0)))) + List.length (Go.QA.strOf (List.drop (Int.toNat x2) (List.take (List.length (Go.QA.runesOf s0)) (Go.QA.runesOf s0)))) ≤ (9223372036854775807 : Nat))) then
            made18_F s0 (Go.QA.strOf (List.drop (0 : Nat) (List.take (Int.toNat x1) (Go.QA.runesOf s0))) ++ Go.QA.strOf (List.drop (Int.toNat x2) (List.take (List.length (Go.QA.runesOf s0)) (Go.QA.runesOf s0)))) x1 (fun x15 x16 s17 x18 s19 b20 x21 =>
             k x15 x16 s17 x18 (Go.QA.strOf (List.drop (Int.toNat x1) (List.take (Int.toNat x2) (Go.QA.runesOf s0)))) b3 x21)
           else
            none)
          else
           none)
         else
          none)
        else
         (bif (x4 == (62 : Int)) then
          refShifted_F s0 (Go.QA.runesOf s0) x1 x2 b3 x4 (fun x22 x23 s24 x25 s26 b27 x28 =>
           k x22 x23 s24 x25 s26 b27 x28)
         else
          (bif (x4 == (60 : Int)) then
           refShifted_F s0 (Go.QA.runesOf s0) x1 x2 b3 x4 (fun x29 x30 s31 x32 s33 b34 x35 =>
            k x29 x30 s31 x32 s33 b34 x35)
          else
           refChange_M20 s0 x4 x7 (Go.QA.runesOf s0) x1 b3 x2 x1 Bool.false [] ((0 : Int)) [] ((0 : Int)) ((0 : Int))
            (fun s51 x52 l53 b54 s55 x56 s57 x58 x59 =>
            made18_F s51 (Go.QA.strOf l53) x52 (fun x60 x61 s62 x63 s64 b65 x66 =>
             k x60 x61 s62 x63 s64 b65 x66))))))))
    else
     (bif (x4 == (121 : Int)) then
      k ((0 : Int)) ((0 : Int)) [] x6 (Go.QA.strOf (List.drop (Int.toNat x1) (List.take (Int.toNat x2) (Go.QA.runesOf s0)))) b3 ((0 : Int))
     else
      (bif (x4 == (100 : Int)) then
       refDeleted_F s0 (Go.QA.runesOf s0) x1 x2 b3 (fun x67 x68 s69 x70 s71 b72 x73 =>
        k x67 x68 s69 x70 s71 b72 x73)
      else
       (bif (x4 == (99 : Int)) then
        (bif (Decidable.decide ((0 : Int) ≤ x1) && Decidable.decide (x1 ≤ (↑(List.length (Go.QA.runesOf s0)) : Int))) then
         (bif (Decidable.decide ((0 : Int) ≤ x2) && Decidable.decide (x2 ≤ (↑(List.length (Go.QA.runesOf s0)) : Int))) then
          (bif (Decidable.decide (List.length (Go.QA.strOf (List.drop (0 : Nat) (List.take (Int.toNat x1) (Go.QA.runesOf s0)))) + List.length (Go.QA.strOf (List.drop (Int.toNat x2) (List.take (List.length (Go.QA.runesOf s0)) (Go.QA.runesOf s0)))) ≤ (9223372036854775807 : Nat))) then
           made18_F s0 (Go.QA.strOf (List.drop (0 : Nat) (List.take (Int.toNat x1) (Go.QA.runesOf s0))) ++ Go.QA.strOf (List.drop (Int.toNat x2) (List.take (List.length (Go.QA.runesOf s0)) (Go.QA.runesOf s0)))) x1 (fun x74 x75 s76 x77 s78 b79 x80 =>
            k x74 x75 s76 x77 (Go.QA.strOf (List.drop (Int.toNat x1) (List.take (Int.toNat x2) (Go.QA.runesOf s0)))) b3 x80)
          else
           none)
         else
          none)
        else
         none)
       else
        (bif (x4 == (62 : Int)) then
         refShifted_F s0 (Go.QA.runesOf s0) x1 x2 b3 x4 (fun x81 x82 s83 x84 s85 b86 x87 =>
          k x81 x82 s83 x84 s85 b86 x87)
        else
         (bif (x4 == (60 : Int)) then
          refShifted_F s0 (Go.QA.runesOf s0) x1 x2 b3 x4 (fun x88 x89 s90 x91 s92 b93 x94 =>
           k x88 x89 s90 x91 s92 b93 x94)
         else
          refChange_M20 s0 x4 x6 (Go.QA.runesOf s0) x1 b3 x2 x1 Bool.false [] ((0 : Int)) [] ((0 : Int)) ((0 : Int))
           (fun s95 x96 l97 b98 s99 x100 s101 x102 x103 =>
           made18_F s95 (Go.QA.strOf l97) x96 (fun x104 x105 s106 x107 s108 b109 x110 =>
            k x104 x105 s106 x107 s108 b109 x110)))))))))
  else
   none)
 else
  none)
noncomputable def refChange_F {R : Type} : Str → Int → Int → Bool → Int → Int → (Int → Int → Str → Int → Str → Bool → Int → Option R) → Option R := lock refChange_T
theorem refChange_F_T {R : Type} : @refChange_F R = refChange_T := lock_eq _
theorem refChange_F_eq {R : Type} (s0 : Str) (x1 : Int) (x2 : Int) (b3 : Bool) (x4 : Int) (x5 : Int) (k : D → Option R) : afun qP [91] (refChange_G R) (refChange_Lam1 R) Tryd.f58 [D.str s0, D.agg [D.int .i64 x1, D.int .i64 x2, D.bool b3], D.int .i64 x4, D.int .i64 x5] k = refChange_T s0 x1 x2 b3 x4 x5 (fun y0 y1 y2 y3 y4 y5 y6 => k (D.tup [D.agg [D.int .i64 y0, D.int .i64 y1, D.str y2, D.int .i64 y3, D.str y4, D.bool y5], D.int .i64 y6])) := by kernel_rfl
noncomputable def refChange_abs (R : Type) (ds : List D) (k : D → Option R) : Option R :=
  match ds with
  | [D.str s0, D.agg [D.int .i64 x1, D.int .i64 x2, D.bool b3], D.int .i64 x4, D.int .i64 x5] => refChange_F s0 x1 x2 b3 x4 x5 (fun y0 y1 y2 y3 y4 y5 y6 => k (D.tup [D.agg [D.int .i64 y0, D.int .i64 y1, D.str y2, D.int .i64 y3, D.str y4, D.bool y5], D.int .i64 y6]))
  | _ => none
theorem refChange_ok : FnOk qP 58 refChange_abs := by
  intro R ds k r h
  unfold refChange_abs at h
  split at h
  · rw [refChange_F_T, ← refChange_F_eq] at h
    refine afun_ok (P := qP) (c := refChange_code) qOk (refChange_Gok R) Tryd.func58 (by kernel_rfl) (by kernel_rfl) ?_ ?_ (by kernel_rfl) h
    rotate_left
    · exact Nat.le_of_ble_eq_true (by kernel_rfl)
    rw [show loopsIn refChange_code = [refChange_body20] from by kernel_rfl]
    intro b hb
    simp only [List.mem_cons, List.not_mem_nil, or_false] at hb
    subst hb
    exact lam_of (key := 20) (S := refChange_S20) (L := refChange_A20 R) (fun st k => by kernel_rfl) (by kernel_rfl) refChange_A20_ok
  · cases h

end Go.Proofs.YtleoffdjdgbanaaDoor

set_option linter.unusedVariables false
set_option linter.unusedSimpArgs false
set_option maxRecDepth 1000000
namespace Go.Proofs.YtleoffdjdgbanaaDoor
open Go Go.QA Go.Proofs

/-! ### smallOf: function 40 -/

noncomputable def smallOf_C : Cfg := ⟨qP, Tryd.f40.ntmps, []⟩
noncomputable def smallOf_code : Code := Tryd.f40.body.getD .skip
noncomputable def smallOf_G (R : Type) : Orc R := fun f args k => bif Nat.beq f 51 then textMay_abs R args k else (fun f args k => bif Nat.beq f 70 then smallMay_abs R args k else (fun f args k => bif Nat.beq f 52 then textOf_abs R args k else (fun f args k => bif Nat.beq f 53 then MapIs_abs R args k else (fun f args k => bif Nat.beq f 71 then MapRow_abs R args k else (fun f args k => bif Nat.beq f 72 then MapEnd_abs R args k else (fun f args k => bif Nat.beq f 73 then smallCut_abs R args k else (fun f args k => bif Nat.beq f 74 then smallBecome_abs R args k else (fun f args k => bif Nat.beq f 75 then smallTurn_abs R args k else (fun f args k => bif Nat.beq f 76 then smallJoined_abs R args k else (fun _ _ _ => none) f args k) f args k) f args k) f args k) f args k) f args k) f args k) f args k) f args k) f args k
theorem smallOf_Gok (R : Type) : OrcOk qP (smallOf_G R) := (orc_cons textMay_ok (orc_cons smallMay_ok (orc_cons textOf_ok (orc_cons MapIs_ok (orc_cons MapRow_ok (orc_cons MapEnd_ok (orc_cons smallCut_ok (orc_cons smallBecome_ok (orc_cons smallTurn_ok (orc_cons smallJoined_ok orc_nil))))))))))
noncomputable def smallOf_Lam0 (R : Type) : Lam R := fun _ _ _ => none
noncomputable def smallOf_T {R : Type} (s0 : Str) (x1 : Int) (x2 : Int) (x3 : Int) (x4 : Int) (k : Int → Int → Str → Int → Str → Bool → Int → Option R) : Option R :=
  textMay_F s0 (fun b5 =>
  (bif !b5 then
   k ((0 : Int)) ((0 : Int)) [] ((0 : Int)) [] Bool.false ((1 : Int))
  else
   (bif (Decidable.decide (x4 < (1 : Int))) then
    k ((0 : Int)) ((0 : Int)) [] ((0 : Int)) [] Bool.false ((1 : Int))
   else
    (bif (Decidable.decide (x4 > (999 : Int))) then
     k ((0 : Int)) ((0 : Int)) [] ((0 : Int)) [] Bool.false ((1 : Int))
    else
     (bif (x2 == (114 : Int)) then
      smallMay_F x3 (fun b6 =>
       (bif !b6 then
        k ((0 : Int)) ((0 : Int)) [] ((0 : Int)) [] Bool.false ((1 : Int))
       else
        textOf_F s0 (fun l7 l8 =>
         MapIs_F l7 l8 x1 (fun b9 =>
          (bif !b9 then
           k ((0 : Int)) ((0 : Int)) [] ((0 : Int)) [] Bool.false ((1 : Int))
          else
           MapRow_F l7 l8 x1 (fun x10 =>
            MapEnd_F l7 l8 x10 (fun x11 =>
             (bif (x2 == (120 : Int)) then
              smallCut_F s0 l7 l8 x1 (Go.QA.mm Bool.false (Go.IntKind.wrap Go.IntKind.i64 (x1 + x4)) x11) (fun x12 x13 s14 x15 s16 b17 x18 =>
               k x12 x13 s14 x15 s16 b17 x18)
             else
              (bif (x2 == (88 : Int)) then
               (bif (Decidable.decide ((0 : Int) ≤ x10) && Decidable.decide (x10 < (↑(List.length l8) : Int))) then
                smallCut_F s0 l7 l8 (Go.QA.mm Bool.true (Go.IntKind.wrap Go.IntKind.i64 (x1 - x4)) (List.getD l8 (Int.toNat x10) (0 : Int))) x1 (fun x19 x20 s21 x22 s23 b24 x25 =>
                 (bif (x25 == (0 : Int)) then
                  (bif (Decidable.decide ((0 : Int) ≤ x10) && Decidable.decide (x10 < (↑(List.length l8) : Int))) then
                   k x19 x20 s21 (Go.QA.mm Bool.true (Go.IntKind.wrap Go.IntKind.i64 (x1 - x4)) (List.getD l8 (Int.toNat x10) (0 : Int))) s23 b24 x25
                  else
                   none)
                 else
                  k x19 x20 s21 x22 s23 b24 x25))
               else
                none)
              else
               (bif (x2 == (114 : Int)) then
                smallBecome_F s0 l7 l8 x1 x4 x3 (fun x26 x27 s28 x29 s30 b31 x32 =>
                 k x26 x27 s28 x29 s30 b31 x32)
               else
                (bif (x2 == (126 : Int)) then
                 smallTurn_F s0 l7 l8 x1 (Go.QA.mm Bool.false (Go.IntKind.wrap Go.IntKind.i64 (x1 + x4)) x11) (fun x33 x34 s35 x36 s37 b38 x39 =>
                  k x33 x34 s35 x36 s37 b38 x39)
                else
                 (bif (x2 == (74 : Int)) then
                  smallJoined_F s0 l7 l8 x1 (Go.QA.mm Bool.true (1 : Int) (Go.IntKind.wrap Go.IntKind.i64 (x4 - (1 : Int)))) (fun x40 x41 s42 x43 s44 b45 x46 =>
                   k x40 x41 s42 x43 s44 b45 x46)
                 else
                  k ((0 : Int)) ((0 : Int)) [] ((0 : Int)) [] Bool.false ((1 : Int))))))))))))))
     else
      textOf_F s0 (fun l47 l48 =>
       MapIs_F l47 l48 x1 (fun b49 =>
        (bif !b49 then
         k ((0 : Int)) ((0 : Int)) [] ((0 : Int)) [] Bool.false ((1 : Int))
        else
         MapRow_F l47 l48 x1 (fun x50 =>
          MapEnd_F l47 l48 x50 (fun x51 =>
           (bif (x2 == (120 : Int)) then
            smallCut_F s0 l47 l48 x1 (Go.QA.mm Bool.false (Go.IntKind.wrap Go.IntKind.i64 (x1 + x4)) x51) (fun x52 x53 s54 x55 s56 b57 x58 =>
             k x52 x53 s54 x55 s56 b57 x58)
           else
            (bif (x2 == (88 : Int)) then
             (bif (Decidable.decide ((0 : Int) ≤ x50) && Decidable.decide (x50 < (↑(List.length l48) : Int))) then
              smallCut_F s0 l47 l48 (Go.QA.mm Bool.true (Go.IntKind.wrap Go.IntKind.i64 (x1 - x4)) (List.getD l48 (Int.toNat x50) (0 : Int))) x1 (fun x59 x60 s61 x62 s63 b64 x65 =>
               (bif (x65 == (0 : Int)) then
                (bif (Decidable.decide ((0 : Int) ≤ x50) && Decidable.decide (x50 < (↑(List.length l48) : Int))) then
                 k x59 x60 s61 (Go.QA.mm Bool.true (Go.IntKind.wrap Go.IntKind.i64 (x1 - x4)) (List.getD l48 (Int.toNat x50) (0 : Int))) s63 b64 x65
                else
                 none)
               else
                k x59 x60 s61 x62 s63 b64 x65))
             else
              none)
            else
             (bif (x2 == (114 : Int)) then
              smallBecome_F s0 l47 l48 x1 x4 x3 (fun x66 x67 s68 x69 s70 b71 x72 =>
               k x66 x67 s68 x69 s70 b71 x72)
             else
              (bif (x2 == (126 : Int)) then
               smallTurn_F s0 l47 l48 x1 (Go.QA.mm Bool.false (Go.IntKind.wrap Go.IntKind.i64 (x1 + x4)) x51) (fun x73 x74 s75 x76 s77 b78 x79 =>
                k x73 x74 s75 x76 s77 b78 x79)
              else
               (bif (x2 == (74 : Int)) then
                smallJoined_F s0 l47 l48 x1 (Go.QA.mm Bool.true (1 : Int) (Go.IntKind.wrap Go.IntKind.i64 (x4 - (1 : Int)))) (fun x80 x81 s82 x83 s84 b85 x86 =>
                 k x80 x81 s82 x83 s84 b85 x86)
               else
                k ((0 : Int)) ((0 : Int)) [] ((0 : Int)) [] Bool.false ((1 : Int)))))))))))))))))
noncomputable def smallOf_F {R : Type} : Str → Int → Int → Int → Int → (Int → Int → Str → Int → Str → Bool → Int → Option R) → Option R := lock smallOf_T
theorem smallOf_F_T {R : Type} : @smallOf_F R = smallOf_T := lock_eq _
theorem smallOf_F_eq {R : Type} (s0 : Str) (x1 : Int) (x2 : Int) (x3 : Int) (x4 : Int) (k : D → Option R) : afun qP [] (smallOf_G R) (smallOf_Lam0 R) Tryd.f40 [D.str s0, D.int .i64 x1, D.int .i64 x2, D.int .i64 x3, D.int .i64 x4] k = smallOf_T s0 x1 x2 x3 x4 (fun y0 y1 y2 y3 y4 y5 y6 => k (D.tup [D.agg [D.int .i64 y0, D.int .i64 y1, D.str y2, D.int .i64 y3, D.str y4, D.bool y5], D.int .i64 y6])) := by kernel_rfl
noncomputable def smallOf_abs (R : Type) (ds : List D) (k : D → Option R) : Option R :=
  match ds with
  | [D.str s0, D.int .i64 x1, D.int .i64 x2, D.int .i64 x3, D.int .i64 x4] => smallOf_F s0 x1 x2 x3 x4 (fun y0 y1 y2 y3 y4 y5 y6 => k (D.tup [D.agg [D.int .i64 y0, D.int .i64 y1, D.str y2, D.int .i64 y3, D.str y4, D.bool y5], D.int .i64 y6]))
  | _ => none
theorem smallOf_ok : FnOk qP 40 smallOf_abs := by
  intro R ds k r h
  unfold smallOf_abs at h
  split at h
  · rw [smallOf_F_T, ← smallOf_F_eq] at h
    refine afun_ok (P := qP) (c := smallOf_code) qOk (smallOf_Gok R) Tryd.func40 (by kernel_rfl) (by kernel_rfl) ?_ ?_ (by kernel_rfl) h
    rotate_left
    · exact Nat.le_of_ble_eq_true (by kernel_rfl)
    rw [show loopsIn smallOf_code = [] from by kernel_rfl]
    intro b hb
    cases hb
  · cases h

/-! ### wakes18: function 38 -/

noncomputable def wakes18_C : Cfg := ⟨qP, Tryd.f38.ntmps, []⟩
noncomputable def wakes18_code : Code := Tryd.f38.body.getD .skip
noncomputable def wakes18_G (R : Type) : Orc R := fun f args k => bif Nat.beq f 34 then changeOf_abs R args k else (fun f args k => bif Nat.beq f 35 then num18_abs R args k else (fun f args k => bif Nat.beq f 24 then refApply_abs R args k else (fun _ _ _ => none) f args k) f args k) f args k
theorem wakes18_Gok (R : Type) : OrcOk qP (wakes18_G R) := (orc_cons changeOf_ok (orc_cons num18_ok (orc_cons refApply_ok orc_nil)))
noncomputable def wakes18_Lam0 (R : Type) : Lam R := fun _ _ _ => none
noncomputable def wakes18_T {R : Type} (k : Bool → Option R) : Option R :=
  changeOf_F ([(97 : UInt8), (98 : UInt8)]) ((0 : Int)) ((1 : Int)) Bool.false ((100 : Int)) ((0 : Int)) (fun x0 x1 s2 x3 s4 b5 x6 =>
  num18_F x6 (fun x7 =>
   (bif (x7 == (0 : Int)) then
    (bif (s4 == [(97 : UInt8)]) then
     refApply_F ([(97 : UInt8), (98 : UInt8)]) x0 x1 s2 (fun s8 =>
      k (s8 == [(98 : UInt8)]))
    else
     k Bool.false)
   else
    k Bool.false)))
noncomputable def wakes18_F {R : Type} : (Bool → Option R) → Option R := lock wakes18_T
theorem wakes18_F_T {R : Type} : @wakes18_F R = wakes18_T := lock_eq _
theorem wakes18_F_eq {R : Type} (k : D → Option R) : afun qP [] (wakes18_G R) (wakes18_Lam0 R) Tryd.f38 [] k = wakes18_T (fun y0 => k (D.bool y0)) := by kernel_rfl
noncomputable def wakes18_abs (R : Type) (ds : List D) (k : D → Option R) : Option R :=
  match ds with
  | [] => wakes18_F (fun y0 => k (D.bool y0))
  | _ => none
theorem wakes18_ok : FnOk qP 38 wakes18_abs := by
  intro R ds k r h
  unfold wakes18_abs at h
  split at h
  · rw [wakes18_F_T, ← wakes18_F_eq] at h
    refine afun_ok (P := qP) (c := wakes18_code) qOk (wakes18_Gok R) Tryd.func38 (by kernel_rfl) (by kernel_rfl) ?_ ?_ (by kernel_rfl) h
    rotate_left
    · exact Nat.le_of_ble_eq_true (by kernel_rfl)
    rw [show loopsIn wakes18_code = [] from by kernel_rfl]
    intro b hb
    cases hb
  · cases h

/-! ### wakes20: function 43 -/

noncomputable def wakes20_C : Cfg := ⟨qP, Tryd.f43.ntmps, []⟩
noncomputable def wakes20_code : Code := Tryd.f43.body.getD .skip
noncomputable def wakes20_G (R : Type) : Orc R := fun f args k => bif Nat.beq f 40 then smallOf_abs R args k else (fun f args k => bif Nat.beq f 41 then num20_abs R args k else (fun f args k => bif Nat.beq f 24 then refApply_abs R args k else (fun _ _ _ => none) f args k) f args k) f args k
theorem wakes20_Gok (R : Type) : OrcOk qP (wakes20_G R) := (orc_cons smallOf_ok (orc_cons num20_ok (orc_cons refApply_ok orc_nil)))
noncomputable def wakes20_Lam0 (R : Type) : Lam R := fun _ _ _ => none
noncomputable def wakes20_T {R : Type} (k : Bool → Option R) : Option R :=
  smallOf_F ([(97 : UInt8), (98 : UInt8)]) ((0 : Int)) ((120 : Int)) ((0 : Int)) ((1 : Int)) (fun x0 x1 s2 x3 s4 b5 x6 =>
  num20_F x6 (fun x7 =>
   (bif (x7 == (0 : Int)) then
    (bif (s4 == [(97 : UInt8)]) then
     refApply_F ([(97 : UInt8), (98 : UInt8)]) x0 x1 s2 (fun s8 =>
      k (s8 == [(98 : UInt8)]))
    else
     k Bool.false)
   else
    k Bool.false)))
noncomputable def wakes20_F {R : Type} : (Bool → Option R) → Option R := lock wakes20_T
theorem wakes20_F_T {R : Type} : @wakes20_F R = wakes20_T := lock_eq _
theorem wakes20_F_eq {R : Type} (k : D → Option R) : afun qP [] (wakes20_G R) (wakes20_Lam0 R) Tryd.f43 [] k = wakes20_T (fun y0 => k (D.bool y0)) := by kernel_rfl
noncomputable def wakes20_abs (R : Type) (ds : List D) (k : D → Option R) : Option R :=
  match ds with
  | [] => wakes20_F (fun y0 => k (D.bool y0))
  | _ => none
theorem wakes20_ok : FnOk qP 43 wakes20_abs := by
  intro R ds k r h
  unfold wakes20_abs at h
  split at h
  · rw [wakes20_F_T, ← wakes20_F_eq] at h
    refine afun_ok (P := qP) (c := wakes20_code) qOk (wakes20_Gok R) Tryd.func43 (by kernel_rfl) (by kernel_rfl) ?_ ?_ (by kernel_rfl) h
    rotate_left
    · exact Nat.le_of_ble_eq_true (by kernel_rfl)
    rw [show loopsIn wakes20_code = [] from by kernel_rfl]
    intro b hb
    cases hb
  · cases h

end Go.Proofs.YtleoffdjdgbanaaDoor

set_option linter.unusedVariables false
set_option linter.unusedSimpArgs false
set_option maxRecDepth 1000000
namespace Go.Proofs.YtleoffdjdgbanaaDoor
open Go Go.QA Go.Proofs

/-! ### SmallSame: function 17 -/

noncomputable def SmallSame_C : Cfg := ⟨qP, Tryd.f17.ntmps, []⟩
noncomputable def SmallSame_code : Code := Tryd.f17.body.getD .skip
noncomputable def SmallSame_G (R : Type) : Orc R := fun f args k => bif Nat.beq f 21 then lawHeavy10_abs R args k else (fun f args k => bif Nat.beq f 22 then refMay1_abs R args k else (fun f args k => bif Nat.beq f 40 then smallOf_abs R args k else (fun f args k => bif Nat.beq f 41 then num20_abs R args k else (fun f args k => bif Nat.beq f 27 then refMay4_abs R args k else (fun f args k => bif Nat.beq f 24 then refApply_abs R args k else (fun f args k => bif Nat.beq f 42 then refLen_abs R args k else (fun f args k => bif Nat.beq f 28 then refRows_abs R args k else (fun f args k => bif Nat.beq f 43 then wakes20_abs R args k else (fun _ _ _ => none) f args k) f args k) f args k) f args k) f args k) f args k) f args k) f args k) f args k
theorem SmallSame_Gok (R : Type) : OrcOk qP (SmallSame_G R) := (orc_cons lawHeavy10_ok (orc_cons refMay1_ok (orc_cons smallOf_ok (orc_cons num20_ok (orc_cons refMay4_ok (orc_cons refApply_ok (orc_cons refLen_ok (orc_cons refRows_ok (orc_cons wakes20_ok orc_nil)))))))))
noncomputable def SmallSame_B14 {R : Type} (rec : Int → Str → List Int → Int → List Int → Int → Int → Int → Int → Int → Int → Int → Int → List Str → Option R) (x31 : Int) (s32 : Str) (l33 : List Int) (x34 : Int) (l35 : List Int) (x36 : Int) (x37 : Int) (x38 : Int) (x39 : Int) (x40 : Int) (x41 : Int) (x42 : Int) (x43 : Int) (q44 : List Str) (ke0 : Bool → Option R) (ke1 : Int → Str → List Int → Int → Int → Int → Int → Int → Int → Int → Int → List Str → Option R) : Option R :=
  (bif (Decidable.decide (x36 < (↑(List.length l35) : Int))) then
  (bif (Decidable.decide ((0 : Int) ≤ x36) && Decidable.decide (x36 < (↑(List.length l35) : Int))) then
   smallOf_F s32 x34 (List.getD l35 (Int.toNat x36) (0 : Int)) ((113 : Int)) ((1 : Int)) (fun x45 x46 s47 x48 s49 b50 x51 =>
    num20_F x51 (fun x52 =>
     (bif (x52 != (0 : Int)) then
      rec x31 s32 l33 x34 l35 (Go.IntKind.wrap Go.IntKind.i64 (x36 + (1 : Int))) x37 x38 x39 x40 x41 x42 x43 q44
     else
      refMay4_F s32 x45 x46 s47 (fun b53 =>
       (bif !b53 then
        ke0 Bool.false
       else
        refApply_F s32 x45 x46 s47 (fun s54 =>
         refLen_F s54 (fun x55 =>
          refRows_F s54 (fun q56 =>
           refRows_F s32 (fun q57 =>
            (bif (Decidable.decide ((0 : Int) ≤ x36) && Decidable.decide (x36 < (↑(List.length l35) : Int))) then
             (bif (List.getD l35 (Int.toNat x36) (0 : Int) == (114 : Int)) then
              (bif (Go.IntKind.wrap Go.IntKind.i64 (x55 - (↑(List.length l33) : Int)) != (0 : Int)) then
               ke0 Bool.false
              else
               (bif (Go.IntKind.wrap Go.IntKind.i64 ((↑(List.length q56) : Int) - (↑(List.length q57) : Int)) != (0 : Int)) then
                ke0 Bool.false
               else
                rec x31 s32 l33 x34 l35 (Go.IntKind.wrap Go.IntKind.i64 (x36 + (1 : Int))) x37 x38 x39 x40 x41 x42 x43 q44))
             else
              (bif (List.getD l35 (Int.toNat x36) (0 : Int) == (126 : Int)) then
               (bif (Go.IntKind.wrap Go.IntKind.i64 (x55 - (↑(List.length l33) : Int)) != (0 : Int)) then
                ke0 Bool.false
               else
                (bif (Go.IntKind.wrap Go.IntKind.i64 ((↑(List.length q56) : Int) - (↑(List.length q57) : Int)) != (0 : Int)) then
                 ke0 Bool.false
                else
                 rec x31 s32 l33 x34 l35 (Go.IntKind.wrap Go.IntKind.i64 (x36 + (1 : Int))) x37 x38 x39 x40 x41 x42 x43 q44))
              else
               (bif (List.getD l35 (Int.toNat x36) (0 : Int) == (74 : Int)) then
                (bif (Go.IntKind.wrap Go.IntKind.i64 ((↑(List.length q56) : Int) - (↑(List.length q57) : Int)) != (-1 : Int)) then
                 ke0 Bool.false
                else
                 rec x31 s32 l33 x34 l35 (Go.IntKind.wrap Go.IntKind.i64 (x36 + (1 : Int))) x37 x38 x39 x40 x41 x42 x43 q44)
               else
                (bif (Go.IntKind.wrap Go.IntKind.i64 (x55 - (↑(List.length l33) : Int)) != (-1 : Int)) then
                 ke0 Bool.false
                else
                 (bif (Go.IntKind.wrap Go.IntKind.i64 ((↑(List.length q56) : Int) - (↑(List.length q57) : Int)) != (0 : Int)) then
                  ke0 Bool.false
                 else
                  refLen_F s49 (fun x58 =>
                   (bif (x58 != (1 : Int)) then
                    ke0 Bool.false
                   else
                    rec x31 s32 l33 x34 l35 (Go.IntKind.wrap Go.IntKind.i64 (x36 + (1 : Int))) x37 x38 x39 x40 x41 x42 x43 q44)))))))
            else
             none))))))))))
  else
   none)
 else
  ke1 x31 s32 l33 x34 x37 x38 x39 x40 x41 x42 x43 q44)
noncomputable def SmallSame_L14 {R : Type} : Nat → Int → Str → List Int → Int → List Int → Int → Int → Int → Int → Int → Int → Int → Int → List Str → (Bool → Option R) → (Int → Str → List Int → Int → Int → Int → Int → Int → Int → Int → Int → List Str → Option R) → Option R
  | 0, _, _, _, _, _, _, _, _, _, _, _, _, _, _, _, _ => none
  | n + 1, x31, s32, l33, x34, l35, x36, x37, x38, x39, x40, x41, x42, x43, q44, ke0, ke1 => SmallSame_B14 (fun x31 s32 l33 x34 l35 x36 x37 x38 x39 x40 x41 x42 x43 q44 => SmallSame_L14 n x31 s32 l33 x34 l35 x36 x37 x38 x39 x40 x41 x42 x43 q44 ke0 ke1) x31 s32 l33 x34 l35 x36 x37 x38 x39 x40 x41 x42 x43 q44 ke0 ke1
noncomputable def SmallSame_M14 {R : Type} : Int → Str → List Int → Int → List Int → Int → Int → Int → Int → Int → Int → Int → Int → List Str → (Bool → Option R) → (Int → Str → List Int → Int → Int → Int → Int → Int → Int → Int → Int → List Str → Option R) → Option R := lock (SmallSame_L14 4611686018427387904)
theorem SmallSame_M14_eq {R : Type} : @SmallSame_M14 R = SmallSame_L14 4611686018427387904 := lock_eq _
noncomputable def SmallSame_B10 {R : Type} (rec : Int → Str → List Int → Int → Int → Int → Int → Int → Int → Int → Int → List Str → Option R) (x19 : Int) (s20 : Str) (l21 : List Int) (x22 : Int) (x23 : Int) (x24 : Int) (x25 : Int) (x26 : Int) (x27 : Int) (x28 : Int) (x29 : Int) (q30 : List Str) (ke0 : Bool → Option R) (ke1 : Int → Int → Int → Int → Int → Int → Int → Int → List Str → Option R) : Option R :=
  (bif (Decidable.decide (x22 ≤ (↑(List.length l21) : Int))) then
  (bif (Decidable.decide (x22 < (60 : Int))) then
   SmallSame_M14 x19 s20 l21 x22 ([(114 : Int), (126 : Int), (120 : Int), (88 : Int), (74 : Int)]) ((0 : Int)) x23 x24 x25 x26 x27 x28 x29 q30
    (fun b59 =>
    ke0 b59)
    (fun x60 s61 l62 x63 x64 x65 x66 x67 x68 x69 x70 q71 =>
    rec x60 s61 l62 (Go.IntKind.wrap Go.IntKind.i64 (x63 + (1 : Int))) x64 x65 x66 x67 x68 x69 x70 q71)
  else
   ke1 x19 x23 x24 x25 x26 x27 x28 x29 q30)
 else
  ke1 x19 x23 x24 x25 x26 x27 x28 x29 q30)
noncomputable def SmallSame_L10 {R : Type} : Nat → Int → Str → List Int → Int → Int → Int → Int → Int → Int → Int → Int → List Str → (Bool → Option R) → (Int → Int → Int → Int → Int → Int → Int → Int → List Str → Option R) → Option R
  | 0, _, _, _, _, _, _, _, _, _, _, _, _, _, _ => none
  | n + 1, x19, s20, l21, x22, x23, x24, x25, x26, x27, x28, x29, q30, ke0, ke1 => SmallSame_B10 (fun x19 s20 l21 x22 x23 x24 x25 x26 x27 x28 x29 q30 => SmallSame_L10 n x19 s20 l21 x22 x23 x24 x25 x26 x27 x28 x29 q30 ke0 ke1) x19 s20 l21 x22 x23 x24 x25 x26 x27 x28 x29 q30 ke0 ke1
noncomputable def SmallSame_M10 {R : Type} : Int → Str → List Int → Int → Int → Int → Int → Int → Int → Int → Int → List Str → (Bool → Option R) → (Int → Int → Int → Int → Int → Int → Int → Int → List Str → Option R) → Option R := lock (SmallSame_L10 4611686018427387904)
theorem SmallSame_M10_eq {R : Type} : @SmallSame_M10 R = SmallSame_L10 4611686018427387904 := lock_eq _
noncomputable def SmallSame_B4 {R : Type} (rec : Int → Int → Int → Int → Int → Int → Int → Int → List Str → Option R) (x9 : Int) (x10 : Int) (x11 : Int) (x12 : Int) (x13 : Int) (x14 : Int) (x15 : Int) (x16 : Int) (q17 : List Str) (ke0 : Bool → Option R) (ke1 : Option R) : Option R :=
  (bif (Decidable.decide (x9 < (↑(List.length q17) : Int))) then
  (bif (Decidable.decide (x9 < (3 : Int))) then
   (bif (Decidable.decide ((0 : Int) ≤ x9) && Decidable.decide (x9 < (↑(List.length q17) : Int))) then
    refMay1_F (List.getD q17 (Int.toNat x9) []) (fun b18 =>
     (bif !b18 then
      rec (Go.IntKind.wrap Go.IntKind.i64 (x9 + (1 : Int))) x10 x11 x12 x13 x14 x15 x16 q17
     else
      (bif (Decidable.decide ((↑(List.length (List.getD q17 (Int.toNat x9) [])) : Int) > (1000 : Int))) then
       rec (Go.IntKind.wrap Go.IntKind.i64 (x9 + (1 : Int))) x10 x11 x12 x13 x14 x15 x16 q17
      else
       SmallSame_M10 x9 (List.getD q17 (Int.toNat x9) []) (Go.QA.runesOf (List.getD q17 (Int.toNat x9) [])) ((0 : Int)) x10 x11 x12 x13 x14 x15 x16 q17
        (fun b72 =>
        ke0 b72)
        (fun x73 x74 x75 x76 x77 x78 x79 x80 q81 =>
        rec (Go.IntKind.wrap Go.IntKind.i64 (x73 + (1 : Int))) x74 x75 x76 x77 x78 x79 x80 q81))))
   else
    none)
  else
   ke1)
 else
  ke1)
noncomputable def SmallSame_L4 {R : Type} : Nat → Int → Int → Int → Int → Int → Int → Int → Int → List Str → (Bool → Option R) → (Option R) → Option R
  | 0, _, _, _, _, _, _, _, _, _, _, _ => none
  | n + 1, x9, x10, x11, x12, x13, x14, x15, x16, q17, ke0, ke1 => SmallSame_B4 (fun x9 x10 x11 x12 x13 x14 x15 x16 q17 => SmallSame_L4 n x9 x10 x11 x12 x13 x14 x15 x16 q17 ke0 ke1) x9 x10 x11 x12 x13 x14 x15 x16 q17 ke0 ke1
noncomputable def SmallSame_M4 {R : Type} : Int → Int → Int → Int → Int → Int → Int → Int → List Str → (Bool → Option R) → (Option R) → Option R := lock (SmallSame_L4 4611686018427387904)
theorem SmallSame_M4_eq {R : Type} : @SmallSame_M4 R = SmallSame_L4 4611686018427387904 := lock_eq _
noncomputable def SmallSame_Lam0 (R : Type) : Lam R := fun _ _ _ => none
noncomputable def SmallSame_body14 : Code := (findLoop 14 SmallSame_code).getD .skip
def SmallSame_S14 : QA.Spec := (⟨[.t 3, .t 4, .t 5, .t 6, .t 7, .t 8, .c 1 7, .c 1 6, .c 1 5, .c 1 4, .c 1 3, .c 1 2, .c 1 1, .c 1 0], [1], [], [(.t 1, 1, 0)], []⟩ : QA.Spec)
def SmallSame_S14r : QA.Spec := (⟨[.t 2], [], [], [], []⟩ : QA.Spec)
def SmallSame_S14e4 : QA.Spec := (⟨[.t 3, .t 4, .t 5, .t 6, .c 1 7, .c 1 6, .c 1 5, .c 1 4, .c 1 3, .c 1 2, .c 1 1, .c 1 0], [1], [], [(.t 1, 1, 0)], []⟩ : QA.Spec)
def SmallSame_X14 : AExit → Option QA.Spec
  | .normal => none
  | .exit j => bif Nat.beq j 4 then some SmallSame_S14e4 else none
  | .ret => some SmallSame_S14r
theorem SmallSame_L14_eq {R : Type} (k : AExit → St → Option R) : ∀ (n : Nat) (a0 : Int) (a1 : Str) (a2 : List Int) (a3 : Int) (a4 : List Int) (a5 : Int) (a6 : Int) (a7 : Int) (a8 : Int) (a9 : Int) (a10 : Int) (a11 : Int) (a12 : Int) (a13 : List Str), aloop SmallSame_C (SmallSame_G R) (SmallSame_Lam0 R) SmallSame_S14 SmallSame_X14 SmallSame_body14 n [D.int .i64 a0, D.str a1, D.sl (.ints .i32 a2), D.int .i64 a3, D.sl (.ints .i64 a4), D.int .i64 a5, D.int .i64 a6, D.int .i64 a7, D.int .i64 a8, D.int .i64 a9, D.int .i64 a10, D.int .i64 a11, D.int .i64 a12, D.sl (.strs a13)] k = SmallSame_L14 n a0 a1 a2 a3 a4 a5 a6 a7 a8 a9 a10 a11 a12 a13 (fun y0 => k .ret (mkSt SmallSame_S14r [D.bool y0])) (fun y0 y1 y2 y3 y4 y5 y6 y7 y8 y9 y10 y11 => k (.exit 4) (mkSt SmallSame_S14e4 [D.int .i64 y0, D.str y1, D.sl (.ints .i32 y2), D.int .i64 y3, D.int .i64 y4, D.int .i64 y5, D.int .i64 y6, D.int .i64 y7, D.int .i64 y8, D.int .i64 y9, D.int .i64 y10, D.sl (.strs y11)]))
  | 0, _, _, _, _, _, _, _, _, _, _, _, _, _, _ => rfl
  | n + 1, a0, a1, a2, a3, a4, a5, a6, a7, a8, a9, a10, a11, a12, a13 => by
    have h : (fun a0 a1 a2 a3 a4 a5 a6 a7 a8 a9 a10 a11 a12 a13 => aloop SmallSame_C (SmallSame_G R) (SmallSame_Lam0 R) SmallSame_S14 SmallSame_X14 SmallSame_body14 n [D.int .i64 a0, D.str a1, D.sl (.ints .i32 a2), D.int .i64 a3, D.sl (.ints .i64 a4), D.int .i64 a5, D.int .i64 a6, D.int .i64 a7, D.int .i64 a8, D.int .i64 a9, D.int .i64 a10, D.int .i64 a11, D.int .i64 a12, D.sl (.strs a13)] k) = (fun a0 a1 a2 a3 a4 a5 a6 a7 a8 a9 a10 a11 a12 a13 => SmallSame_L14 n a0 a1 a2 a3 a4 a5 a6 a7 a8 a9 a10 a11 a12 a13 (fun y0 => k .ret (mkSt SmallSame_S14r [D.bool y0])) (fun y0 y1 y2 y3 y4 y5 y6 y7 y8 y9 y10 y11 => k (.exit 4) (mkSt SmallSame_S14e4 [D.int .i64 y0, D.str y1, D.sl (.ints .i32 y2), D.int .i64 y3, D.int .i64 y4, D.int .i64 y5, D.int .i64 y6, D.int .i64 y7, D.int .i64 y8, D.int .i64 y9, D.int .i64 y10, D.sl (.strs y11)]))) := by
      funext a0 a1 a2 a3 a4 a5 a6 a7 a8 a9 a10 a11 a12 a13; exact SmallSame_L14_eq k n a0 a1 a2 a3 a4 a5 a6 a7 a8 a9 a10 a11 a12 a13
    have s : aloop SmallSame_C (SmallSame_G R) (SmallSame_Lam0 R) SmallSame_S14 SmallSame_X14 SmallSame_body14 (n + 1) [D.int .i64 a0, D.str a1, D.sl (.ints .i32 a2), D.int .i64 a3, D.sl (.ints .i64 a4), D.int .i64 a5, D.int .i64 a6, D.int .i64 a7, D.int .i64 a8, D.int .i64 a9, D.int .i64 a10, D.int .i64 a11, D.int .i64 a12, D.sl (.strs a13)] k = SmallSame_B14 (fun a0 a1 a2 a3 a4 a5 a6 a7 a8 a9 a10 a11 a12 a13 => aloop SmallSame_C (SmallSame_G R) (SmallSame_Lam0 R) SmallSame_S14 SmallSame_X14 SmallSame_body14 n [D.int .i64 a0, D.str a1, D.sl (.ints .i32 a2), D.int .i64 a3, D.sl (.ints .i64 a4), D.int .i64 a5, D.int .i64 a6, D.int .i64 a7, D.int .i64 a8, D.int .i64 a9, D.int .i64 a10, D.int .i64 a11, D.int .i64 a12, D.sl (.strs a13)] k) a0 a1 a2 a3 a4 a5 a6 a7 a8 a9 a10 a11 a12 a13 (fun y0 => k .ret (mkSt SmallSame_S14r [D.bool y0])) (fun y0 y1 y2 y3 y4 y5 y6 y7 y8 y9 y10 y11 => k (.exit 4) (mkSt SmallSame_S14e4 [D.int .i64 y0, D.str y1, D.sl (.ints .i32 y2), D.int .i64 y3, D.int .i64 y4, D.int .i64 y5, D.int .i64 y6, D.int .i64 y7, D.int .i64 y8, D.int .i64 y9, D.int .i64 y10, D.sl (.strs y11)])) := by kernel_rfl
    rw [s, h]; rfl
noncomputable def SmallSame_A14 (R : Type) (ds : List D) (k : AExit → St → Option R) : Option R :=
  match ds with
  | [D.int .i64 a0, D.str a1, D.sl (.ints .i32 a2), D.int .i64 a3, D.sl (.ints .i64 a4), D.int .i64 a5, D.int .i64 a6, D.int .i64 a7, D.int .i64 a8, D.int .i64 a9, D.int .i64 a10, D.int .i64 a11, D.int .i64 a12, D.sl (.strs a13)] => SmallSame_M14 a0 a1 a2 a3 a4 a5 a6 a7 a8 a9 a10 a11 a12 a13 (fun y0 => k .ret (mkSt SmallSame_S14r [D.bool y0])) (fun y0 y1 y2 y3 y4 y5 y6 y7 y8 y9 y10 y11 => k (.exit 4) (mkSt SmallSame_S14e4 [D.int .i64 y0, D.str y1, D.sl (.ints .i32 y2), D.int .i64 y3, D.int .i64 y4, D.int .i64 y5, D.int .i64 y6, D.int .i64 y7, D.int .i64 y8, D.int .i64 y9, D.int .i64 y10, D.sl (.strs y11)]))
  | _ => none
noncomputable def SmallSame_Lam1 (R : Type) : Lam R := fun key st k => bif Nat.beq key 14 then (match readSt SmallSame_S14 st with | some ds => SmallSame_A14 R ds k | none => none) else SmallSame_Lam0 R key st k
theorem SmallSame_A14_ok {R : Type} : ∀ ds k r, SmallSame_A14 R ds k = some r → ∃ e st', k e st' = some r ∧ QA.Reach SmallSame_C (.loop SmallSame_body14) (mkSt SmallSame_S14 ds) e st' := by
  intro ds k r h
  unfold SmallSame_A14 at h
  split at h
  · rw [SmallSame_M14_eq, ← SmallSame_L14_eq] at h
    refine aloop_ok (C := SmallSame_C) qOk (SmallSame_Gok R) ?_ _ _ _ _ h
    rw [show loopsIn SmallSame_body14 = [] from by kernel_rfl]
    intro b hb
    cases hb
  · cases h
noncomputable def SmallSame_body10 : Code := (findLoop 10 SmallSame_code).getD .skip
def SmallSame_S10 : QA.Spec := (⟨[.t 3, .t 4, .t 5, .t 6, .c 1 7, .c 1 6, .c 1 5, .c 1 4, .c 1 3, .c 1 2, .c 1 1, .c 1 0], [1], [], [(.t 1, 1, 0)], []⟩ : QA.Spec)
def SmallSame_S10r : QA.Spec := (⟨[.t 2], [], [], [], []⟩ : QA.Spec)
def SmallSame_S10e2 : QA.Spec := (⟨[.t 3, .c 1 7, .c 1 6, .c 1 5, .c 1 4, .c 1 3, .c 1 2, .c 1 1, .c 1 0], [1], [], [(.t 1, 1, 0)], []⟩ : QA.Spec)
def SmallSame_X10 : AExit → Option QA.Spec
  | .normal => none
  | .exit j => bif Nat.beq j 2 then some SmallSame_S10e2 else none
  | .ret => some SmallSame_S10r
theorem SmallSame_L10_eq {R : Type} (k : AExit → St → Option R) : ∀ (n : Nat) (a0 : Int) (a1 : Str) (a2 : List Int) (a3 : Int) (a4 : Int) (a5 : Int) (a6 : Int) (a7 : Int) (a8 : Int) (a9 : Int) (a10 : Int) (a11 : List Str), aloop SmallSame_C (SmallSame_G R) (SmallSame_Lam1 R) SmallSame_S10 SmallSame_X10 SmallSame_body10 n [D.int .i64 a0, D.str a1, D.sl (.ints .i32 a2), D.int .i64 a3, D.int .i64 a4, D.int .i64 a5, D.int .i64 a6, D.int .i64 a7, D.int .i64 a8, D.int .i64 a9, D.int .i64 a10, D.sl (.strs a11)] k = SmallSame_L10 n a0 a1 a2 a3 a4 a5 a6 a7 a8 a9 a10 a11 (fun y0 => k .ret (mkSt SmallSame_S10r [D.bool y0])) (fun y0 y1 y2 y3 y4 y5 y6 y7 y8 => k (.exit 2) (mkSt SmallSame_S10e2 [D.int .i64 y0, D.int .i64 y1, D.int .i64 y2, D.int .i64 y3, D.int .i64 y4, D.int .i64 y5, D.int .i64 y6, D.int .i64 y7, D.sl (.strs y8)]))
  | 0, _, _, _, _, _, _, _, _, _, _, _, _ => rfl
  | n + 1, a0, a1, a2, a3, a4, a5, a6, a7, a8, a9, a10, a11 => by
    have h : (fun a0 a1 a2 a3 a4 a5 a6 a7 a8 a9 a10 a11 => aloop SmallSame_C (SmallSame_G R) (SmallSame_Lam1 R) SmallSame_S10 SmallSame_X10 SmallSame_body10 n [D.int .i64 a0, D.str a1, D.sl (.ints .i32 a2), D.int .i64 a3, D.int .i64 a4, D.int .i64 a5, D.int .i64 a6, D.int .i64 a7, D.int .i64 a8, D.int .i64 a9, D.int .i64 a10, D.sl (.strs a11)] k) = (fun a0 a1 a2 a3 a4 a5 a6 a7 a8 a9 a10 a11 => SmallSame_L10 n a0 a1 a2 a3 a4 a5 a6 a7 a8 a9 a10 a11 (fun y0 => k .ret (mkSt SmallSame_S10r [D.bool y0])) (fun y0 y1 y2 y3 y4 y5 y6 y7 y8 => k (.exit 2) (mkSt SmallSame_S10e2 [D.int .i64 y0, D.int .i64 y1, D.int .i64 y2, D.int .i64 y3, D.int .i64 y4, D.int .i64 y5, D.int .i64 y6, D.int .i64 y7, D.sl (.strs y8)]))) := by
      funext a0 a1 a2 a3 a4 a5 a6 a7 a8 a9 a10 a11; exact SmallSame_L10_eq k n a0 a1 a2 a3 a4 a5 a6 a7 a8 a9 a10 a11
    have s : aloop SmallSame_C (SmallSame_G R) (SmallSame_Lam1 R) SmallSame_S10 SmallSame_X10 SmallSame_body10 (n + 1) [D.int .i64 a0, D.str a1, D.sl (.ints .i32 a2), D.int .i64 a3, D.int .i64 a4, D.int .i64 a5, D.int .i64 a6, D.int .i64 a7, D.int .i64 a8, D.int .i64 a9, D.int .i64 a10, D.sl (.strs a11)] k = SmallSame_B10 (fun a0 a1 a2 a3 a4 a5 a6 a7 a8 a9 a10 a11 => aloop SmallSame_C (SmallSame_G R) (SmallSame_Lam1 R) SmallSame_S10 SmallSame_X10 SmallSame_body10 n [D.int .i64 a0, D.str a1, D.sl (.ints .i32 a2), D.int .i64 a3, D.int .i64 a4, D.int .i64 a5, D.int .i64 a6, D.int .i64 a7, D.int .i64 a8, D.int .i64 a9, D.int .i64 a10, D.sl (.strs a11)] k) a0 a1 a2 a3 a4 a5 a6 a7 a8 a9 a10 a11 (fun y0 => k .ret (mkSt SmallSame_S10r [D.bool y0])) (fun y0 y1 y2 y3 y4 y5 y6 y7 y8 => k (.exit 2) (mkSt SmallSame_S10e2 [D.int .i64 y0, D.int .i64 y1, D.int .i64 y2, D.int .i64 y3, D.int .i64 y4, D.int .i64 y5, D.int .i64 y6, D.int .i64 y7, D.sl (.strs y8)])) := by kernel_rfl
    rw [s, h]; rfl
noncomputable def SmallSame_A10 (R : Type) (ds : List D) (k : AExit → St → Option R) : Option R :=
  match ds with
  | [D.int .i64 a0, D.str a1, D.sl (.ints .i32 a2), D.int .i64 a3, D.int .i64 a4, D.int .i64 a5, D.int .i64 a6, D.int .i64 a7, D.int .i64 a8, D.int .i64 a9, D.int .i64 a10, D.sl (.strs a11)] => SmallSame_M10 a0 a1 a2 a3 a4 a5 a6 a7 a8 a9 a10 a11 (fun y0 => k .ret (mkSt SmallSame_S10r [D.bool y0])) (fun y0 y1 y2 y3 y4 y5 y6 y7 y8 => k (.exit 2) (mkSt SmallSame_S10e2 [D.int .i64 y0, D.int .i64 y1, D.int .i64 y2, D.int .i64 y3, D.int .i64 y4, D.int .i64 y5, D.int .i64 y6, D.int .i64 y7, D.sl (.strs y8)]))
  | _ => none
noncomputable def SmallSame_Lam2 (R : Type) : Lam R := fun key st k => bif Nat.beq key 10 then (match readSt SmallSame_S10 st with | some ds => SmallSame_A10 R ds k | none => none) else SmallSame_Lam1 R key st k
theorem SmallSame_A10_ok {R : Type} : ∀ ds k r, SmallSame_A10 R ds k = some r → ∃ e st', k e st' = some r ∧ QA.Reach SmallSame_C (.loop SmallSame_body10) (mkSt SmallSame_S10 ds) e st' := by
  intro ds k r h
  unfold SmallSame_A10 at h
  split at h
  · rw [SmallSame_M10_eq, ← SmallSame_L10_eq] at h
    refine aloop_ok (C := SmallSame_C) qOk (SmallSame_Gok R) ?_ _ _ _ _ h
    rw [show loopsIn SmallSame_body10 = [SmallSame_body14] from by kernel_rfl]
    intro b hb
    simp only [List.mem_cons, List.not_mem_nil, or_false] at hb
    subst hb
    exact lam_of (key := 14) (S := SmallSame_S14) (L := SmallSame_A14 R) (fun st k => by kernel_rfl) (by kernel_rfl) SmallSame_A14_ok
  · cases h
noncomputable def SmallSame_body4 : Code := (findLoop 4 SmallSame_code).getD .skip
def SmallSame_S4 : QA.Spec := (⟨[.t 3, .c 1 7, .c 1 6, .c 1 5, .c 1 4, .c 1 3, .c 1 2, .c 1 1, .c 1 0], [1], [], [(.t 1, 1, 0)], []⟩ : QA.Spec)
def SmallSame_S4r : QA.Spec := (⟨[.t 2], [], [], [], []⟩ : QA.Spec)
def SmallSame_S4e0 : QA.Spec := (⟨[], [], [], [], []⟩ : QA.Spec)
def SmallSame_X4 : AExit → Option QA.Spec
  | .normal => none
  | .exit j => bif Nat.beq j 0 then some SmallSame_S4e0 else none
  | .ret => some SmallSame_S4r
theorem SmallSame_L4_eq {R : Type} (k : AExit → St → Option R) : ∀ (n : Nat) (a0 : Int) (a1 : Int) (a2 : Int) (a3 : Int) (a4 : Int) (a5 : Int) (a6 : Int) (a7 : Int) (a8 : List Str), aloop SmallSame_C (SmallSame_G R) (SmallSame_Lam2 R) SmallSame_S4 SmallSame_X4 SmallSame_body4 n [D.int .i64 a0, D.int .i64 a1, D.int .i64 a2, D.int .i64 a3, D.int .i64 a4, D.int .i64 a5, D.int .i64 a6, D.int .i64 a7, D.sl (.strs a8)] k = SmallSame_L4 n a0 a1 a2 a3 a4 a5 a6 a7 a8 (fun y0 => k .ret (mkSt SmallSame_S4r [D.bool y0])) (k (.exit 0) (mkSt SmallSame_S4e0 []))
  | 0, _, _, _, _, _, _, _, _, _ => rfl
  | n + 1, a0, a1, a2, a3, a4, a5, a6, a7, a8 => by
    have h : (fun a0 a1 a2 a3 a4 a5 a6 a7 a8 => aloop SmallSame_C (SmallSame_G R) (SmallSame_Lam2 R) SmallSame_S4 SmallSame_X4 SmallSame_body4 n [D.int .i64 a0, D.int .i64 a1, D.int .i64 a2, D.int .i64 a3, D.int .i64 a4, D.int .i64 a5, D.int .i64 a6, D.int .i64 a7, D.sl (.strs a8)] k) = (fun a0 a1 a2 a3 a4 a5 a6 a7 a8 => SmallSame_L4 n a0 a1 a2 a3 a4 a5 a6 a7 a8 (fun y0 => k .ret (mkSt SmallSame_S4r [D.bool y0])) (k (.exit 0) (mkSt SmallSame_S4e0 []))) := by
      funext a0 a1 a2 a3 a4 a5 a6 a7 a8; exact SmallSame_L4_eq k n a0 a1 a2 a3 a4 a5 a6 a7 a8
    have s : aloop SmallSame_C (SmallSame_G R) (SmallSame_Lam2 R) SmallSame_S4 SmallSame_X4 SmallSame_body4 (n + 1) [D.int .i64 a0, D.int .i64 a1, D.int .i64 a2, D.int .i64 a3, D.int .i64 a4, D.int .i64 a5, D.int .i64 a6, D.int .i64 a7, D.sl (.strs a8)] k = SmallSame_B4 (fun a0 a1 a2 a3 a4 a5 a6 a7 a8 => aloop SmallSame_C (SmallSame_G R) (SmallSame_Lam2 R) SmallSame_S4 SmallSame_X4 SmallSame_body4 n [D.int .i64 a0, D.int .i64 a1, D.int .i64 a2, D.int .i64 a3, D.int .i64 a4, D.int .i64 a5, D.int .i64 a6, D.int .i64 a7, D.sl (.strs a8)] k) a0 a1 a2 a3 a4 a5 a6 a7 a8 (fun y0 => k .ret (mkSt SmallSame_S4r [D.bool y0])) (k (.exit 0) (mkSt SmallSame_S4e0 [])) := by kernel_rfl
    rw [s, h]; rfl
noncomputable def SmallSame_A4 (R : Type) (ds : List D) (k : AExit → St → Option R) : Option R :=
  match ds with
  | [D.int .i64 a0, D.int .i64 a1, D.int .i64 a2, D.int .i64 a3, D.int .i64 a4, D.int .i64 a5, D.int .i64 a6, D.int .i64 a7, D.sl (.strs a8)] => SmallSame_M4 a0 a1 a2 a3 a4 a5 a6 a7 a8 (fun y0 => k .ret (mkSt SmallSame_S4r [D.bool y0])) (k (.exit 0) (mkSt SmallSame_S4e0 []))
  | _ => none
noncomputable def SmallSame_Lam3 (R : Type) : Lam R := fun key st k => bif Nat.beq key 4 then (match readSt SmallSame_S4 st with | some ds => SmallSame_A4 R ds k | none => none) else SmallSame_Lam2 R key st k
theorem SmallSame_A4_ok {R : Type} : ∀ ds k r, SmallSame_A4 R ds k = some r → ∃ e st', k e st' = some r ∧ QA.Reach SmallSame_C (.loop SmallSame_body4) (mkSt SmallSame_S4 ds) e st' := by
  intro ds k r h
  unfold SmallSame_A4 at h
  split at h
  · rw [SmallSame_M4_eq, ← SmallSame_L4_eq] at h
    refine aloop_ok (C := SmallSame_C) qOk (SmallSame_Gok R) ?_ _ _ _ _ h
    rw [show loopsIn SmallSame_body4 = [SmallSame_body10] from by kernel_rfl]
    intro b hb
    simp only [List.mem_cons, List.not_mem_nil, or_false] at hb
    subst hb
    exact lam_of (key := 10) (S := SmallSame_S10) (L := SmallSame_A10 R) (fun st k => by kernel_rfl) (by kernel_rfl) SmallSame_A10_ok
  · cases h
noncomputable def SmallSame_T {R : Type} (q0 : List Str) (x1 : Int) (x2 : Int) (x3 : Int) (x4 : Int) (x5 : Int) (x6 : Int) (x7 : Int) (k : Bool → Option R) : Option R :=
  lawHeavy10_F q0 x1 x2 x3 x4 x5 x6 x7 (fun b8 =>
  (bif b8 then
   k Bool.true
  else
   SmallSame_M4 ((0 : Int)) x7 x6 x5 x4 x3 x2 x1 q0
    (fun b82 =>
    k b82)
    (
    wakes20_F (fun b83 =>
     k b83))))
noncomputable def SmallSame_F {R : Type} : List Str → Int → Int → Int → Int → Int → Int → Int → (Bool → Option R) → Option R := lock SmallSame_T
theorem SmallSame_F_T {R : Type} : @SmallSame_F R = SmallSame_T := lock_eq _
theorem SmallSame_F_eq {R : Type} (q0 : List Str) (x1 : Int) (x2 : Int) (x3 : Int) (x4 : Int) (x5 : Int) (x6 : Int) (x7 : Int) (k : D → Option R) : afun qP [] (SmallSame_G R) (SmallSame_Lam3 R) Tryd.f17 [D.agg [D.sl (.strs q0), D.int .i64 x1, D.int .i64 x2, D.int .i64 x3, D.int .i64 x4, D.int .i64 x5, D.int .i64 x6, D.int .i64 x7]] k = SmallSame_T q0 x1 x2 x3 x4 x5 x6 x7 (fun y0 => k (D.bool y0)) := by kernel_rfl
noncomputable def SmallSame_abs (R : Type) (ds : List D) (k : D → Option R) : Option R :=
  match ds with
  | [D.agg [D.sl (.strs q0), D.int .i64 x1, D.int .i64 x2, D.int .i64 x3, D.int .i64 x4, D.int .i64 x5, D.int .i64 x6, D.int .i64 x7]] => SmallSame_F q0 x1 x2 x3 x4 x5 x6 x7 (fun y0 => k (D.bool y0))
  | _ => none
theorem SmallSame_ok : FnOk qP 17 SmallSame_abs := by
  intro R ds k r h
  unfold SmallSame_abs at h
  split at h
  · rw [SmallSame_F_T, ← SmallSame_F_eq] at h
    refine afun_ok (P := qP) (c := SmallSame_code) qOk (SmallSame_Gok R) Tryd.func17 (by kernel_rfl) (by kernel_rfl) ?_ ?_ (by kernel_rfl) h
    rotate_left
    · exact Nat.le_of_ble_eq_true (by kernel_rfl)
    rw [show loopsIn SmallSame_code = [SmallSame_body4] from by kernel_rfl]
    intro b hb
    simp only [List.mem_cons, List.not_mem_nil, or_false] at hb
    subst hb
    exact lam_of (key := 4) (S := SmallSame_S4) (L := SmallSame_A4 R) (fun st k => by kernel_rfl) (by kernel_rfl) SmallSame_A4_ok
  · cases h

end Go.Proofs.YtleoffdjdgbanaaDoor

set_option linter.unusedVariables false
set_option linter.unusedSimpArgs false
set_option maxRecDepth 1000000
namespace Go.Proofs.YtleoffdjdgbanaaDoor
open Go Go.QA Go.Proofs

/-! ### changes18: function 31 -/

noncomputable def changes18_C : Cfg := ⟨qP, Tryd.f31.ntmps, []⟩
noncomputable def changes18_code : Code := Tryd.f31.body.getD .skip
noncomputable def changes18_G (R : Type) : Orc R := fun f args k => bif Nat.beq f 21 then lawHeavy10_abs R args k else (fun f args k => bif Nat.beq f 32 then Ranges18_abs R args k else (fun f args k => bif Nat.beq f 29 then lawWithin_abs R args k else (fun f args k => bif Nat.beq f 34 then changeOf_abs R args k else (fun f args k => bif Nat.beq f 22 then refMay1_abs R args k else (fun f args k => bif Nat.beq f 33 then refRange_abs R args k else (fun f args k => bif Nat.beq f 57 then refKey_abs R args k else (fun f args k => bif Nat.beq f 56 then refNum_abs R args k else (fun f args k => bif Nat.beq f 58 then refChange_abs R args k else (fun f args k => bif Nat.beq f 35 then num18_abs R args k else (fun f args k => bif Nat.beq f 38 then wakes18_abs R args k else (fun _ _ _ => none) f args k) f args k) f args k) f args k) f args k) f args k) f args k) f args k) f args k) f args k) f args k
theorem changes18_Gok (R : Type) : OrcOk qP (changes18_G R) := (orc_cons lawHeavy10_ok (orc_cons Ranges18_ok (orc_cons lawWithin_ok (orc_cons changeOf_ok (orc_cons refMay1_ok (orc_cons refRange_ok (orc_cons refKey_ok (orc_cons refNum_ok (orc_cons refChange_ok (orc_cons num18_ok (orc_cons wakes18_ok orc_nil)))))))))))
noncomputable def changes18_B17 {R : Type} (rec : List Int → Int → Str → List Int → List Rec → Int → Int → List Int → Int → Int → Int → Int → Int → Int → Int → Int → List Str → Option R) (l51 : List Int) (x52 : Int) (s53 : Str) (l54 : List Int) (r55 : List Rec) (x56 : Int) (x57 : Int) (l58 : List Int) (x59 : Int) (x60 : Int) (x61 : Int) (x62 : Int) (x63 : Int) (x64 : Int) (x65 : Int) (x66 : Int) (q67 : List Str) (ke0 : Bool → Option R) (ke1 : List Int → Int → Str → List Int → List Rec → Int → Int → Int → Int → Int → Int → Int → Int → Int → List Str → Option R) : Option R :=
  (bif (Decidable.decide (x59 < (3 : Int))) then
  (bif (Decidable.decide ((0 : Int) ≤ x56) && Decidable.decide (x56 < (↑(List.length r55) : Int))) then
   (bif (Decidable.decide ((0 : Int) ≤ x57) && Decidable.decide (x57 < (↑(List.length l51) : Int))) then
    (bif (Decidable.decide ((0 : Int) ≤ x59) && Decidable.decide (x59 < (↑(List.length l58) : Int))) then
     changeOf_F s53 (Go.QA.Rec.gi (List.getD r55 (Int.toNat x56) Inhabited.default) (0 : Nat)) (Go.QA.Rec.gi (List.getD r55 (Int.toNat x56) Inhabited.default) ((0 : Nat) + (1 : Nat))) (Go.QA.Rec.gb (List.getD r55 (Int.toNat x56) Inhabited.default) (0 : Nat)) (List.getD l51 (Int.toNat x57) (0 : Int)) (List.getD l58 (Int.toNat x59) (0 : Int)) (fun x68 x69 s70 x71 s72 b73 x74 =>
      refMay1_F s53 (fun b75 =>
       (bif b75 then
        (bif (Decidable.decide ((0 : Int) ≤ x56) && Decidable.decide (x56 < (↑(List.length r55) : Int))) then
         refRange_F l54 (Go.QA.Rec.gi (List.getD r55 (Int.toNat x56) Inhabited.default) (0 : Nat)) (Go.QA.Rec.gi (List.getD r55 (Int.toNat x56) Inhabited.default) ((0 : Nat) + (1 : Nat))) (Go.QA.Rec.gb (List.getD r55 (Int.toNat x56) Inhabited.default) (0 : Nat)) (fun b76 =>
          (bif b76 then
           (bif (Decidable.decide ((0 : Int) ≤ x57) && Decidable.decide (x57 < (↑(List.length l51) : Int))) then
            refKey_F (List.getD l51 (Int.toNat x57) (0 : Int)) (fun b77 =>
             (bif b77 then
              (bif (Decidable.decide ((0 : Int) ≤ x59) && Decidable.decide (x59 < (↑(List.length l58) : Int))) then
               refNum_F (List.getD l58 (Int.toNat x59) (0 : Int)) ((↑(List.length l54) : Int)) (fun b78 =>
                (bif b78 then
                 (bif (Decidable.decide ((0 : Int) ≤ x56) && Decidable.decide (x56 < (↑(List.length r55) : Int))) then
                  (bif (Decidable.decide ((0 : Int) ≤ x57) && Decidable.decide (x57 < (↑(List.length l51) : Int))) then
                   (bif (Decidable.decide ((0 : Int) ≤ x59) && Decidable.decide (x59 < (↑(List.length l58) : Int))) then
                    refChange_F s53 (Go.QA.Rec.gi (List.getD r55 (Int.toNat x56) Inhabited.default) (0 : Nat)) (Go.QA.Rec.gi (List.getD r55 (Int.toNat x56) Inhabited.default) ((0 : Nat) + (1 : Nat))) (Go.QA.Rec.gb (List.getD r55 (Int.toNat x56) Inhabited.default) (0 : Nat)) (List.getD l51 (Int.toNat x57) (0 : Int)) (List.getD l58 (Int.toNat x59) (0 : Int)) (fun x79 x80 s81 x82 s83 b84 x85 =>
                     (bif (x85 != (0 : Int)) then
                      num18_F x74 (fun x86 =>
                       (bif (x86 != x85) then
                        ke0 Bool.false
                       else
                        (bif (!(x68 == (0 : Int) && (x69 == (0 : Int) && (s70 == [] && (x71 == (0 : Int) && (s72 == [] && (b73 == Bool.false && Bool.true))))))) then
                         ke0 Bool.false
                        else
                         rec l51 x52 s53 l54 r55 x56 x57 l58 (Go.IntKind.wrap Go.IntKind.i64 (x59 + (1 : Int))) x60 x61 x62 x63 x64 x65 x66 q67)))
                     else
                      num18_F x74 (fun x87 =>
                       (bif (x87 != x85) then
                        ke0 Bool.false
                       else
                        (bif (!(x68 == x79 && (x69 == x80 && (s70 == s81 && (x71 == x82 && (s72 == s83 && (b73 == b84 && Bool.true))))))) then
                         ke0 Bool.false
                        else
                         rec l51 x52 s53 l54 r55 x56 x57 l58 (Go.IntKind.wrap Go.IntKind.i64 (x59 + (1 : Int))) x60 x61 x62 x63 x64 x65 x66 q67)))))
                   else
                    none)
                  else
                   none)
                 else
                  none)
                else
                 num18_F x74 (fun x88 =>
                  (bif (x88 != (1 : Int)) then
                   ke0 Bool.false
                  else
                   (bif (!(x68 == (0 : Int) && (x69 == (0 : Int) && (s70 == [] && (x71 == (0 : Int) && (s72 == [] && (b73 == Bool.false && Bool.true))))))) then
                    ke0 Bool.false
                   else
                    rec l51 x52 s53 l54 r55 x56 x57 l58 (Go.IntKind.wrap Go.IntKind.i64 (x59 + (1 : Int))) x60 x61 x62 x63 x64 x65 x66 q67)))))
              else
               none)
             else
              num18_F x74 (fun x89 =>
               (bif (x89 != (1 : Int)) then
                ke0 Bool.false
               else
                (bif (!(x68 == (0 : Int) && (x69 == (0 : Int) && (s70 == [] && (x71 == (0 : Int) && (s72 == [] && (b73 == Bool.false && Bool.true))))))) then
                 ke0 Bool.false
                else
                 rec l51 x52 s53 l54 r55 x56 x57 l58 (Go.IntKind.wrap Go.IntKind.i64 (x59 + (1 : Int))) x60 x61 x62 x63 x64 x65 x66 q67)))))
           else
            none)
          else
           num18_F x74 (fun x90 =>
            (bif (x90 != (1 : Int)) then
             ke0 Bool.false
            else
             (bif (!(x68 == (0 : Int) && (x69 == (0 : Int) && (s70 == [] && (x71 == (0 : Int) && (s72 == [] && (b73 == Bool.false && Bool.true))))))) then
              ke0 Bool.false
             else
              rec l51 x52 s53 l54 r55 x56 x57 l58 (Go.IntKind.wrap Go.IntKind.i64 (x59 + (1 : Int))) x60 x61 x62 x63 x64 x65 x66 q67)))))
        else
         none)
       else
        num18_F x74 (fun x91 =>
         (bif (x91 != (1 : Int)) then
          ke0 Bool.false
         else
          (bif (!(x68 == (0 : Int) && (x69 == (0 : Int) && (s70 == [] && (x71 == (0 : Int) && (s72 == [] && (b73 == Bool.false && Bool.true))))))) then
           ke0 Bool.false
          else
           rec l51 x52 s53 l54 r55 x56 x57 l58 (Go.IntKind.wrap Go.IntKind.i64 (x59 + (1 : Int))) x60 x61 x62 x63 x64 x65 x66 q67))))))
    else
     none)
   else
    none)
  else
   none)
 else
  ke1 l51 x52 s53 l54 r55 x56 x57 x60 x61 x62 x63 x64 x65 x66 q67)
noncomputable def changes18_L17 {R : Type} : Nat → List Int → Int → Str → List Int → List Rec → Int → Int → List Int → Int → Int → Int → Int → Int → Int → Int → Int → List Str → (Bool → Option R) → (List Int → Int → Str → List Int → List Rec → Int → Int → Int → Int → Int → Int → Int → Int → Int → List Str → Option R) → Option R
  | 0, _, _, _, _, _, _, _, _, _, _, _, _, _, _, _, _, _, _, _ => none
  | n + 1, l51, x52, s53, l54, r55, x56, x57, l58, x59, x60, x61, x62, x63, x64, x65, x66, q67, ke0, ke1 => changes18_B17 (fun l51 x52 s53 l54 r55 x56 x57 l58 x59 x60 x61 x62 x63 x64 x65 x66 q67 => changes18_L17 n l51 x52 s53 l54 r55 x56 x57 l58 x59 x60 x61 x62 x63 x64 x65 x66 q67 ke0 ke1) l51 x52 s53 l54 r55 x56 x57 l58 x59 x60 x61 x62 x63 x64 x65 x66 q67 ke0 ke1
noncomputable def changes18_M17 {R : Type} : List Int → Int → Str → List Int → List Rec → Int → Int → List Int → Int → Int → Int → Int → Int → Int → Int → Int → List Str → (Bool → Option R) → (List Int → Int → Str → List Int → List Rec → Int → Int → Int → Int → Int → Int → Int → Int → Int → List Str → Option R) → Option R := lock (changes18_L17 4611686018427387904)
theorem changes18_M17_eq {R : Type} : @changes18_M17 R = changes18_L17 4611686018427387904 := lock_eq _
noncomputable def changes18_B13 {R : Type} (rec : List Int → Int → Str → List Int → List Rec → Int → Int → Int → Int → Int → Int → Int → Int → Int → List Str → Option R) (l35 : List Int) (x36 : Int) (s37 : Str) (l38 : List Int) (r39 : List Rec) (x40 : Int) (x41 : Int) (x42 : Int) (x43 : Int) (x44 : Int) (x45 : Int) (x46 : Int) (x47 : Int) (x48 : Int) (q49 : List Str) (ke0 : Bool → Option R) (ke1 : List Int → Int → Str → List Int → List Rec → Int → Int → Int → Int → Int → Int → Int → Int → List Str → Option R) : Option R :=
  (bif (Decidable.decide (x41 < (↑(List.length l35) : Int))) then
  lawWithin_F x48 (Go.IntKind.wrap Go.IntKind.i64 ((↑(List.length l38) : Int) + (1 : Int))) (fun x50 =>
   changes18_M17 l35 x36 s37 l38 r39 x40 x41 ([x50, x47, (↑(List.length l38) : Int)]) ((0 : Int)) x42 x43 x44 x45 x46 x47 x48 q49
    (fun b92 =>
    ke0 b92)
    (fun l93 x94 s95 l96 r97 x98 x99 x100 x101 x102 x103 x104 x105 x106 q107 =>
    rec l93 x94 s95 l96 r97 x98 (Go.IntKind.wrap Go.IntKind.i64 (x99 + (1 : Int))) x100 x101 x102 x103 x104 x105 x106 q107))
 else
  ke1 l35 x36 s37 l38 r39 x40 x42 x43 x44 x45 x46 x47 x48 q49)
noncomputable def changes18_L13 {R : Type} : Nat → List Int → Int → Str → List Int → List Rec → Int → Int → Int → Int → Int → Int → Int → Int → Int → List Str → (Bool → Option R) → (List Int → Int → Str → List Int → List Rec → Int → Int → Int → Int → Int → Int → Int → Int → List Str → Option R) → Option R
  | 0, _, _, _, _, _, _, _, _, _, _, _, _, _, _, _, _, _ => none
  | n + 1, l35, x36, s37, l38, r39, x40, x41, x42, x43, x44, x45, x46, x47, x48, q49, ke0, ke1 => changes18_B13 (fun l35 x36 s37 l38 r39 x40 x41 x42 x43 x44 x45 x46 x47 x48 q49 => changes18_L13 n l35 x36 s37 l38 r39 x40 x41 x42 x43 x44 x45 x46 x47 x48 q49 ke0 ke1) l35 x36 s37 l38 r39 x40 x41 x42 x43 x44 x45 x46 x47 x48 q49 ke0 ke1
noncomputable def changes18_M13 {R : Type} : List Int → Int → Str → List Int → List Rec → Int → Int → Int → Int → Int → Int → Int → Int → Int → List Str → (Bool → Option R) → (List Int → Int → Str → List Int → List Rec → Int → Int → Int → Int → Int → Int → Int → Int → List Str → Option R) → Option R := lock (changes18_L13 4611686018427387904)
theorem changes18_M13_eq {R : Type} : @changes18_M13 R = changes18_L13 4611686018427387904 := lock_eq _
noncomputable def changes18_B10 {R : Type} (rec : List Int → Int → Str → List Int → List Rec → Int → Int → Int → Int → Int → Int → Int → Int → List Str → Option R) (l21 : List Int) (x22 : Int) (s23 : Str) (l24 : List Int) (r25 : List Rec) (x26 : Int) (x27 : Int) (x28 : Int) (x29 : Int) (x30 : Int) (x31 : Int) (x32 : Int) (x33 : Int) (q34 : List Str) (ke0 : Bool → Option R) (ke1 : List Int → Int → Int → Int → Int → Int → Int → Int → Int → List Str → Option R) : Option R :=
  (bif (Decidable.decide (x26 < (↑(List.length r25) : Int))) then
  changes18_M13 l21 x22 s23 l24 r25 x26 ((0 : Int)) x27 x28 x29 x30 x31 x32 x33 q34
   (fun b108 =>
   ke0 b108)
   (fun l109 x110 s111 l112 r113 x114 x115 x116 x117 x118 x119 x120 x121 q122 =>
   rec l109 x110 s111 l112 r113 (Go.IntKind.wrap Go.IntKind.i64 (x114 + (1 : Int))) x115 x116 x117 x118 x119 x120 x121 q122)
 else
  ke1 l21 x22 x27 x28 x29 x30 x31 x32 x33 q34)
noncomputable def changes18_L10 {R : Type} : Nat → List Int → Int → Str → List Int → List Rec → Int → Int → Int → Int → Int → Int → Int → Int → List Str → (Bool → Option R) → (List Int → Int → Int → Int → Int → Int → Int → Int → Int → List Str → Option R) → Option R
  | 0, _, _, _, _, _, _, _, _, _, _, _, _, _, _, _, _ => none
  | n + 1, l21, x22, s23, l24, r25, x26, x27, x28, x29, x30, x31, x32, x33, q34, ke0, ke1 => changes18_B10 (fun l21 x22 s23 l24 r25 x26 x27 x28 x29 x30 x31 x32 x33 q34 => changes18_L10 n l21 x22 s23 l24 r25 x26 x27 x28 x29 x30 x31 x32 x33 q34 ke0 ke1) l21 x22 s23 l24 r25 x26 x27 x28 x29 x30 x31 x32 x33 q34 ke0 ke1
noncomputable def changes18_M10 {R : Type} : List Int → Int → Str → List Int → List Rec → Int → Int → Int → Int → Int → Int → Int → Int → List Str → (Bool → Option R) → (List Int → Int → Int → Int → Int → Int → Int → Int → Int → List Str → Option R) → Option R := lock (changes18_L10 4611686018427387904)
theorem changes18_M10_eq {R : Type} : @changes18_M10 R = changes18_L10 4611686018427387904 := lock_eq _
noncomputable def changes18_B4 {R : Type} (rec : List Int → Int → Int → Int → Int → Int → Int → Int → Int → List Str → Option R) (l10 : List Int) (x11 : Int) (x12 : Int) (x13 : Int) (x14 : Int) (x15 : Int) (x16 : Int) (x17 : Int) (x18 : Int) (q19 : List Str) (ke0 : Bool → Option R) (ke1 : Option R) : Option R :=
  (bif (Decidable.decide (x11 < (↑(List.length q19) : Int))) then
  (bif (Decidable.decide (x11 < (3 : Int))) then
   (bif (Decidable.decide ((0 : Int) ≤ x11) && Decidable.decide (x11 < (↑(List.length q19) : Int))) then
    Ranges18_F q19 x18 x17 x16 x15 x14 x13 x12 (Go.QA.runesOf (List.getD q19 (Int.toNat x11) [])) (fun r20 =>
     changes18_M10 l10 x11 (List.getD q19 (Int.toNat x11) []) (Go.QA.runesOf (List.getD q19 (Int.toNat x11) [])) r20 ((0 : Int)) x12 x13 x14 x15 x16 x17 x18 q19
      (fun b123 =>
      ke0 b123)
      (fun l124 x125 x126 x127 x128 x129 x130 x131 x132 q133 =>
      rec l124 (Go.IntKind.wrap Go.IntKind.i64 (x125 + (1 : Int))) x126 x127 x128 x129 x130 x131 x132 q133))
   else
    none)
  else
   ke1)
 else
  ke1)
noncomputable def changes18_L4 {R : Type} : Nat → List Int → Int → Int → Int → Int → Int → Int → Int → Int → List Str → (Bool → Option R) → (Option R) → Option R
  | 0, _, _, _, _, _, _, _, _, _, _, _, _ => none
  | n + 1, l10, x11, x12, x13, x14, x15, x16, x17, x18, q19, ke0, ke1 => changes18_B4 (fun l10 x11 x12 x13 x14 x15 x16 x17 x18 q19 => changes18_L4 n l10 x11 x12 x13 x14 x15 x16 x17 x18 q19 ke0 ke1) l10 x11 x12 x13 x14 x15 x16 x17 x18 q19 ke0 ke1
noncomputable def changes18_M4 {R : Type} : List Int → Int → Int → Int → Int → Int → Int → Int → Int → List Str → (Bool → Option R) → (Option R) → Option R := lock (changes18_L4 4611686018427387904)
theorem changes18_M4_eq {R : Type} : @changes18_M4 R = changes18_L4 4611686018427387904 := lock_eq _
noncomputable def changes18_Lam0 (R : Type) : Lam R := fun _ _ _ => none
noncomputable def changes18_body17 : Code := (findLoop 17 changes18_code).getD .skip
def changes18_S17 : QA.Spec := (⟨[.t 1, .t 5, .t 6, .t 7, .t 8, .t 9, .t 10, .t 11, .t 12, .c 2 7, .c 2 6, .c 2 5, .c 2 4, .c 2 3, .c 2 2, .c 2 1, .c 2 0], [2], [], [(.t 2, 2, 0)], []⟩ : QA.Spec)
def changes18_S17r : QA.Spec := (⟨[.t 4], [], [], [], []⟩ : QA.Spec)
def changes18_S17e6 : QA.Spec := (⟨[.t 1, .t 5, .t 6, .t 7, .t 8, .t 9, .t 10, .c 2 7, .c 2 6, .c 2 5, .c 2 4, .c 2 3, .c 2 2, .c 2 1, .c 2 0], [2], [], [(.t 2, 2, 0)], []⟩ : QA.Spec)
def changes18_X17 : AExit → Option QA.Spec
  | .normal => none
  | .exit j => bif Nat.beq j 6 then some changes18_S17e6 else none
  | .ret => some changes18_S17r
theorem changes18_L17_eq {R : Type} (k : AExit → St → Option R) : ∀ (n : Nat) (a0 : List Int) (a1 : Int) (a2 : Str) (a3 : List Int) (a4 : List Rec) (a5 : Int) (a6 : Int) (a7 : List Int) (a8 : Int) (a9 : Int) (a10 : Int) (a11 : Int) (a12 : Int) (a13 : Int) (a14 : Int) (a15 : Int) (a16 : List Str), aloop changes18_C (changes18_G R) (changes18_Lam0 R) changes18_S17 changes18_X17 changes18_body17 n [D.sl (.ints .i64 a0), D.int .i64 a1, D.str a2, D.sl (.ints .i32 a3), D.sl (.recs [.int .i64, .int .i64, .bool] a4), D.int .i64 a5, D.int .i64 a6, D.sl (.ints .i64 a7), D.int .i64 a8, D.int .i64 a9, D.int .i64 a10, D.int .i64 a11, D.int .i64 a12, D.int .i64 a13, D.int .i64 a14, D.int .i64 a15, D.sl (.strs a16)] k = changes18_L17 n a0 a1 a2 a3 a4 a5 a6 a7 a8 a9 a10 a11 a12 a13 a14 a15 a16 (fun y0 => k .ret (mkSt changes18_S17r [D.bool y0])) (fun y0 y1 y2 y3 y4 y5 y6 y7 y8 y9 y10 y11 y12 y13 y14 => k (.exit 6) (mkSt changes18_S17e6 [D.sl (.ints .i64 y0), D.int .i64 y1, D.str y2, D.sl (.ints .i32 y3), D.sl (.recs [.int .i64, .int .i64, .bool] y4), D.int .i64 y5, D.int .i64 y6, D.int .i64 y7, D.int .i64 y8, D.int .i64 y9, D.int .i64 y10, D.int .i64 y11, D.int .i64 y12, D.int .i64 y13, D.sl (.strs y14)]))
  | 0, _, _, _, _, _, _, _, _, _, _, _, _, _, _, _, _, _ => rfl
  | n + 1, a0, a1, a2, a3, a4, a5, a6, a7, a8, a9, a10, a11, a12, a13, a14, a15, a16 => by
    have h : (fun a0 a1 a2 a3 a4 a5 a6 a7 a8 a9 a10 a11 a12 a13 a14 a15 a16 => aloop changes18_C (changes18_G R) (changes18_Lam0 R) changes18_S17 changes18_X17 changes18_body17 n [D.sl (.ints .i64 a0), D.int .i64 a1, D.str a2, D.sl (.ints .i32 a3), D.sl (.recs [.int .i64, .int .i64, .bool] a4), D.int .i64 a5, D.int .i64 a6, D.sl (.ints .i64 a7), D.int .i64 a8, D.int .i64 a9, D.int .i64 a10, D.int .i64 a11, D.int .i64 a12, D.int .i64 a13, D.int .i64 a14, D.int .i64 a15, D.sl (.strs a16)] k) = (fun a0 a1 a2 a3 a4 a5 a6 a7 a8 a9 a10 a11 a12 a13 a14 a15 a16 => changes18_L17 n a0 a1 a2 a3 a4 a5 a6 a7 a8 a9 a10 a11 a12 a13 a14 a15 a16 (fun y0 => k .ret (mkSt changes18_S17r [D.bool y0])) (fun y0 y1 y2 y3 y4 y5 y6 y7 y8 y9 y10 y11 y12 y13 y14 => k (.exit 6) (mkSt changes18_S17e6 [D.sl (.ints .i64 y0), D.int .i64 y1, D.str y2, D.sl (.ints .i32 y3), D.sl (.recs [.int .i64, .int .i64, .bool] y4), D.int .i64 y5, D.int .i64 y6, D.int .i64 y7, D.int .i64 y8, D.int .i64 y9, D.int .i64 y10, D.int .i64 y11, D.int .i64 y12, D.int .i64 y13, D.sl (.strs y14)]))) := by
      funext a0 a1 a2 a3 a4 a5 a6 a7 a8 a9 a10 a11 a12 a13 a14 a15 a16; exact changes18_L17_eq k n a0 a1 a2 a3 a4 a5 a6 a7 a8 a9 a10 a11 a12 a13 a14 a15 a16
    have s : aloop changes18_C (changes18_G R) (changes18_Lam0 R) changes18_S17 changes18_X17 changes18_body17 (n + 1) [D.sl (.ints .i64 a0), D.int .i64 a1, D.str a2, D.sl (.ints .i32 a3), D.sl (.recs [.int .i64, .int .i64, .bool] a4), D.int .i64 a5, D.int .i64 a6, D.sl (.ints .i64 a7), D.int .i64 a8, D.int .i64 a9, D.int .i64 a10, D.int .i64 a11, D.int .i64 a12, D.int .i64 a13, D.int .i64 a14, D.int .i64 a15, D.sl (.strs a16)] k = changes18_B17 (fun a0 a1 a2 a3 a4 a5 a6 a7 a8 a9 a10 a11 a12 a13 a14 a15 a16 => aloop changes18_C (changes18_G R) (changes18_Lam0 R) changes18_S17 changes18_X17 changes18_body17 n [D.sl (.ints .i64 a0), D.int .i64 a1, D.str a2, D.sl (.ints .i32 a3), D.sl (.recs [.int .i64, .int .i64, .bool] a4), D.int .i64 a5, D.int .i64 a6, D.sl (.ints .i64 a7), D.int .i64 a8, D.int .i64 a9, D.int .i64 a10, D.int .i64 a11, D.int .i64 a12, D.int .i64 a13, D.int .i64 a14, D.int .i64 a15, D.sl (.strs a16)] k) a0 a1 a2 a3 a4 a5 a6 a7 a8 a9 a10 a11 a12 a13 a14 a15 a16 (fun y0 => k .ret (mkSt changes18_S17r [D.bool y0])) (fun y0 y1 y2 y3 y4 y5 y6 y7 y8 y9 y10 y11 y12 y13 y14 => k (.exit 6) (mkSt changes18_S17e6 [D.sl (.ints .i64 y0), D.int .i64 y1, D.str y2, D.sl (.ints .i32 y3), D.sl (.recs [.int .i64, .int .i64, .bool] y4), D.int .i64 y5, D.int .i64 y6, D.int .i64 y7, D.int .i64 y8, D.int .i64 y9, D.int .i64 y10, D.int .i64 y11, D.int .i64 y12, D.int .i64 y13, D.sl (.strs y14)])) := by kernel_rfl
    rw [s, h]; rfl
noncomputable def changes18_A17 (R : Type) (ds : List D) (k : AExit → St → Option R) : Option R :=
  match ds with
  | [D.sl (.ints .i64 a0), D.int .i64 a1, D.str a2, D.sl (.ints .i32 a3), D.sl (.recs [.int .i64, .int .i64, .bool] a4), D.int .i64 a5, D.int .i64 a6, D.sl (.ints .i64 a7), D.int .i64 a8, D.int .i64 a9, D.int .i64 a10, D.int .i64 a11, D.int .i64 a12, D.int .i64 a13, D.int .i64 a14, D.int .i64 a15, D.sl (.strs a16)] => changes18_M17 a0 a1 a2 a3 a4 a5 a6 a7 a8 a9 a10 a11 a12 a13 a14 a15 a16 (fun y0 => k .ret (mkSt changes18_S17r [D.bool y0])) (fun y0 y1 y2 y3 y4 y5 y6 y7 y8 y9 y10 y11 y12 y13 y14 => k (.exit 6) (mkSt changes18_S17e6 [D.sl (.ints .i64 y0), D.int .i64 y1, D.str y2, D.sl (.ints .i32 y3), D.sl (.recs [.int .i64, .int .i64, .bool] y4), D.int .i64 y5, D.int .i64 y6, D.int .i64 y7, D.int .i64 y8, D.int .i64 y9, D.int .i64 y10, D.int .i64 y11, D.int .i64 y12, D.int .i64 y13, D.sl (.strs y14)]))
  | _ => none
noncomputable def changes18_Lam1 (R : Type) : Lam R := fun key st k => bif Nat.beq key 17 then (match readSt changes18_S17 st with | some ds => changes18_A17 R ds k | none => none) else changes18_Lam0 R key st k
theorem changes18_A17_ok {R : Type} : ∀ ds k r, changes18_A17 R ds k = some r → ∃ e st', k e st' = some r ∧ QA.Reach changes18_C (.loop changes18_body17) (mkSt changes18_S17 ds) e st' := by
  intro ds k r h
  unfold changes18_A17 at h
  split at h
  · rw [changes18_M17_eq, ← changes18_L17_eq] at h
    refine aloop_ok (C := changes18_C) qOk (changes18_Gok R) ?_ _ _ _ _ h
    rw [show loopsIn changes18_body17 = [] from by kernel_rfl]
    intro b hb
    cases hb
  · cases h
noncomputable def changes18_body13 : Code := (findLoop 13 changes18_code).getD .skip
def changes18_S13 : QA.Spec := (⟨[.t 1, .t 5, .t 6, .t 7, .t 8, .t 9, .t 10, .c 2 7, .c 2 6, .c 2 5, .c 2 4, .c 2 3, .c 2 2, .c 2 1, .c 2 0], [2], [], [(.t 2, 2, 0)], []⟩ : QA.Spec)
def changes18_S13r : QA.Spec := (⟨[.t 4], [], [], [], []⟩ : QA.Spec)
def changes18_S13e4 : QA.Spec := (⟨[.t 1, .t 5, .t 6, .t 7, .t 8, .t 9, .c 2 7, .c 2 6, .c 2 5, .c 2 4, .c 2 3, .c 2 2, .c 2 1, .c 2 0], [2], [], [(.t 2, 2, 0)], []⟩ : QA.Spec)
def changes18_X13 : AExit → Option QA.Spec
  | .normal => none
  | .exit j => bif Nat.beq j 4 then some changes18_S13e4 else none
  | .ret => some changes18_S13r
theorem changes18_L13_eq {R : Type} (k : AExit → St → Option R) : ∀ (n : Nat) (a0 : List Int) (a1 : Int) (a2 : Str) (a3 : List Int) (a4 : List Rec) (a5 : Int) (a6 : Int) (a7 : Int) (a8 : Int) (a9 : Int) (a10 : Int) (a11 : Int) (a12 : Int) (a13 : Int) (a14 : List Str), aloop changes18_C (changes18_G R) (changes18_Lam1 R) changes18_S13 changes18_X13 changes18_body13 n [D.sl (.ints .i64 a0), D.int .i64 a1, D.str a2, D.sl (.ints .i32 a3), D.sl (.recs [.int .i64, .int .i64, .bool] a4), D.int .i64 a5, D.int .i64 a6, D.int .i64 a7, D.int .i64 a8, D.int .i64 a9, D.int .i64 a10, D.int .i64 a11, D.int .i64 a12, D.int .i64 a13, D.sl (.strs a14)] k = changes18_L13 n a0 a1 a2 a3 a4 a5 a6 a7 a8 a9 a10 a11 a12 a13 a14 (fun y0 => k .ret (mkSt changes18_S13r [D.bool y0])) (fun y0 y1 y2 y3 y4 y5 y6 y7 y8 y9 y10 y11 y12 y13 => k (.exit 4) (mkSt changes18_S13e4 [D.sl (.ints .i64 y0), D.int .i64 y1, D.str y2, D.sl (.ints .i32 y3), D.sl (.recs [.int .i64, .int .i64, .bool] y4), D.int .i64 y5, D.int .i64 y6, D.int .i64 y7, D.int .i64 y8, D.int .i64 y9, D.int .i64 y10, D.int .i64 y11, D.int .i64 y12, D.sl (.strs y13)]))
  | 0, _, _, _, _, _, _, _, _, _, _, _, _, _, _, _ => rfl
  | n + 1, a0, a1, a2, a3, a4, a5, a6, a7, a8, a9, a10, a11, a12, a13, a14 => by
    have h : (fun a0 a1 a2 a3 a4 a5 a6 a7 a8 a9 a10 a11 a12 a13 a14 => aloop changes18_C (changes18_G R) (changes18_Lam1 R) changes18_S13 changes18_X13 changes18_body13 n [D.sl (.ints .i64 a0), D.int .i64 a1, D.str a2, D.sl (.ints .i32 a3), D.sl (.recs [.int .i64, .int .i64, .bool] a4), D.int .i64 a5, D.int .i64 a6, D.int .i64 a7, D.int .i64 a8, D.int .i64 a9, D.int .i64 a10, D.int .i64 a11, D.int .i64 a12, D.int .i64 a13, D.sl (.strs a14)] k) = (fun a0 a1 a2 a3 a4 a5 a6 a7 a8 a9 a10 a11 a12 a13 a14 => changes18_L13 n a0 a1 a2 a3 a4 a5 a6 a7 a8 a9 a10 a11 a12 a13 a14 (fun y0 => k .ret (mkSt changes18_S13r [D.bool y0])) (fun y0 y1 y2 y3 y4 y5 y6 y7 y8 y9 y10 y11 y12 y13 => k (.exit 4) (mkSt changes18_S13e4 [D.sl (.ints .i64 y0), D.int .i64 y1, D.str y2, D.sl (.ints .i32 y3), D.sl (.recs [.int .i64, .int .i64, .bool] y4), D.int .i64 y5, D.int .i64 y6, D.int .i64 y7, D.int .i64 y8, D.int .i64 y9, D.int .i64 y10, D.int .i64 y11, D.int .i64 y12, D.sl (.strs y13)]))) := by
      funext a0 a1 a2 a3 a4 a5 a6 a7 a8 a9 a10 a11 a12 a13 a14; exact changes18_L13_eq k n a0 a1 a2 a3 a4 a5 a6 a7 a8 a9 a10 a11 a12 a13 a14
    have s : aloop changes18_C (changes18_G R) (changes18_Lam1 R) changes18_S13 changes18_X13 changes18_body13 (n + 1) [D.sl (.ints .i64 a0), D.int .i64 a1, D.str a2, D.sl (.ints .i32 a3), D.sl (.recs [.int .i64, .int .i64, .bool] a4), D.int .i64 a5, D.int .i64 a6, D.int .i64 a7, D.int .i64 a8, D.int .i64 a9, D.int .i64 a10, D.int .i64 a11, D.int .i64 a12, D.int .i64 a13, D.sl (.strs a14)] k = changes18_B13 (fun a0 a1 a2 a3 a4 a5 a6 a7 a8 a9 a10 a11 a12 a13 a14 => aloop changes18_C (changes18_G R) (changes18_Lam1 R) changes18_S13 changes18_X13 changes18_body13 n [D.sl (.ints .i64 a0), D.int .i64 a1, D.str a2, D.sl (.ints .i32 a3), D.sl (.recs [.int .i64, .int .i64, .bool] a4), D.int .i64 a5, D.int .i64 a6, D.int .i64 a7, D.int .i64 a8, D.int .i64 a9, D.int .i64 a10, D.int .i64 a11, D.int .i64 a12, D.int .i64 a13, D.sl (.strs a14)] k) a0 a1 a2 a3 a4 a5 a6 a7 a8 a9 a10 a11 a12 a13 a14 (fun y0 => k .ret (mkSt changes18_S13r [D.bool y0])) (fun y0 y1 y2 y3 y4 y5 y6 y7 y8 y9 y10 y11 y12 y13 => k (.exit 4) (mkSt changes18_S13e4 [D.sl (.ints .i64 y0), D.int .i64 y1, D.str y2, D.sl (.ints .i32 y3), D.sl (.recs [.int .i64, .int .i64, .bool] y4), D.int .i64 y5, D.int .i64 y6, D.int .i64 y7, D.int .i64 y8, D.int .i64 y9, D.int .i64 y10, D.int .i64 y11, D.int .i64 y12, D.sl (.strs y13)])) := by kernel_rfl
    rw [s, h]; rfl
noncomputable def changes18_A13 (R : Type) (ds : List D) (k : AExit → St → Option R) : Option R :=
  match ds with
  | [D.sl (.ints .i64 a0), D.int .i64 a1, D.str a2, D.sl (.ints .i32 a3), D.sl (.recs [.int .i64, .int .i64, .bool] a4), D.int .i64 a5, D.int .i64 a6, D.int .i64 a7, D.int .i64 a8, D.int .i64 a9, D.int .i64 a10, D.int .i64 a11, D.int .i64 a12, D.int .i64 a13, D.sl (.strs a14)] => changes18_M13 a0 a1 a2 a3 a4 a5 a6 a7 a8 a9 a10 a11 a12 a13 a14 (fun y0 => k .ret (mkSt changes18_S13r [D.bool y0])) (fun y0 y1 y2 y3 y4 y5 y6 y7 y8 y9 y10 y11 y12 y13 => k (.exit 4) (mkSt changes18_S13e4 [D.sl (.ints .i64 y0), D.int .i64 y1, D.str y2, D.sl (.ints .i32 y3), D.sl (.recs [.int .i64, .int .i64, .bool] y4), D.int .i64 y5, D.int .i64 y6, D.int .i64 y7, D.int .i64 y8, D.int .i64 y9, D.int .i64 y10, D.int .i64 y11, D.int .i64 y12, D.sl (.strs y13)]))
  | _ => none
noncomputable def changes18_Lam2 (R : Type) : Lam R := fun key st k => bif Nat.beq key 13 then (match readSt changes18_S13 st with | some ds => changes18_A13 R ds k | none => none) else changes18_Lam1 R key st k
theorem changes18_A13_ok {R : Type} : ∀ ds k r, changes18_A13 R ds k = some r → ∃ e st', k e st' = some r ∧ QA.Reach changes18_C (.loop changes18_body13) (mkSt changes18_S13 ds) e st' := by
  intro ds k r h
  unfold changes18_A13 at h
  split at h
  · rw [changes18_M13_eq, ← changes18_L13_eq] at h
    refine aloop_ok (C := changes18_C) qOk (changes18_Gok R) ?_ _ _ _ _ h
    rw [show loopsIn changes18_body13 = [changes18_body17] from by kernel_rfl]
    intro b hb
    simp only [List.mem_cons, List.not_mem_nil, or_false] at hb
    subst hb
    exact lam_of (key := 17) (S := changes18_S17) (L := changes18_A17 R) (fun st k => by kernel_rfl) (by kernel_rfl) changes18_A17_ok
  · cases h
noncomputable def changes18_body10 : Code := (findLoop 10 changes18_code).getD .skip
def changes18_S10 : QA.Spec := (⟨[.t 1, .t 5, .t 6, .t 7, .t 8, .t 9, .c 2 7, .c 2 6, .c 2 5, .c 2 4, .c 2 3, .c 2 2, .c 2 1, .c 2 0], [2], [], [(.t 2, 2, 0)], []⟩ : QA.Spec)
def changes18_S10r : QA.Spec := (⟨[.t 4], [], [], [], []⟩ : QA.Spec)
def changes18_S10e2 : QA.Spec := (⟨[.t 1, .t 5, .c 2 7, .c 2 6, .c 2 5, .c 2 4, .c 2 3, .c 2 2, .c 2 1, .c 2 0], [2], [], [(.t 2, 2, 0)], []⟩ : QA.Spec)
def changes18_X10 : AExit → Option QA.Spec
  | .normal => none
  | .exit j => bif Nat.beq j 2 then some changes18_S10e2 else none
  | .ret => some changes18_S10r
theorem changes18_L10_eq {R : Type} (k : AExit → St → Option R) : ∀ (n : Nat) (a0 : List Int) (a1 : Int) (a2 : Str) (a3 : List Int) (a4 : List Rec) (a5 : Int) (a6 : Int) (a7 : Int) (a8 : Int) (a9 : Int) (a10 : Int) (a11 : Int) (a12 : Int) (a13 : List Str), aloop changes18_C (changes18_G R) (changes18_Lam2 R) changes18_S10 changes18_X10 changes18_body10 n [D.sl (.ints .i64 a0), D.int .i64 a1, D.str a2, D.sl (.ints .i32 a3), D.sl (.recs [.int .i64, .int .i64, .bool] a4), D.int .i64 a5, D.int .i64 a6, D.int .i64 a7, D.int .i64 a8, D.int .i64 a9, D.int .i64 a10, D.int .i64 a11, D.int .i64 a12, D.sl (.strs a13)] k = changes18_L10 n a0 a1 a2 a3 a4 a5 a6 a7 a8 a9 a10 a11 a12 a13 (fun y0 => k .ret (mkSt changes18_S10r [D.bool y0])) (fun y0 y1 y2 y3 y4 y5 y6 y7 y8 y9 => k (.exit 2) (mkSt changes18_S10e2 [D.sl (.ints .i64 y0), D.int .i64 y1, D.int .i64 y2, D.int .i64 y3, D.int .i64 y4, D.int .i64 y5, D.int .i64 y6, D.int .i64 y7, D.int .i64 y8, D.sl (.strs y9)]))
  | 0, _, _, _, _, _, _, _, _, _, _, _, _, _, _ => rfl
  | n + 1, a0, a1, a2, a3, a4, a5, a6, a7, a8, a9, a10, a11, a12, a13 => by
    have h : (fun a0 a1 a2 a3 a4 a5 a6 a7 a8 a9 a10 a11 a12 a13 => aloop changes18_C (changes18_G R) (changes18_Lam2 R) changes18_S10 changes18_X10 changes18_body10 n [D.sl (.ints .i64 a0), D.int .i64 a1, D.str a2, D.sl (.ints .i32 a3), D.sl (.recs [.int .i64, .int .i64, .bool] a4), D.int .i64 a5, D.int .i64 a6, D.int .i64 a7, D.int .i64 a8, D.int .i64 a9, D.int .i64 a10, D.int .i64 a11, D.int .i64 a12, D.sl (.strs a13)] k) = (fun a0 a1 a2 a3 a4 a5 a6 a7 a8 a9 a10 a11 a12 a13 => changes18_L10 n a0 a1 a2 a3 a4 a5 a6 a7 a8 a9 a10 a11 a12 a13 (fun y0 => k .ret (mkSt changes18_S10r [D.bool y0])) (fun y0 y1 y2 y3 y4 y5 y6 y7 y8 y9 => k (.exit 2) (mkSt changes18_S10e2 [D.sl (.ints .i64 y0), D.int .i64 y1, D.int .i64 y2, D.int .i64 y3, D.int .i64 y4, D.int .i64 y5, D.int .i64 y6, D.int .i64 y7, D.int .i64 y8, D.sl (.strs y9)]))) := by
      funext a0 a1 a2 a3 a4 a5 a6 a7 a8 a9 a10 a11 a12 a13; exact changes18_L10_eq k n a0 a1 a2 a3 a4 a5 a6 a7 a8 a9 a10 a11 a12 a13
    have s : aloop changes18_C (changes18_G R) (changes18_Lam2 R) changes18_S10 changes18_X10 changes18_body10 (n + 1) [D.sl (.ints .i64 a0), D.int .i64 a1, D.str a2, D.sl (.ints .i32 a3), D.sl (.recs [.int .i64, .int .i64, .bool] a4), D.int .i64 a5, D.int .i64 a6, D.int .i64 a7, D.int .i64 a8, D.int .i64 a9, D.int .i64 a10, D.int .i64 a11, D.int .i64 a12, D.sl (.strs a13)] k = changes18_B10 (fun a0 a1 a2 a3 a4 a5 a6 a7 a8 a9 a10 a11 a12 a13 => aloop changes18_C (changes18_G R) (changes18_Lam2 R) changes18_S10 changes18_X10 changes18_body10 n [D.sl (.ints .i64 a0), D.int .i64 a1, D.str a2, D.sl (.ints .i32 a3), D.sl (.recs [.int .i64, .int .i64, .bool] a4), D.int .i64 a5, D.int .i64 a6, D.int .i64 a7, D.int .i64 a8, D.int .i64 a9, D.int .i64 a10, D.int .i64 a11, D.int .i64 a12, D.sl (.strs a13)] k) a0 a1 a2 a3 a4 a5 a6 a7 a8 a9 a10 a11 a12 a13 (fun y0 => k .ret (mkSt changes18_S10r [D.bool y0])) (fun y0 y1 y2 y3 y4 y5 y6 y7 y8 y9 => k (.exit 2) (mkSt changes18_S10e2 [D.sl (.ints .i64 y0), D.int .i64 y1, D.int .i64 y2, D.int .i64 y3, D.int .i64 y4, D.int .i64 y5, D.int .i64 y6, D.int .i64 y7, D.int .i64 y8, D.sl (.strs y9)])) := by kernel_rfl
    rw [s, h]; rfl
noncomputable def changes18_A10 (R : Type) (ds : List D) (k : AExit → St → Option R) : Option R :=
  match ds with
  | [D.sl (.ints .i64 a0), D.int .i64 a1, D.str a2, D.sl (.ints .i32 a3), D.sl (.recs [.int .i64, .int .i64, .bool] a4), D.int .i64 a5, D.int .i64 a6, D.int .i64 a7, D.int .i64 a8, D.int .i64 a9, D.int .i64 a10, D.int .i64 a11, D.int .i64 a12, D.sl (.strs a13)] => changes18_M10 a0 a1 a2 a3 a4 a5 a6 a7 a8 a9 a10 a11 a12 a13 (fun y0 => k .ret (mkSt changes18_S10r [D.bool y0])) (fun y0 y1 y2 y3 y4 y5 y6 y7 y8 y9 => k (.exit 2) (mkSt changes18_S10e2 [D.sl (.ints .i64 y0), D.int .i64 y1, D.int .i64 y2, D.int .i64 y3, D.int .i64 y4, D.int .i64 y5, D.int .i64 y6, D.int .i64 y7, D.int .i64 y8, D.sl (.strs y9)]))
  | _ => none
noncomputable def changes18_Lam3 (R : Type) : Lam R := fun key st k => bif Nat.beq key 10 then (match readSt changes18_S10 st with | some ds => changes18_A10 R ds k | none => none) else changes18_Lam2 R key st k
theorem changes18_A10_ok {R : Type} : ∀ ds k r, changes18_A10 R ds k = some r → ∃ e st', k e st' = some r ∧ QA.Reach changes18_C (.loop changes18_body10) (mkSt changes18_S10 ds) e st' := by
  intro ds k r h
  unfold changes18_A10 at h
  split at h
  · rw [changes18_M10_eq, ← changes18_L10_eq] at h
    refine aloop_ok (C := changes18_C) qOk (changes18_Gok R) ?_ _ _ _ _ h
    rw [show loopsIn changes18_body10 = [changes18_body13] from by kernel_rfl]
    intro b hb
    simp only [List.mem_cons, List.not_mem_nil, or_false] at hb
    subst hb
    exact lam_of (key := 13) (S := changes18_S13) (L := changes18_A13 R) (fun st k => by kernel_rfl) (by kernel_rfl) changes18_A13_ok
  · cases h
noncomputable def changes18_body4 : Code := (findLoop 4 changes18_code).getD .skip
def changes18_S4 : QA.Spec := (⟨[.t 1, .t 5, .c 2 7, .c 2 6, .c 2 5, .c 2 4, .c 2 3, .c 2 2, .c 2 1, .c 2 0], [2], [], [(.t 2, 2, 0)], []⟩ : QA.Spec)
def changes18_S4r : QA.Spec := (⟨[.t 4], [], [], [], []⟩ : QA.Spec)
def changes18_S4e0 : QA.Spec := (⟨[], [], [], [], []⟩ : QA.Spec)
def changes18_X4 : AExit → Option QA.Spec
  | .normal => none
  | .exit j => bif Nat.beq j 0 then some changes18_S4e0 else none
  | .ret => some changes18_S4r
theorem changes18_L4_eq {R : Type} (k : AExit → St → Option R) : ∀ (n : Nat) (a0 : List Int) (a1 : Int) (a2 : Int) (a3 : Int) (a4 : Int) (a5 : Int) (a6 : Int) (a7 : Int) (a8 : Int) (a9 : List Str), aloop changes18_C (changes18_G R) (changes18_Lam3 R) changes18_S4 changes18_X4 changes18_body4 n [D.sl (.ints .i64 a0), D.int .i64 a1, D.int .i64 a2, D.int .i64 a3, D.int .i64 a4, D.int .i64 a5, D.int .i64 a6, D.int .i64 a7, D.int .i64 a8, D.sl (.strs a9)] k = changes18_L4 n a0 a1 a2 a3 a4 a5 a6 a7 a8 a9 (fun y0 => k .ret (mkSt changes18_S4r [D.bool y0])) (k (.exit 0) (mkSt changes18_S4e0 []))
  | 0, _, _, _, _, _, _, _, _, _, _ => rfl
  | n + 1, a0, a1, a2, a3, a4, a5, a6, a7, a8, a9 => by
    have h : (fun a0 a1 a2 a3 a4 a5 a6 a7 a8 a9 => aloop changes18_C (changes18_G R) (changes18_Lam3 R) changes18_S4 changes18_X4 changes18_body4 n [D.sl (.ints .i64 a0), D.int .i64 a1, D.int .i64 a2, D.int .i64 a3, D.int .i64 a4, D.int .i64 a5, D.int .i64 a6, D.int .i64 a7, D.int .i64 a8, D.sl (.strs a9)] k) = (fun a0 a1 a2 a3 a4 a5 a6 a7 a8 a9 => changes18_L4 n a0 a1 a2 a3 a4 a5 a6 a7 a8 a9 (fun y0 => k .ret (mkSt changes18_S4r [D.bool y0])) (k (.exit 0) (mkSt changes18_S4e0 []))) := by
      funext a0 a1 a2 a3 a4 a5 a6 a7 a8 a9; exact changes18_L4_eq k n a0 a1 a2 a3 a4 a5 a6 a7 a8 a9
    have s : aloop changes18_C (changes18_G R) (changes18_Lam3 R) changes18_S4 changes18_X4 changes18_body4 (n + 1) [D.sl (.ints .i64 a0), D.int .i64 a1, D.int .i64 a2, D.int .i64 a3, D.int .i64 a4, D.int .i64 a5, D.int .i64 a6, D.int .i64 a7, D.int .i64 a8, D.sl (.strs a9)] k = changes18_B4 (fun a0 a1 a2 a3 a4 a5 a6 a7 a8 a9 => aloop changes18_C (changes18_G R) (changes18_Lam3 R) changes18_S4 changes18_X4 changes18_body4 n [D.sl (.ints .i64 a0), D.int .i64 a1, D.int .i64 a2, D.int .i64 a3, D.int .i64 a4, D.int .i64 a5, D.int .i64 a6, D.int .i64 a7, D.int .i64 a8, D.sl (.strs a9)] k) a0 a1 a2 a3 a4 a5 a6 a7 a8 a9 (fun y0 => k .ret (mkSt changes18_S4r [D.bool y0])) (k (.exit 0) (mkSt changes18_S4e0 [])) := by kernel_rfl
    rw [s, h]; rfl
noncomputable def changes18_A4 (R : Type) (ds : List D) (k : AExit → St → Option R) : Option R :=
  match ds with
  | [D.sl (.ints .i64 a0), D.int .i64 a1, D.int .i64 a2, D.int .i64 a3, D.int .i64 a4, D.int .i64 a5, D.int .i64 a6, D.int .i64 a7, D.int .i64 a8, D.sl (.strs a9)] => changes18_M4 a0 a1 a2 a3 a4 a5 a6 a7 a8 a9 (fun y0 => k .ret (mkSt changes18_S4r [D.bool y0])) (k (.exit 0) (mkSt changes18_S4e0 []))
  | _ => none
noncomputable def changes18_Lam4 (R : Type) : Lam R := fun key st k => bif Nat.beq key 4 then (match readSt changes18_S4 st with | some ds => changes18_A4 R ds k | none => none) else changes18_Lam3 R key st k
theorem changes18_A4_ok {R : Type} : ∀ ds k r, changes18_A4 R ds k = some r → ∃ e st', k e st' = some r ∧ QA.Reach changes18_C (.loop changes18_body4) (mkSt changes18_S4 ds) e st' := by
  intro ds k r h
  unfold changes18_A4 at h
  split at h
  · rw [changes18_M4_eq, ← changes18_L4_eq] at h
    refine aloop_ok (C := changes18_C) qOk (changes18_Gok R) ?_ _ _ _ _ h
    rw [show loopsIn changes18_body4 = [changes18_body10] from by kernel_rfl]
    intro b hb
    simp only [List.mem_cons, List.not_mem_nil, or_false] at hb
    subst hb
    exact lam_of (key := 10) (S := changes18_S10) (L := changes18_A10 R) (fun st k => by kernel_rfl) (by kernel_rfl) changes18_A10_ok
  · cases h
noncomputable def changes18_T {R : Type} (q0 : List Str) (x1 : Int) (x2 : Int) (x3 : Int) (x4 : Int) (x5 : Int) (x6 : Int) (x7 : Int) (l8 : List Int) (k : Bool → Option R) : Option R :=
  lawHeavy10_F q0 x1 x2 x3 x4 x5 x6 x7 (fun b9 =>
  (bif b9 then
   k Bool.true
  else
   changes18_M4 l8 ((0 : Int)) x7 x6 x5 x4 x3 x2 x1 q0
    (fun b134 =>
    k b134)
    (
    wakes18_F (fun b135 =>
     k b135))))
noncomputable def changes18_F {R : Type} : List Str → Int → Int → Int → Int → Int → Int → Int → List Int → (Bool → Option R) → Option R := lock changes18_T
theorem changes18_F_T {R : Type} : @changes18_F R = changes18_T := lock_eq _
theorem changes18_F_eq {R : Type} (q0 : List Str) (x1 : Int) (x2 : Int) (x3 : Int) (x4 : Int) (x5 : Int) (x6 : Int) (x7 : Int) (l8 : List Int) (k : D → Option R) : afun qP [] (changes18_G R) (changes18_Lam4 R) Tryd.f31 [D.agg [D.sl (.strs q0), D.int .i64 x1, D.int .i64 x2, D.int .i64 x3, D.int .i64 x4, D.int .i64 x5, D.int .i64 x6, D.int .i64 x7], D.sl (.ints .i64 l8)] k = changes18_T q0 x1 x2 x3 x4 x5 x6 x7 l8 (fun y0 => k (D.bool y0)) := by kernel_rfl
noncomputable def changes18_abs (R : Type) (ds : List D) (k : D → Option R) : Option R :=
  match ds with
  | [D.agg [D.sl (.strs q0), D.int .i64 x1, D.int .i64 x2, D.int .i64 x3, D.int .i64 x4, D.int .i64 x5, D.int .i64 x6, D.int .i64 x7], D.sl (.ints .i64 l8)] => changes18_F q0 x1 x2 x3 x4 x5 x6 x7 l8 (fun y0 => k (D.bool y0))
  | _ => none
theorem changes18_ok : FnOk qP 31 changes18_abs := by
  intro R ds k r h
  unfold changes18_abs at h
  split at h
  · rw [changes18_F_T, ← changes18_F_eq] at h
    refine afun_ok (P := qP) (c := changes18_code) qOk (changes18_Gok R) Tryd.func31 (by kernel_rfl) (by kernel_rfl) ?_ ?_ (by kernel_rfl) h
    rotate_left
    · exact Nat.le_of_ble_eq_true (by kernel_rfl)
    rw [show loopsIn changes18_code = [changes18_body4] from by kernel_rfl]
    intro b hb
    simp only [List.mem_cons, List.not_mem_nil, or_false] at hb
    subst hb
    exact lam_of (key := 4) (S := changes18_S4) (L := changes18_A4 R) (fun st k => by kernel_rfl) (by kernel_rfl) changes18_A4_ok
  · cases h

end Go.Proofs.YtleoffdjdgbanaaDoor
