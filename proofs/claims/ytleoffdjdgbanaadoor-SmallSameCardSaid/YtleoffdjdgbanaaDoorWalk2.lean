/- Functions as the model has them, and plain functions with the same answers: printed by a program of mine. -/
import Derived.Test.YtleoffdjdgbanaaDoorWalk1
set_option linter.unusedVariables false
set_option linter.unusedSimpArgs false
set_option linter.unusedVariables false
set_option linter.unusedSimpArgs false
set_option maxRecDepth 1000000
namespace Go.Proofs.YtleoffdjdgbanaaDoor
open Go Go.QA Go.Proofs

/-! ### refSmallA: function 23 -/

noncomputable def refSmallA_C : Cfg := ⟨qP, Tryd.f23.ntmps, []⟩
noncomputable def refSmallA_code : Code := Tryd.f23.body.getD .skip
noncomputable def refSmallA_G (R : Type) : Orc R := fun f args k => bif Nat.beq f 46 then refBegin_abs R args k else (fun f args k => bif Nat.beq f 37 then refEnd_abs R args k else (fun f args k => bif Nat.beq f 47 then refRest_abs R args k else (fun f args k => bif Nat.beq f 48 then made18_abs R args k else (fun f args k => bif Nat.beq f 49 then Turned18_abs R args k else (fun f args k => bif Nat.beq f 50 then refClass_abs R args k else (fun _ _ _ => none) f args k) f args k) f args k) f args k) f args k) f args k
theorem refSmallA_Gok (R : Type) : OrcOk qP (refSmallA_G R) := (orc_cons refBegin_ok (orc_cons refEnd_ok (orc_cons refRest_ok (orc_cons made18_ok (orc_cons Turned18_ok (orc_cons refClass_ok orc_nil))))))
noncomputable def refSmallA_B24 {R : Type} (rec : Str → Int → List Int → Int → Int → Bool → Str → Int → Str → Int → Int → Option R) (s67 : Str) (x68 : Int) (l69 : List Int) (x70 : Int) (x71 : Int) (b72 : Bool) (s73 : Str) (x74 : Int) (s75 : Str) (x76 : Int) (x77 : Int) (ke0 : Str → List Int → Int → Bool → Str → Int → Str → Int → Int → Option R) : Option R :=
  (bif (Decidable.decide (x71 < x70)) then
  (bif (Decidable.decide ((0 : Int) ≤ x71) && Decidable.decide (x71 < (↑(List.length l69) : Int))) then
   none
  else
   none)
 else
  ke0 s67 l69 x70 b72 s73 x74 s75 x76 x77)
noncomputable def refSmallA_L24 {R : Type} : Nat → Str → Int → List Int → Int → Int → Bool → Str → Int → Str → Int → Int → (Str → List Int → Int → Bool → Str → Int → Str → Int → Int → Option R) → Option R
  | 0, _, _, _, _, _, _, _, _, _, _, _, _ => none
  | n + 1, s67, x68, l69, x70, x71, b72, s73, x74, s75, x76, x77, ke0 => refSmallA_B24 (fun s67 x68 l69 x70 x71 b72 s73 x74 s75 x76 x77 => refSmallA_L24 n s67 x68 l69 x70 x71 b72 s73 x74 s75 x76 x77 ke0) s67 x68 l69 x70 x71 b72 s73 x74 s75 x76 x77 ke0
noncomputable def refSmallA_M24 {R : Type} : Str → Int → List Int → Int → Int → Bool → Str → Int → Str → Int → Int → (Str → List Int → Int → Bool → Str → Int → Str → Int → Int → Option R) → Option R := lock (refSmallA_L24 4611686018427387904)
theorem refSmallA_M24_eq {R : Type} : @refSmallA_M24 R = refSmallA_L24 4611686018427387904 := lock_eq _
noncomputable def refSmallA_B32 {R : Type} (rec : Str → List Int → Int → Int → Bool → Str → Int → Str → Int → Int → Option R) (s94 : Str) (l95 : List Int) (x96 : Int) (x97 : Int) (b98 : Bool) (s99 : Str) (x100 : Int) (s101 : Str) (x102 : Int) (x103 : Int) (ke0 : Str → List Int → Int → Bool → Str → Int → Str → Int → Int → Option R) : Option R :=
  (bif (Decidable.decide (x97 < x96)) then
  (bif (Decidable.decide ((0 : Int) ≤ x97) && Decidable.decide (x97 < (↑(List.length l95) : Int))) then
   Turned18_F (List.getD l95 (Int.toNat x97) (0 : Int)) ((126 : Int)) (fun x104 =>
    (bif (Decidable.decide ((0 : Int) ≤ x97) && Decidable.decide (x97 < (↑(List.length l95) : Int))) then
     none
    else
     none))
  else
   none)
 else
  ke0 s94 l95 x96 b98 s99 x100 s101 x102 x103)
noncomputable def refSmallA_L32 {R : Type} : Nat → Str → List Int → Int → Int → Bool → Str → Int → Str → Int → Int → (Str → List Int → Int → Bool → Str → Int → Str → Int → Int → Option R) → Option R
  | 0, _, _, _, _, _, _, _, _, _, _, _ => none
  | n + 1, s94, l95, x96, x97, b98, s99, x100, s101, x102, x103, ke0 => refSmallA_B32 (fun s94 l95 x96 x97 b98 s99 x100 s101 x102 x103 => refSmallA_L32 n s94 l95 x96 x97 b98 s99 x100 s101 x102 x103 ke0) s94 l95 x96 x97 b98 s99 x100 s101 x102 x103 ke0
noncomputable def refSmallA_M32 {R : Type} : Str → List Int → Int → Int → Bool → Str → Int → Str → Int → Int → (Str → List Int → Int → Bool → Str → Int → Str → Int → Int → Option R) → Option R := lock (refSmallA_L32 4611686018427387904)
theorem refSmallA_M32_eq {R : Type} : @refSmallA_M32 R = refSmallA_L32 4611686018427387904 := lock_eq _
noncomputable def refSmallA_B44 {R : Type} (rec : Str → Int → Int → List Int → Int → Int → Int → Bool → Str → Int → Str → Int → Int → Option R) (s135 : Str) (x136 : Int) (x137 : Int) (l138 : List Int) (x139 : Int) (x140 : Int) (x141 : Int) (b142 : Bool) (s143 : Str) (x144 : Int) (s145 : Str) (x146 : Int) (x147 : Int) (ke0 : Str → Int → Int → List Int → Int → Int → Int → Bool → Str → Int → Str → Int → Int → Option R) : Option R :=
  (bif (Decidable.decide (x141 < (↑(List.length l138) : Int))) then
  (bif (Decidable.decide ((0 : Int) ≤ x141) && Decidable.decide (x141 < (↑(List.length l138) : Int))) then
   refClass_F (Go.IntKind.wrap Go.IntKind.i64 (List.getD l138 (Int.toNat x141) (0 : Int))) (fun x148 =>
    (bif (x148 == (0 : Int)) then
     rec s135 x136 x137 l138 x139 x140 (Go.IntKind.wrap Go.IntKind.i64 (x141 + (1 : Int))) b142 s143 x144 s145 x146 x147
    else
     ke0 s135 x136 x137 l138 x139 x140 x141 b142 s143 x144 s145 x146 x147))
  else
   none)
 else
  ke0 s135 x136 x137 l138 x139 x140 x141 b142 s143 x144 s145 x146 x147)
noncomputable def refSmallA_L44 {R : Type} : Nat → Str → Int → Int → List Int → Int → Int → Int → Bool → Str → Int → Str → Int → Int → (Str → Int → Int → List Int → Int → Int → Int → Bool → Str → Int → Str → Int → Int → Option R) → Option R
  | 0, _, _, _, _, _, _, _, _, _, _, _, _, _, _ => none
  | n + 1, s135, x136, x137, l138, x139, x140, x141, b142, s143, x144, s145, x146, x147, ke0 => refSmallA_B44 (fun s135 x136 x137 l138 x139 x140 x141 b142 s143 x144 s145 x146 x147 => refSmallA_L44 n s135 x136 x137 l138 x139 x140 x141 b142 s143 x144 s145 x146 x147 ke0) s135 x136 x137 l138 x139 x140 x141 b142 s143 x144 s145 x146 x147 ke0
noncomputable def refSmallA_M44 {R : Type} : Str → Int → Int → List Int → Int → Int → Int → Bool → Str → Int → Str → Int → Int → (Str → Int → Int → List Int → Int → Int → Int → Bool → Str → Int → Str → Int → Int → Option R) → Option R := lock (refSmallA_L44 4611686018427387904)
theorem refSmallA_M44_eq {R : Type} : @refSmallA_M44 R = refSmallA_L44 4611686018427387904 := lock_eq _
noncomputable def refSmallA_B38 {R : Type} (rec : Str → Int → Int → List Int → Int → Int → Bool → Str → Int → Str → Int → Int → Option R) (s122 : Str) (x123 : Int) (x124 : Int) (l125 : List Int) (x126 : Int) (x127 : Int) (b128 : Bool) (s129 : Str) (x130 : Int) (s131 : Str) (x132 : Int) (x133 : Int) (ke0 : Int → Bool → Str → Int → Str → Int → Int → Option R) (ke1 : Str → List Int → Int → Bool → Str → Int → Str → Int → Int → Option R) : Option R :=
  (bif (Decidable.decide (x127 < Go.QA.mm Bool.true (1 : Int) (Go.IntKind.wrap Go.IntKind.i64 (x124 - (1 : Int))))) then
  refEnd_F l125 x123 (fun x134 =>
   (bif (x134 == (↑(List.length l125) : Int)) then
    ke0 ((6 : Int)) Bool.false [] ((0 : Int)) [] ((0 : Int)) ((0 : Int))
   else
    refSmallA_M44 s122 x123 x124 l125 x134 x127 (Go.IntKind.wrap Go.IntKind.i64 (x134 + (1 : Int))) b128 s129 x130 s131 x132 x133
     (fun s149 x150 x151 l152 x153 x154 x155 b156 s157 x158 s159 x160 x161 =>
     refBegin_F l152 x150 (fun x162 =>
      (bif (Decidable.decide ((0 : Int) ≤ x153) && Decidable.decide (x153 ≤ (↑(List.length l152) : Int))) then
       (bif (Decidable.decide ((0 : Int) ≤ x162) && Decidable.decide (x162 ≤ (↑(Int.toNat x153) : Int))) then
        (bif (Go.QA.strOf (List.drop (Int.toNat x162) (List.take (Int.toNat x153) l152)) == []) then
         (bif (Decidable.decide ((0 : Int) ≤ x153) && Decidable.decide (x153 ≤ (↑(List.length l152) : Int))) then
          (bif (Decidable.decide (List.length (Go.QA.strOf (List.drop (0 : Nat) (List.take (Int.toNat x153) l152))) + (0 : Nat) ≤ (9223372036854775807 : Nat))) then
           (bif (Decidable.decide ((0 : Int) ≤ x155) && Decidable.decide (x155 ≤ (↑(List.length l152) : Int))) then
            (bif (Decidable.decide (List.length (Go.QA.strOf (List.drop (0 : Nat) (List.take (Int.toNat x153) l152)) ++ []) + List.length (Go.QA.strOf (List.drop (Int.toNat x155) (List.take (List.length l152) l152))) ≤ (9223372036854775807 : Nat))) then
             refRest_F (Go.QA.runesOf (Go.QA.strOf (List.drop (0 : Nat) (List.take (Int.toNat x153) l152)) ++ [] ++ Go.QA.strOf (List.drop (Int.toNat x155) (List.take (List.length l152) l152)))) x153 (fun x163 =>
              rec s149 x150 x151 (Go.QA.runesOf (Go.QA.strOf (List.drop (0 : Nat) (List.take (Int.toNat x153) l152)) ++ [] ++ Go.QA.strOf (List.drop (Int.toNat x155) (List.take (List.length l152) l152)))) x163 (Go.IntKind.wrap Go.IntKind.i64 (x154 + (1 : Int))) b156 s157 x158 s159 x160 x161)
            else
             none)
           else
            none)
          else
           none)
         else
          none)
        else
         (bif (Decidable.decide ((0 : Int) ≤ Go.IntKind.wrap Go.IntKind.i64 (x153 - (1 : Int))) && Decidable.decide (Go.IntKind.wrap Go.IntKind.i64 (x153 - (1 : Int)) < (↑(List.length l152) : Int))) then
          refClass_F (Go.IntKind.wrap Go.IntKind.i64 (List.getD l152 (Int.toNat (Go.IntKind.wrap Go.IntKind.i64 (x153 - (1 : Int)))) (0 : Int))) (fun x164 =>
           (bif (x164 == (0 : Int)) then
            (bif (Decidable.decide ((0 : Int) ≤ x153) && Decidable.decide (x153 ≤ (↑(List.length l152) : Int))) then
             (bif (Decidable.decide (List.length (Go.QA.strOf (List.drop (0 : Nat) (List.take (Int.toNat x153) l152))) + (0 : Nat) ≤ (9223372036854775807 : Nat))) then
              (bif (Decidable.decide ((0 : Int) ≤ x155) && Decidable.decide (x155 ≤ (↑(List.length l152) : Int))) then
               (bif (Decidable.decide (List.length (Go.QA.strOf (List.drop (0 : Nat) (List.take (Int.toNat x153) l152)) ++ []) + List.length (Go.QA.strOf (List.drop (Int.toNat x155) (List.take (List.length l152) l152))) ≤ (9223372036854775807 : Nat))) then
                refRest_F (Go.QA.runesOf (Go.QA.strOf (List.drop (0 : Nat) (List.take (Int.toNat x153) l152)) ++ [] ++ Go.QA.strOf (List.drop (Int.toNat x155) (List.take (List.length l152) l152)))) x153 (fun x165 =>
                 rec s149 x150 x151 (Go.QA.runesOf (Go.QA.strOf (List.drop (0 : Nat) (List.take (Int.toNat x153) l152)) ++ [] ++ Go.QA.strOf (List.drop (Int.toNat x155) (List.take (List.length l152) l152)))) x165 (Go.IntKind.wrap Go.IntKind.i64 (x154 + (1 : Int))) b156 s157 x158 s159 x160 x161)
               else
                none)
              else
               none)
             else
              none)
            else
             none)
           else
            (bif (x155 == (↑(List.length l152) : Int)) then
             (bif (Decidable.decide ((0 : Int) ≤ x153) && Decidable.decide (x153 ≤ (↑(List.length l152) : Int))) then
              (bif (Decidable.decide (List.length (Go.QA.strOf (List.drop (0 : Nat) (List.take (Int.toNat x153) l152))) + (0 : Nat) ≤ (9223372036854775807 : Nat))) then
               (bif (Decidable.decide ((0 : Int) ≤ x155) && Decidable.decide (x155 ≤ (↑(List.length l152) : Int))) then
                (bif (Decidable.decide (List.length (Go.QA.strOf (List.drop (0 : Nat) (List.take (Int.toNat x153) l152)) ++ []) + List.length (Go.QA.strOf (List.drop (Int.toNat x155) (List.take (List.length l152) l152))) ≤ (9223372036854775807 : Nat))) then
                 refRest_F (Go.QA.runesOf (Go.QA.strOf (List.drop (0 : Nat) (List.take (Int.toNat x153) l152)) ++ [] ++ Go.QA.strOf (List.drop (Int.toNat x155) (List.take (List.length l152) l152)))) x153 (fun x166 =>
                  rec s149 x150 x151 (Go.QA.runesOf (Go.QA.strOf (List.drop (0 : Nat) (List.take (Int.toNat x153) l152)) ++ [] ++ Go.QA.strOf (List.drop (Int.toNat x155) (List.take (List.length l152) l152)))) x166 (Go.IntKind.wrap Go.IntKind.i64 (x154 + (1 : Int))) b156 s157 x158 s159 x160 x161)
                else
                 none)
               else
                none)
              else
               none)
             else
              none)
            else
             (bif (Decidable.decide ((0 : Int) ≤ x155) && Decidable.decide (x155 < (↑(List.length l152) : Int))) then
              (bif (List.getD l152 (Int.toNat x155) (0 : Int) == (10 : Int)) then
               (bif (Decidable.decide ((0 : Int) ≤ x153) && Decidable.decide (x153 ≤ (↑(List.length l152) : Int))) then
                (bif (Decidable.decide (List.length (Go.QA.strOf (List.drop (0 : Nat) (List.take (Int.toNat x153) l152))) + (0 : Nat) ≤ (9223372036854775807 : Nat))) then
                 (bif (Decidable.decide ((0 : Int) ≤ x155) && Decidable.decide (x155 ≤ (↑(List.length l152) : Int))) then
                  (bif (Decidable.decide (List.length (Go.QA.strOf (List.drop (0 : Nat) (List.take (Int.toNat x153) l152)) ++ []) + List.length (Go.QA.strOf (List.drop (Int.toNat x155) (List.take (List.length l152) l152))) ≤ (9223372036854775807 : Nat))) then
                   refRest_F (Go.QA.runesOf (Go.QA.strOf (List.drop (0 : Nat) (List.take (Int.toNat x153) l152)) ++ [] ++ Go.QA.strOf (List.drop (Int.toNat x155) (List.take (List.length l152) l152)))) x153 (fun x167 =>
                    rec s149 x150 x151 (Go.QA.runesOf (Go.QA.strOf (List.drop (0 : Nat) (List.take (Int.toNat x153) l152)) ++ [] ++ Go.QA.strOf (List.drop (Int.toNat x155) (List.take (List.length l152) l152)))) x167 (Go.IntKind.wrap Go.IntKind.i64 (x154 + (1 : Int))) b156 s157 x158 s159 x160 x161)
                  else
                   none)
                 else
                  none)
                else
                 none)
               else
                none)
              else
               (bif (Decidable.decide ((0 : Int) ≤ x155) && Decidable.decide (x155 < (↑(List.length l152) : Int))) then
                (bif (List.getD l152 (Int.toNat x155) (0 : Int) == (41 : Int)) then
                 (bif (Decidable.decide ((0 : Int) ≤ x153) && Decidable.decide (x153 ≤ (↑(List.length l152) : Int))) then
                  (bif (Decidable.decide (List.length (Go.QA.strOf (List.drop (0 : Nat) (List.take (Int.toNat x153) l152))) + (0 : Nat) ≤ (9223372036854775807 : Nat))) then
                   (bif (Decidable.decide ((0 : Int) ≤ x155) && Decidable.decide (x155 ≤ (↑(List.length l152) : Int))) then
                    (bif (Decidable.decide (List.length (Go.QA.strOf (List.drop (0 : Nat) (List.take (Int.toNat x153) l152)) ++ []) + List.length (Go.QA.strOf (List.drop (Int.toNat x155) (List.take (List.length l152) l152))) ≤ (9223372036854775807 : Nat))) then
                     refRest_F (Go.QA.runesOf (Go.QA.strOf (List.drop (0 : Nat) (List.take (Int.toNat x153) l152)) ++ [] ++ Go.QA.strOf (List.drop (Int.toNat x155) (List.take (List.length l152) l152)))) x153 (fun x168 =>
                      rec s149 x150 x151 (Go.QA.runesOf (Go.QA.strOf (List.drop (0 : Nat) (List.take (Int.toNat x153) l152)) ++ [] ++ Go.QA.strOf (List.drop (Int.toNat x155) (List.take (List.length l152) l152)))) x168 (Go.IntKind.wrap Go.IntKind.i64 (x154 + (1 : Int))) b156 s157 x158 s159 x160 x161)
                    else
                     none)
                   else
                    none)
                  else
                   none)
                 else
                  none)
                else
                 (bif (Decidable.decide ((0 : Int) ≤ x153) && Decidable.decide (x153 ≤ (↑(List.length l152) : Int))) then
                  (bif (Decidable.decide (List.length (Go.QA.strOf (List.drop (0 : Nat) (List.take (Int.toNat x153) l152))) + List.length [(32 : UInt8)] ≤ (9223372036854775807 : Nat))) then
                   (bif (Decidable.decide ((0 : Int) ≤ x155) && Decidable.decide (x155 ≤ (↑(List.length l152) : Int))) then
                    (bif (Decidable.decide (List.length (Go.QA.strOf (List.drop (0 : Nat) (List.take (Int.toNat x153) l152)) ++ [(32 : UInt8)]) + List.length (Go.QA.strOf (List.drop (Int.toNat x155) (List.take (List.length l152) l152))) ≤ (9223372036854775807 : Nat))) then
                     refRest_F (Go.QA.runesOf (Go.QA.strOf (List.drop (0 : Nat) (List.take (Int.toNat x153) l152)) ++ [(32 : UInt8)] ++ Go.QA.strOf (List.drop (Int.toNat x155) (List.take (List.length l152) l152)))) x153 (fun x169 =>
                      rec s149 x150 x151 (Go.QA.runesOf (Go.QA.strOf (List.drop (0 : Nat) (List.take (Int.toNat x153) l152)) ++ [(32 : UInt8)] ++ Go.QA.strOf (List.drop (Int.toNat x155) (List.take (List.length l152) l152)))) x169 (Go.IntKind.wrap Go.IntKind.i64 (x154 + (1 : Int))) b156 s157 x158 s159 x160 x161)
                    else
                     none)
                   else
                    none)
                  else
                   none)
                 else
                  none))
               else
                none))
             else
              none))))
         else
          none))
       else
        none)
      else
       none)))))
 else
  ke1 s122 l125 x126 b128 s129 x130 s131 x132 x133)
noncomputable def refSmallA_L38 {R : Type} : Nat → Str → Int → Int → List Int → Int → Int → Bool → Str → Int → Str → Int → Int → (Int → Bool → Str → Int → Str → Int → Int → Option R) → (Str → List Int → Int → Bool → Str → Int → Str → Int → Int → Option R) → Option R
  | 0, _, _, _, _, _, _, _, _, _, _, _, _, _, _ => none
  | n + 1, s122, x123, x124, l125, x126, x127, b128, s129, x130, s131, x132, x133, ke0, ke1 => refSmallA_B38 (fun s122 x123 x124 l125 x126 x127 b128 s129 x130 s131 x132 x133 => refSmallA_L38 n s122 x123 x124 l125 x126 x127 b128 s129 x130 s131 x132 x133 ke0 ke1) s122 x123 x124 l125 x126 x127 b128 s129 x130 s131 x132 x133 ke0 ke1
noncomputable def refSmallA_M38 {R : Type} : Str → Int → Int → List Int → Int → Int → Bool → Str → Int → Str → Int → Int → (Int → Bool → Str → Int → Str → Int → Int → Option R) → (Str → List Int → Int → Bool → Str → Int → Str → Int → Int → Option R) → Option R := lock (refSmallA_L38 4611686018427387904)
theorem refSmallA_M38_eq {R : Type} : @refSmallA_M38 R = refSmallA_L38 4611686018427387904 := lock_eq _
noncomputable def refSmallA_Lam0 (R : Type) : Lam R := fun _ _ _ => none
noncomputable def refSmallA_body24 : Code := (findLoop 24 refSmallA_code).getD .skip
def refSmallA_S24 : QA.Spec := (⟨[.t 0, .t 3, .t 12, .t 15, .t 22, .c 10 5, .c 10 4, .c 10 3, .c 10 2, .c 10 1, .c 10 0], [10], [], [(.t 10, 10, 0)], []⟩ : QA.Spec)
def refSmallA_S24e1 : QA.Spec := (⟨[.t 0, .t 12, .t 15, .c 10 5, .c 10 4, .c 10 3, .c 10 2, .c 10 1, .c 10 0], [10], [], [(.t 10, 10, 0)], []⟩ : QA.Spec)
def refSmallA_X24 : AExit → Option QA.Spec
  | .normal => none
  | .exit j => bif Nat.beq j 1 then some refSmallA_S24e1 else none
  | .ret => none
theorem refSmallA_L24_eq {R : Type} (k : AExit → St → Option R) : ∀ (n : Nat) (a0 : Str) (a1 : Int) (a2 : List Int) (a3 : Int) (a4 : Int) (a5 : Bool) (a6 : Str) (a7 : Int) (a8 : Str) (a9 : Int) (a10 : Int), aloop refSmallA_C (refSmallA_G R) (refSmallA_Lam0 R) refSmallA_S24 refSmallA_X24 refSmallA_body24 n [D.str a0, D.int .i64 a1, D.sl (.ints .i32 a2), D.int .i64 a3, D.int .i64 a4, D.bool a5, D.str a6, D.int .i64 a7, D.str a8, D.int .i64 a9, D.int .i64 a10] k = refSmallA_L24 n a0 a1 a2 a3 a4 a5 a6 a7 a8 a9 a10 (fun y0 y1 y2 y3 y4 y5 y6 y7 y8 => k (.exit 1) (mkSt refSmallA_S24e1 [D.str y0, D.sl (.ints .i32 y1), D.int .i64 y2, D.bool y3, D.str y4, D.int .i64 y5, D.str y6, D.int .i64 y7, D.int .i64 y8]))
  | 0, _, _, _, _, _, _, _, _, _, _, _ => rfl
  | n + 1, a0, a1, a2, a3, a4, a5, a6, a7, a8, a9, a10 => by
    have h : (fun a0 a1 a2 a3 a4 a5 a6 a7 a8 a9 a10 => aloop refSmallA_C (refSmallA_G R) (refSmallA_Lam0 R) refSmallA_S24 refSmallA_X24 refSmallA_body24 n [D.str a0, D.int .i64 a1, D.sl (.ints .i32 a2), D.int .i64 a3, D.int .i64 a4, D.bool a5, D.str a6, D.int .i64 a7, D.str a8, D.int .i64 a9, D.int .i64 a10] k) = (fun a0 a1 a2 a3 a4 a5 a6 a7 a8 a9 a10 => refSmallA_L24 n a0 a1 a2 a3 a4 a5 a6 a7 a8 a9 a10 (fun y0 y1 y2 y3 y4 y5 y6 y7 y8 => k (.exit 1) (mkSt refSmallA_S24e1 [D.str y0, D.sl (.ints .i32 y1), D.int .i64 y2, D.bool y3, D.str y4, D.int .i64 y5, D.str y6, D.int .i64 y7, D.int .i64 y8]))) := by
      funext a0 a1 a2 a3 a4 a5 a6 a7 a8 a9 a10; exact refSmallA_L24_eq k n a0 a1 a2 a3 a4 a5 a6 a7 a8 a9 a10
    have s : aloop refSmallA_C (refSmallA_G R) (refSmallA_Lam0 R) refSmallA_S24 refSmallA_X24 refSmallA_body24 (n + 1) [D.str a0, D.int .i64 a1, D.sl (.ints .i32 a2), D.int .i64 a3, D.int .i64 a4, D.bool a5, D.str a6, D.int .i64 a7, D.str a8, D.int .i64 a9, D.int .i64 a10] k = refSmallA_B24 (fun a0 a1 a2 a3 a4 a5 a6 a7 a8 a9 a10 => aloop refSmallA_C (refSmallA_G R) (refSmallA_Lam0 R) refSmallA_S24 refSmallA_X24 refSmallA_body24 n [D.str a0, D.int .i64 a1, D.sl (.ints .i32 a2), D.int .i64 a3, D.int .i64 a4, D.bool a5, D.str a6, D.int .i64 a7, D.str a8, D.int .i64 a9, D.int .i64 a10] k) a0 a1 a2 a3 a4 a5 a6 a7 a8 a9 a10 (fun y0 y1 y2 y3 y4 y5 y6 y7 y8 => k (.exit 1) (mkSt refSmallA_S24e1 [D.str y0, D.sl (.ints .i32 y1), D.int .i64 y2, D.bool y3, D.str y4, D.int .i64 y5, D.str y6, D.int .i64 y7, D.int .i64 y8])) := by kernel_rfl
    rw [s, h]; rfl
noncomputable def refSmallA_A24 (R : Type) (ds : List D) (k : AExit → St → Option R) : Option R :=
  match ds with
  | [D.str a0, D.int .i64 a1, D.sl (.ints .i32 a2), D.int .i64 a3, D.int .i64 a4, D.bool a5, D.str a6, D.int .i64 a7, D.str a8, D.int .i64 a9, D.int .i64 a10] => refSmallA_M24 a0 a1 a2 a3 a4 a5 a6 a7 a8 a9 a10 (fun y0 y1 y2 y3 y4 y5 y6 y7 y8 => k (.exit 1) (mkSt refSmallA_S24e1 [D.str y0, D.sl (.ints .i32 y1), D.int .i64 y2, D.bool y3, D.str y4, D.int .i64 y5, D.str y6, D.int .i64 y7, D.int .i64 y8]))
  | _ => none
noncomputable def refSmallA_Lam1 (R : Type) : Lam R := fun key st k => bif Nat.beq key 24 then (match readSt refSmallA_S24 st with | some ds => refSmallA_A24 R ds k | none => none) else refSmallA_Lam0 R key st k
theorem refSmallA_A24_ok {R : Type} : ∀ ds k r, refSmallA_A24 R ds k = some r → ∃ e st', k e st' = some r ∧ QA.Reach refSmallA_C (.loop refSmallA_body24) (mkSt refSmallA_S24 ds) e st' := by
  intro ds k r h
  unfold refSmallA_A24 at h
  split at h
  · rw [refSmallA_M24_eq, ← refSmallA_L24_eq] at h
    refine aloop_ok (C := refSmallA_C) qOk (refSmallA_Gok R) ?_ _ _ _ _ h
    rw [show loopsIn refSmallA_body24 = [] from by kernel_rfl]
    intro b hb
    cases hb
  · cases h
noncomputable def refSmallA_body32 : Code := (findLoop 32 refSmallA_code).getD .skip
def refSmallA_S32 : QA.Spec := (⟨[.t 0, .t 12, .t 15, .t 23, .c 10 5, .c 10 4, .c 10 3, .c 10 2, .c 10 1, .c 10 0], [10], [], [(.t 10, 10, 0)], []⟩ : QA.Spec)
def refSmallA_S32e3 : QA.Spec := (⟨[.t 0, .t 12, .t 15, .c 10 5, .c 10 4, .c 10 3, .c 10 2, .c 10 1, .c 10 0], [10], [], [(.t 10, 10, 0)], []⟩ : QA.Spec)
def refSmallA_X32 : AExit → Option QA.Spec
  | .normal => none
  | .exit j => bif Nat.beq j 3 then some refSmallA_S32e3 else none
  | .ret => none
theorem refSmallA_L32_eq {R : Type} (k : AExit → St → Option R) : ∀ (n : Nat) (a0 : Str) (a1 : List Int) (a2 : Int) (a3 : Int) (a4 : Bool) (a5 : Str) (a6 : Int) (a7 : Str) (a8 : Int) (a9 : Int), aloop refSmallA_C (refSmallA_G R) (refSmallA_Lam1 R) refSmallA_S32 refSmallA_X32 refSmallA_body32 n [D.str a0, D.sl (.ints .i32 a1), D.int .i64 a2, D.int .i64 a3, D.bool a4, D.str a5, D.int .i64 a6, D.str a7, D.int .i64 a8, D.int .i64 a9] k = refSmallA_L32 n a0 a1 a2 a3 a4 a5 a6 a7 a8 a9 (fun y0 y1 y2 y3 y4 y5 y6 y7 y8 => k (.exit 3) (mkSt refSmallA_S32e3 [D.str y0, D.sl (.ints .i32 y1), D.int .i64 y2, D.bool y3, D.str y4, D.int .i64 y5, D.str y6, D.int .i64 y7, D.int .i64 y8]))
  | 0, _, _, _, _, _, _, _, _, _, _ => rfl
  | n + 1, a0, a1, a2, a3, a4, a5, a6, a7, a8, a9 => by
    have h : (fun a0 a1 a2 a3 a4 a5 a6 a7 a8 a9 => aloop refSmallA_C (refSmallA_G R) (refSmallA_Lam1 R) refSmallA_S32 refSmallA_X32 refSmallA_body32 n [D.str a0, D.sl (.ints .i32 a1), D.int .i64 a2, D.int .i64 a3, D.bool a4, D.str a5, D.int .i64 a6, D.str a7, D.int .i64 a8, D.int .i64 a9] k) = (fun a0 a1 a2 a3 a4 a5 a6 a7 a8 a9 => refSmallA_L32 n a0 a1 a2 a3 a4 a5 a6 a7 a8 a9 (fun y0 y1 y2 y3 y4 y5 y6 y7 y8 => k (.exit 3) (mkSt refSmallA_S32e3 [D.str y0, D.sl (.ints .i32 y1), D.int .i64 y2, D.bool y3, D.str y4, D.int .i64 y5, D.str y6, D.int .i64 y7, D.int .i64 y8]))) := by
      funext a0 a1 a2 a3 a4 a5 a6 a7 a8 a9; exact refSmallA_L32_eq k n a0 a1 a2 a3 a4 a5 a6 a7 a8 a9
    have s : aloop refSmallA_C (refSmallA_G R) (refSmallA_Lam1 R) refSmallA_S32 refSmallA_X32 refSmallA_body32 (n + 1) [D.str a0, D.sl (.ints .i32 a1), D.int .i64 a2, D.int .i64 a3, D.bool a4, D.str a5, D.int .i64 a6, D.str a7, D.int .i64 a8, D.int .i64 a9] k = refSmallA_B32 (fun a0 a1 a2 a3 a4 a5 a6 a7 a8 a9 => aloop refSmallA_C (refSmallA_G R) (refSmallA_Lam1 R) refSmallA_S32 refSmallA_X32 refSmallA_body32 n [D.str a0, D.sl (.ints .i32 a1), D.int .i64 a2, D.int .i64 a3, D.bool a4, D.str a5, D.int .i64 a6, D.str a7, D.int .i64 a8, D.int .i64 a9] k) a0 a1 a2 a3 a4 a5 a6 a7 a8 a9 (fun y0 y1 y2 y3 y4 y5 y6 y7 y8 => k (.exit 3) (mkSt refSmallA_S32e3 [D.str y0, D.sl (.ints .i32 y1), D.int .i64 y2, D.bool y3, D.str y4, D.int .i64 y5, D.str y6, D.int .i64 y7, D.int .i64 y8])) := by kernel_rfl
    rw [s, h]; rfl
noncomputable def refSmallA_A32 (R : Type) (ds : List D) (k : AExit → St → Option R) : Option R :=
  match ds with
  | [D.str a0, D.sl (.ints .i32 a1), D.int .i64 a2, D.int .i64 a3, D.bool a4, D.str a5, D.int .i64 a6, D.str a7, D.int .i64 a8, D.int .i64 a9] => refSmallA_M32 a0 a1 a2 a3 a4 a5 a6 a7 a8 a9 (fun y0 y1 y2 y3 y4 y5 y6 y7 y8 => k (.exit 3) (mkSt refSmallA_S32e3 [D.str y0, D.sl (.ints .i32 y1), D.int .i64 y2, D.bool y3, D.str y4, D.int .i64 y5, D.str y6, D.int .i64 y7, D.int .i64 y8]))
  | _ => none
noncomputable def refSmallA_Lam2 (R : Type) : Lam R := fun key st k => bif Nat.beq key 32 then (match readSt refSmallA_S32 st with | some ds => refSmallA_A32 R ds k | none => none) else refSmallA_Lam1 R key st k
theorem refSmallA_A32_ok {R : Type} : ∀ ds k r, refSmallA_A32 R ds k = some r → ∃ e st', k e st' = some r ∧ QA.Reach refSmallA_C (.loop refSmallA_body32) (mkSt refSmallA_S32 ds) e st' := by
  intro ds k r h
  unfold refSmallA_A32 at h
  split at h
  · rw [refSmallA_M32_eq, ← refSmallA_L32_eq] at h
    refine aloop_ok (C := refSmallA_C) qOk (refSmallA_Gok R) ?_ _ _ _ _ h
    rw [show loopsIn refSmallA_body32 = [] from by kernel_rfl]
    intro b hb
    cases hb
  · cases h
noncomputable def refSmallA_body44 : Code := (findLoop 44 refSmallA_code).getD .skip
def refSmallA_S44 : QA.Spec := (⟨[.t 0, .t 1, .t 4, .t 12, .t 14, .t 25, .t 26, .c 10 5, .c 10 4, .c 10 3, .c 10 2, .c 10 1, .c 10 0], [10], [], [(.t 10, 10, 0)], []⟩ : QA.Spec)
def refSmallA_S44e7 : QA.Spec := (⟨[.t 0, .t 1, .t 4, .t 12, .t 14, .t 25, .t 26, .c 10 5, .c 10 4, .c 10 3, .c 10 2, .c 10 1, .c 10 0], [10], [], [(.t 10, 10, 0)], []⟩ : QA.Spec)
def refSmallA_X44 : AExit → Option QA.Spec
  | .normal => none
  | .exit j => bif Nat.beq j 7 then some refSmallA_S44e7 else none
  | .ret => none
theorem refSmallA_L44_eq {R : Type} (k : AExit → St → Option R) : ∀ (n : Nat) (a0 : Str) (a1 : Int) (a2 : Int) (a3 : List Int) (a4 : Int) (a5 : Int) (a6 : Int) (a7 : Bool) (a8 : Str) (a9 : Int) (a10 : Str) (a11 : Int) (a12 : Int), aloop refSmallA_C (refSmallA_G R) (refSmallA_Lam2 R) refSmallA_S44 refSmallA_X44 refSmallA_body44 n [D.str a0, D.int .i64 a1, D.int .i64 a2, D.sl (.ints .i32 a3), D.int .i64 a4, D.int .i64 a5, D.int .i64 a6, D.bool a7, D.str a8, D.int .i64 a9, D.str a10, D.int .i64 a11, D.int .i64 a12] k = refSmallA_L44 n a0 a1 a2 a3 a4 a5 a6 a7 a8 a9 a10 a11 a12 (fun y0 y1 y2 y3 y4 y5 y6 y7 y8 y9 y10 y11 y12 => k (.exit 7) (mkSt refSmallA_S44e7 [D.str y0, D.int .i64 y1, D.int .i64 y2, D.sl (.ints .i32 y3), D.int .i64 y4, D.int .i64 y5, D.int .i64 y6, D.bool y7, D.str y8, D.int .i64 y9, D.str y10, D.int .i64 y11, D.int .i64 y12]))
  | 0, _, _, _, _, _, _, _, _, _, _, _, _, _ => rfl
  | n + 1, a0, a1, a2, a3, a4, a5, a6, a7, a8, a9, a10, a11, a12 => by
    have h : (fun a0 a1 a2 a3 a4 a5 a6 a7 a8 a9 a10 a11 a12 => aloop refSmallA_C (refSmallA_G R) (refSmallA_Lam2 R) refSmallA_S44 refSmallA_X44 refSmallA_body44 n [D.str a0, D.int .i64 a1, D.int .i64 a2, D.sl (.ints .i32 a3), D.int .i64 a4, D.int .i64 a5, D.int .i64 a6, D.bool a7, D.str a8, D.int .i64 a9, D.str a10, D.int .i64 a11, D.int .i64 a12] k) = (fun a0 a1 a2 a3 a4 a5 a6 a7 a8 a9 a10 a11 a12 => refSmallA_L44 n a0 a1 a2 a3 a4 a5 a6 a7 a8 a9 a10 a11 a12 (fun y0 y1 y2 y3 y4 y5 y6 y7 y8 y9 y10 y11 y12 => k (.exit 7) (mkSt refSmallA_S44e7 [D.str y0, D.int .i64 y1, D.int .i64 y2, D.sl (.ints .i32 y3), D.int .i64 y4, D.int .i64 y5, D.int .i64 y6, D.bool y7, D.str y8, D.int .i64 y9, D.str y10, D.int .i64 y11, D.int .i64 y12]))) := by
      funext a0 a1 a2 a3 a4 a5 a6 a7 a8 a9 a10 a11 a12; exact refSmallA_L44_eq k n a0 a1 a2 a3 a4 a5 a6 a7 a8 a9 a10 a11 a12
    have s : aloop refSmallA_C (refSmallA_G R) (refSmallA_Lam2 R) refSmallA_S44 refSmallA_X44 refSmallA_body44 (n + 1) [D.str a0, D.int .i64 a1, D.int .i64 a2, D.sl (.ints .i32 a3), D.int .i64 a4, D.int .i64 a5, D.int .i64 a6, D.bool a7, D.str a8, D.int .i64 a9, D.str a10, D.int .i64 a11, D.int .i64 a12] k = refSmallA_B44 (fun a0 a1 a2 a3 a4 a5 a6 a7 a8 a9 a10 a11 a12 => aloop refSmallA_C (refSmallA_G R) (refSmallA_Lam2 R) refSmallA_S44 refSmallA_X44 refSmallA_body44 n [D.str a0, D.int .i64 a1, D.int .i64 a2, D.sl (.ints .i32 a3), D.int .i64 a4, D.int .i64 a5, D.int .i64 a6, D.bool a7, D.str a8, D.int .i64 a9, D.str a10, D.int .i64 a11, D.int .i64 a12] k) a0 a1 a2 a3 a4 a5 a6 a7 a8 a9 a10 a11 a12 (fun y0 y1 y2 y3 y4 y5 y6 y7 y8 y9 y10 y11 y12 => k (.exit 7) (mkSt refSmallA_S44e7 [D.str y0, D.int .i64 y1, D.int .i64 y2, D.sl (.ints .i32 y3), D.int .i64 y4, D.int .i64 y5, D.int .i64 y6, D.bool y7, D.str y8, D.int .i64 y9, D.str y10, D.int .i64 y11, D.int .i64 y12])) := by kernel_rfl
    rw [s, h]; rfl
noncomputable def refSmallA_A44 (R : Type) (ds : List D) (k : AExit → St → Option R) : Option R :=
  match ds with
  | [D.str a0, D.int .i64 a1, D.int .i64 a2, D.sl (.ints .i32 a3), D.int .i64 a4, D.int .i64 a5, D.int .i64 a6, D.bool a7, D.str a8, D.int .i64 a9, D.str a10, D.int .i64 a11, D.int .i64 a12] => refSmallA_M44 a0 a1 a2 a3 a4 a5 a6 a7 a8 a9 a10 a11 a12 (fun y0 y1 y2 y3 y4 y5 y6 y7 y8 y9 y10 y11 y12 => k (.exit 7) (mkSt refSmallA_S44e7 [D.str y0, D.int .i64 y1, D.int .i64 y2, D.sl (.ints .i32 y3), D.int .i64 y4, D.int .i64 y5, D.int .i64 y6, D.bool y7, D.str y8, D.int .i64 y9, D.str y10, D.int .i64 y11, D.int .i64 y12]))
  | _ => none
noncomputable def refSmallA_Lam3 (R : Type) : Lam R := fun key st k => bif Nat.beq key 44 then (match readSt refSmallA_S44 st with | some ds => refSmallA_A44 R ds k | none => none) else refSmallA_Lam2 R key st k
theorem refSmallA_A44_ok {R : Type} : ∀ ds k r, refSmallA_A44 R ds k = some r → ∃ e st', k e st' = some r ∧ QA.Reach refSmallA_C (.loop refSmallA_body44) (mkSt refSmallA_S44 ds) e st' := by
  intro ds k r h
  unfold refSmallA_A44 at h
  split at h
  · rw [refSmallA_M44_eq, ← refSmallA_L44_eq] at h
    refine aloop_ok (C := refSmallA_C) qOk (refSmallA_Gok R) ?_ _ _ _ _ h
    rw [show loopsIn refSmallA_body44 = [] from by kernel_rfl]
    intro b hb
    cases hb
  · cases h
noncomputable def refSmallA_body38 : Code := (findLoop 38 refSmallA_code).getD .skip
def refSmallA_S38 : QA.Spec := (⟨[.t 0, .t 1, .t 4, .t 12, .t 24, .t 25, .c 10 5, .c 10 4, .c 10 3, .c 10 2, .c 10 1, .c 10 0], [10], [], [(.t 10, 10, 0)], []⟩ : QA.Spec)
def refSmallA_S38r : QA.Spec := (⟨[.t 11, .c 10 5, .c 10 4, .c 10 3, .c 10 2, .c 10 1, .c 10 0], [10], [], [(.t 10, 10, 0)], []⟩ : QA.Spec)
def refSmallA_S38e5 : QA.Spec := (⟨[.t 0, .t 12, .t 24, .c 10 5, .c 10 4, .c 10 3, .c 10 2, .c 10 1, .c 10 0], [10], [], [(.t 10, 10, 0)], []⟩ : QA.Spec)
def refSmallA_X38 : AExit → Option QA.Spec
  | .normal => none
  | .exit j => bif Nat.beq j 5 then some refSmallA_S38e5 else none
  | .ret => some refSmallA_S38r
theorem refSmallA_L38_eq {R : Type} (k : AExit → St → Option R) : ∀ (n : Nat) (a0 : Str) (a1 : Int) (a2 : Int) (a3 : List Int) (a4 : Int) (a5 : Int) (a6 : Bool) (a7 : Str) (a8 : Int) (a9 : Str) (a10 : Int) (a11 : Int), aloop refSmallA_C (refSmallA_G R) (refSmallA_Lam3 R) refSmallA_S38 refSmallA_X38 refSmallA_body38 n [D.str a0, D.int .i64 a1, D.int .i64 a2, D.sl (.ints .i32 a3), D.int .i64 a4, D.int .i64 a5, D.bool a6, D.str a7, D.int .i64 a8, D.str a9, D.int .i64 a10, D.int .i64 a11] k = refSmallA_L38 n a0 a1 a2 a3 a4 a5 a6 a7 a8 a9 a10 a11 (fun y0 y1 y2 y3 y4 y5 y6 => k .ret (mkSt refSmallA_S38r [D.int .i64 y0, D.bool y1, D.str y2, D.int .i64 y3, D.str y4, D.int .i64 y5, D.int .i64 y6])) (fun y0 y1 y2 y3 y4 y5 y6 y7 y8 => k (.exit 5) (mkSt refSmallA_S38e5 [D.str y0, D.sl (.ints .i32 y1), D.int .i64 y2, D.bool y3, D.str y4, D.int .i64 y5, D.str y6, D.int .i64 y7, D.int .i64 y8]))
  | 0, _, _, _, _, _, _, _, _, _, _, _, _ => rfl
  | n + 1, a0, a1, a2, a3, a4, a5, a6, a7, a8, a9, a10, a11 => by
    have h : (fun a0 a1 a2 a3 a4 a5 a6 a7 a8 a9 a10 a11 => aloop refSmallA_C (refSmallA_G R) (refSmallA_Lam3 R) refSmallA_S38 refSmallA_X38 refSmallA_body38 n [D.str a0, D.int .i64 a1, D.int .i64 a2, D.sl (.ints .i32 a3), D.int .i64 a4, D.int .i64 a5, D.bool a6, D.str a7, D.int .i64 a8, D.str a9, D.int .i64 a10, D.int .i64 a11] k) = (fun a0 a1 a2 a3 a4 a5 a6 a7 a8 a9 a10 a11 => refSmallA_L38 n a0 a1 a2 a3 a4 a5 a6 a7 a8 a9 a10 a11 (fun y0 y1 y2 y3 y4 y5 y6 => k .ret (mkSt refSmallA_S38r [D.int .i64 y0, D.bool y1, D.str y2, D.int .i64 y3, D.str y4, D.int .i64 y5, D.int .i64 y6])) (fun y0 y1 y2 y3 y4 y5 y6 y7 y8 => k (.exit 5) (mkSt refSmallA_S38e5 [D.str y0, D.sl (.ints .i32 y1), D.int .i64 y2, D.bool y3, D.str y4, D.int .i64 y5, D.str y6, D.int .i64 y7, D.int .i64 y8]))) := by
      funext a0 a1 a2 a3 a4 a5 a6 a7 a8 a9 a10 a11; exact refSmallA_L38_eq k n a0 a1 a2 a3 a4 a5 a6 a7 a8 a9 a10 a11
    have s : aloop refSmallA_C (refSmallA_G R) (refSmallA_Lam3 R) refSmallA_S38 refSmallA_X38 refSmallA_body38 (n + 1) [D.str a0, D.int .i64 a1, D.int .i64 a2, D.sl (.ints .i32 a3), D.int .i64 a4, D.int .i64 a5, D.bool a6, D.str a7, D.int .i64 a8, D.str a9, D.int .i64 a10, D.int .i64 a11] k = refSmallA_B38 (fun a0 a1 a2 a3 a4 a5 a6 a7 a8 a9 a10 a11 => aloop refSmallA_C (refSmallA_G R) (refSmallA_Lam3 R) refSmallA_S38 refSmallA_X38 refSmallA_body38 n [D.str a0, D.int .i64 a1, D.int .i64 a2, D.sl (.ints .i32 a3), D.int .i64 a4, D.int .i64 a5, D.bool a6, D.str a7, D.int .i64 a8, D.str a9, D.int .i64 a10, D.int .i64 a11] k) a0 a1 a2 a3 a4 a5 a6 a7 a8 a9 a10 a11 (fun y0 y1 y2 y3 y4 y5 y6 => k .ret (mkSt refSmallA_S38r [D.int .i64 y0, D.bool y1, D.str y2, D.int .i64 y3, D.str y4, D.int .i64 y5, D.int .i64 y6])) (fun y0 y1 y2 y3 y4 y5 y6 y7 y8 => k (.exit 5) (mkSt refSmallA_S38e5 [D.str y0, D.sl (.ints .i32 y1), D.int .i64 y2, D.bool y3, D.str y4, D.int .i64 y5, D.str y6, D.int .i64 y7, D.int .i64 y8])) := by kernel_rfl
    rw [s, h]; rfl
noncomputable def refSmallA_A38 (R : Type) (ds : List D) (k : AExit → St → Option R) : Option R :=
  match ds with
  | [D.str a0, D.int .i64 a1, D.int .i64 a2, D.sl (.ints .i32 a3), D.int .i64 a4, D.int .i64 a5, D.bool a6, D.str a7, D.int .i64 a8, D.str a9, D.int .i64 a10, D.int .i64 a11] => refSmallA_M38 a0 a1 a2 a3 a4 a5 a6 a7 a8 a9 a10 a11 (fun y0 y1 y2 y3 y4 y5 y6 => k .ret (mkSt refSmallA_S38r [D.int .i64 y0, D.bool y1, D.str y2, D.int .i64 y3, D.str y4, D.int .i64 y5, D.int .i64 y6])) (fun y0 y1 y2 y3 y4 y5 y6 y7 y8 => k (.exit 5) (mkSt refSmallA_S38e5 [D.str y0, D.sl (.ints .i32 y1), D.int .i64 y2, D.bool y3, D.str y4, D.int .i64 y5, D.str y6, D.int .i64 y7, D.int .i64 y8]))
  | _ => none
noncomputable def refSmallA_Lam4 (R : Type) : Lam R := fun key st k => bif Nat.beq key 38 then (match readSt refSmallA_S38 st with | some ds => refSmallA_A38 R ds k | none => none) else refSmallA_Lam3 R key st k
theorem refSmallA_A38_ok {R : Type} : ∀ ds k r, refSmallA_A38 R ds k = some r → ∃ e st', k e st' = some r ∧ QA.Reach refSmallA_C (.loop refSmallA_body38) (mkSt refSmallA_S38 ds) e st' := by
  intro ds k r h
  unfold refSmallA_A38 at h
  split at h
  · rw [refSmallA_M38_eq, ← refSmallA_L38_eq] at h
    refine aloop_ok (C := refSmallA_C) qOk (refSmallA_Gok R) ?_ _ _ _ _ h
    rw [show loopsIn refSmallA_body38 = [refSmallA_body44] from by kernel_rfl]
    intro b hb
    simp only [List.mem_cons, List.not_mem_nil, or_false] at hb
    subst hb
    exact lam_of (key := 44) (S := refSmallA_S44) (L := refSmallA_A44 R) (fun st k => by kernel_rfl) (by kernel_rfl) refSmallA_A44_ok
  · cases h
noncomputable def refSmallA_T {R : Type} (s0 : Str) (x1 : Int) (x2 : Int) (x3 : Int) (x4 : Int) (k : Int → Int → Str → Int → Str → Bool → Int → Option R) : Option R :=
  refBegin_F (Go.QA.runesOf s0) x1 (fun x5 =>
  refEnd_F (Go.QA.runesOf s0) x1 (fun x6 =>
   (bif (x2 == (120 : Int)) then
    (bif (x2 == (88 : Int)) then
     (bif (Go.QA.mm Bool.true x5 (Go.IntKind.wrap Go.IntKind.i64 (x1 - x4)) == x1) then
      k ((0 : Int)) ((0 : Int)) [] ((0 : Int)) [] Bool.false ((6 : Int))
     else
      (bif (Decidable.decide ((0 : Int) ≤ Go.QA.mm Bool.true x5 (Go.IntKind.wrap Go.IntKind.i64 (x1 - x4))) && Decidable.decide (Go.QA.mm Bool.true x5 (Go.IntKind.wrap Go.IntKind.i64 (x1 - x4)) ≤ (↑(List.length (Go.QA.runesOf s0)) : Int))) then
       (bif (Decidable.decide ((0 : Int) ≤ x1) && Decidable.decide (x1 ≤ (↑(List.length (Go.QA.runesOf s0)) : Int))) then
        (bif (Decidable.decide (List.length (Go.QA.strOf (List.drop (0 : Nat) (List.take (Int.toNat (Go.QA.mm Bool.true x5 (Go.IntKind.wrap Go.IntKind.i64 (x1 - x4)))) (Go.QA.runesOf s0)))) + List.length (Go.QA.strOf (List.drop (Int.toNat x1) (List.take (List.length (Go.QA.runesOf s0)) (Go.QA.runesOf s0)))) ≤ (9223372036854775807 : Nat))) then
         (bif (x2 == (120 : Int)) then
          refRest_F (Go.QA.runesOf (Go.QA.strOf (List.drop (0 : Nat) (List.take (Int.toNat (Go.QA.mm Bool.true x5 (Go.IntKind.wrap Go.IntKind.i64 (x1 - x4)))) (Go.QA.runesOf s0))) ++ Go.QA.strOf (List.drop (Int.toNat x1) (List.take (List.length (Go.QA.runesOf s0)) (Go.QA.runesOf s0))))) (Go.QA.mm Bool.true x5 (Go.IntKind.wrap Go.IntKind.i64 (x1 - x4))) (fun x7 =>
           made18_F s0 (Go.QA.strOf (List.drop (0 : Nat) (List.take (Int.toNat (Go.QA.mm Bool.true x5 (Go.IntKind.wrap Go.IntKind.i64 (x1 - x4)))) (Go.QA.runesOf s0))) ++ Go.QA.strOf (List.drop (Int.toNat x1) (List.take (List.length (Go.QA.runesOf s0)) (Go.QA.runesOf s0)))) x7 (fun x8 x9 s10 x11 s12 b13 x14 =>
            (bif (Decidable.decide ((0 : Int) ≤ x1) && Decidable.decide (x1 ≤ (↑(List.length (Go.QA.runesOf s0)) : Int))) then
             (bif (Decidable.decide ((0 : Int) ≤ Go.QA.mm Bool.true x5 (Go.IntKind.wrap Go.IntKind.i64 (x1 - x4))) && Decidable.decide (Go.QA.mm Bool.true x5 (Go.IntKind.wrap Go.IntKind.i64 (x1 - x4)) ≤ (↑(Int.toNat x1) : Int))) then
              k x8 x9 s10 x11 (Go.QA.strOf (List.drop (Int.toNat (Go.QA.mm Bool.true x5 (Go.IntKind.wrap Go.IntKind.i64 (x1 - x4)))) (List.take (Int.toNat x1) (Go.QA.runesOf s0)))) b13 x14
             else
              none)
            else
             none)))
         else
          made18_F s0 (Go.QA.strOf (List.drop (0 : Nat) (List.take (Int.toNat (Go.QA.mm Bool.true x5 (Go.IntKind.wrap Go.IntKind.i64 (x1 - x4)))) (Go.QA.runesOf s0))) ++ Go.QA.strOf (List.drop (Int.toNat x1) (List.take (List.length (Go.QA.runesOf s0)) (Go.QA.runesOf s0)))) (Go.QA.mm Bool.true x5 (Go.IntKind.wrap Go.IntKind.i64 (x1 - x4))) (fun x15 x16 s17 x18 s19 b20 x21 =>
           (bif (Decidable.decide ((0 : Int) ≤ x1) && Decidable.decide (x1 ≤ (↑(List.length (Go.QA.runesOf s0)) : Int))) then
            (bif (Decidable.decide ((0 : Int) ≤ Go.QA.mm Bool.true x5 (Go.IntKind.wrap Go.IntKind.i64 (x1 - x4))) && Decidable.decide (Go.QA.mm Bool.true x5 (Go.IntKind.wrap Go.IntKind.i64 (x1 - x4)) ≤ (↑(Int.toNat x1) : Int))) then
             k x15 x16 s17 x18 (Go.QA.strOf (List.drop (Int.toNat (Go.QA.mm Bool.true x5 (Go.IntKind.wrap Go.IntKind.i64 (x1 - x4)))) (List.take (Int.toNat x1) (Go.QA.runesOf s0)))) b20 x21
            else
             none)
           else
            none)))
        else
         none)
       else
        none)
      else
       none))
    else
     (bif (x1 == Go.QA.mm Bool.false x6 (Go.IntKind.wrap Go.IntKind.i64 (x1 + x4))) then
      k ((0 : Int)) ((0 : Int)) [] ((0 : Int)) [] Bool.false ((6 : Int))
     else
      (bif (Decidable.decide ((0 : Int) ≤ x1) && Decidable.decide (x1 ≤ (↑(List.length (Go.QA.runesOf s0)) : Int))) then
       (bif (Decidable.decide ((0 : Int) ≤ Go.QA.mm Bool.false x6 (Go.IntKind.wrap Go.IntKind.i64 (x1 + x4))) && Decidable.decide (Go.QA.mm Bool.false x6 (Go.IntKind.wrap Go.IntKind.i64 (x1 + x4)) ≤ (↑(List.length (Go.QA.runesOf s0)) : Int))) then
        (bif (Decidable.decide (List.length (Go.QA.strOf (List.drop (0 : Nat) (List.take (Int.toNat x1) (Go.QA.runesOf s0)))) + List.length (Go.QA.strOf (List.drop (Int.toNat (Go.QA.mm Bool.false x6 (Go.IntKind.wrap Go.IntKind.i64 (x1 + x4)))) (List.take (List.length (Go.QA.runesOf s0)) (Go.QA.runesOf s0)))) ≤ (9223372036854775807 : Nat))) then
         (bif (x2 == (120 : Int)) then
          refRest_F (Go.QA.runesOf (Go.QA.strOf (List.drop (0 : Nat) (List.take (Int.toNat x1) (Go.QA.runesOf s0))) ++ Go.QA.strOf (List.drop (Int.toNat (Go.QA.mm Bool.false x6 (Go.IntKind.wrap Go.IntKind.i64 (x1 + x4)))) (List.take (List.length (Go.QA.runesOf s0)) (Go.QA.runesOf s0))))) x1 (fun x22 =>
           made18_F s0 (Go.QA.strOf (List.drop (0 : Nat) (List.take (Int.toNat x1) (Go.QA.runesOf s0))) ++ Go.QA.strOf (List.drop (Int.toNat (Go.QA.mm Bool.false x6 (Go.IntKind.wrap Go.IntKind.i64 (x1 + x4)))) (List.take (List.length (Go.QA.runesOf s0)) (Go.QA.runesOf s0)))) x22 (fun x23 x24 s25 x26 s27 b28 x29 =>
            (bif (Decidable.decide ((0 : Int) ≤ Go.QA.mm Bool.false x6 (Go.IntKind.wrap Go.IntKind.i64 (x1 + x4))) && Decidable.decide (Go.QA.mm Bool.false x6 (Go.IntKind.wrap Go.IntKind.i64 (x1 + x4)) ≤ (↑(List.length (Go.QA.runesOf s0)) : Int))) then
             (bif (Decidable.decide ((0 : Int) ≤ x1) && Decidable.decide (x1 ≤ (↑(Int.toNat (Go.QA.mm Bool.false x6 (Go.IntKind.wrap Go.IntKind.i64 (x1 + x4)))) : Int))) then
              k x23 x24 s25 x26 (Go.QA.strOf (List.drop (Int.toNat x1) (List.take (Int.toNat (Go.QA.mm Bool.false x6 (Go.IntKind.wrap Go.IntKind.i64 (x1 + x4)))) (Go.QA.runesOf s0)))) b28 x29
             else
              none)
            else
             none)))
         else
          made18_F s0 (Go.QA.strOf (List.drop (0 : Nat) (List.take (Int.toNat x1) (Go.QA.runesOf s0))) ++ Go.QA.strOf (List.drop (Int.toNat (Go.QA.mm Bool.false x6 (Go.IntKind.wrap Go.IntKind.i64 (x1 + x4)))) (List.take (List.length (Go.QA.runesOf s0)) (Go.QA.runesOf s0)))) x1 (fun x30 x31 s32 x33 s34 b35 x36 =>
           (bif (Decidable.decide ((0 : Int) ≤ Go.QA.mm Bool.false x6 (Go.IntKind.wrap Go.IntKind.i64 (x1 + x4))) && Decidable.decide (Go.QA.mm Bool.false x6 (Go.IntKind.wrap Go.IntKind.i64 (x1 + x4)) ≤ (↑(List.length (Go.QA.runesOf s0)) : Int))) then
            (bif (Decidable.decide ((0 : Int) ≤ x1) && Decidable.decide (x1 ≤ (↑(Int.toNat (Go.QA.mm Bool.false x6 (Go.IntKind.wrap Go.IntKind.i64 (x1 + x4)))) : Int))) then
             k x30 x31 s32 x33 (Go.QA.strOf (List.drop (Int.toNat x1) (List.take (Int.toNat (Go.QA.mm Bool.false x6 (Go.IntKind.wrap Go.IntKind.i64 (x1 + x4)))) (Go.QA.runesOf s0)))) b35 x36
            else
             none)
           else
            none)))
        else
         none)
       else
        none)
      else
       none)))
   else
    (bif (x2 == (88 : Int)) then
     (bif (x2 == (88 : Int)) then
      (bif (Go.QA.mm Bool.true x5 (Go.IntKind.wrap Go.IntKind.i64 (x1 - x4)) == x1) then
       k ((0 : Int)) ((0 : Int)) [] ((0 : Int)) [] Bool.false ((6 : Int))
      else
       (bif (Decidable.decide ((0 : Int) ≤ Go.QA.mm Bool.true x5 (Go.IntKind.wrap Go.IntKind.i64 (x1 - x4))) && Decidable.decide (Go.QA.mm Bool.true x5 (Go.IntKind.wrap Go.IntKind.i64 (x1 - x4)) ≤ (↑(List.length (Go.QA.runesOf s0)) : Int))) then
        (bif (Decidable.decide ((0 : Int) ≤ x1) && Decidable.decide (x1 ≤ (↑(List.length (Go.QA.runesOf s0)) : Int))) then
         (bif (Decidable.decide (List.length (Go.QA.strOf (List.drop (0 : Nat) (List.take (Int.toNat (Go.QA.mm Bool.true x5 (Go.IntKind.wrap Go.IntKind.i64 (x1 - x4)))) (Go.QA.runesOf s0)))) + List.length (Go.QA.strOf (List.drop (Int.toNat x1) (List.take (List.length (Go.QA.runesOf s0)) (Go.QA.runesOf s0)))) ≤ (9223372036854775807 : Nat))) then
          (bif (x2 == (120 : Int)) then
           refRest_F (Go.QA.runesOf (Go.QA.strOf (List.drop (0 : Nat) (List.take (Int.toNat (Go.QA.mm Bool.true x5 (Go.IntKind.wrap Go.IntKind.i64 (x1 - x4)))) (Go.QA.runesOf s0))) ++ Go.QA.strOf (List.drop (Int.toNat x1) (List.take (List.length (Go.QA.runesOf s0)) (Go.QA.runesOf s0))))) (Go.QA.mm Bool.true x5 (Go.IntKind.wrap Go.IntKind.i64 (x1 - x4))) (fun x37 =>
            made18_F s0 (Go.QA.strOf (List.drop (0 : Nat) (List.take (Int.toNat (Go.QA.mm Bool.true x5 (Go.IntKind.wrap Go.IntKind.i64 (x1 - x4)))) (Go.QA.runesOf s0))) ++ Go.QA.strOf (List.drop (Int.toNat x1) (List.take (List.length (Go.QA.runesOf s0)) (Go.QA.runesOf s0)))) x37 (fun x38 x39 s40 x41 s42 b43 x44 =>
             (bif (Decidable.decide ((0 : Int) ≤ x1) && Decidable.decide (x1 ≤ (↑(List.length (Go.QA.runesOf s0)) : Int))) then
              (bif (Decidable.decide ((0 : Int) ≤ Go.QA.mm Bool.true x5 (Go.IntKind.wrap Go.IntKind.i64 (x1 - x4))) && Decidable.decide (Go.QA.mm Bool.true x5 (Go.IntKind.wrap Go.IntKind.i64 (x1 - x4)) ≤ (↑(Int.toNat x1) : Int))) then
               k x38 x39 s40 x41 (Go.QA.strOf (List.drop (Int.toNat (Go.QA.mm Bool.true x5 (Go.IntKind.wrap Go.IntKind.i64 (x1 - x4)))) (List.take (Int.toNat x1) (Go.QA.runesOf s0)))) b43 x44
              else
               none)
             else
              none)))
          else
           made18_F s0 (Go.QA.strOf (List.drop (0 : Nat) (List.take (Int.toNat (Go.QA.mm Bool.true x5 (Go.IntKind.wrap Go.IntKind.i64 (x1 - x4)))) (Go.QA.runesOf s0))) ++ Go.QA.strOf (List.drop (Int.toNat x1) (List.take (List.length (Go.QA.runesOf s0)) (Go.QA.runesOf s0)))) (Go.QA.mm Bool.true x5 (Go.IntKind.wrap Go.IntKind.i64 (x1 - x4))) (fun x45 x46 s47 x48 s49 b50 x51 =>
            (bif (Decidable.decide ((0 : Int) ≤ x1) && Decidable.decide (x1 ≤ (↑(List.length (Go.QA.runesOf s0)) : Int))) then
             (bif (Decidable.decide ((0 : Int) ≤ Go.QA.mm Bool.true x5 (Go.IntKind.wrap Go.IntKind.i64 (x1 - x4))) && Decidable.decide (Go.QA.mm Bool.true x5 (Go.IntKind.wrap Go.IntKind.i64 (x1 - x4)) ≤ (↑(Int.toNat x1) : Int))) then
              k x45 x46 s47 x48 (Go.QA.strOf (List.drop (Int.toNat (Go.QA.mm Bool.true x5 (Go.IntKind.wrap Go.IntKind.i64 (x1 - x4)))) (List.take (Int.toNat x1) (Go.QA.runesOf s0)))) b50 x51
             else
              none)
            else
             none)))
         else
          none)
        else
         none)
       else
        none))
     else
      (bif (x1 == Go.QA.mm Bool.false x6 (Go.IntKind.wrap Go.IntKind.i64 (x1 + x4))) then
       k ((0 : Int)) ((0 : Int)) [] ((0 : Int)) [] Bool.false ((6 : Int))
      else
       (bif (Decidable.decide ((0 : Int) ≤ x1) && Decidable.decide (x1 ≤ (↑(List.length (Go.QA.runesOf s0)) : Int))) then
        (bif (Decidable.decide ((0 : Int) ≤ Go.QA.mm Bool.false x6 (Go.IntKind.wrap Go.IntKind.i64 (x1 + x4))) && Decidable.decide (Go.QA.mm Bool.false x6 (Go.IntKind.wrap Go.IntKind.i64 (x1 + x4)) ≤ (↑(List.length (Go.QA.runesOf s0)) : Int))) then
         (bif (Decidable.decide (List.length (Go.QA.strOf (List.drop (0 : Nat) (List.take (Int.toNat x1) (Go.QA.runesOf s0)))) + List.length (Go.QA.strOf (List.drop (Int.toNat (Go.QA.mm Bool.false x6 (Go.IntKind.wrap Go.IntKind.i64 (x1 + x4)))) (List.take (List.length (Go.QA.runesOf s0)) (Go.QA.runesOf s0)))) ≤ (9223372036854775807 : Nat))) then
          (bif (x2 == (120 : Int)) then
           refRest_F (Go.QA.runesOf (Go.QA.strOf (List.drop (0 : Nat) (List.take (Int.toNat x1) (Go.QA.runesOf s0))) ++ Go.QA.strOf (List.drop (Int.toNat (Go.QA.mm Bool.false x6 (Go.IntKind.wrap Go.IntKind.i64 (x1 + x4)))) (List.take (List.length (Go.QA.runesOf s0)) (Go.QA.runesOf s0))))) x1 (fun x52 =>
            made18_F s0 (Go.QA.strOf (List.drop (0 : Nat) (List.take (Int.toNat x1) (Go.QA.runesOf s0))) ++ Go.QA.strOf (List.drop (Int.toNat (Go.QA.mm Bool.false x6 (Go.IntKind.wrap Go.IntKind.i64 (x1 + x4)))) (List.take (List.length (Go.QA.runesOf s0)) (Go.QA.runesOf s0)))) x52 (fun x53 x54 s55 x56 s57 b58 x59 =>
             (bif (Decidable.decide ((0 : Int) ≤ Go.QA.mm Bool.false x6 (Go.IntKind.wrap Go.IntKind.i64 (x1 + x4))) && Decidable.decide (Go.QA.mm Bool.false x6 (Go.IntKind.wrap Go.IntKind.i64 (x1 + x4)) ≤ (↑(List.length (Go.QA.runesOf s0)) : Int))) then
              (bif (Decidable.decide ((0 : Int) ≤ x1) && Decidable.decide (x1 ≤ (↑(Int.toNat (Go.QA.mm Bool.false x6 (Go.IntKind.wrap Go.IntKind.i64 (x1 + x4)))) : Int))) then
               k x53 x54 s55 x56 (Go.QA.strOf (List.drop (Int.toNat x1) (List.take (Int.toNat (Go.QA.mm Bool.false x6 (Go.IntKind.wrap Go.IntKind.i64 (x1 + x4)))) (Go.QA.runesOf s0)))) b58 x59
              else
               none)
             else
              none)))
          else
           made18_F s0 (Go.QA.strOf (List.drop (0 : Nat) (List.take (Int.toNat x1) (Go.QA.runesOf s0))) ++ Go.QA.strOf (List.drop (Int.toNat (Go.QA.mm Bool.false x6 (Go.IntKind.wrap Go.IntKind.i64 (x1 + x4)))) (List.take (List.length (Go.QA.runesOf s0)) (Go.QA.runesOf s0)))) x1 (fun x60 x61 s62 x63 s64 b65 x66 =>
            (bif (Decidable.decide ((0 : Int) ≤ Go.QA.mm Bool.false x6 (Go.IntKind.wrap Go.IntKind.i64 (x1 + x4))) && Decidable.decide (Go.QA.mm Bool.false x6 (Go.IntKind.wrap Go.IntKind.i64 (x1 + x4)) ≤ (↑(List.length (Go.QA.runesOf s0)) : Int))) then
             (bif (Decidable.decide ((0 : Int) ≤ x1) && Decidable.decide (x1 ≤ (↑(Int.toNat (Go.QA.mm Bool.false x6 (Go.IntKind.wrap Go.IntKind.i64 (x1 + x4)))) : Int))) then
              k x60 x61 s62 x63 (Go.QA.strOf (List.drop (Int.toNat x1) (List.take (Int.toNat (Go.QA.mm Bool.false x6 (Go.IntKind.wrap Go.IntKind.i64 (x1 + x4)))) (Go.QA.runesOf s0)))) b65 x66
             else
              none)
            else
             none)))
         else
          none)
        else
         none)
       else
        none)))
    else
     (bif (x2 == (114 : Int)) then
      (bif (Decidable.decide (Go.IntKind.wrap Go.IntKind.i64 (Go.QA.mm Bool.false x6 (Go.IntKind.wrap Go.IntKind.i64 (x1 + x4)) - x1) < x4)) then
       k ((0 : Int)) ((0 : Int)) [] ((0 : Int)) [] Bool.false ((6 : Int))
      else
       refSmallA_M24 s0 x3 (Go.QA.runesOf s0) (Go.QA.mm Bool.false x6 (Go.IntKind.wrap Go.IntKind.i64 (x1 + x4))) x1 Bool.false [] ((0 : Int)) [] ((0 : Int)) ((0 : Int))
        (fun s78 l79 x80 b81 s82 x83 s84 x85 x86 =>
        made18_F s78 (Go.QA.strOf l79) (Go.IntKind.wrap Go.IntKind.i64 (x80 - (1 : Int))) (fun x87 x88 s89 x90 s91 b92 x93 =>
         k x87 x88 s89 x90 s91 b92 x93)))
     else
      (bif (x2 == (126 : Int)) then
       (bif (Go.QA.mm Bool.false x6 (Go.IntKind.wrap Go.IntKind.i64 (x1 + x4)) == x1) then
        k ((0 : Int)) ((0 : Int)) [] ((0 : Int)) [] Bool.false ((6 : Int))
       else
        refSmallA_M32 s0 (Go.QA.runesOf s0) (Go.QA.mm Bool.false x6 (Go.IntKind.wrap Go.IntKind.i64 (x1 + x4))) x1 Bool.false [] ((0 : Int)) [] ((0 : Int)) ((0 : Int))
         (fun s105 l106 x107 b108 s109 x110 s111 x112 x113 =>
         refRest_F l106 x107 (fun x114 =>
          made18_F s105 (Go.QA.strOf l106) x114 (fun x115 x116 s117 x118 s119 b120 x121 =>
           k x115 x116 s117 x118 s119 b120 x121))))
      else
       refSmallA_M38 s0 x1 x4 (Go.QA.runesOf s0) x1 ((0 : Int)) Bool.false [] ((0 : Int)) [] ((0 : Int)) ((0 : Int))
        (fun x170 b171 s172 x173 s174 x175 x176 =>
        k x176 x175 s174 x173 s172 b171 x170)
        (fun s177 l178 x179 b180 s181 x182 s183 x184 x185 =>
        made18_F s177 (Go.QA.strOf l178) x179 (fun x186 x187 s188 x189 s190 b191 x192 =>
         k x186 x187 s188 x189 s190 b191 x192))))))))
noncomputable def refSmallA_F {R : Type} : Str → Int → Int → Int → Int → (Int → Int → Str → Int → Str → Bool → Int → Option R) → Option R := lock refSmallA_T
theorem refSmallA_F_T {R : Type} : @refSmallA_F R = refSmallA_T := lock_eq _
theorem refSmallA_F_eq {R : Type} (s0 : Str) (x1 : Int) (x2 : Int) (x3 : Int) (x4 : Int) (k : D → Option R) : afun qP [] (refSmallA_G R) (refSmallA_Lam4 R) Tryd.f23 [D.str s0, D.int .i64 x1, D.int .i64 x2, D.int .i64 x3, D.int .i64 x4] k = refSmallA_T s0 x1 x2 x3 x4 (fun y0 y1 y2 y3 y4 y5 y6 => k (D.tup [D.agg [D.int .i64 y0, D.int .i64 y1, D.str y2, D.int .i64 y3, D.str y4, D.bool y5], D.int .i64 y6])) := by kernel_rfl
noncomputable def refSmallA_abs (R : Type) (ds : List D) (k : D → Option R) : Option R :=
  match ds with
  | [D.str s0, D.int .i64 x1, D.int .i64 x2, D.int .i64 x3, D.int .i64 x4] => refSmallA_F s0 x1 x2 x3 x4 (fun y0 y1 y2 y3 y4 y5 y6 => k (D.tup [D.agg [D.int .i64 y0, D.int .i64 y1, D.str y2, D.int .i64 y3, D.str y4, D.bool y5], D.int .i64 y6]))
  | _ => none
theorem refSmallA_ok : FnOk qP 23 refSmallA_abs := by
  intro R ds k r h
  unfold refSmallA_abs at h
  split at h
  · rw [refSmallA_F_T, ← refSmallA_F_eq] at h
    refine afun_ok (P := qP) (c := refSmallA_code) qOk (refSmallA_Gok R) Tryd.func23 (by kernel_rfl) (by kernel_rfl) ?_ ?_ (by kernel_rfl) h
    rotate_left
    · exact Nat.le_of_ble_eq_true (by kernel_rfl)
    rw [show loopsIn refSmallA_code = [refSmallA_body24, refSmallA_body32, refSmallA_body38] from by kernel_rfl]
    intro b hb
    simp only [List.mem_cons, List.not_mem_nil, or_false] at hb
    rcases hb with rfl | rfl | rfl
    · exact lam_of (key := 24) (S := refSmallA_S24) (L := refSmallA_A24 R) (fun st k => by kernel_rfl) (by kernel_rfl) refSmallA_A24_ok
    · exact lam_of (key := 32) (S := refSmallA_S32) (L := refSmallA_A32 R) (fun st k => by kernel_rfl) (by kernel_rfl) refSmallA_A32_ok
    · exact lam_of (key := 38) (S := refSmallA_S38) (L := refSmallA_A38 R) (fun st k => by kernel_rfl) (by kernel_rfl) refSmallA_A38_ok
  · cases h

end Go.Proofs.YtleoffdjdgbanaaDoor

set_option linter.unusedVariables false
set_option linter.unusedSimpArgs false
set_option maxRecDepth 1000000
namespace Go.Proofs.YtleoffdjdgbanaaDoor
open Go Go.QA Go.Proofs

/-! ### refSmallB: function 23 -/

noncomputable def refSmallB_C : Cfg := ⟨qP, Tryd.f23.ntmps, [31]⟩
noncomputable def refSmallB_code : Code := Tryd.f23.body.getD .skip
noncomputable def refSmallB_G (R : Type) : Orc R := fun f args k => bif Nat.beq f 46 then refBegin_abs R args k else (fun f args k => bif Nat.beq f 37 then refEnd_abs R args k else (fun f args k => bif Nat.beq f 48 then made18_abs R args k else (fun f args k => bif Nat.beq f 49 then Turned18_abs R args k else (fun f args k => bif Nat.beq f 47 then refRest_abs R args k else (fun f args k => bif Nat.beq f 50 then refClass_abs R args k else (fun _ _ _ => none) f args k) f args k) f args k) f args k) f args k) f args k
theorem refSmallB_Gok (R : Type) : OrcOk qP (refSmallB_G R) := (orc_cons refBegin_ok (orc_cons refEnd_ok (orc_cons made18_ok (orc_cons Turned18_ok (orc_cons refRest_ok (orc_cons refClass_ok orc_nil))))))
noncomputable def refSmallB_B24 {R : Type} (rec : Str → Int → List Int → Int → Int → Bool → Str → Int → Str → Int → Int → Option R) (s7 : Str) (x8 : Int) (l9 : List Int) (x10 : Int) (x11 : Int) (b12 : Bool) (s13 : Str) (x14 : Int) (s15 : Str) (x16 : Int) (x17 : Int) (ke0 : Str → List Int → Int → Bool → Str → Int → Str → Int → Int → Option R) : Option R :=
  (bif (Decidable.decide (x11 < x10)) then
  (bif (Decidable.decide ((0 : Int) ≤ x11) && Decidable.decide (x11 < (↑(List.length l9) : Int))) then
   rec s7 x8 (List.set l9 (Int.toNat x11) (Go.IntKind.wrap Go.IntKind.i32 x8)) x10 (Go.IntKind.wrap Go.IntKind.i64 (x11 + (1 : Int))) b12 s13 x14 s15 x16 x17
  else
   none)
 else
  ke0 s7 l9 x10 b12 s13 x14 s15 x16 x17)
noncomputable def refSmallB_L24 {R : Type} : Nat → Str → Int → List Int → Int → Int → Bool → Str → Int → Str → Int → Int → (Str → List Int → Int → Bool → Str → Int → Str → Int → Int → Option R) → Option R
  | 0, _, _, _, _, _, _, _, _, _, _, _, _ => none
  | n + 1, s7, x8, l9, x10, x11, b12, s13, x14, s15, x16, x17, ke0 => refSmallB_B24 (fun s7 x8 l9 x10 x11 b12 s13 x14 s15 x16 x17 => refSmallB_L24 n s7 x8 l9 x10 x11 b12 s13 x14 s15 x16 x17 ke0) s7 x8 l9 x10 x11 b12 s13 x14 s15 x16 x17 ke0
noncomputable def refSmallB_M24 {R : Type} : Str → Int → List Int → Int → Int → Bool → Str → Int → Str → Int → Int → (Str → List Int → Int → Bool → Str → Int → Str → Int → Int → Option R) → Option R := lock (refSmallB_L24 4611686018427387904)
theorem refSmallB_M24_eq {R : Type} : @refSmallB_M24 R = refSmallB_L24 4611686018427387904 := lock_eq _
noncomputable def refSmallB_B32 {R : Type} (rec : Str → List Int → Int → Int → Bool → Str → Int → Str → Int → Int → Option R) (s34 : Str) (l35 : List Int) (x36 : Int) (x37 : Int) (b38 : Bool) (s39 : Str) (x40 : Int) (s41 : Str) (x42 : Int) (x43 : Int) (ke0 : Str → List Int → Int → Bool → Str → Int → Str → Int → Int → Option R) : Option R :=
  (bif (Decidable.decide (x37 < x36)) then
  (bif (Decidable.decide ((0 : Int) ≤ x37) && Decidable.decide (x37 < (↑(List.length l35) : Int))) then
   Turned18_F (List.getD l35 (Int.toNat x37) (0 : Int)) ((126 : Int)) (fun x44 =>
    (bif (Decidable.decide ((0 : Int) ≤ x37) && Decidable.decide (x37 < (↑(List.length l35) : Int))) then
     rec s34 (List.set l35 (Int.toNat x37) x44) x36 (Go.IntKind.wrap Go.IntKind.i64 (x37 + (1 : Int))) b38 s39 x40 s41 x42 x43
    else
     none))
  else
   none)
 else
  ke0 s34 l35 x36 b38 s39 x40 s41 x42 x43)
noncomputable def refSmallB_L32 {R : Type} : Nat → Str → List Int → Int → Int → Bool → Str → Int → Str → Int → Int → (Str → List Int → Int → Bool → Str → Int → Str → Int → Int → Option R) → Option R
  | 0, _, _, _, _, _, _, _, _, _, _, _ => none
  | n + 1, s34, l35, x36, x37, b38, s39, x40, s41, x42, x43, ke0 => refSmallB_B32 (fun s34 l35 x36 x37 b38 s39 x40 s41 x42 x43 => refSmallB_L32 n s34 l35 x36 x37 b38 s39 x40 s41 x42 x43 ke0) s34 l35 x36 x37 b38 s39 x40 s41 x42 x43 ke0
noncomputable def refSmallB_M32 {R : Type} : Str → List Int → Int → Int → Bool → Str → Int → Str → Int → Int → (Str → List Int → Int → Bool → Str → Int → Str → Int → Int → Option R) → Option R := lock (refSmallB_L32 4611686018427387904)
theorem refSmallB_M32_eq {R : Type} : @refSmallB_M32 R = refSmallB_L32 4611686018427387904 := lock_eq _
noncomputable def refSmallB_B44 {R : Type} (rec : Str → Int → Int → List Int → Int → Int → Int → Bool → Str → Int → Str → Int → Int → Option R) (s75 : Str) (x76 : Int) (x77 : Int) (l78 : List Int) (x79 : Int) (x80 : Int) (x81 : Int) (b82 : Bool) (s83 : Str) (x84 : Int) (s85 : Str) (x86 : Int) (x87 : Int) (ke0 : Str → Int → Int → List Int → Int → Int → Int → Bool → Str → Int → Str → Int → Int → Option R) : Option R :=
  (bif (Decidable.decide (x81 < (↑(List.length l78) : Int))) then
  (bif (Decidable.decide ((0 : Int) ≤ x81) && Decidable.decide (x81 < (↑(List.length l78) : Int))) then
   refClass_F (Go.IntKind.wrap Go.IntKind.i64 (List.getD l78 (Int.toNat x81) (0 : Int))) (fun x88 =>
    (bif (x88 == (0 : Int)) then
     rec s75 x76 x77 l78 x79 x80 (Go.IntKind.wrap Go.IntKind.i64 (x81 + (1 : Int))) b82 s83 x84 s85 x86 x87
    else
     ke0 s75 x76 x77 l78 x79 x80 x81 b82 s83 x84 s85 x86 x87))
  else
   none)
 else
  ke0 s75 x76 x77 l78 x79 x80 x81 b82 s83 x84 s85 x86 x87)
noncomputable def refSmallB_L44 {R : Type} : Nat → Str → Int → Int → List Int → Int → Int → Int → Bool → Str → Int → Str → Int → Int → (Str → Int → Int → List Int → Int → Int → Int → Bool → Str → Int → Str → Int → Int → Option R) → Option R
  | 0, _, _, _, _, _, _, _, _, _, _, _, _, _, _ => none
  | n + 1, s75, x76, x77, l78, x79, x80, x81, b82, s83, x84, s85, x86, x87, ke0 => refSmallB_B44 (fun s75 x76 x77 l78 x79 x80 x81 b82 s83 x84 s85 x86 x87 => refSmallB_L44 n s75 x76 x77 l78 x79 x80 x81 b82 s83 x84 s85 x86 x87 ke0) s75 x76 x77 l78 x79 x80 x81 b82 s83 x84 s85 x86 x87 ke0
noncomputable def refSmallB_M44 {R : Type} : Str → Int → Int → List Int → Int → Int → Int → Bool → Str → Int → Str → Int → Int → (Str → Int → Int → List Int → Int → Int → Int → Bool → Str → Int → Str → Int → Int → Option R) → Option R := lock (refSmallB_L44 4611686018427387904)
theorem refSmallB_M44_eq {R : Type} : @refSmallB_M44 R = refSmallB_L44 4611686018427387904 := lock_eq _
noncomputable def refSmallB_B38 {R : Type} (rec : Str → Int → Int → List Int → Int → Int → Bool → Str → Int → Str → Int → Int → Option R) (s62 : Str) (x63 : Int) (x64 : Int) (l65 : List Int) (x66 : Int) (x67 : Int) (b68 : Bool) (s69 : Str) (x70 : Int) (s71 : Str) (x72 : Int) (x73 : Int) (ke0 : Int → Bool → Str → Int → Str → Int → Int → Option R) (ke1 : Str → List Int → Int → Bool → Str → Int → Str → Int → Int → Option R) : Option R :=
  (bif (Decidable.decide (x67 < Go.QA.mm Bool.true (1 : Int) (Go.IntKind.wrap Go.IntKind.i64 (x64 - (1 : Int))))) then
  refEnd_F l65 x63 (fun x74 =>
   (bif (x74 == (↑(List.length l65) : Int)) then
    ke0 ((6 : Int)) Bool.false [] ((0 : Int)) [] ((0 : Int)) ((0 : Int))
   else
    refSmallB_M44 s62 x63 x64 l65 x74 x67 (Go.IntKind.wrap Go.IntKind.i64 (x74 + (1 : Int))) b68 s69 x70 s71 x72 x73
     (fun s89 x90 x91 l92 x93 x94 x95 b96 s97 x98 s99 x100 x101 =>
     refBegin_F l92 x90 (fun x102 =>
      (bif (Decidable.decide ((0 : Int) ≤ x93) && Decidable.decide (x93 ≤ (↑(List.length l92) : Int))) then
       (bif (Decidable.decide ((0 : Int) ≤ x102) && Decidable.decide (x102 ≤ (↑(Int.toNat x93) : Int))) then
        (bif (Go.QA.strOf (List.drop (Int.toNat x102) (List.take (Int.toNat x93) l92)) == []) then
         (bif (Decidable.decide ((0 : Int) ≤ x93) && Decidable.decide (x93 ≤ (↑(List.length l92) : Int))) then
          (bif (Decidable.decide (List.length (Go.QA.strOf (List.drop (0 : Nat) (List.take (Int.toNat x93) l92))) + (0 : Nat) ≤ (9223372036854775807 : Nat))) then
           (bif (Decidable.decide ((0 : Int) ≤ x95) && Decidable.decide (x95 ≤ (↑(List.length l92) : Int))) then
            (bif (Decidable.decide (List.length (Go.QA.strOf (List.drop (0 : Nat) (List.take (Int.toNat x93) l92)) ++ []) + List.length (Go.QA.strOf (List.drop (Int.toNat x95) (List.take (List.length l92) l92))) ≤ (9223372036854775807 : Nat))) then
             none
            else
             none)
           else
            none)
          else
           none)
         else
          none)
        else
         (bif (Decidable.decide ((0 : Int) ≤ Go.IntKind.wrap Go.IntKind.i64 (x93 - (1 : Int))) && Decidable.decide (Go.IntKind.wrap Go.IntKind.i64 (x93 - (1 : Int)) < (↑(List.length l92) : Int))) then
          refClass_F (Go.IntKind.wrap Go.IntKind.i64 (List.getD l92 (Int.toNat (Go.IntKind.wrap Go.IntKind.i64 (x93 - (1 : Int)))) (0 : Int))) (fun x103 =>
           (bif (x103 == (0 : Int)) then
            (bif (Decidable.decide ((0 : Int) ≤ x93) && Decidable.decide (x93 ≤ (↑(List.length l92) : Int))) then
             (bif (Decidable.decide (List.length (Go.QA.strOf (List.drop (0 : Nat) (List.take (Int.toNat x93) l92))) + (0 : Nat) ≤ (9223372036854775807 : Nat))) then
              (bif (Decidable.decide ((0 : Int) ≤ x95) && Decidable.decide (x95 ≤ (↑(List.length l92) : Int))) then
               (bif (Decidable.decide (List.length (Go.QA.strOf (List.drop (0 : Nat) (List.take (Int.toNat x93) l92)) ++ []) + List.length (Go.QA.strOf (List.drop (Int.toNat x95) (List.take (List.length l92) l92))) ≤ (9223372036854775807 : Nat))) then
                none
               else
                none)
              else
               none)
             else
              none)
            else
             none)
           else
            (bif (x95 == (↑(List.length l92) : Int)) then
             (bif (Decidable.decide ((0 : Int) ≤ x93) && Decidable.decide (x93 ≤ (↑(List.length l92) : Int))) then
              (bif (Decidable.decide (List.length (Go.QA.strOf (List.drop (0 : Nat) (List.take (Int.toNat x93) l92))) + (0 : Nat) ≤ (9223372036854775807 : Nat))) then
               (bif (Decidable.decide ((0 : Int) ≤ x95) && Decidable.decide (x95 ≤ (↑(List.length l92) : Int))) then
                (bif (Decidable.decide (List.length (Go.QA.strOf (List.drop (0 : Nat) (List.take (Int.toNat x93) l92)) ++ []) + List.length (Go.QA.strOf (List.drop (Int.toNat x95) (List.take (List.length l92) l92))) ≤ (9223372036854775807 : Nat))) then
                 none
                else
                 none)
               else
                none)
              else
               none)
             else
              none)
            else
             (bif (Decidable.decide ((0 : Int) ≤ x95) && Decidable.decide (x95 < (↑(List.length l92) : Int))) then
              (bif (List.getD l92 (Int.toNat x95) (0 : Int) == (10 : Int)) then
               (bif (Decidable.decide ((0 : Int) ≤ x93) && Decidable.decide (x93 ≤ (↑(List.length l92) : Int))) then
                (bif (Decidable.decide (List.length (Go.QA.strOf (List.drop (0 : Nat) (List.take (Int.toNat x93) l92))) + (0 : Nat) ≤ (9223372036854775807 : Nat))) then
                 (bif (Decidable.decide ((0 : Int) ≤ x95) && Decidable.decide (x95 ≤ (↑(List.length l92) : Int))) then
                  (bif (Decidable.decide (List.length (Go.QA.strOf (List.drop (0 : Nat) (List.take (Int.toNat x93) l92)) ++ []) + List.length (Go.QA.strOf (List.drop (Int.toNat x95) (List.take (List.length l92) l92))) ≤ (9223372036854775807 : Nat))) then
                   none
                  else
                   none)
                 else
                  none)
                else
                 none)
               else
                none)
              else
               (bif (Decidable.decide ((0 : Int) ≤ x95) && Decidable.decide (x95 < (↑(List.length l92) : Int))) then
                (bif (List.getD l92 (Int.toNat x95) (0 : Int) == (41 : Int)) then
                 (bif (Decidable.decide ((0 : Int) ≤ x93) && Decidable.decide (x93 ≤ (↑(List.length l92) : Int))) then
                  (bif (Decidable.decide (List.length (Go.QA.strOf (List.drop (0 : Nat) (List.take (Int.toNat x93) l92))) + (0 : Nat) ≤ (9223372036854775807 : Nat))) then
                   (bif (Decidable.decide ((0 : Int) ≤ x95) && Decidable.decide (x95 ≤ (↑(List.length l92) : Int))) then
                    (bif (Decidable.decide (List.length (Go.QA.strOf (List.drop (0 : Nat) (List.take (Int.toNat x93) l92)) ++ []) + List.length (Go.QA.strOf (List.drop (Int.toNat x95) (List.take (List.length l92) l92))) ≤ (9223372036854775807 : Nat))) then
                     none
                    else
                     none)
                   else
                    none)
                  else
                   none)
                 else
                  none)
                else
                 (bif (Decidable.decide ((0 : Int) ≤ x93) && Decidable.decide (x93 ≤ (↑(List.length l92) : Int))) then
                  (bif (Decidable.decide (List.length (Go.QA.strOf (List.drop (0 : Nat) (List.take (Int.toNat x93) l92))) + List.length [(32 : UInt8)] ≤ (9223372036854775807 : Nat))) then
                   (bif (Decidable.decide ((0 : Int) ≤ x95) && Decidable.decide (x95 ≤ (↑(List.length l92) : Int))) then
                    (bif (Decidable.decide (List.length (Go.QA.strOf (List.drop (0 : Nat) (List.take (Int.toNat x93) l92)) ++ [(32 : UInt8)]) + List.length (Go.QA.strOf (List.drop (Int.toNat x95) (List.take (List.length l92) l92))) ≤ (9223372036854775807 : Nat))) then
                     none
                    else
                     none)
                   else
                    none)
                  else
                   none)
                 else
                  none))
               else
                none))
             else
              none))))
         else
          none))
       else
        none)
      else
       none)))))
 else
  ke1 s62 l65 x66 b68 s69 x70 s71 x72 x73)
noncomputable def refSmallB_L38 {R : Type} : Nat → Str → Int → Int → List Int → Int → Int → Bool → Str → Int → Str → Int → Int → (Int → Bool → Str → Int → Str → Int → Int → Option R) → (Str → List Int → Int → Bool → Str → Int → Str → Int → Int → Option R) → Option R
  | 0, _, _, _, _, _, _, _, _, _, _, _, _, _, _ => none
  | n + 1, s62, x63, x64, l65, x66, x67, b68, s69, x70, s71, x72, x73, ke0, ke1 => refSmallB_B38 (fun s62 x63 x64 l65 x66 x67 b68 s69 x70 s71 x72 x73 => refSmallB_L38 n s62 x63 x64 l65 x66 x67 b68 s69 x70 s71 x72 x73 ke0 ke1) s62 x63 x64 l65 x66 x67 b68 s69 x70 s71 x72 x73 ke0 ke1
noncomputable def refSmallB_M38 {R : Type} : Str → Int → Int → List Int → Int → Int → Bool → Str → Int → Str → Int → Int → (Int → Bool → Str → Int → Str → Int → Int → Option R) → (Str → List Int → Int → Bool → Str → Int → Str → Int → Int → Option R) → Option R := lock (refSmallB_L38 4611686018427387904)
theorem refSmallB_M38_eq {R : Type} : @refSmallB_M38 R = refSmallB_L38 4611686018427387904 := lock_eq _
noncomputable def refSmallB_Lam0 (R : Type) : Lam R := fun _ _ _ => none
noncomputable def refSmallB_body24 : Code := (findLoop 24 refSmallB_code).getD .skip
def refSmallB_S24 : QA.Spec := (⟨[.t 0, .t 3, .t 12, .t 15, .t 22, .c 10 5, .c 10 4, .c 10 3, .c 10 2, .c 10 1, .c 10 0], [10], [], [(.t 10, 10, 0)], []⟩ : QA.Spec)
def refSmallB_S24e1 : QA.Spec := (⟨[.t 0, .t 12, .t 15, .c 10 5, .c 10 4, .c 10 3, .c 10 2, .c 10 1, .c 10 0], [10], [], [(.t 10, 10, 0)], []⟩ : QA.Spec)
def refSmallB_X24 : AExit → Option QA.Spec
  | .normal => none
  | .exit j => bif Nat.beq j 1 then some refSmallB_S24e1 else none
  | .ret => none
theorem refSmallB_L24_eq {R : Type} (k : AExit → St → Option R) : ∀ (n : Nat) (a0 : Str) (a1 : Int) (a2 : List Int) (a3 : Int) (a4 : Int) (a5 : Bool) (a6 : Str) (a7 : Int) (a8 : Str) (a9 : Int) (a10 : Int), aloop refSmallB_C (refSmallB_G R) (refSmallB_Lam0 R) refSmallB_S24 refSmallB_X24 refSmallB_body24 n [D.str a0, D.int .i64 a1, D.con (.ints .i32 a2), D.int .i64 a3, D.int .i64 a4, D.bool a5, D.str a6, D.int .i64 a7, D.str a8, D.int .i64 a9, D.int .i64 a10] k = refSmallB_L24 n a0 a1 a2 a3 a4 a5 a6 a7 a8 a9 a10 (fun y0 y1 y2 y3 y4 y5 y6 y7 y8 => k (.exit 1) (mkSt refSmallB_S24e1 [D.str y0, D.con (.ints .i32 y1), D.int .i64 y2, D.bool y3, D.str y4, D.int .i64 y5, D.str y6, D.int .i64 y7, D.int .i64 y8]))
  | 0, _, _, _, _, _, _, _, _, _, _, _ => rfl
  | n + 1, a0, a1, a2, a3, a4, a5, a6, a7, a8, a9, a10 => by
    have h : (fun a0 a1 a2 a3 a4 a5 a6 a7 a8 a9 a10 => aloop refSmallB_C (refSmallB_G R) (refSmallB_Lam0 R) refSmallB_S24 refSmallB_X24 refSmallB_body24 n [D.str a0, D.int .i64 a1, D.con (.ints .i32 a2), D.int .i64 a3, D.int .i64 a4, D.bool a5, D.str a6, D.int .i64 a7, D.str a8, D.int .i64 a9, D.int .i64 a10] k) = (fun a0 a1 a2 a3 a4 a5 a6 a7 a8 a9 a10 => refSmallB_L24 n a0 a1 a2 a3 a4 a5 a6 a7 a8 a9 a10 (fun y0 y1 y2 y3 y4 y5 y6 y7 y8 => k (.exit 1) (mkSt refSmallB_S24e1 [D.str y0, D.con (.ints .i32 y1), D.int .i64 y2, D.bool y3, D.str y4, D.int .i64 y5, D.str y6, D.int .i64 y7, D.int .i64 y8]))) := by
      funext a0 a1 a2 a3 a4 a5 a6 a7 a8 a9 a10; exact refSmallB_L24_eq k n a0 a1 a2 a3 a4 a5 a6 a7 a8 a9 a10
    have s : aloop refSmallB_C (refSmallB_G R) (refSmallB_Lam0 R) refSmallB_S24 refSmallB_X24 refSmallB_body24 (n + 1) [D.str a0, D.int .i64 a1, D.con (.ints .i32 a2), D.int .i64 a3, D.int .i64 a4, D.bool a5, D.str a6, D.int .i64 a7, D.str a8, D.int .i64 a9, D.int .i64 a10] k = refSmallB_B24 (fun a0 a1 a2 a3 a4 a5 a6 a7 a8 a9 a10 => aloop refSmallB_C (refSmallB_G R) (refSmallB_Lam0 R) refSmallB_S24 refSmallB_X24 refSmallB_body24 n [D.str a0, D.int .i64 a1, D.con (.ints .i32 a2), D.int .i64 a3, D.int .i64 a4, D.bool a5, D.str a6, D.int .i64 a7, D.str a8, D.int .i64 a9, D.int .i64 a10] k) a0 a1 a2 a3 a4 a5 a6 a7 a8 a9 a10 (fun y0 y1 y2 y3 y4 y5 y6 y7 y8 => k (.exit 1) (mkSt refSmallB_S24e1 [D.str y0, D.con (.ints .i32 y1), D.int .i64 y2, D.bool y3, D.str y4, D.int .i64 y5, D.str y6, D.int .i64 y7, D.int .i64 y8])) := by kernel_rfl
    rw [s, h]; rfl
noncomputable def refSmallB_A24 (R : Type) (ds : List D) (k : AExit → St → Option R) : Option R :=
  match ds with
  | [D.str a0, D.int .i64 a1, D.con (.ints .i32 a2), D.int .i64 a3, D.int .i64 a4, D.bool a5, D.str a6, D.int .i64 a7, D.str a8, D.int .i64 a9, D.int .i64 a10] => refSmallB_M24 a0 a1 a2 a3 a4 a5 a6 a7 a8 a9 a10 (fun y0 y1 y2 y3 y4 y5 y6 y7 y8 => k (.exit 1) (mkSt refSmallB_S24e1 [D.str y0, D.con (.ints .i32 y1), D.int .i64 y2, D.bool y3, D.str y4, D.int .i64 y5, D.str y6, D.int .i64 y7, D.int .i64 y8]))
  | _ => none
noncomputable def refSmallB_Lam1 (R : Type) : Lam R := fun key st k => bif Nat.beq key 24 then (match readSt refSmallB_S24 st with | some ds => refSmallB_A24 R ds k | none => none) else refSmallB_Lam0 R key st k
theorem refSmallB_A24_ok {R : Type} : ∀ ds k r, refSmallB_A24 R ds k = some r → ∃ e st', k e st' = some r ∧ QA.Reach refSmallB_C (.loop refSmallB_body24) (mkSt refSmallB_S24 ds) e st' := by
  intro ds k r h
  unfold refSmallB_A24 at h
  split at h
  · rw [refSmallB_M24_eq, ← refSmallB_L24_eq] at h
    refine aloop_ok (C := refSmallB_C) qOk (refSmallB_Gok R) ?_ _ _ _ _ h
    rw [show loopsIn refSmallB_body24 = [] from by kernel_rfl]
    intro b hb
    cases hb
  · cases h
noncomputable def refSmallB_body32 : Code := (findLoop 32 refSmallB_code).getD .skip
def refSmallB_S32 : QA.Spec := (⟨[.t 0, .t 12, .t 15, .t 23, .c 10 5, .c 10 4, .c 10 3, .c 10 2, .c 10 1, .c 10 0], [10], [], [(.t 10, 10, 0)], []⟩ : QA.Spec)
def refSmallB_S32e3 : QA.Spec := (⟨[.t 0, .t 12, .t 15, .c 10 5, .c 10 4, .c 10 3, .c 10 2, .c 10 1, .c 10 0], [10], [], [(.t 10, 10, 0)], []⟩ : QA.Spec)
def refSmallB_X32 : AExit → Option QA.Spec
  | .normal => none
  | .exit j => bif Nat.beq j 3 then some refSmallB_S32e3 else none
  | .ret => none
theorem refSmallB_L32_eq {R : Type} (k : AExit → St → Option R) : ∀ (n : Nat) (a0 : Str) (a1 : List Int) (a2 : Int) (a3 : Int) (a4 : Bool) (a5 : Str) (a6 : Int) (a7 : Str) (a8 : Int) (a9 : Int), aloop refSmallB_C (refSmallB_G R) (refSmallB_Lam1 R) refSmallB_S32 refSmallB_X32 refSmallB_body32 n [D.str a0, D.con (.ints .i32 a1), D.int .i64 a2, D.int .i64 a3, D.bool a4, D.str a5, D.int .i64 a6, D.str a7, D.int .i64 a8, D.int .i64 a9] k = refSmallB_L32 n a0 a1 a2 a3 a4 a5 a6 a7 a8 a9 (fun y0 y1 y2 y3 y4 y5 y6 y7 y8 => k (.exit 3) (mkSt refSmallB_S32e3 [D.str y0, D.con (.ints .i32 y1), D.int .i64 y2, D.bool y3, D.str y4, D.int .i64 y5, D.str y6, D.int .i64 y7, D.int .i64 y8]))
  | 0, _, _, _, _, _, _, _, _, _, _ => rfl
  | n + 1, a0, a1, a2, a3, a4, a5, a6, a7, a8, a9 => by
    have h : (fun a0 a1 a2 a3 a4 a5 a6 a7 a8 a9 => aloop refSmallB_C (refSmallB_G R) (refSmallB_Lam1 R) refSmallB_S32 refSmallB_X32 refSmallB_body32 n [D.str a0, D.con (.ints .i32 a1), D.int .i64 a2, D.int .i64 a3, D.bool a4, D.str a5, D.int .i64 a6, D.str a7, D.int .i64 a8, D.int .i64 a9] k) = (fun a0 a1 a2 a3 a4 a5 a6 a7 a8 a9 => refSmallB_L32 n a0 a1 a2 a3 a4 a5 a6 a7 a8 a9 (fun y0 y1 y2 y3 y4 y5 y6 y7 y8 => k (.exit 3) (mkSt refSmallB_S32e3 [D.str y0, D.con (.ints .i32 y1), D.int .i64 y2, D.bool y3, D.str y4, D.int .i64 y5, D.str y6, D.int .i64 y7, D.int .i64 y8]))) := by
      funext a0 a1 a2 a3 a4 a5 a6 a7 a8 a9; exact refSmallB_L32_eq k n a0 a1 a2 a3 a4 a5 a6 a7 a8 a9
    have s : aloop refSmallB_C (refSmallB_G R) (refSmallB_Lam1 R) refSmallB_S32 refSmallB_X32 refSmallB_body32 (n + 1) [D.str a0, D.con (.ints .i32 a1), D.int .i64 a2, D.int .i64 a3, D.bool a4, D.str a5, D.int .i64 a6, D.str a7, D.int .i64 a8, D.int .i64 a9] k = refSmallB_B32 (fun a0 a1 a2 a3 a4 a5 a6 a7 a8 a9 => aloop refSmallB_C (refSmallB_G R) (refSmallB_Lam1 R) refSmallB_S32 refSmallB_X32 refSmallB_body32 n [D.str a0, D.con (.ints .i32 a1), D.int .i64 a2, D.int .i64 a3, D.bool a4, D.str a5, D.int .i64 a6, D.str a7, D.int .i64 a8, D.int .i64 a9] k) a0 a1 a2 a3 a4 a5 a6 a7 a8 a9 (fun y0 y1 y2 y3 y4 y5 y6 y7 y8 => k (.exit 3) (mkSt refSmallB_S32e3 [D.str y0, D.con (.ints .i32 y1), D.int .i64 y2, D.bool y3, D.str y4, D.int .i64 y5, D.str y6, D.int .i64 y7, D.int .i64 y8])) := by kernel_rfl
    rw [s, h]; rfl
noncomputable def refSmallB_A32 (R : Type) (ds : List D) (k : AExit → St → Option R) : Option R :=
  match ds with
  | [D.str a0, D.con (.ints .i32 a1), D.int .i64 a2, D.int .i64 a3, D.bool a4, D.str a5, D.int .i64 a6, D.str a7, D.int .i64 a8, D.int .i64 a9] => refSmallB_M32 a0 a1 a2 a3 a4 a5 a6 a7 a8 a9 (fun y0 y1 y2 y3 y4 y5 y6 y7 y8 => k (.exit 3) (mkSt refSmallB_S32e3 [D.str y0, D.con (.ints .i32 y1), D.int .i64 y2, D.bool y3, D.str y4, D.int .i64 y5, D.str y6, D.int .i64 y7, D.int .i64 y8]))
  | _ => none
noncomputable def refSmallB_Lam2 (R : Type) : Lam R := fun key st k => bif Nat.beq key 32 then (match readSt refSmallB_S32 st with | some ds => refSmallB_A32 R ds k | none => none) else refSmallB_Lam1 R key st k
theorem refSmallB_A32_ok {R : Type} : ∀ ds k r, refSmallB_A32 R ds k = some r → ∃ e st', k e st' = some r ∧ QA.Reach refSmallB_C (.loop refSmallB_body32) (mkSt refSmallB_S32 ds) e st' := by
  intro ds k r h
  unfold refSmallB_A32 at h
  split at h
  · rw [refSmallB_M32_eq, ← refSmallB_L32_eq] at h
    refine aloop_ok (C := refSmallB_C) qOk (refSmallB_Gok R) ?_ _ _ _ _ h
    rw [show loopsIn refSmallB_body32 = [] from by kernel_rfl]
    intro b hb
    cases hb
  · cases h
noncomputable def refSmallB_body44 : Code := (findLoop 44 refSmallB_code).getD .skip
def refSmallB_S44 : QA.Spec := (⟨[.t 0, .t 1, .t 4, .t 12, .t 14, .t 25, .t 26, .c 10 5, .c 10 4, .c 10 3, .c 10 2, .c 10 1, .c 10 0], [10], [], [(.t 10, 10, 0)], []⟩ : QA.Spec)
def refSmallB_S44e7 : QA.Spec := (⟨[.t 0, .t 1, .t 4, .t 12, .t 14, .t 25, .t 26, .c 10 5, .c 10 4, .c 10 3, .c 10 2, .c 10 1, .c 10 0], [10], [], [(.t 10, 10, 0)], []⟩ : QA.Spec)
def refSmallB_X44 : AExit → Option QA.Spec
  | .normal => none
  | .exit j => bif Nat.beq j 7 then some refSmallB_S44e7 else none
  | .ret => none
theorem refSmallB_L44_eq {R : Type} (k : AExit → St → Option R) : ∀ (n : Nat) (a0 : Str) (a1 : Int) (a2 : Int) (a3 : List Int) (a4 : Int) (a5 : Int) (a6 : Int) (a7 : Bool) (a8 : Str) (a9 : Int) (a10 : Str) (a11 : Int) (a12 : Int), aloop refSmallB_C (refSmallB_G R) (refSmallB_Lam2 R) refSmallB_S44 refSmallB_X44 refSmallB_body44 n [D.str a0, D.int .i64 a1, D.int .i64 a2, D.con (.ints .i32 a3), D.int .i64 a4, D.int .i64 a5, D.int .i64 a6, D.bool a7, D.str a8, D.int .i64 a9, D.str a10, D.int .i64 a11, D.int .i64 a12] k = refSmallB_L44 n a0 a1 a2 a3 a4 a5 a6 a7 a8 a9 a10 a11 a12 (fun y0 y1 y2 y3 y4 y5 y6 y7 y8 y9 y10 y11 y12 => k (.exit 7) (mkSt refSmallB_S44e7 [D.str y0, D.int .i64 y1, D.int .i64 y2, D.con (.ints .i32 y3), D.int .i64 y4, D.int .i64 y5, D.int .i64 y6, D.bool y7, D.str y8, D.int .i64 y9, D.str y10, D.int .i64 y11, D.int .i64 y12]))
  | 0, _, _, _, _, _, _, _, _, _, _, _, _, _ => rfl
  | n + 1, a0, a1, a2, a3, a4, a5, a6, a7, a8, a9, a10, a11, a12 => by
    have h : (fun a0 a1 a2 a3 a4 a5 a6 a7 a8 a9 a10 a11 a12 => aloop refSmallB_C (refSmallB_G R) (refSmallB_Lam2 R) refSmallB_S44 refSmallB_X44 refSmallB_body44 n [D.str a0, D.int .i64 a1, D.int .i64 a2, D.con (.ints .i32 a3), D.int .i64 a4, D.int .i64 a5, D.int .i64 a6, D.bool a7, D.str a8, D.int .i64 a9, D.str a10, D.int .i64 a11, D.int .i64 a12] k) = (fun a0 a1 a2 a3 a4 a5 a6 a7 a8 a9 a10 a11 a12 => refSmallB_L44 n a0 a1 a2 a3 a4 a5 a6 a7 a8 a9 a10 a11 a12 (fun y0 y1 y2 y3 y4 y5 y6 y7 y8 y9 y10 y11 y12 => k (.exit 7) (mkSt refSmallB_S44e7 [D.str y0, D.int .i64 y1, D.int .i64 y2, D.con (.ints .i32 y3), D.int .i64 y4, D.int .i64 y5, D.int .i64 y6, D.bool y7, D.str y8, D.int .i64 y9, D.str y10, D.int .i64 y11, D.int .i64 y12]))) := by
      funext a0 a1 a2 a3 a4 a5 a6 a7 a8 a9 a10 a11 a12; exact refSmallB_L44_eq k n a0 a1 a2 a3 a4 a5 a6 a7 a8 a9 a10 a11 a12
    have s : aloop refSmallB_C (refSmallB_G R) (refSmallB_Lam2 R) refSmallB_S44 refSmallB_X44 refSmallB_body44 (n + 1) [D.str a0, D.int .i64 a1, D.int .i64 a2, D.con (.ints .i32 a3), D.int .i64 a4, D.int .i64 a5, D.int .i64 a6, D.bool a7, D.str a8, D.int .i64 a9, D.str a10, D.int .i64 a11, D.int .i64 a12] k = refSmallB_B44 (fun a0 a1 a2 a3 a4 a5 a6 a7 a8 a9 a10 a11 a12 => aloop refSmallB_C (refSmallB_G R) (refSmallB_Lam2 R) refSmallB_S44 refSmallB_X44 refSmallB_body44 n [D.str a0, D.int .i64 a1, D.int .i64 a2, D.con (.ints .i32 a3), D.int .i64 a4, D.int .i64 a5, D.int .i64 a6, D.bool a7, D.str a8, D.int .i64 a9, D.str a10, D.int .i64 a11, D.int .i64 a12] k) a0 a1 a2 a3 a4 a5 a6 a7 a8 a9 a10 a11 a12 (fun y0 y1 y2 y3 y4 y5 y6 y7 y8 y9 y10 y11 y12 => k (.exit 7) (mkSt refSmallB_S44e7 [D.str y0, D.int .i64 y1, D.int .i64 y2, D.con (.ints .i32 y3), D.int .i64 y4, D.int .i64 y5, D.int .i64 y6, D.bool y7, D.str y8, D.int .i64 y9, D.str y10, D.int .i64 y11, D.int .i64 y12])) := by kernel_rfl
    rw [s, h]; rfl
noncomputable def refSmallB_A44 (R : Type) (ds : List D) (k : AExit → St → Option R) : Option R :=
  match ds with
  | [D.str a0, D.int .i64 a1, D.int .i64 a2, D.con (.ints .i32 a3), D.int .i64 a4, D.int .i64 a5, D.int .i64 a6, D.bool a7, D.str a8, D.int .i64 a9, D.str a10, D.int .i64 a11, D.int .i64 a12] => refSmallB_M44 a0 a1 a2 a3 a4 a5 a6 a7 a8 a9 a10 a11 a12 (fun y0 y1 y2 y3 y4 y5 y6 y7 y8 y9 y10 y11 y12 => k (.exit 7) (mkSt refSmallB_S44e7 [D.str y0, D.int .i64 y1, D.int .i64 y2, D.con (.ints .i32 y3), D.int .i64 y4, D.int .i64 y5, D.int .i64 y6, D.bool y7, D.str y8, D.int .i64 y9, D.str y10, D.int .i64 y11, D.int .i64 y12]))
  | _ => none
noncomputable def refSmallB_Lam3 (R : Type) : Lam R := fun key st k => bif Nat.beq key 44 then (match readSt refSmallB_S44 st with | some ds => refSmallB_A44 R ds k | none => none) else refSmallB_Lam2 R key st k
theorem refSmallB_A44_ok {R : Type} : ∀ ds k r, refSmallB_A44 R ds k = some r → ∃ e st', k e st' = some r ∧ QA.Reach refSmallB_C (.loop refSmallB_body44) (mkSt refSmallB_S44 ds) e st' := by
  intro ds k r h
  unfold refSmallB_A44 at h
  split at h
  · rw [refSmallB_M44_eq, ← refSmallB_L44_eq] at h
    refine aloop_ok (C := refSmallB_C) qOk (refSmallB_Gok R) ?_ _ _ _ _ h
    rw [show loopsIn refSmallB_body44 = [] from by kernel_rfl]
    intro b hb
    cases hb
  · cases h
noncomputable def refSmallB_body38 : Code := (findLoop 38 refSmallB_code).getD .skip
def refSmallB_S38 : QA.Spec := (⟨[.t 0, .t 1, .t 4, .t 12, .t 24, .t 25, .c 10 5, .c 10 4, .c 10 3, .c 10 2, .c 10 1, .c 10 0], [10], [], [(.t 10, 10, 0)], []⟩ : QA.Spec)
def refSmallB_S38r : QA.Spec := (⟨[.t 11, .c 10 5, .c 10 4, .c 10 3, .c 10 2, .c 10 1, .c 10 0], [10], [], [(.t 10, 10, 0)], []⟩ : QA.Spec)
def refSmallB_S38e5 : QA.Spec := (⟨[.t 0, .t 12, .t 24, .c 10 5, .c 10 4, .c 10 3, .c 10 2, .c 10 1, .c 10 0], [10], [], [(.t 10, 10, 0)], []⟩ : QA.Spec)
def refSmallB_X38 : AExit → Option QA.Spec
  | .normal => none
  | .exit j => bif Nat.beq j 5 then some refSmallB_S38e5 else none
  | .ret => some refSmallB_S38r
theorem refSmallB_L38_eq {R : Type} (k : AExit → St → Option R) : ∀ (n : Nat) (a0 : Str) (a1 : Int) (a2 : Int) (a3 : List Int) (a4 : Int) (a5 : Int) (a6 : Bool) (a7 : Str) (a8 : Int) (a9 : Str) (a10 : Int) (a11 : Int), aloop refSmallB_C (refSmallB_G R) (refSmallB_Lam3 R) refSmallB_S38 refSmallB_X38 refSmallB_body38 n [D.str a0, D.int .i64 a1, D.int .i64 a2, D.con (.ints .i32 a3), D.int .i64 a4, D.int .i64 a5, D.bool a6, D.str a7, D.int .i64 a8, D.str a9, D.int .i64 a10, D.int .i64 a11] k = refSmallB_L38 n a0 a1 a2 a3 a4 a5 a6 a7 a8 a9 a10 a11 (fun y0 y1 y2 y3 y4 y5 y6 => k .ret (mkSt refSmallB_S38r [D.int .i64 y0, D.bool y1, D.str y2, D.int .i64 y3, D.str y4, D.int .i64 y5, D.int .i64 y6])) (fun y0 y1 y2 y3 y4 y5 y6 y7 y8 => k (.exit 5) (mkSt refSmallB_S38e5 [D.str y0, D.con (.ints .i32 y1), D.int .i64 y2, D.bool y3, D.str y4, D.int .i64 y5, D.str y6, D.int .i64 y7, D.int .i64 y8]))
  | 0, _, _, _, _, _, _, _, _, _, _, _, _ => rfl
  | n + 1, a0, a1, a2, a3, a4, a5, a6, a7, a8, a9, a10, a11 => by
    have h : (fun a0 a1 a2 a3 a4 a5 a6 a7 a8 a9 a10 a11 => aloop refSmallB_C (refSmallB_G R) (refSmallB_Lam3 R) refSmallB_S38 refSmallB_X38 refSmallB_body38 n [D.str a0, D.int .i64 a1, D.int .i64 a2, D.con (.ints .i32 a3), D.int .i64 a4, D.int .i64 a5, D.bool a6, D.str a7, D.int .i64 a8, D.str a9, D.int .i64 a10, D.int .i64 a11] k) = (fun a0 a1 a2 a3 a4 a5 a6 a7 a8 a9 a10 a11 => refSmallB_L38 n a0 a1 a2 a3 a4 a5 a6 a7 a8 a9 a10 a11 (fun y0 y1 y2 y3 y4 y5 y6 => k .ret (mkSt refSmallB_S38r [D.int .i64 y0, D.bool y1, D.str y2, D.int .i64 y3, D.str y4, D.int .i64 y5, D.int .i64 y6])) (fun y0 y1 y2 y3 y4 y5 y6 y7 y8 => k (.exit 5) (mkSt refSmallB_S38e5 [D.str y0, D.con (.ints .i32 y1), D.int .i64 y2, D.bool y3, D.str y4, D.int .i64 y5, D.str y6, D.int .i64 y7, D.int .i64 y8]))) := by
      funext a0 a1 a2 a3 a4 a5 a6 a7 a8 a9 a10 a11; exact refSmallB_L38_eq k n a0 a1 a2 a3 a4 a5 a6 a7 a8 a9 a10 a11
    have s : aloop refSmallB_C (refSmallB_G R) (refSmallB_Lam3 R) refSmallB_S38 refSmallB_X38 refSmallB_body38 (n + 1) [D.str a0, D.int .i64 a1, D.int .i64 a2, D.con (.ints .i32 a3), D.int .i64 a4, D.int .i64 a5, D.bool a6, D.str a7, D.int .i64 a8, D.str a9, D.int .i64 a10, D.int .i64 a11] k = refSmallB_B38 (fun a0 a1 a2 a3 a4 a5 a6 a7 a8 a9 a10 a11 => aloop refSmallB_C (refSmallB_G R) (refSmallB_Lam3 R) refSmallB_S38 refSmallB_X38 refSmallB_body38 n [D.str a0, D.int .i64 a1, D.int .i64 a2, D.con (.ints .i32 a3), D.int .i64 a4, D.int .i64 a5, D.bool a6, D.str a7, D.int .i64 a8, D.str a9, D.int .i64 a10, D.int .i64 a11] k) a0 a1 a2 a3 a4 a5 a6 a7 a8 a9 a10 a11 (fun y0 y1 y2 y3 y4 y5 y6 => k .ret (mkSt refSmallB_S38r [D.int .i64 y0, D.bool y1, D.str y2, D.int .i64 y3, D.str y4, D.int .i64 y5, D.int .i64 y6])) (fun y0 y1 y2 y3 y4 y5 y6 y7 y8 => k (.exit 5) (mkSt refSmallB_S38e5 [D.str y0, D.con (.ints .i32 y1), D.int .i64 y2, D.bool y3, D.str y4, D.int .i64 y5, D.str y6, D.int .i64 y7, D.int .i64 y8])) := by kernel_rfl
    rw [s, h]; rfl
noncomputable def refSmallB_A38 (R : Type) (ds : List D) (k : AExit → St → Option R) : Option R :=
  match ds with
  | [D.str a0, D.int .i64 a1, D.int .i64 a2, D.con (.ints .i32 a3), D.int .i64 a4, D.int .i64 a5, D.bool a6, D.str a7, D.int .i64 a8, D.str a9, D.int .i64 a10, D.int .i64 a11] => refSmallB_M38 a0 a1 a2 a3 a4 a5 a6 a7 a8 a9 a10 a11 (fun y0 y1 y2 y3 y4 y5 y6 => k .ret (mkSt refSmallB_S38r [D.int .i64 y0, D.bool y1, D.str y2, D.int .i64 y3, D.str y4, D.int .i64 y5, D.int .i64 y6])) (fun y0 y1 y2 y3 y4 y5 y6 y7 y8 => k (.exit 5) (mkSt refSmallB_S38e5 [D.str y0, D.con (.ints .i32 y1), D.int .i64 y2, D.bool y3, D.str y4, D.int .i64 y5, D.str y6, D.int .i64 y7, D.int .i64 y8]))
  | _ => none
noncomputable def refSmallB_Lam4 (R : Type) : Lam R := fun key st k => bif Nat.beq key 38 then (match readSt refSmallB_S38 st with | some ds => refSmallB_A38 R ds k | none => none) else refSmallB_Lam3 R key st k
theorem refSmallB_A38_ok {R : Type} : ∀ ds k r, refSmallB_A38 R ds k = some r → ∃ e st', k e st' = some r ∧ QA.Reach refSmallB_C (.loop refSmallB_body38) (mkSt refSmallB_S38 ds) e st' := by
  intro ds k r h
  unfold refSmallB_A38 at h
  split at h
  · rw [refSmallB_M38_eq, ← refSmallB_L38_eq] at h
    refine aloop_ok (C := refSmallB_C) qOk (refSmallB_Gok R) ?_ _ _ _ _ h
    rw [show loopsIn refSmallB_body38 = [refSmallB_body44] from by kernel_rfl]
    intro b hb
    simp only [List.mem_cons, List.not_mem_nil, or_false] at hb
    subst hb
    exact lam_of (key := 44) (S := refSmallB_S44) (L := refSmallB_A44 R) (fun st k => by kernel_rfl) (by kernel_rfl) refSmallB_A44_ok
  · cases h
noncomputable def refSmallB_T {R : Type} (s0 : Str) (x1 : Int) (x2 : Int) (x3 : Int) (x4 : Int) (k : Int → Int → Str → Int → Str → Bool → Int → Option R) : Option R :=
  refBegin_F (Go.QA.runesOf s0) x1 (fun x5 =>
  refEnd_F (Go.QA.runesOf s0) x1 (fun x6 =>
   (bif (x2 == (120 : Int)) then
    (bif (x2 == (88 : Int)) then
     (bif (Go.QA.mm Bool.true x5 (Go.IntKind.wrap Go.IntKind.i64 (x1 - x4)) == x1) then
      k ((0 : Int)) ((0 : Int)) [] ((0 : Int)) [] Bool.false ((6 : Int))
     else
      (bif (Decidable.decide ((0 : Int) ≤ Go.QA.mm Bool.true x5 (Go.IntKind.wrap Go.IntKind.i64 (x1 - x4))) && Decidable.decide (Go.QA.mm Bool.true x5 (Go.IntKind.wrap Go.IntKind.i64 (x1 - x4)) ≤ (↑(List.length (Go.QA.runesOf s0)) : Int))) then
       (bif (Decidable.decide ((0 : Int) ≤ x1) && Decidable.decide (x1 ≤ (↑(List.length (Go.QA.runesOf s0)) : Int))) then
        (bif (Decidable.decide (List.length (Go.QA.strOf (List.drop (0 : Nat) (List.take (Int.toNat (Go.QA.mm Bool.true x5 (Go.IntKind.wrap Go.IntKind.i64 (x1 - x4)))) (Go.QA.runesOf s0)))) + List.length (Go.QA.strOf (List.drop (Int.toNat x1) (List.take (List.length (Go.QA.runesOf s0)) (Go.QA.runesOf s0)))) ≤ (9223372036854775807 : Nat))) then
         none
        else
         none)
       else
        none)
      else
       none))
    else
     (bif (x1 == Go.QA.mm Bool.false x6 (Go.IntKind.wrap Go.IntKind.i64 (x1 + x4))) then
      k ((0 : Int)) ((0 : Int)) [] ((0 : Int)) [] Bool.false ((6 : Int))
     else
      (bif (Decidable.decide ((0 : Int) ≤ x1) && Decidable.decide (x1 ≤ (↑(List.length (Go.QA.runesOf s0)) : Int))) then
       (bif (Decidable.decide ((0 : Int) ≤ Go.QA.mm Bool.false x6 (Go.IntKind.wrap Go.IntKind.i64 (x1 + x4))) && Decidable.decide (Go.QA.mm Bool.false x6 (Go.IntKind.wrap Go.IntKind.i64 (x1 + x4)) ≤ (↑(List.length (Go.QA.runesOf s0)) : Int))) then
        (bif (Decidable.decide (List.length (Go.QA.strOf (List.drop (0 : Nat) (List.take (Int.toNat x1) (Go.QA.runesOf s0)))) + List.length (Go.QA.strOf (List.drop (Int.toNat (Go.QA.mm Bool.false x6 (Go.IntKind.wrap Go.IntKind.i64 (x1 + x4)))) (List.take (List.length (Go.QA.runesOf s0)) (Go.QA.runesOf s0)))) ≤ (9223372036854775807 : Nat))) then
         none
        else
         none)
       else
        none)
      else
       none)))
   else
    (bif (x2 == (88 : Int)) then
     (bif (x2 == (88 : Int)) then
      (bif (Go.QA.mm Bool.true x5 (Go.IntKind.wrap Go.IntKind.i64 (x1 - x4)) == x1) then
       k ((0 : Int)) ((0 : Int)) [] ((0 : Int)) [] Bool.false ((6 : Int))
      else
       (bif (Decidable.decide ((0 : Int) ≤ Go.QA.mm Bool.true x5 (Go.IntKind.wrap Go.IntKind.i64 (x1 - x4))) && Decidable.decide (Go.QA.mm Bool.true x5 (Go.IntKind.wrap Go.IntKind.i64 (x1 - x4)) ≤ (↑(List.length (Go.QA.runesOf s0)) : Int))) then
        (bif (Decidable.decide ((0 : Int) ≤ x1) && Decidable.decide (x1 ≤ (↑(List.length (Go.QA.runesOf s0)) : Int))) then
         (bif (Decidable.decide (List.length (Go.QA.strOf (List.drop (0 : Nat) (List.take (Int.toNat (Go.QA.mm Bool.true x5 (Go.IntKind.wrap Go.IntKind.i64 (x1 - x4)))) (Go.QA.runesOf s0)))) + List.length (Go.QA.strOf (List.drop (Int.toNat x1) (List.take (List.length (Go.QA.runesOf s0)) (Go.QA.runesOf s0)))) ≤ (9223372036854775807 : Nat))) then
          none
         else
          none)
        else
         none)
       else
        none))
     else
      (bif (x1 == Go.QA.mm Bool.false x6 (Go.IntKind.wrap Go.IntKind.i64 (x1 + x4))) then
       k ((0 : Int)) ((0 : Int)) [] ((0 : Int)) [] Bool.false ((6 : Int))
      else
       (bif (Decidable.decide ((0 : Int) ≤ x1) && Decidable.decide (x1 ≤ (↑(List.length (Go.QA.runesOf s0)) : Int))) then
        (bif (Decidable.decide ((0 : Int) ≤ Go.QA.mm Bool.false x6 (Go.IntKind.wrap Go.IntKind.i64 (x1 + x4))) && Decidable.decide (Go.QA.mm Bool.false x6 (Go.IntKind.wrap Go.IntKind.i64 (x1 + x4)) ≤ (↑(List.length (Go.QA.runesOf s0)) : Int))) then
         (bif (Decidable.decide (List.length (Go.QA.strOf (List.drop (0 : Nat) (List.take (Int.toNat x1) (Go.QA.runesOf s0)))) + List.length (Go.QA.strOf (List.drop (Int.toNat (Go.QA.mm Bool.false x6 (Go.IntKind.wrap Go.IntKind.i64 (x1 + x4)))) (List.take (List.length (Go.QA.runesOf s0)) (Go.QA.runesOf s0)))) ≤ (9223372036854775807 : Nat))) then
          none
         else
          none)
        else
         none)
       else
        none)))
    else
     (bif (x2 == (114 : Int)) then
      (bif (Decidable.decide (Go.IntKind.wrap Go.IntKind.i64 (Go.QA.mm Bool.false x6 (Go.IntKind.wrap Go.IntKind.i64 (x1 + x4)) - x1) < x4)) then
       k ((0 : Int)) ((0 : Int)) [] ((0 : Int)) [] Bool.false ((6 : Int))
      else
       refSmallB_M24 s0 x3 (Go.QA.runesOf s0) (Go.QA.mm Bool.false x6 (Go.IntKind.wrap Go.IntKind.i64 (x1 + x4))) x1 Bool.false [] ((0 : Int)) [] ((0 : Int)) ((0 : Int))
        (fun s18 l19 x20 b21 s22 x23 s24 x25 x26 =>
        made18_F s18 (Go.QA.strOf l19) (Go.IntKind.wrap Go.IntKind.i64 (x20 - (1 : Int))) (fun x27 x28 s29 x30 s31 b32 x33 =>
         k x27 x28 s29 x30 s31 b32 x33)))
     else
      (bif (x2 == (126 : Int)) then
       (bif (Go.QA.mm Bool.false x6 (Go.IntKind.wrap Go.IntKind.i64 (x1 + x4)) == x1) then
        k ((0 : Int)) ((0 : Int)) [] ((0 : Int)) [] Bool.false ((6 : Int))
       else
        refSmallB_M32 s0 (Go.QA.runesOf s0) (Go.QA.mm Bool.false x6 (Go.IntKind.wrap Go.IntKind.i64 (x1 + x4))) x1 Bool.false [] ((0 : Int)) [] ((0 : Int)) ((0 : Int))
         (fun s45 l46 x47 b48 s49 x50 s51 x52 x53 =>
         refRest_F l46 x47 (fun x54 =>
          made18_F s45 (Go.QA.strOf l46) x54 (fun x55 x56 s57 x58 s59 b60 x61 =>
           k x55 x56 s57 x58 s59 b60 x61))))
      else
       refSmallB_M38 s0 x1 x4 (Go.QA.runesOf s0) x1 ((0 : Int)) Bool.false [] ((0 : Int)) [] ((0 : Int)) ((0 : Int))
        (fun x104 b105 s106 x107 s108 x109 x110 =>
        k x110 x109 s108 x107 s106 b105 x104)
        (fun s111 l112 x113 b114 s115 x116 s117 x118 x119 =>
        made18_F s111 (Go.QA.strOf l112) x113 (fun x120 x121 s122 x123 s124 b125 x126 =>
         k x120 x121 s122 x123 s124 b125 x126))))))))
noncomputable def refSmallB_F {R : Type} : Str → Int → Int → Int → Int → (Int → Int → Str → Int → Str → Bool → Int → Option R) → Option R := lock refSmallB_T
theorem refSmallB_F_T {R : Type} : @refSmallB_F R = refSmallB_T := lock_eq _
theorem refSmallB_F_eq {R : Type} (s0 : Str) (x1 : Int) (x2 : Int) (x3 : Int) (x4 : Int) (k : D → Option R) : afun qP [31] (refSmallB_G R) (refSmallB_Lam4 R) Tryd.f23 [D.str s0, D.int .i64 x1, D.int .i64 x2, D.int .i64 x3, D.int .i64 x4] k = refSmallB_T s0 x1 x2 x3 x4 (fun y0 y1 y2 y3 y4 y5 y6 => k (D.tup [D.agg [D.int .i64 y0, D.int .i64 y1, D.str y2, D.int .i64 y3, D.str y4, D.bool y5], D.int .i64 y6])) := by kernel_rfl
noncomputable def refSmallB_abs (R : Type) (ds : List D) (k : D → Option R) : Option R :=
  match ds with
  | [D.str s0, D.int .i64 x1, D.int .i64 x2, D.int .i64 x3, D.int .i64 x4] => refSmallB_F s0 x1 x2 x3 x4 (fun y0 y1 y2 y3 y4 y5 y6 => k (D.tup [D.agg [D.int .i64 y0, D.int .i64 y1, D.str y2, D.int .i64 y3, D.str y4, D.bool y5], D.int .i64 y6]))
  | _ => none
theorem refSmallB_ok : FnOk qP 23 refSmallB_abs := by
  intro R ds k r h
  unfold refSmallB_abs at h
  split at h
  · rw [refSmallB_F_T, ← refSmallB_F_eq] at h
    refine afun_ok (P := qP) (c := refSmallB_code) qOk (refSmallB_Gok R) Tryd.func23 (by kernel_rfl) (by kernel_rfl) ?_ ?_ (by kernel_rfl) h
    rotate_left
    · exact Nat.le_of_ble_eq_true (by kernel_rfl)
    rw [show loopsIn refSmallB_code = [refSmallB_body24, refSmallB_body32, refSmallB_body38] from by kernel_rfl]
    intro b hb
    simp only [List.mem_cons, List.not_mem_nil, or_false] at hb
    rcases hb with rfl | rfl | rfl
    · exact lam_of (key := 24) (S := refSmallB_S24) (L := refSmallB_A24 R) (fun st k => by kernel_rfl) (by kernel_rfl) refSmallB_A24_ok
    · exact lam_of (key := 32) (S := refSmallB_S32) (L := refSmallB_A32 R) (fun st k => by kernel_rfl) (by kernel_rfl) refSmallB_A32_ok
    · exact lam_of (key := 38) (S := refSmallB_S38) (L := refSmallB_A38 R) (fun st k => by kernel_rfl) (by kernel_rfl) refSmallB_A38_ok
  · cases h

/-! ### refTidy: function 111 -/

noncomputable def refTidy_C : Cfg := ⟨qP, Tryd.f111.ntmps, []⟩
noncomputable def refTidy_code : Code := Tryd.f111.body.getD .skip
noncomputable def refTidy_G (R : Type) : Orc R := fun f args k => bif Nat.beq f 125 then refFirst_abs R args k else (fun f args k => bif Nat.beq f 47 then refRest_abs R args k else (fun _ _ _ => none) f args k) f args k
theorem refTidy_Gok (R : Type) : OrcOk qP (refTidy_G R) := (orc_cons refFirst_ok (orc_cons refRest_ok orc_nil))
noncomputable def refTidy_Lam0 (R : Type) : Lam R := fun _ _ _ => none
noncomputable def refTidy_T {R : Type} (s0 : Str) (x1 : Int) (k : Int → Option R) : Option R :=
  refFirst_F (Go.QA.runesOf s0) x1 (fun x2 =>
  refRest_F (Go.QA.runesOf s0) x2 (fun x3 =>
   k x3))
noncomputable def refTidy_F {R : Type} : Str → Int → (Int → Option R) → Option R := lock refTidy_T
theorem refTidy_F_T {R : Type} : @refTidy_F R = refTidy_T := lock_eq _
theorem refTidy_F_eq {R : Type} (s0 : Str) (x1 : Int) (k : D → Option R) : afun qP [] (refTidy_G R) (refTidy_Lam0 R) Tryd.f111 [D.str s0, D.int .i64 x1] k = refTidy_T s0 x1 (fun y0 => k (D.int .i64 y0)) := by kernel_rfl
noncomputable def refTidy_abs (R : Type) (ds : List D) (k : D → Option R) : Option R :=
  match ds with
  | [D.str s0, D.int .i64 x1] => refTidy_F s0 x1 (fun y0 => k (D.int .i64 y0))
  | _ => none
theorem refTidy_ok : FnOk qP 111 refTidy_abs := by
  intro R ds k r h
  unfold refTidy_abs at h
  split at h
  · rw [refTidy_F_T, ← refTidy_F_eq] at h
    refine afun_ok (P := qP) (c := refTidy_code) qOk (refTidy_Gok R) Tryd.func111 (by kernel_rfl) (by kernel_rfl) ?_ ?_ (by kernel_rfl) h
    rotate_left
    · exact Nat.le_of_ble_eq_true (by kernel_rfl)
    rw [show loopsIn refTidy_code = [] from by kernel_rfl]
    intro b hb
    cases hb
  · cases h

/-! ### smallBetween: function 101 -/

noncomputable def smallBetween_C : Cfg := ⟨qP, Tryd.f101.ntmps, [30]⟩
noncomputable def smallBetween_code : Code := Tryd.f101.body.getD .skip
noncomputable def smallBetween_G (R : Type) : Orc R := fun f args k => bif Nat.beq f 95 then textClass_abs R args k else (fun _ _ _ => none) f args k
theorem smallBetween_Gok (R : Type) : OrcOk qP (smallBetween_G R) := (orc_cons textClass_ok orc_nil)
noncomputable def smallBetween_Lam0 (R : Type) : Lam R := fun _ _ _ => none
noncomputable def smallBetween_T {R : Type} (l0 : List Int) (l1 : List Int) (k : List Int → Option R) : Option R :=
  (bif ((↑(List.length l0) : Int) == (0 : Int)) then
  k []
 else
  (bif (Decidable.decide ((0 : Int) ≤ Go.IntKind.wrap Go.IntKind.i64 ((↑(List.length l0) : Int) - (1 : Int))) && Decidable.decide (Go.IntKind.wrap Go.IntKind.i64 ((↑(List.length l0) : Int) - (1 : Int)) < (↑(List.length l0) : Int))) then
   textClass_F (Go.IntKind.wrap Go.IntKind.i64 (List.getD l0 (Int.toNat (Go.IntKind.wrap Go.IntKind.i64 ((↑(List.length l0) : Int) - (1 : Int)))) (0 : Int))) (fun x2 =>
    (bif (x2 == (0 : Int)) then
     k []
    else
     (bif ((↑(List.length l1) : Int) == (0 : Int)) then
      k []
     else
      (bif (Decidable.decide ((0 : Int) ≤ (0 : Int)) && Decidable.decide ((0 : Int) < (↑(List.length l1) : Int))) then
       (bif (List.getD l1 (Int.toNat (0 : Int)) (0 : Int) == (41 : Int)) then
        k []
       else
        k ([(32 : Int)]))
      else
       none))))
  else
   none))
noncomputable def smallBetween_F {R : Type} : List Int → List Int → (List Int → Option R) → Option R := lock smallBetween_T
theorem smallBetween_F_T {R : Type} : @smallBetween_F R = smallBetween_T := lock_eq _
theorem smallBetween_F_eq {R : Type} (l0 : List Int) (l1 : List Int) (k : D → Option R) : afunF qP [30] (smallBetween_G R) (smallBetween_Lam0 R) Tryd.f101 [D.sl (.ints .i32 l0), D.sl (.ints .i32 l1)] k = smallBetween_T l0 l1 (fun y0 => k (D.sl (.ints .i32 y0))) := by kernel_rfl
noncomputable def smallBetween_abs (R : Type) (ds : List D) (k : D → Option R) : Option R :=
  match ds with
  | [D.sl (.ints .i32 l0), D.sl (.ints .i32 l1)] => smallBetween_F l0 l1 (fun y0 => k (D.sl (.ints .i32 y0)))
  | _ => none
theorem smallBetween_ok : FnOk qP 101 smallBetween_abs := by
  intro R ds k r h
  unfold smallBetween_abs at h
  split at h
  · rw [smallBetween_F_T, ← smallBetween_F_eq] at h
    refine afunF_ok (P := qP) (c := smallBetween_code) qOk (smallBetween_Gok R) Tryd.func101 (by kernel_rfl) (by kernel_rfl) ?_ ?_ h
    rotate_left
    · exact Nat.le_of_ble_eq_true (by kernel_rfl)
    rw [show loopsIn smallBetween_code = [] from by kernel_rfl]
    intro b hb
    cases hb
  · cases h

end Go.Proofs.YtleoffdjdgbanaaDoor

set_option linter.unusedVariables false
set_option linter.unusedSimpArgs false
set_option maxRecDepth 1000000
namespace Go.Proofs.YtleoffdjdgbanaaDoor
open Go Go.QA Go.Proofs

/-! ### changeRows: function 66 -/

noncomputable def changeRows_C : Cfg := ⟨qP, Tryd.f66.ntmps, [16]⟩
noncomputable def changeRows_code : Code := Tryd.f66.body.getD .skip
noncomputable def changeRows_G (R : Type) : Orc R := fun f args k => bif Nat.beq f 94 then libSplit_abs R args k else (fun f args k => bif Nat.beq f 71 then MapRow_abs R args k else (fun f args k => bif Nat.beq f 95 then textClass_abs R args k else (fun f args k => bif Nat.beq f 96 then libJoin_abs R args k else (fun f args k => bif Nat.beq f 52 then textOf_abs R args k else (fun f args k => bif Nat.beq f 83 then MapFirst_abs R args k else (fun f args k => bif Nat.beq f 82 then MapRest_abs R args k else (fun f args k => bif Nat.beq f 65 then changeMade_abs R args k else (fun _ _ _ => none) f args k) f args k) f args k) f args k) f args k) f args k) f args k) f args k
theorem changeRows_Gok (R : Type) : OrcOk qP (changeRows_G R) := (orc_cons libSplit_ok (orc_cons MapRow_ok (orc_cons textClass_ok (orc_cons libJoin_ok (orc_cons textOf_ok (orc_cons MapFirst_ok (orc_cons MapRest_ok (orc_cons changeMade_ok orc_nil))))))))
noncomputable def changeRows_B7 {R : Type} (rec : Str → List Int → List Int → Int → List Str → Int → Int → Bool → Int → Int → Bool → Str → Int → Str → Int → Int → Str → Nat → Option R) (s26 : Str) (l27 : List Int) (l28 : List Int) (x29 : Int) (q30 : List Str) (x31 : Int) (x32 : Int) (b33 : Bool) (x34 : Int) (x35 : Int) (b36 : Bool) (s37 : Str) (x38 : Int) (s39 : Str) (x40 : Int) (x41 : Int) (s42 : Str) (n43 : Nat) (ke0 : Str → List Int → List Int → Int → List Str → Int → Int → Bool → Int → Int → Bool → Str → Int → Str → Int → Int → Option R) : Option R :=
  (bif (Decidable.decide (n43 < List.length s42)) then
  (bif (Decidable.decide ((0 : Int) ≤ x32) && Decidable.decide (x32 < (↑(List.length q30) : Int))) then
   (bif (!List.getD q30 (Int.toNat x32) [] == []) then
    (bif (Decidable.decide ((0 : Int) ≤ x32) && Decidable.decide (x32 < (↑(List.length q30) : Int))) then
     (bif (Decidable.decide ((0 : Int) ≤ (0 : Int)) && Decidable.decide ((0 : Int) < (↑(List.length (List.getD q30 (Int.toNat x32) [])) : Int))) then
      textClass_F (Go.IntKind.wrap Go.IntKind.i64 (↑(UInt8.toNat (List.getD (List.getD q30 (Int.toNat x32) []) (Int.toNat (0 : Int)) (0 : UInt8))) : Int)) (fun x44 =>
       (bif (x44 == (0 : Int)) then
        (bif (Decidable.decide ((0 : Int) ≤ x32) && Decidable.decide (x32 < (↑(List.length q30) : Int))) then
         (bif (Decidable.decide ((0 : Int) ≤ (1 : Int)) && Decidable.decide ((1 : Int) ≤ (↑(List.length (List.getD q30 (Int.toNat x32) [])) : Int))) then
          (bif (Decidable.decide ((0 : Int) ≤ x32) && Decidable.decide (x32 < (↑(List.length q30) : Int))) then
           rec s26 l27 l28 x29 (List.set q30 (Int.toNat x32) (List.drop (Int.toNat (1 : Int)) (List.take (List.length (List.getD q30 (Int.toNat x32) [])) (List.getD q30 (Int.toNat x32) [])))) x31 x32 b33 x34 x35 b36 s37 x38 s39 x40 x41 s42 (n43 + Prod.snd (Go.Utf8.decode { data := { toList := s42 } } n43))
          else
           none)
         else
          none)
        else
         none)
       else
        rec s26 l27 l28 x29 q30 x31 x32 b33 x34 x35 b36 s37 x38 s39 x40 x41 s42 (n43 + Prod.snd (Go.Utf8.decode { data := { toList := s42 } } n43))))
     else
      none)
    else
     none)
   else
    rec s26 l27 l28 x29 q30 x31 x32 b33 x34 x35 b36 s37 x38 s39 x40 x41 s42 (n43 + Prod.snd (Go.Utf8.decode { data := { toList := s42 } } n43)))
  else
   none)
 else
  ke0 s26 l27 l28 x29 q30 x31 x32 b33 x34 x35 b36 s37 x38 s39 x40 x41)
noncomputable def changeRows_L7 {R : Type} : Nat → Str → List Int → List Int → Int → List Str → Int → Int → Bool → Int → Int → Bool → Str → Int → Str → Int → Int → Str → Nat → (Str → List Int → List Int → Int → List Str → Int → Int → Bool → Int → Int → Bool → Str → Int → Str → Int → Int → Option R) → Option R
  | 0, _, _, _, _, _, _, _, _, _, _, _, _, _, _, _, _, _, _, _ => none
  | n + 1, s26, l27, l28, x29, q30, x31, x32, b33, x34, x35, b36, s37, x38, s39, x40, x41, s42, n43, ke0 => changeRows_B7 (fun s26 l27 l28 x29 q30 x31 x32 b33 x34 x35 b36 s37 x38 s39 x40 x41 s42 n43 => changeRows_L7 n s26 l27 l28 x29 q30 x31 x32 b33 x34 x35 b36 s37 x38 s39 x40 x41 s42 n43 ke0) s26 l27 l28 x29 q30 x31 x32 b33 x34 x35 b36 s37 x38 s39 x40 x41 s42 n43 ke0
noncomputable def changeRows_M7 {R : Type} : Str → List Int → List Int → Int → List Str → Int → Int → Bool → Int → Int → Bool → Str → Int → Str → Int → Int → Str → Nat → (Str → List Int → List Int → Int → List Str → Int → Int → Bool → Int → Int → Bool → Str → Int → Str → Int → Int → Option R) → Option R := lock (changeRows_L7 4611686018427387904)
theorem changeRows_M7_eq {R : Type} : @changeRows_M7 R = changeRows_L7 4611686018427387904 := lock_eq _
noncomputable def changeRows_B4 {R : Type} (rec : Str → List Int → List Int → Int → List Str → Int → Int → Bool → Int → Int → Bool → Str → Int → Str → Int → Int → Option R) (s9 : Str) (l10 : List Int) (l11 : List Int) (x12 : Int) (q13 : List Str) (x14 : Int) (x15 : Int) (b16 : Bool) (x17 : Int) (x18 : Int) (b19 : Bool) (s20 : Str) (x21 : Int) (s22 : Str) (x23 : Int) (x24 : Int) (ke0 : Str → List Str → Int → Bool → Str → Int → Str → Int → Int → Option R) : Option R :=
  MapRow_F l10 l11 x17 (fun x25 =>
  (bif (Decidable.decide (x15 ≤ x25)) then
   (bif (Decidable.decide ((0 : Int) ≤ x15) && Decidable.decide (x15 < (↑(List.length q13) : Int))) then
    (bif (List.getD q13 (Int.toNat x15) [] == []) then
     rec s9 l10 l11 x12 q13 x14 (Go.IntKind.wrap Go.IntKind.i64 (x15 + (1 : Int))) b16 x17 x18 b19 s20 x21 s22 x23 x24
    else
     (bif (x12 == (62 : Int)) then
      (bif (Decidable.decide ((0 : Int) ≤ x15) && Decidable.decide (x15 < (↑(List.length q13) : Int))) then
       (bif (Decidable.decide (List.length [(32 : UInt8), (32 : UInt8)] + List.length (List.getD q13 (Int.toNat x15) []) ≤ (9223372036854775807 : Nat))) then
        (bif (Decidable.decide ((0 : Int) ≤ x15) && Decidable.decide (x15 < (↑(List.length q13) : Int))) then
         rec s9 l10 l11 x12 (List.set q13 (Int.toNat x15) ([(32 : UInt8), (32 : UInt8)] ++ List.getD q13 (Int.toNat x15) [])) x14 (Go.IntKind.wrap Go.IntKind.i64 (x15 + (1 : Int))) b16 x17 x18 b19 s20 x21 s22 x23 x24
        else
         none)
       else
        none)
      else
       none)
     else
      changeRows_M7 s9 l10 l11 x12 q13 x14 x15 b16 x17 x18 b19 s20 x21 s22 x23 x24 ([(32 : UInt8), (32 : UInt8)]) ((0 : Nat))
       (fun s45 l46 l47 x48 q49 x50 x51 b52 x53 x54 b55 s56 x57 s58 x59 x60 =>
       rec s45 l46 l47 x48 q49 x50 (Go.IntKind.wrap Go.IntKind.i64 (x51 + (1 : Int))) b52 x53 x54 b55 s56 x57 s58 x59 x60)))
   else
    none)
  else
   ke0 s9 q13 x14 b19 s20 x21 s22 x23 x24))
noncomputable def changeRows_L4 {R : Type} : Nat → Str → List Int → List Int → Int → List Str → Int → Int → Bool → Int → Int → Bool → Str → Int → Str → Int → Int → (Str → List Str → Int → Bool → Str → Int → Str → Int → Int → Option R) → Option R
  | 0, _, _, _, _, _, _, _, _, _, _, _, _, _, _, _, _, _ => none
  | n + 1, s9, l10, l11, x12, q13, x14, x15, b16, x17, x18, b19, s20, x21, s22, x23, x24, ke0 => changeRows_B4 (fun s9 l10 l11 x12 q13 x14 x15 b16 x17 x18 b19 s20 x21 s22 x23 x24 => changeRows_L4 n s9 l10 l11 x12 q13 x14 x15 b16 x17 x18 b19 s20 x21 s22 x23 x24 ke0) s9 l10 l11 x12 q13 x14 x15 b16 x17 x18 b19 s20 x21 s22 x23 x24 ke0
noncomputable def changeRows_M4 {R : Type} : Str → List Int → List Int → Int → List Str → Int → Int → Bool → Int → Int → Bool → Str → Int → Str → Int → Int → (Str → List Str → Int → Bool → Str → Int → Str → Int → Int → Option R) → Option R := lock (changeRows_L4 4611686018427387904)
theorem changeRows_M4_eq {R : Type} : @changeRows_M4 R = changeRows_L4 4611686018427387904 := lock_eq _
noncomputable def changeRows_Lam0 (R : Type) : Lam R := fun _ _ _ => none
noncomputable def changeRows_body7 : Code := (findLoop 7 changeRows_code).getD .skip
def changeRows_S7 : QA.Spec := (⟨[.t 0, .t 1, .t 3, .t 10, .t 11, .t 12, .c 6 2, .c 6 1, .c 6 0, .c 8 5, .c 8 4, .c 8 3, .c 8 2, .c 8 1, .c 8 0, .i 30], [6, 8, 30], [], [(.t 6, 6, 0), (.t 8, 8, 0)], [(.t 30, 30)]⟩ : QA.Spec)
def changeRows_S7e3 : QA.Spec := (⟨[.t 0, .t 1, .t 3, .t 10, .t 11, .t 12, .c 6 2, .c 6 1, .c 6 0, .c 8 5, .c 8 4, .c 8 3, .c 8 2, .c 8 1, .c 8 0], [6, 8], [], [(.t 6, 6, 0), (.t 8, 8, 0)], []⟩ : QA.Spec)
def changeRows_X7 : AExit → Option QA.Spec
  | .normal => none
  | .exit j => bif Nat.beq j 3 then some changeRows_S7e3 else none
  | .ret => none
theorem changeRows_L7_eq {R : Type} (k : AExit → St → Option R) : ∀ (n : Nat) (a0 : Str) (a1 : List Int) (a2 : List Int) (a3 : Int) (a4 : List Str) (a5 : Int) (a6 : Int) (a7 : Bool) (a8 : Int) (a9 : Int) (a10 : Bool) (a11 : Str) (a12 : Int) (a13 : Str) (a14 : Int) (a15 : Int) (a16 : Str) (a17 : Nat), aloop changeRows_C (changeRows_G R) (changeRows_Lam0 R) changeRows_S7 changeRows_X7 changeRows_body7 n [D.str a0, D.ptr [D.sl (.ints .i32 a1), D.sl (.ints .i64 a2)], D.int .i64 a3, D.con (.strs a4), D.int .i64 a5, D.int .i64 a6, D.bool a7, D.int .i64 a8, D.int .i64 a9, D.bool a10, D.str a11, D.int .i64 a12, D.str a13, D.int .i64 a14, D.int .i64 a15, D.its a16 a17] k = changeRows_L7 n a0 a1 a2 a3 a4 a5 a6 a7 a8 a9 a10 a11 a12 a13 a14 a15 a16 a17 (fun y0 y1 y2 y3 y4 y5 y6 y7 y8 y9 y10 y11 y12 y13 y14 y15 => k (.exit 3) (mkSt changeRows_S7e3 [D.str y0, D.ptr [D.sl (.ints .i32 y1), D.sl (.ints .i64 y2)], D.int .i64 y3, D.con (.strs y4), D.int .i64 y5, D.int .i64 y6, D.bool y7, D.int .i64 y8, D.int .i64 y9, D.bool y10, D.str y11, D.int .i64 y12, D.str y13, D.int .i64 y14, D.int .i64 y15]))
  | 0, _, _, _, _, _, _, _, _, _, _, _, _, _, _, _, _, _, _ => rfl
  | n + 1, a0, a1, a2, a3, a4, a5, a6, a7, a8, a9, a10, a11, a12, a13, a14, a15, a16, a17 => by
    have h : (fun a0 a1 a2 a3 a4 a5 a6 a7 a8 a9 a10 a11 a12 a13 a14 a15 a16 a17 => aloop changeRows_C (changeRows_G R) (changeRows_Lam0 R) changeRows_S7 changeRows_X7 changeRows_body7 n [D.str a0, D.ptr [D.sl (.ints .i32 a1), D.sl (.ints .i64 a2)], D.int .i64 a3, D.con (.strs a4), D.int .i64 a5, D.int .i64 a6, D.bool a7, D.int .i64 a8, D.int .i64 a9, D.bool a10, D.str a11, D.int .i64 a12, D.str a13, D.int .i64 a14, D.int .i64 a15, D.its a16 a17] k) = (fun a0 a1 a2 a3 a4 a5 a6 a7 a8 a9 a10 a11 a12 a13 a14 a15 a16 a17 => changeRows_L7 n a0 a1 a2 a3 a4 a5 a6 a7 a8 a9 a10 a11 a12 a13 a14 a15 a16 a17 (fun y0 y1 y2 y3 y4 y5 y6 y7 y8 y9 y10 y11 y12 y13 y14 y15 => k (.exit 3) (mkSt changeRows_S7e3 [D.str y0, D.ptr [D.sl (.ints .i32 y1), D.sl (.ints .i64 y2)], D.int .i64 y3, D.con (.strs y4), D.int .i64 y5, D.int .i64 y6, D.bool y7, D.int .i64 y8, D.int .i64 y9, D.bool y10, D.str y11, D.int .i64 y12, D.str y13, D.int .i64 y14, D.int .i64 y15]))) := by
      funext a0 a1 a2 a3 a4 a5 a6 a7 a8 a9 a10 a11 a12 a13 a14 a15 a16 a17; exact changeRows_L7_eq k n a0 a1 a2 a3 a4 a5 a6 a7 a8 a9 a10 a11 a12 a13 a14 a15 a16 a17
    have s : aloop changeRows_C (changeRows_G R) (changeRows_Lam0 R) changeRows_S7 changeRows_X7 changeRows_body7 (n + 1) [D.str a0, D.ptr [D.sl (.ints .i32 a1), D.sl (.ints .i64 a2)], D.int .i64 a3, D.con (.strs a4), D.int .i64 a5, D.int .i64 a6, D.bool a7, D.int .i64 a8, D.int .i64 a9, D.bool a10, D.str a11, D.int .i64 a12, D.str a13, D.int .i64 a14, D.int .i64 a15, D.its a16 a17] k = changeRows_B7 (fun a0 a1 a2 a3 a4 a5 a6 a7 a8 a9 a10 a11 a12 a13 a14 a15 a16 a17 => aloop changeRows_C (changeRows_G R) (changeRows_Lam0 R) changeRows_S7 changeRows_X7 changeRows_body7 n [D.str a0, D.ptr [D.sl (.ints .i32 a1), D.sl (.ints .i64 a2)], D.int .i64 a3, D.con (.strs a4), D.int .i64 a5, D.int .i64 a6, D.bool a7, D.int .i64 a8, D.int .i64 a9, D.bool a10, D.str a11, D.int .i64 a12, D.str a13, D.int .i64 a14, D.int .i64 a15, D.its a16 a17] k) a0 a1 a2 a3 a4 a5 a6 a7 a8 a9 a10 a11 a12 a13 a14 a15 a16 a17 (fun y0 y1 y2 y3 y4 y5 y6 y7 y8 y9 y10 y11 y12 y13 y14 y15 => k (.exit 3) (mkSt changeRows_S7e3 [D.str y0, D.ptr [D.sl (.ints .i32 y1), D.sl (.ints .i64 y2)], D.int .i64 y3, D.con (.strs y4), D.int .i64 y5, D.int .i64 y6, D.bool y7, D.int .i64 y8, D.int .i64 y9, D.bool y10, D.str y11, D.int .i64 y12, D.str y13, D.int .i64 y14, D.int .i64 y15])) := by kernel_rfl
    rw [s, h]; rfl
noncomputable def changeRows_A7 (R : Type) (ds : List D) (k : AExit → St → Option R) : Option R :=
  match ds with
  | [D.str a0, D.ptr [D.sl (.ints .i32 a1), D.sl (.ints .i64 a2)], D.int .i64 a3, D.con (.strs a4), D.int .i64 a5, D.int .i64 a6, D.bool a7, D.int .i64 a8, D.int .i64 a9, D.bool a10, D.str a11, D.int .i64 a12, D.str a13, D.int .i64 a14, D.int .i64 a15, D.its a16 a17] => changeRows_M7 a0 a1 a2 a3 a4 a5 a6 a7 a8 a9 a10 a11 a12 a13 a14 a15 a16 a17 (fun y0 y1 y2 y3 y4 y5 y6 y7 y8 y9 y10 y11 y12 y13 y14 y15 => k (.exit 3) (mkSt changeRows_S7e3 [D.str y0, D.ptr [D.sl (.ints .i32 y1), D.sl (.ints .i64 y2)], D.int .i64 y3, D.con (.strs y4), D.int .i64 y5, D.int .i64 y6, D.bool y7, D.int .i64 y8, D.int .i64 y9, D.bool y10, D.str y11, D.int .i64 y12, D.str y13, D.int .i64 y14, D.int .i64 y15]))
  | _ => none
noncomputable def changeRows_Lam1 (R : Type) : Lam R := fun key st k => bif Nat.beq key 7 then (match readSt changeRows_S7 st with | some ds => changeRows_A7 R ds k | none => none) else changeRows_Lam0 R key st k
theorem changeRows_A7_ok {R : Type} : ∀ ds k r, changeRows_A7 R ds k = some r → ∃ e st', k e st' = some r ∧ QA.Reach changeRows_C (.loop changeRows_body7) (mkSt changeRows_S7 ds) e st' := by
  intro ds k r h
  unfold changeRows_A7 at h
  split at h
  · rw [changeRows_M7_eq, ← changeRows_L7_eq] at h
    refine aloop_ok (C := changeRows_C) qOk (changeRows_Gok R) ?_ _ _ _ _ h
    rw [show loopsIn changeRows_body7 = [] from by kernel_rfl]
    intro b hb
    cases hb
  · cases h
noncomputable def changeRows_body4 : Code := (findLoop 4 changeRows_code).getD .skip
def changeRows_S4 : QA.Spec := (⟨[.t 0, .t 1, .t 3, .t 10, .t 11, .t 12, .c 6 2, .c 6 1, .c 6 0, .c 8 5, .c 8 4, .c 8 3, .c 8 2, .c 8 1, .c 8 0], [6, 8], [], [(.t 6, 6, 0), (.t 8, 8, 0)], []⟩ : QA.Spec)
def changeRows_S4e0 : QA.Spec := (⟨[.t 0, .t 10, .t 11, .c 8 5, .c 8 4, .c 8 3, .c 8 2, .c 8 1, .c 8 0], [8], [], [(.t 8, 8, 0)], []⟩ : QA.Spec)
def changeRows_X4 : AExit → Option QA.Spec
  | .normal => none
  | .exit j => bif Nat.beq j 0 then some changeRows_S4e0 else none
  | .ret => none
theorem changeRows_L4_eq {R : Type} (k : AExit → St → Option R) : ∀ (n : Nat) (a0 : Str) (a1 : List Int) (a2 : List Int) (a3 : Int) (a4 : List Str) (a5 : Int) (a6 : Int) (a7 : Bool) (a8 : Int) (a9 : Int) (a10 : Bool) (a11 : Str) (a12 : Int) (a13 : Str) (a14 : Int) (a15 : Int), aloop changeRows_C (changeRows_G R) (changeRows_Lam1 R) changeRows_S4 changeRows_X4 changeRows_body4 n [D.str a0, D.ptr [D.sl (.ints .i32 a1), D.sl (.ints .i64 a2)], D.int .i64 a3, D.con (.strs a4), D.int .i64 a5, D.int .i64 a6, D.bool a7, D.int .i64 a8, D.int .i64 a9, D.bool a10, D.str a11, D.int .i64 a12, D.str a13, D.int .i64 a14, D.int .i64 a15] k = changeRows_L4 n a0 a1 a2 a3 a4 a5 a6 a7 a8 a9 a10 a11 a12 a13 a14 a15 (fun y0 y1 y2 y3 y4 y5 y6 y7 y8 => k (.exit 0) (mkSt changeRows_S4e0 [D.str y0, D.con (.strs y1), D.int .i64 y2, D.bool y3, D.str y4, D.int .i64 y5, D.str y6, D.int .i64 y7, D.int .i64 y8]))
  | 0, _, _, _, _, _, _, _, _, _, _, _, _, _, _, _, _ => rfl
  | n + 1, a0, a1, a2, a3, a4, a5, a6, a7, a8, a9, a10, a11, a12, a13, a14, a15 => by
    have h : (fun a0 a1 a2 a3 a4 a5 a6 a7 a8 a9 a10 a11 a12 a13 a14 a15 => aloop changeRows_C (changeRows_G R) (changeRows_Lam1 R) changeRows_S4 changeRows_X4 changeRows_body4 n [D.str a0, D.ptr [D.sl (.ints .i32 a1), D.sl (.ints .i64 a2)], D.int .i64 a3, D.con (.strs a4), D.int .i64 a5, D.int .i64 a6, D.bool a7, D.int .i64 a8, D.int .i64 a9, D.bool a10, D.str a11, D.int .i64 a12, D.str a13, D.int .i64 a14, D.int .i64 a15] k) = (fun a0 a1 a2 a3 a4 a5 a6 a7 a8 a9 a10 a11 a12 a13 a14 a15 => changeRows_L4 n a0 a1 a2 a3 a4 a5 a6 a7 a8 a9 a10 a11 a12 a13 a14 a15 (fun y0 y1 y2 y3 y4 y5 y6 y7 y8 => k (.exit 0) (mkSt changeRows_S4e0 [D.str y0, D.con (.strs y1), D.int .i64 y2, D.bool y3, D.str y4, D.int .i64 y5, D.str y6, D.int .i64 y7, D.int .i64 y8]))) := by
      funext a0 a1 a2 a3 a4 a5 a6 a7 a8 a9 a10 a11 a12 a13 a14 a15; exact changeRows_L4_eq k n a0 a1 a2 a3 a4 a5 a6 a7 a8 a9 a10 a11 a12 a13 a14 a15
    have s : aloop changeRows_C (changeRows_G R) (changeRows_Lam1 R) changeRows_S4 changeRows_X4 changeRows_body4 (n + 1) [D.str a0, D.ptr [D.sl (.ints .i32 a1), D.sl (.ints .i64 a2)], D.int .i64 a3, D.con (.strs a4), D.int .i64 a5, D.int .i64 a6, D.bool a7, D.int .i64 a8, D.int .i64 a9, D.bool a10, D.str a11, D.int .i64 a12, D.str a13, D.int .i64 a14, D.int .i64 a15] k = changeRows_B4 (fun a0 a1 a2 a3 a4 a5 a6 a7 a8 a9 a10 a11 a12 a13 a14 a15 => aloop changeRows_C (changeRows_G R) (changeRows_Lam1 R) changeRows_S4 changeRows_X4 changeRows_body4 n [D.str a0, D.ptr [D.sl (.ints .i32 a1), D.sl (.ints .i64 a2)], D.int .i64 a3, D.con (.strs a4), D.int .i64 a5, D.int .i64 a6, D.bool a7, D.int .i64 a8, D.int .i64 a9, D.bool a10, D.str a11, D.int .i64 a12, D.str a13, D.int .i64 a14, D.int .i64 a15] k) a0 a1 a2 a3 a4 a5 a6 a7 a8 a9 a10 a11 a12 a13 a14 a15 (fun y0 y1 y2 y3 y4 y5 y6 y7 y8 => k (.exit 0) (mkSt changeRows_S4e0 [D.str y0, D.con (.strs y1), D.int .i64 y2, D.bool y3, D.str y4, D.int .i64 y5, D.str y6, D.int .i64 y7, D.int .i64 y8])) := by kernel_rfl
    rw [s, h]; rfl
noncomputable def changeRows_A4 (R : Type) (ds : List D) (k : AExit → St → Option R) : Option R :=
  match ds with
  | [D.str a0, D.ptr [D.sl (.ints .i32 a1), D.sl (.ints .i64 a2)], D.int .i64 a3, D.con (.strs a4), D.int .i64 a5, D.int .i64 a6, D.bool a7, D.int .i64 a8, D.int .i64 a9, D.bool a10, D.str a11, D.int .i64 a12, D.str a13, D.int .i64 a14, D.int .i64 a15] => changeRows_M4 a0 a1 a2 a3 a4 a5 a6 a7 a8 a9 a10 a11 a12 a13 a14 a15 (fun y0 y1 y2 y3 y4 y5 y6 y7 y8 => k (.exit 0) (mkSt changeRows_S4e0 [D.str y0, D.con (.strs y1), D.int .i64 y2, D.bool y3, D.str y4, D.int .i64 y5, D.str y6, D.int .i64 y7, D.int .i64 y8]))
  | _ => none
noncomputable def changeRows_Lam2 (R : Type) : Lam R := fun key st k => bif Nat.beq key 4 then (match readSt changeRows_S4 st with | some ds => changeRows_A4 R ds k | none => none) else changeRows_Lam1 R key st k
theorem changeRows_A4_ok {R : Type} : ∀ ds k r, changeRows_A4 R ds k = some r → ∃ e st', k e st' = some r ∧ QA.Reach changeRows_C (.loop changeRows_body4) (mkSt changeRows_S4 ds) e st' := by
  intro ds k r h
  unfold changeRows_A4 at h
  split at h
  · rw [changeRows_M4_eq, ← changeRows_L4_eq] at h
    refine aloop_ok (C := changeRows_C) qOk (changeRows_Gok R) ?_ _ _ _ _ h
    rw [show loopsIn changeRows_body4 = [changeRows_body7] from by kernel_rfl]
    intro b hb
    simp only [List.mem_cons, List.not_mem_nil, or_false] at hb
    subst hb
    exact lam_of (key := 7) (S := changeRows_S7) (L := changeRows_A7 R) (fun st k => by kernel_rfl) (by kernel_rfl) changeRows_A7_ok
  · cases h
noncomputable def changeRows_T {R : Type} (s0 : Str) (l1 : List Int) (l2 : List Int) (x3 : Int) (x4 : Int) (b5 : Bool) (x6 : Int) (k : Int → Int → Str → Int → Str → Bool → Int → Option R) : Option R :=
  libSplit_F s0 ([(10 : UInt8)]) (fun q7 =>
  MapRow_F l1 l2 x3 (fun x8 =>
   changeRows_M4 s0 l1 l2 x6 q7 x8 x8 b5 x4 x3 Bool.false [] ((0 : Int)) [] ((0 : Int)) ((0 : Int))
    (fun s61 q62 x63 b64 s65 x66 s67 x68 x69 =>
    libJoin_F q62 ([(10 : UInt8)]) (fun s70 =>
     textOf_F s70 (fun l71 l72 =>
      MapFirst_F l71 l72 x63 (fun x73 =>
       MapRest_F l71 l72 x73 (fun x74 =>
        changeMade_F s61 s70 x74 (fun x75 x76 s77 x78 s79 b80 x81 =>
         k x75 x76 s77 x78 s79 b80 x81))))))))
noncomputable def changeRows_F {R : Type} : Str → List Int → List Int → Int → Int → Bool → Int → (Int → Int → Str → Int → Str → Bool → Int → Option R) → Option R := lock changeRows_T
theorem changeRows_F_T {R : Type} : @changeRows_F R = changeRows_T := lock_eq _
theorem changeRows_F_eq {R : Type} (s0 : Str) (l1 : List Int) (l2 : List Int) (x3 : Int) (x4 : Int) (b5 : Bool) (x6 : Int) (k : D → Option R) : afun qP [16] (changeRows_G R) (changeRows_Lam2 R) Tryd.f66 [D.str s0, D.ptr [D.sl (.ints .i32 l1), D.sl (.ints .i64 l2)], D.agg [D.int .i64 x3, D.int .i64 x4, D.bool b5], D.int .i64 x6] k = changeRows_T s0 l1 l2 x3 x4 b5 x6 (fun y0 y1 y2 y3 y4 y5 y6 => k (D.tup [D.agg [D.int .i64 y0, D.int .i64 y1, D.str y2, D.int .i64 y3, D.str y4, D.bool y5], D.int .i64 y6])) := by kernel_rfl
noncomputable def changeRows_abs (R : Type) (ds : List D) (k : D → Option R) : Option R :=
  match ds with
  | [D.str s0, D.ptr [D.sl (.ints .i32 l1), D.sl (.ints .i64 l2)], D.agg [D.int .i64 x3, D.int .i64 x4, D.bool b5], D.int .i64 x6] => changeRows_F s0 l1 l2 x3 x4 b5 x6 (fun y0 y1 y2 y3 y4 y5 y6 => k (D.tup [D.agg [D.int .i64 y0, D.int .i64 y1, D.str y2, D.int .i64 y3, D.str y4, D.bool y5], D.int .i64 y6]))
  | _ => none
theorem changeRows_ok : FnOk qP 66 changeRows_abs := by
  intro R ds k r h
  unfold changeRows_abs at h
  split at h
  · rw [changeRows_F_T, ← changeRows_F_eq] at h
    refine afun_ok (P := qP) (c := changeRows_code) qOk (changeRows_Gok R) Tryd.func66 (by kernel_rfl) (by kernel_rfl) ?_ ?_ (by kernel_rfl) h
    rotate_left
    · exact Nat.le_of_ble_eq_true (by kernel_rfl)
    rw [show loopsIn changeRows_code = [changeRows_body4] from by kernel_rfl]
    intro b hb
    simp only [List.mem_cons, List.not_mem_nil, or_false] at hb
    subst hb
    exact lam_of (key := 4) (S := changeRows_S4) (L := changeRows_A4 R) (fun st k => by kernel_rfl) (by kernel_rfl) changeRows_A4_ok
  · cases h

/-! ### changeTaken: function 64 -/

noncomputable def changeTaken_C : Cfg := ⟨qP, Tryd.f64.ntmps, []⟩
noncomputable def changeTaken_code : Code := Tryd.f64.body.getD .skip
noncomputable def changeTaken_G (R : Type) : Orc R := fun f args k => bif Nat.beq f 91 then changeGone_abs R args k else (fun f args k => bif Nat.beq f 52 then textOf_abs R args k else (fun f args k => bif Nat.beq f 71 then MapRow_abs R args k else (fun f args k => bif Nat.beq f 92 then MapRows_abs R args k else (fun f args k => bif Nat.beq f 83 then MapFirst_abs R args k else (fun f args k => bif Nat.beq f 82 then MapRest_abs R args k else (fun f args k => bif Nat.beq f 65 then changeMade_abs R args k else (fun _ _ _ => none) f args k) f args k) f args k) f args k) f args k) f args k) f args k
theorem changeTaken_Gok (R : Type) : OrcOk qP (changeTaken_G R) := (orc_cons changeGone_ok (orc_cons textOf_ok (orc_cons MapRow_ok (orc_cons MapRows_ok (orc_cons MapFirst_ok (orc_cons MapRest_ok (orc_cons changeMade_ok orc_nil)))))))
noncomputable def changeTaken_Lam0 (R : Type) : Lam R := fun _ _ _ => none
noncomputable def changeTaken_T {R : Type} (s0 : Str) (l1 : List Int) (l2 : List Int) (x3 : Int) (x4 : Int) (b5 : Bool) (k : Int → Int → Str → Int → Str → Bool → Int → Option R) : Option R :=
  changeGone_F l1 l2 x3 x4 b5 (fun s6 =>
  textOf_F s6 (fun l7 l8 =>
   (bif b5 then
    MapRow_F l1 l2 x3 (fun x9 =>
     MapRows_F l7 l8 (fun x10 =>
      MapFirst_F l7 l8 (Go.QA.mm Bool.false x9 (Go.IntKind.wrap Go.IntKind.i64 (x10 - (1 : Int)))) (fun x11 =>
       MapRest_F l7 l8 x11 (fun x12 =>
        changeMade_F s0 s6 x12 (fun x13 x14 s15 x16 s17 b18 x19 =>
         k x13 x14 s15 x16 s17 b18 x19)))))
   else
    MapRest_F l7 l8 x3 (fun x20 =>
     changeMade_F s0 s6 x20 (fun x21 x22 s23 x24 s25 b26 x27 =>
      k x21 x22 s23 x24 s25 b26 x27)))))
noncomputable def changeTaken_F {R : Type} : Str → List Int → List Int → Int → Int → Bool → (Int → Int → Str → Int → Str → Bool → Int → Option R) → Option R := lock changeTaken_T
theorem changeTaken_F_T {R : Type} : @changeTaken_F R = changeTaken_T := lock_eq _
theorem changeTaken_F_eq {R : Type} (s0 : Str) (l1 : List Int) (l2 : List Int) (x3 : Int) (x4 : Int) (b5 : Bool) (k : D → Option R) : afun qP [] (changeTaken_G R) (changeTaken_Lam0 R) Tryd.f64 [D.str s0, D.ptr [D.sl (.ints .i32 l1), D.sl (.ints .i64 l2)], D.agg [D.int .i64 x3, D.int .i64 x4, D.bool b5]] k = changeTaken_T s0 l1 l2 x3 x4 b5 (fun y0 y1 y2 y3 y4 y5 y6 => k (D.tup [D.agg [D.int .i64 y0, D.int .i64 y1, D.str y2, D.int .i64 y3, D.str y4, D.bool y5], D.int .i64 y6])) := by kernel_rfl
noncomputable def changeTaken_abs (R : Type) (ds : List D) (k : D → Option R) : Option R :=
  match ds with
  | [D.str s0, D.ptr [D.sl (.ints .i32 l1), D.sl (.ints .i64 l2)], D.agg [D.int .i64 x3, D.int .i64 x4, D.bool b5]] => changeTaken_F s0 l1 l2 x3 x4 b5 (fun y0 y1 y2 y3 y4 y5 y6 => k (D.tup [D.agg [D.int .i64 y0, D.int .i64 y1, D.str y2, D.int .i64 y3, D.str y4, D.bool y5], D.int .i64 y6]))
  | _ => none
theorem changeTaken_ok : FnOk qP 64 changeTaken_abs := by
  intro R ds k r h
  unfold changeTaken_abs at h
  split at h
  · rw [changeTaken_F_T, ← changeTaken_F_eq] at h
    refine afun_ok (P := qP) (c := changeTaken_code) qOk (changeTaken_Gok R) Tryd.func64 (by kernel_rfl) (by kernel_rfl) ?_ ?_ (by kernel_rfl) h
    rotate_left
    · exact Nat.le_of_ble_eq_true (by kernel_rfl)
    rw [show loopsIn changeTaken_code = [] from by kernel_rfl]
    intro b hb
    cases hb
  · cases h

/-! ### changeTurned1: function 67 -/

noncomputable def changeTurned1_C : Cfg := ⟨qP, Tryd.f67.ntmps, [15]⟩
noncomputable def changeTurned1_code : Code := Tryd.f67.body.getD .skip
noncomputable def changeTurned1_G (R : Type) : Orc R := fun f args k => bif Nat.beq f 97 then changeTurned_abs R args k else (fun f args k => bif Nat.beq f 63 then changeStands_abs R args k else (fun f args k => bif Nat.beq f 65 then changeMade_abs R args k else (fun _ _ _ => none) f args k) f args k) f args k
theorem changeTurned1_Gok (R : Type) : OrcOk qP (changeTurned1_G R) := (orc_cons changeTurned_ok (orc_cons changeStands_ok (orc_cons changeMade_ok orc_nil)))
noncomputable def changeTurned1_B3 {R : Type} (rec : Str → List Int → List Int → Int → Int → List Int → Int → Bool → Int → Int → Bool → Str → Int → Str → Int → Int → Option R) (s8 : Str) (l9 : List Int) (l10 : List Int) (x11 : Int) (x12 : Int) (l13 : List Int) (x14 : Int) (b15 : Bool) (x16 : Int) (x17 : Int) (b18 : Bool) (s19 : Str) (x20 : Int) (s21 : Str) (x22 : Int) (x23 : Int) (ke0 : Str → List Int → List Int → Int → List Int → Bool → Int → Int → Bool → Str → Int → Str → Int → Int → Option R) : Option R :=
  (bif (Decidable.decide (x14 < x16)) then
  (bif (Decidable.decide ((0 : Int) ≤ x14) && Decidable.decide (x14 < (↑(List.length l13) : Int))) then
   changeTurned_F (List.getD l13 (Int.toNat x14) (0 : Int)) x11 (fun x24 =>
    (bif (Decidable.decide ((0 : Int) ≤ x14) && Decidable.decide (x14 < (↑(List.length l13) : Int))) then
     rec s8 l9 l10 x11 x12 (List.set l13 (Int.toNat x14) x24) (Go.IntKind.wrap Go.IntKind.i64 (x14 + (1 : Int))) b15 x16 x17 b18 s19 x20 s21 x22 x23
    else
     none))
  else
   none)
 else
  ke0 s8 l9 l10 x12 l13 b15 x16 x17 b18 s19 x20 s21 x22 x23)
noncomputable def changeTurned1_L3 {R : Type} : Nat → Str → List Int → List Int → Int → Int → List Int → Int → Bool → Int → Int → Bool → Str → Int → Str → Int → Int → (Str → List Int → List Int → Int → List Int → Bool → Int → Int → Bool → Str → Int → Str → Int → Int → Option R) → Option R
  | 0, _, _, _, _, _, _, _, _, _, _, _, _, _, _, _, _, _ => none
  | n + 1, s8, l9, l10, x11, x12, l13, x14, b15, x16, x17, b18, s19, x20, s21, x22, x23, ke0 => changeTurned1_B3 (fun s8 l9 l10 x11 x12 l13 x14 b15 x16 x17 b18 s19 x20 s21 x22 x23 => changeTurned1_L3 n s8 l9 l10 x11 x12 l13 x14 b15 x16 x17 b18 s19 x20 s21 x22 x23 ke0) s8 l9 l10 x11 x12 l13 x14 b15 x16 x17 b18 s19 x20 s21 x22 x23 ke0
noncomputable def changeTurned1_M3 {R : Type} : Str → List Int → List Int → Int → Int → List Int → Int → Bool → Int → Int → Bool → Str → Int → Str → Int → Int → (Str → List Int → List Int → Int → List Int → Bool → Int → Int → Bool → Str → Int → Str → Int → Int → Option R) → Option R := lock (changeTurned1_L3 4611686018427387904)
theorem changeTurned1_M3_eq {R : Type} : @changeTurned1_M3 R = changeTurned1_L3 4611686018427387904 := lock_eq _
noncomputable def changeTurned1_Lam0 (R : Type) : Lam R := fun _ _ _ => none
noncomputable def changeTurned1_body3 : Code := (findLoop 3 changeTurned1_code).getD .skip
def changeTurned1_S3 : QA.Spec := (⟨[.t 0, .t 1, .t 3, .t 4, .t 12, .t 13, .c 7 2, .c 7 1, .c 7 0, .c 10 5, .c 10 4, .c 10 3, .c 10 2, .c 10 1, .c 10 0], [7, 10], [], [(.t 7, 7, 0), (.t 10, 10, 0)], []⟩ : QA.Spec)
def changeTurned1_S3e0 : QA.Spec := (⟨[.t 0, .t 1, .t 4, .t 12, .c 7 2, .c 7 1, .c 7 0, .c 10 5, .c 10 4, .c 10 3, .c 10 2, .c 10 1, .c 10 0], [7, 10], [], [(.t 7, 7, 0), (.t 10, 10, 0)], []⟩ : QA.Spec)
def changeTurned1_X3 : AExit → Option QA.Spec
  | .normal => none
  | .exit j => bif Nat.beq j 0 then some changeTurned1_S3e0 else none
  | .ret => none
theorem changeTurned1_L3_eq {R : Type} (k : AExit → St → Option R) : ∀ (n : Nat) (a0 : Str) (a1 : List Int) (a2 : List Int) (a3 : Int) (a4 : Int) (a5 : List Int) (a6 : Int) (a7 : Bool) (a8 : Int) (a9 : Int) (a10 : Bool) (a11 : Str) (a12 : Int) (a13 : Str) (a14 : Int) (a15 : Int), aloop changeTurned1_C (changeTurned1_G R) (changeTurned1_Lam0 R) changeTurned1_S3 changeTurned1_X3 changeTurned1_body3 n [D.str a0, D.ptr [D.sl (.ints .i32 a1), D.sl (.ints .i64 a2)], D.int .i64 a3, D.int .i64 a4, D.con (.ints .i32 a5), D.int .i64 a6, D.bool a7, D.int .i64 a8, D.int .i64 a9, D.bool a10, D.str a11, D.int .i64 a12, D.str a13, D.int .i64 a14, D.int .i64 a15] k = changeTurned1_L3 n a0 a1 a2 a3 a4 a5 a6 a7 a8 a9 a10 a11 a12 a13 a14 a15 (fun y0 y1 y2 y3 y4 y5 y6 y7 y8 y9 y10 y11 y12 y13 => k (.exit 0) (mkSt changeTurned1_S3e0 [D.str y0, D.ptr [D.sl (.ints .i32 y1), D.sl (.ints .i64 y2)], D.int .i64 y3, D.con (.ints .i32 y4), D.bool y5, D.int .i64 y6, D.int .i64 y7, D.bool y8, D.str y9, D.int .i64 y10, D.str y11, D.int .i64 y12, D.int .i64 y13]))
  | 0, _, _, _, _, _, _, _, _, _, _, _, _, _, _, _, _ => rfl
  | n + 1, a0, a1, a2, a3, a4, a5, a6, a7, a8, a9, a10, a11, a12, a13, a14, a15 => by
    have h : (fun a0 a1 a2 a3 a4 a5 a6 a7 a8 a9 a10 a11 a12 a13 a14 a15 => aloop changeTurned1_C (changeTurned1_G R) (changeTurned1_Lam0 R) changeTurned1_S3 changeTurned1_X3 changeTurned1_body3 n [D.str a0, D.ptr [D.sl (.ints .i32 a1), D.sl (.ints .i64 a2)], D.int .i64 a3, D.int .i64 a4, D.con (.ints .i32 a5), D.int .i64 a6, D.bool a7, D.int .i64 a8, D.int .i64 a9, D.bool a10, D.str a11, D.int .i64 a12, D.str a13, D.int .i64 a14, D.int .i64 a15] k) = (fun a0 a1 a2 a3 a4 a5 a6 a7 a8 a9 a10 a11 a12 a13 a14 a15 => changeTurned1_L3 n a0 a1 a2 a3 a4 a5 a6 a7 a8 a9 a10 a11 a12 a13 a14 a15 (fun y0 y1 y2 y3 y4 y5 y6 y7 y8 y9 y10 y11 y12 y13 => k (.exit 0) (mkSt changeTurned1_S3e0 [D.str y0, D.ptr [D.sl (.ints .i32 y1), D.sl (.ints .i64 y2)], D.int .i64 y3, D.con (.ints .i32 y4), D.bool y5, D.int .i64 y6, D.int .i64 y7, D.bool y8, D.str y9, D.int .i64 y10, D.str y11, D.int .i64 y12, D.int .i64 y13]))) := by
      funext a0 a1 a2 a3 a4 a5 a6 a7 a8 a9 a10 a11 a12 a13 a14 a15; exact changeTurned1_L3_eq k n a0 a1 a2 a3 a4 a5 a6 a7 a8 a9 a10 a11 a12 a13 a14 a15
    have s : aloop changeTurned1_C (changeTurned1_G R) (changeTurned1_Lam0 R) changeTurned1_S3 changeTurned1_X3 changeTurned1_body3 (n + 1) [D.str a0, D.ptr [D.sl (.ints .i32 a1), D.sl (.ints .i64 a2)], D.int .i64 a3, D.int .i64 a4, D.con (.ints .i32 a5), D.int .i64 a6, D.bool a7, D.int .i64 a8, D.int .i64 a9, D.bool a10, D.str a11, D.int .i64 a12, D.str a13, D.int .i64 a14, D.int .i64 a15] k = changeTurned1_B3 (fun a0 a1 a2 a3 a4 a5 a6 a7 a8 a9 a10 a11 a12 a13 a14 a15 => aloop changeTurned1_C (changeTurned1_G R) (changeTurned1_Lam0 R) changeTurned1_S3 changeTurned1_X3 changeTurned1_body3 n [D.str a0, D.ptr [D.sl (.ints .i32 a1), D.sl (.ints .i64 a2)], D.int .i64 a3, D.int .i64 a4, D.con (.ints .i32 a5), D.int .i64 a6, D.bool a7, D.int .i64 a8, D.int .i64 a9, D.bool a10, D.str a11, D.int .i64 a12, D.str a13, D.int .i64 a14, D.int .i64 a15] k) a0 a1 a2 a3 a4 a5 a6 a7 a8 a9 a10 a11 a12 a13 a14 a15 (fun y0 y1 y2 y3 y4 y5 y6 y7 y8 y9 y10 y11 y12 y13 => k (.exit 0) (mkSt changeTurned1_S3e0 [D.str y0, D.ptr [D.sl (.ints .i32 y1), D.sl (.ints .i64 y2)], D.int .i64 y3, D.con (.ints .i32 y4), D.bool y5, D.int .i64 y6, D.int .i64 y7, D.bool y8, D.str y9, D.int .i64 y10, D.str y11, D.int .i64 y12, D.int .i64 y13])) := by kernel_rfl
    rw [s, h]; rfl
noncomputable def changeTurned1_A3 (R : Type) (ds : List D) (k : AExit → St → Option R) : Option R :=
  match ds with
  | [D.str a0, D.ptr [D.sl (.ints .i32 a1), D.sl (.ints .i64 a2)], D.int .i64 a3, D.int .i64 a4, D.con (.ints .i32 a5), D.int .i64 a6, D.bool a7, D.int .i64 a8, D.int .i64 a9, D.bool a10, D.str a11, D.int .i64 a12, D.str a13, D.int .i64 a14, D.int .i64 a15] => changeTurned1_M3 a0 a1 a2 a3 a4 a5 a6 a7 a8 a9 a10 a11 a12 a13 a14 a15 (fun y0 y1 y2 y3 y4 y5 y6 y7 y8 y9 y10 y11 y12 y13 => k (.exit 0) (mkSt changeTurned1_S3e0 [D.str y0, D.ptr [D.sl (.ints .i32 y1), D.sl (.ints .i64 y2)], D.int .i64 y3, D.con (.ints .i32 y4), D.bool y5, D.int .i64 y6, D.int .i64 y7, D.bool y8, D.str y9, D.int .i64 y10, D.str y11, D.int .i64 y12, D.int .i64 y13]))
  | _ => none
noncomputable def changeTurned1_Lam1 (R : Type) : Lam R := fun key st k => bif Nat.beq key 3 then (match readSt changeTurned1_S3 st with | some ds => changeTurned1_A3 R ds k | none => none) else changeTurned1_Lam0 R key st k
theorem changeTurned1_A3_ok {R : Type} : ∀ ds k r, changeTurned1_A3 R ds k = some r → ∃ e st', k e st' = some r ∧ QA.Reach changeTurned1_C (.loop changeTurned1_body3) (mkSt changeTurned1_S3 ds) e st' := by
  intro ds k r h
  unfold changeTurned1_A3 at h
  split at h
  · rw [changeTurned1_M3_eq, ← changeTurned1_L3_eq] at h
    refine aloop_ok (C := changeTurned1_C) qOk (changeTurned1_Gok R) ?_ _ _ _ _ h
    rw [show loopsIn changeTurned1_body3 = [] from by kernel_rfl]
    intro b hb
    cases hb
  · cases h
noncomputable def changeTurned1_T {R : Type} (s0 : Str) (l1 : List Int) (l2 : List Int) (x3 : Int) (x4 : Int) (b5 : Bool) (x6 : Int) (x7 : Int) (k : Int → Int → Str → Int → Str → Bool → Int → Option R) : Option R :=
  changeTurned1_M3 s0 l1 l2 x6 x7 (Go.QA.runesOf s0) x3 b5 x4 x3 Bool.false [] ((0 : Int)) [] ((0 : Int)) ((0 : Int))
  (fun s25 l26 l27 x28 l29 b30 x31 x32 b33 s34 x35 s36 x37 x38 =>
  changeStands_F l26 l27 x32 x31 b30 x28 (fun x39 =>
   changeMade_F s25 (Go.QA.strOf l29) x39 (fun x40 x41 s42 x43 s44 b45 x46 =>
    k x40 x41 s42 x43 s44 b45 x46)))
noncomputable def changeTurned1_F {R : Type} : Str → List Int → List Int → Int → Int → Bool → Int → Int → (Int → Int → Str → Int → Str → Bool → Int → Option R) → Option R := lock changeTurned1_T
theorem changeTurned1_F_T {R : Type} : @changeTurned1_F R = changeTurned1_T := lock_eq _
theorem changeTurned1_F_eq {R : Type} (s0 : Str) (l1 : List Int) (l2 : List Int) (x3 : Int) (x4 : Int) (b5 : Bool) (x6 : Int) (x7 : Int) (k : D → Option R) : afun qP [15] (changeTurned1_G R) (changeTurned1_Lam1 R) Tryd.f67 [D.str s0, D.ptr [D.sl (.ints .i32 l1), D.sl (.ints .i64 l2)], D.agg [D.int .i64 x3, D.int .i64 x4, D.bool b5], D.int .i64 x6, D.int .i64 x7] k = changeTurned1_T s0 l1 l2 x3 x4 b5 x6 x7 (fun y0 y1 y2 y3 y4 y5 y6 => k (D.tup [D.agg [D.int .i64 y0, D.int .i64 y1, D.str y2, D.int .i64 y3, D.str y4, D.bool y5], D.int .i64 y6])) := by kernel_rfl
noncomputable def changeTurned1_abs (R : Type) (ds : List D) (k : D → Option R) : Option R :=
  match ds with
  | [D.str s0, D.ptr [D.sl (.ints .i32 l1), D.sl (.ints .i64 l2)], D.agg [D.int .i64 x3, D.int .i64 x4, D.bool b5], D.int .i64 x6, D.int .i64 x7] => changeTurned1_F s0 l1 l2 x3 x4 b5 x6 x7 (fun y0 y1 y2 y3 y4 y5 y6 => k (D.tup [D.agg [D.int .i64 y0, D.int .i64 y1, D.str y2, D.int .i64 y3, D.str y4, D.bool y5], D.int .i64 y6]))
  | _ => none
theorem changeTurned1_ok : FnOk qP 67 changeTurned1_abs := by
  intro R ds k r h
  unfold changeTurned1_abs at h
  split at h
  · rw [changeTurned1_F_T, ← changeTurned1_F_eq] at h
    refine afun_ok (P := qP) (c := changeTurned1_code) qOk (changeTurned1_Gok R) Tryd.func67 (by kernel_rfl) (by kernel_rfl) ?_ ?_ (by kernel_rfl) h
    rotate_left
    · exact Nat.le_of_ble_eq_true (by kernel_rfl)
    rw [show loopsIn changeTurned1_code = [changeTurned1_body3] from by kernel_rfl]
    intro b hb
    simp only [List.mem_cons, List.not_mem_nil, or_false] at hb
    subst hb
    exact lam_of (key := 3) (S := changeTurned1_S3) (L := changeTurned1_A3 R) (fun st k => by kernel_rfl) (by kernel_rfl) changeTurned1_A3_ok
  · cases h

end Go.Proofs.YtleoffdjdgbanaaDoor

set_option linter.unusedVariables false
set_option linter.unusedSimpArgs false
set_option maxRecDepth 1000000
namespace Go.Proofs.YtleoffdjdgbanaaDoor
open Go Go.QA Go.Proofs

/-! ### refDeleted: function 88 -/

noncomputable def refDeleted_C : Cfg := ⟨qP, Tryd.f88.ntmps, []⟩
noncomputable def refDeleted_code : Code := Tryd.f88.body.getD .skip
noncomputable def refDeleted_G (R : Type) : Orc R := fun f args k => bif Nat.beq f 47 then refRest_abs R args k else (fun f args k => bif Nat.beq f 111 then refTidy_abs R args k else (fun f args k => bif Nat.beq f 48 then made18_abs R args k else (fun _ _ _ => none) f args k) f args k) f args k
theorem refDeleted_Gok (R : Type) : OrcOk qP (refDeleted_G R) := (orc_cons refRest_ok (orc_cons refTidy_ok (orc_cons made18_ok orc_nil)))
noncomputable def refDeleted_Lam0 (R : Type) : Lam R := fun _ _ _ => none
noncomputable def refDeleted_T {R : Type} (s0 : Str) (l1 : List Int) (x2 : Int) (x3 : Int) (b4 : Bool) (k : Int → Int → Str → Int → Str → Bool → Int → Option R) : Option R :=
  (bif (Decidable.decide ((0 : Int) ≤ x3) && Decidable.decide (x3 ≤ (↑(List.length l1) : Int))) then
  (bif (Decidable.decide ((0 : Int) ≤ x2) && Decidable.decide (x2 ≤ (↑(Int.toNat x3) : Int))) then
   (bif b4 then
    (bif (Decidable.decide (x3 < (↑(List.length l1) : Int))) then
     (bif (Decidable.decide ((0 : Int) ≤ x2) && Decidable.decide (x2 ≤ (↑(List.length l1) : Int))) then
      (bif (Decidable.decide ((0 : Int) ≤ Go.IntKind.wrap Go.IntKind.i64 (x3 + (1 : Int))) && Decidable.decide (Go.IntKind.wrap Go.IntKind.i64 (x3 + (1 : Int)) ≤ (↑(List.length l1) : Int))) then
       (bif (Decidable.decide (List.length (Go.QA.strOf (List.drop (0 : Nat) (List.take (Int.toNat x2) l1))) + List.length (Go.QA.strOf (List.drop (Int.toNat (Go.IntKind.wrap Go.IntKind.i64 (x3 + (1 : Int)))) (List.take (List.length l1) l1))) ≤ (9223372036854775807 : Nat))) then
        refRest_F (Go.QA.runesOf (Go.QA.strOf (List.drop (0 : Nat) (List.take (Int.toNat x2) l1)) ++ Go.QA.strOf (List.drop (Int.toNat (Go.IntKind.wrap Go.IntKind.i64 (x3 + (1 : Int)))) (List.take (List.length l1) l1)))) x2 (fun x5 =>
         (bif b4 then
          refTidy_F (Go.QA.strOf (List.drop (0 : Nat) (List.take (Int.toNat x2) l1)) ++ Go.QA.strOf (List.drop (Int.toNat (Go.IntKind.wrap Go.IntKind.i64 (x3 + (1 : Int)))) (List.take (List.length l1) l1))) (Go.QA.mm Bool.false x2 (↑(List.length (Go.QA.runesOf (Go.QA.strOf (List.drop (0 : Nat) (List.take (Int.toNat x2) l1)) ++ Go.QA.strOf (List.drop (Int.toNat (Go.IntKind.wrap Go.IntKind.i64 (x3 + (1 : Int)))) (List.take (List.length l1) l1))))) : Int)) (fun x6 =>
           made18_F s0 (Go.QA.strOf (List.drop (0 : Nat) (List.take (Int.toNat x2) l1)) ++ Go.QA.strOf (List.drop (Int.toNat (Go.IntKind.wrap Go.IntKind.i64 (x3 + (1 : Int)))) (List.take (List.length l1) l1))) x6 (fun x7 x8 s9 x10 s11 b12 x13 =>
            k x7 x8 s9 x10 (Go.QA.strOf (List.drop (Int.toNat x2) (List.take (Int.toNat x3) l1))) b4 x13))
         else
          made18_F s0 (Go.QA.strOf (List.drop (0 : Nat) (List.take (Int.toNat x2) l1)) ++ Go.QA.strOf (List.drop (Int.toNat (Go.IntKind.wrap Go.IntKind.i64 (x3 + (1 : Int)))) (List.take (List.length l1) l1))) x5 (fun x14 x15 s16 x17 s18 b19 x20 =>
           k x14 x15 s16 x17 (Go.QA.strOf (List.drop (Int.toNat x2) (List.take (Int.toNat x3) l1))) b4 x20)))
       else
        none)
      else
       none)
     else
      none)
    else
     (bif (Decidable.decide (x2 > (0 : Int))) then
      (bif (Decidable.decide ((0 : Int) ≤ Go.IntKind.wrap Go.IntKind.i64 (x2 - (1 : Int))) && Decidable.decide (Go.IntKind.wrap Go.IntKind.i64 (x2 - (1 : Int)) ≤ (↑(List.length l1) : Int))) then
       (bif (Decidable.decide ((0 : Int) ≤ x3) && Decidable.decide (x3 ≤ (↑(List.length l1) : Int))) then
        (bif (Decidable.decide (List.length (Go.QA.strOf (List.drop (0 : Nat) (List.take (Int.toNat (Go.IntKind.wrap Go.IntKind.i64 (x2 - (1 : Int)))) l1))) + List.length (Go.QA.strOf (List.drop (Int.toNat x3) (List.take (List.length l1) l1))) ≤ (9223372036854775807 : Nat))) then
         refRest_F (Go.QA.runesOf (Go.QA.strOf (List.drop (0 : Nat) (List.take (Int.toNat (Go.IntKind.wrap Go.IntKind.i64 (x2 - (1 : Int)))) l1)) ++ Go.QA.strOf (List.drop (Int.toNat x3) (List.take (List.length l1) l1)))) (Go.IntKind.wrap Go.IntKind.i64 (x2 - (1 : Int))) (fun x21 =>
          (bif b4 then
           refTidy_F (Go.QA.strOf (List.drop (0 : Nat) (List.take (Int.toNat (Go.IntKind.wrap Go.IntKind.i64 (x2 - (1 : Int)))) l1)) ++ Go.QA.strOf (List.drop (Int.toNat x3) (List.take (List.length l1) l1))) (Go.QA.mm Bool.false x2 (↑(List.length (Go.QA.runesOf (Go.QA.strOf (List.drop (0 : Nat) (List.take (Int.toNat (Go.IntKind.wrap Go.IntKind.i64 (x2 - (1 : Int)))) l1)) ++ Go.QA.strOf (List.drop (Int.toNat x3) (List.take (List.length l1) l1))))) : Int)) (fun x22 =>
            made18_F s0 (Go.QA.strOf (List.drop (0 : Nat) (List.take (Int.toNat (Go.IntKind.wrap Go.IntKind.i64 (x2 - (1 : Int)))) l1)) ++ Go.QA.strOf (List.drop (Int.toNat x3) (List.take (List.length l1) l1))) x22 (fun x23 x24 s25 x26 s27 b28 x29 =>
             k x23 x24 s25 x26 (Go.QA.strOf (List.drop (Int.toNat x2) (List.take (Int.toNat x3) l1))) b4 x29))
          else
           made18_F s0 (Go.QA.strOf (List.drop (0 : Nat) (List.take (Int.toNat (Go.IntKind.wrap Go.IntKind.i64 (x2 - (1 : Int)))) l1)) ++ Go.QA.strOf (List.drop (Int.toNat x3) (List.take (List.length l1) l1))) x21 (fun x30 x31 s32 x33 s34 b35 x36 =>
            k x30 x31 s32 x33 (Go.QA.strOf (List.drop (Int.toNat x2) (List.take (Int.toNat x3) l1))) b4 x36)))
        else
         none)
       else
        none)
      else
       none)
     else
      (bif (Decidable.decide ((0 : Int) ≤ x2) && Decidable.decide (x2 ≤ (↑(List.length l1) : Int))) then
       (bif (Decidable.decide ((0 : Int) ≤ x3) && Decidable.decide (x3 ≤ (↑(List.length l1) : Int))) then
        (bif (Decidable.decide (List.length (Go.QA.strOf (List.drop (0 : Nat) (List.take (Int.toNat x2) l1))) + List.length (Go.QA.strOf (List.drop (Int.toNat x3) (List.take (List.length l1) l1))) ≤ (9223372036854775807 : Nat))) then
         refRest_F (Go.QA.runesOf (Go.QA.strOf (List.drop (0 : Nat) (List.take (Int.toNat x2) l1)) ++ Go.QA.strOf (List.drop (Int.toNat x3) (List.take (List.length l1) l1)))) x2 (fun x37 =>
          (bif b4 then
           refTidy_F (Go.QA.strOf (List.drop (0 : Nat) (List.take (Int.toNat x2) l1)) ++ Go.QA.strOf (List.drop (Int.toNat x3) (List.take (List.length l1) l1))) (Go.QA.mm Bool.false x2 (↑(List.length (Go.QA.runesOf (Go.QA.strOf (List.drop (0 : Nat) (List.take (Int.toNat x2) l1)) ++ Go.QA.strOf (List.drop (Int.toNat x3) (List.take (List.length l1) l1))))) : Int)) (fun x38 =>
            made18_F s0 (Go.QA.strOf (List.drop (0 : Nat) (List.take (Int.toNat x2) l1)) ++ Go.QA.strOf (List.drop (Int.toNat x3) (List.take (List.length l1) l1))) x38 (fun x39 x40 s41 x42 s43 b44 x45 =>
             k x39 x40 s41 x42 (Go.QA.strOf (List.drop (Int.toNat x2) (List.take (Int.toNat x3) l1))) b4 x45))
          else
           made18_F s0 (Go.QA.strOf (List.drop (0 : Nat) (List.take (Int.toNat x2) l1)) ++ Go.QA.strOf (List.drop (Int.toNat x3) (List.take (List.length l1) l1))) x37 (fun x46 x47 s48 x49 s50 b51 x52 =>
            k x46 x47 s48 x49 (Go.QA.strOf (List.drop (Int.toNat x2) (List.take (Int.toNat x3) l1))) b4 x52)))
        else
         none)
       else
        none)
      else
       none)))
   else
    (bif (Decidable.decide ((0 : Int) ≤ x2) && Decidable.decide (x2 ≤ (↑(List.length l1) : Int))) then
     (bif (Decidable.decide ((0 : Int) ≤ x3) && Decidable.decide (x3 ≤ (↑(List.length l1) : Int))) then
      (bif (Decidable.decide (List.length (Go.QA.strOf (List.drop (0 : Nat) (List.take (Int.toNat x2) l1))) + List.length (Go.QA.strOf (List.drop (Int.toNat x3) (List.take (List.length l1) l1))) ≤ (9223372036854775807 : Nat))) then
       refRest_F (Go.QA.runesOf (Go.QA.strOf (List.drop (0 : Nat) (List.take (Int.toNat x2) l1)) ++ Go.QA.strOf (List.drop (Int.toNat x3) (List.take (List.length l1) l1)))) x2 (fun x53 =>
        (bif b4 then
         refTidy_F (Go.QA.strOf (List.drop (0 : Nat) (List.take (Int.toNat x2) l1)) ++ Go.QA.strOf (List.drop (Int.toNat x3) (List.take (List.length l1) l1))) (Go.QA.mm Bool.false x2 (↑(List.length (Go.QA.runesOf (Go.QA.strOf (List.drop (0 : Nat) (List.take (Int.toNat x2) l1)) ++ Go.QA.strOf (List.drop (Int.toNat x3) (List.take (List.length l1) l1))))) : Int)) (fun x54 =>
          made18_F s0 (Go.QA.strOf (List.drop (0 : Nat) (List.take (Int.toNat x2) l1)) ++ Go.QA.strOf (List.drop (Int.toNat x3) (List.take (List.length l1) l1))) x54 (fun x55 x56 s57 x58 s59 b60 x61 =>
           k x55 x56 s57 x58 (Go.QA.strOf (List.drop (Int.toNat x2) (List.take (Int.toNat x3) l1))) b4 x61))
        else
         made18_F s0 (Go.QA.strOf (List.drop (0 : Nat) (List.take (Int.toNat x2) l1)) ++ Go.QA.strOf (List.drop (Int.toNat x3) (List.take (List.length l1) l1))) x53 (fun x62 x63 s64 x65 s66 b67 x68 =>
          k x62 x63 s64 x65 (Go.QA.strOf (List.drop (Int.toNat x2) (List.take (Int.toNat x3) l1))) b4 x68)))
      else
       none)
     else
      none)
    else
     none))
  else
   none)
 else
  none)
noncomputable def refDeleted_F {R : Type} : Str → List Int → Int → Int → Bool → (Int → Int → Str → Int → Str → Bool → Int → Option R) → Option R := lock refDeleted_T
theorem refDeleted_F_T {R : Type} : @refDeleted_F R = refDeleted_T := lock_eq _
theorem refDeleted_F_eq {R : Type} (s0 : Str) (l1 : List Int) (x2 : Int) (x3 : Int) (b4 : Bool) (k : D → Option R) : afun qP [] (refDeleted_G R) (refDeleted_Lam0 R) Tryd.f88 [D.str s0, D.sl (.ints .i32 l1), D.agg [D.int .i64 x2, D.int .i64 x3, D.bool b4]] k = refDeleted_T s0 l1 x2 x3 b4 (fun y0 y1 y2 y3 y4 y5 y6 => k (D.tup [D.agg [D.int .i64 y0, D.int .i64 y1, D.str y2, D.int .i64 y3, D.str y4, D.bool y5], D.int .i64 y6])) := by kernel_rfl
noncomputable def refDeleted_abs (R : Type) (ds : List D) (k : D → Option R) : Option R :=
  match ds with
  | [D.str s0, D.sl (.ints .i32 l1), D.agg [D.int .i64 x2, D.int .i64 x3, D.bool b4]] => refDeleted_F s0 l1 x2 x3 b4 (fun y0 y1 y2 y3 y4 y5 y6 => k (D.tup [D.agg [D.int .i64 y0, D.int .i64 y1, D.str y2, D.int .i64 y3, D.str y4, D.bool y5], D.int .i64 y6]))
  | _ => none
theorem refDeleted_ok : FnOk qP 88 refDeleted_abs := by
  intro R ds k r h
  unfold refDeleted_abs at h
  split at h
  · rw [refDeleted_F_T, ← refDeleted_F_eq] at h
    refine afun_ok (P := qP) (c := refDeleted_code) qOk (refDeleted_Gok R) Tryd.func88 (by kernel_rfl) (by kernel_rfl) ?_ ?_ (by kernel_rfl) h
    rotate_left
    · exact Nat.le_of_ble_eq_true (by kernel_rfl)
    rw [show loopsIn refDeleted_code = [] from by kernel_rfl]
    intro b hb
    cases hb
  · cases h

/-! ### refShifted: function 89 -/

noncomputable def refShifted_C : Cfg := ⟨qP, Tryd.f89.ntmps, []⟩
noncomputable def refShifted_code : Code := Tryd.f89.body.getD .skip
noncomputable def refShifted_G (R : Type) : Orc R := fun f args k => bif Nat.beq f 46 then refBegin_abs R args k else (fun f args k => bif Nat.beq f 37 then refEnd_abs R args k else (fun f args k => bif Nat.beq f 50 then refClass_abs R args k else (fun f args k => bif Nat.beq f 22 then refMay1_abs R args k else (fun f args k => bif Nat.beq f 111 then refTidy_abs R args k else (fun f args k => bif Nat.beq f 48 then made18_abs R args k else (fun _ _ _ => none) f args k) f args k) f args k) f args k) f args k) f args k
theorem refShifted_Gok (R : Type) : OrcOk qP (refShifted_G R) := (orc_cons refBegin_ok (orc_cons refEnd_ok (orc_cons refClass_ok (orc_cons refMay1_ok (orc_cons refTidy_ok (orc_cons made18_ok orc_nil))))))
noncomputable def refShifted_B6 {R : Type} (rec : Str → List Int → Int → Str → Int → Int → Int → Bool → Int → Int → Bool → Str → Int → Str → Int → Int → Option R) (s23 : Str) (l24 : List Int) (x25 : Int) (s26 : Str) (x27 : Int) (x28 : Int) (x29 : Int) (b30 : Bool) (x31 : Int) (x32 : Int) (b33 : Bool) (s34 : Str) (x35 : Int) (s36 : Str) (x37 : Int) (x38 : Int) (ke0 : Str → List Int → Int → Str → Int → Int → Bool → Int → Int → Bool → Str → Int → Str → Int → Int → Option R) : Option R :=
  (bif (Decidable.decide (x29 < x28)) then
  (bif (Decidable.decide (x29 < Go.IntKind.wrap Go.IntKind.i64 (x27 + (2 : Int)))) then
   (bif (Decidable.decide ((0 : Int) ≤ x29) && Decidable.decide (x29 < (↑(List.length l24) : Int))) then
    refClass_F (Go.IntKind.wrap Go.IntKind.i64 (List.getD l24 (Int.toNat x29) (0 : Int))) (fun x39 =>
     (bif (x39 == (0 : Int)) then
      rec s23 l24 x25 s26 x27 x28 (Go.IntKind.wrap Go.IntKind.i64 (x29 + (1 : Int))) b30 x31 x32 b33 s34 x35 s36 x37 x38
     else
      ke0 s23 l24 x25 s26 x28 x29 b30 x31 x32 b33 s34 x35 s36 x37 x38))
   else
    none)
  else
   ke0 s23 l24 x25 s26 x28 x29 b30 x31 x32 b33 s34 x35 s36 x37 x38)
 else
  ke0 s23 l24 x25 s26 x28 x29 b30 x31 x32 b33 s34 x35 s36 x37 x38)
noncomputable def refShifted_L6 {R : Type} : Nat → Str → List Int → Int → Str → Int → Int → Int → Bool → Int → Int → Bool → Str → Int → Str → Int → Int → (Str → List Int → Int → Str → Int → Int → Bool → Int → Int → Bool → Str → Int → Str → Int → Int → Option R) → Option R
  | 0, _, _, _, _, _, _, _, _, _, _, _, _, _, _, _, _, _ => none
  | n + 1, s23, l24, x25, s26, x27, x28, x29, b30, x31, x32, b33, s34, x35, s36, x37, x38, ke0 => refShifted_B6 (fun s23 l24 x25 s26 x27 x28 x29 b30 x31 x32 b33 s34 x35 s36 x37 x38 => refShifted_L6 n s23 l24 x25 s26 x27 x28 x29 b30 x31 x32 b33 s34 x35 s36 x37 x38 ke0) s23 l24 x25 s26 x27 x28 x29 b30 x31 x32 b33 s34 x35 s36 x37 x38 ke0
noncomputable def refShifted_M6 {R : Type} : Str → List Int → Int → Str → Int → Int → Int → Bool → Int → Int → Bool → Str → Int → Str → Int → Int → (Str → List Int → Int → Str → Int → Int → Bool → Int → Int → Bool → Str → Int → Str → Int → Int → Option R) → Option R := lock (refShifted_L6 4611686018427387904)
theorem refShifted_M6_eq {R : Type} : @refShifted_M6 R = refShifted_L6 4611686018427387904 := lock_eq _
noncomputable def refShifted_B3 {R : Type} (rec : Str → List Int → Int → Str → Int → Bool → Int → Int → Bool → Str → Int → Str → Int → Int → Option R) (s8 : Str) (l9 : List Int) (x10 : Int) (s11 : Str) (x12 : Int) (b13 : Bool) (x14 : Int) (x15 : Int) (b16 : Bool) (s17 : Str) (x18 : Int) (s19 : Str) (x20 : Int) (x21 : Int) (ke0 : Str → List Int → Str → Bool → Int → Int → Bool → Str → Int → Str → Int → Int → Option R) : Option R :=
  refEnd_F l9 x12 (fun x22 =>
  (bif (x10 == (60 : Int)) then
   refShifted_M6 s8 l9 x10 s11 x12 x22 x12 b13 x14 x15 b16 s17 x18 s19 x20 x21
    (fun s40 l41 x42 s43 x44 x45 b46 x47 x48 b49 s50 x51 s52 x53 x54 =>
    (bif (Decidable.decide ((0 : Int) ≤ x44) && Decidable.decide (x44 ≤ (↑(List.length l41) : Int))) then
     (bif (Decidable.decide ((0 : Int) ≤ x45) && Decidable.decide (x45 ≤ (↑(Int.toNat x44) : Int))) then
      (bif (Decidable.decide (List.length s43 + List.length (Go.QA.strOf (List.drop (Int.toNat x45) (List.take (Int.toNat x44) l41))) ≤ (9223372036854775807 : Nat))) then
       (bif (Decidable.decide (x44 ≥ x47)) then
        (bif (Decidable.decide ((0 : Int) ≤ x44) && Decidable.decide (x44 ≤ (↑(List.length l41) : Int))) then
         (bif (Decidable.decide (List.length (s43 ++ Go.QA.strOf (List.drop (Int.toNat x45) (List.take (Int.toNat x44) l41))) + List.length (Go.QA.strOf (List.drop (Int.toNat x44) (List.take (List.length l41) l41))) ≤ (9223372036854775807 : Nat))) then
          ke0 s40 l41 (s43 ++ Go.QA.strOf (List.drop (Int.toNat x45) (List.take (Int.toNat x44) l41)) ++ Go.QA.strOf (List.drop (Int.toNat x44) (List.take (List.length l41) l41))) b46 x47 x48 b49 s50 x51 s52 x53 x54
         else
          none)
        else
         none)
       else
        (bif (Decidable.decide (List.length (s43 ++ Go.QA.strOf (List.drop (Int.toNat x45) (List.take (Int.toNat x44) l41))) + List.length [(10 : UInt8)] ≤ (9223372036854775807 : Nat))) then
         rec s40 l41 x42 (s43 ++ Go.QA.strOf (List.drop (Int.toNat x45) (List.take (Int.toNat x44) l41)) ++ [(10 : UInt8)]) (Go.IntKind.wrap Go.IntKind.i64 (x44 + (1 : Int))) b46 x47 x48 b49 s50 x51 s52 x53 x54
        else
         none))
      else
       none)
     else
      none)
    else
     none))
  else
   (bif (Decidable.decide (x22 > x12)) then
    (bif (Decidable.decide (List.length s11 + List.length [(32 : UInt8), (32 : UInt8)] ≤ (9223372036854775807 : Nat))) then
     (bif (Decidable.decide ((0 : Int) ≤ x22) && Decidable.decide (x22 ≤ (↑(List.length l9) : Int))) then
      (bif (Decidable.decide ((0 : Int) ≤ x12) && Decidable.decide (x12 ≤ (↑(Int.toNat x22) : Int))) then
       (bif (Decidable.decide (List.length (s11 ++ [(32 : UInt8), (32 : UInt8)]) + List.length (Go.QA.strOf (List.drop (Int.toNat x12) (List.take (Int.toNat x22) l9))) ≤ (9223372036854775807 : Nat))) then
        (bif (Decidable.decide (x22 ≥ x14)) then
         (bif (Decidable.decide ((0 : Int) ≤ x22) && Decidable.decide (x22 ≤ (↑(List.length l9) : Int))) then
          (bif (Decidable.decide (List.length (s11 ++ [(32 : UInt8), (32 : UInt8)] ++ Go.QA.strOf (List.drop (Int.toNat x12) (List.take (Int.toNat x22) l9))) + List.length (Go.QA.strOf (List.drop (Int.toNat x22) (List.take (List.length l9) l9))) ≤ (9223372036854775807 : Nat))) then
           ke0 s8 l9 (s11 ++ [(32 : UInt8), (32 : UInt8)] ++ Go.QA.strOf (List.drop (Int.toNat x12) (List.take (Int.toNat x22) l9)) ++ Go.QA.strOf (List.drop (Int.toNat x22) (List.take (List.length l9) l9))) b13 x14 x15 b16 s17 x18 s19 x20 x21
          else
           none)
         else
          none)
        else
         (bif (Decidable.decide (List.length (s11 ++ [(32 : UInt8), (32 : UInt8)] ++ Go.QA.strOf (List.drop (Int.toNat x12) (List.take (Int.toNat x22) l9))) + List.length [(10 : UInt8)] ≤ (9223372036854775807 : Nat))) then
          rec s8 l9 x10 (s11 ++ [(32 : UInt8), (32 : UInt8)] ++ Go.QA.strOf (List.drop (Int.toNat x12) (List.take (Int.toNat x22) l9)) ++ [(10 : UInt8)]) (Go.IntKind.wrap Go.IntKind.i64 (x22 + (1 : Int))) b13 x14 x15 b16 s17 x18 s19 x20 x21
         else
          none))
       else
        none)
      else
       none)
     else
      none)
    else
     none)
   else
    (bif (Decidable.decide ((0 : Int) ≤ x22) && Decidable.decide (x22 ≤ (↑(List.length l9) : Int))) then
     (bif (Decidable.decide ((0 : Int) ≤ x12) && Decidable.decide (x12 ≤ (↑(Int.toNat x22) : Int))) then
      (bif (Decidable.decide (List.length s11 + List.length (Go.QA.strOf (List.drop (Int.toNat x12) (List.take (Int.toNat x22) l9))) ≤ (9223372036854775807 : Nat))) then
       (bif (Decidable.decide (x22 ≥ x14)) then
        (bif (Decidable.decide ((0 : Int) ≤ x22) && Decidable.decide (x22 ≤ (↑(List.length l9) : Int))) then
         (bif (Decidable.decide (List.length (s11 ++ Go.QA.strOf (List.drop (Int.toNat x12) (List.take (Int.toNat x22) l9))) + List.length (Go.QA.strOf (List.drop (Int.toNat x22) (List.take (List.length l9) l9))) ≤ (9223372036854775807 : Nat))) then
          ke0 s8 l9 (s11 ++ Go.QA.strOf (List.drop (Int.toNat x12) (List.take (Int.toNat x22) l9)) ++ Go.QA.strOf (List.drop (Int.toNat x22) (List.take (List.length l9) l9))) b13 x14 x15 b16 s17 x18 s19 x20 x21
         else
          none)
        else
         none)
       else
        (bif (Decidable.decide (List.length (s11 ++ Go.QA.strOf (List.drop (Int.toNat x12) (List.take (Int.toNat x22) l9))) + List.length [(10 : UInt8)] ≤ (9223372036854775807 : Nat))) then
         rec s8 l9 x10 (s11 ++ Go.QA.strOf (List.drop (Int.toNat x12) (List.take (Int.toNat x22) l9)) ++ [(10 : UInt8)]) (Go.IntKind.wrap Go.IntKind.i64 (x22 + (1 : Int))) b13 x14 x15 b16 s17 x18 s19 x20 x21
        else
         none))
      else
       none)
     else
      none)
    else
     none))))
noncomputable def refShifted_L3 {R : Type} : Nat → Str → List Int → Int → Str → Int → Bool → Int → Int → Bool → Str → Int → Str → Int → Int → (Str → List Int → Str → Bool → Int → Int → Bool → Str → Int → Str → Int → Int → Option R) → Option R
  | 0, _, _, _, _, _, _, _, _, _, _, _, _, _, _, _ => none
  | n + 1, s8, l9, x10, s11, x12, b13, x14, x15, b16, s17, x18, s19, x20, x21, ke0 => refShifted_B3 (fun s8 l9 x10 s11 x12 b13 x14 x15 b16 s17 x18 s19 x20 x21 => refShifted_L3 n s8 l9 x10 s11 x12 b13 x14 x15 b16 s17 x18 s19 x20 x21 ke0) s8 l9 x10 s11 x12 b13 x14 x15 b16 s17 x18 s19 x20 x21 ke0
noncomputable def refShifted_M3 {R : Type} : Str → List Int → Int → Str → Int → Bool → Int → Int → Bool → Str → Int → Str → Int → Int → (Str → List Int → Str → Bool → Int → Int → Bool → Str → Int → Str → Int → Int → Option R) → Option R := lock (refShifted_L3 4611686018427387904)
theorem refShifted_M3_eq {R : Type} : @refShifted_M3 R = refShifted_L3 4611686018427387904 := lock_eq _
noncomputable def refShifted_Lam0 (R : Type) : Lam R := fun _ _ _ => none
noncomputable def refShifted_body6 : Code := (findLoop 6 refShifted_code).getD .skip
def refShifted_S6 : QA.Spec := (⟨[.t 0, .t 1, .t 3, .t 10, .t 11, .t 12, .t 13, .c 6 2, .c 6 1, .c 6 0, .c 8 5, .c 8 4, .c 8 3, .c 8 2, .c 8 1, .c 8 0], [6, 8], [], [(.t 6, 6, 0), (.t 8, 8, 0)], []⟩ : QA.Spec)
def refShifted_S6e2 : QA.Spec := (⟨[.t 0, .t 1, .t 3, .t 10, .t 12, .t 13, .c 6 2, .c 6 1, .c 6 0, .c 8 5, .c 8 4, .c 8 3, .c 8 2, .c 8 1, .c 8 0], [6, 8], [], [(.t 6, 6, 0), (.t 8, 8, 0)], []⟩ : QA.Spec)
def refShifted_X6 : AExit → Option QA.Spec
  | .normal => none
  | .exit j => bif Nat.beq j 2 then some refShifted_S6e2 else none
  | .ret => none
theorem refShifted_L6_eq {R : Type} (k : AExit → St → Option R) : ∀ (n : Nat) (a0 : Str) (a1 : List Int) (a2 : Int) (a3 : Str) (a4 : Int) (a5 : Int) (a6 : Int) (a7 : Bool) (a8 : Int) (a9 : Int) (a10 : Bool) (a11 : Str) (a12 : Int) (a13 : Str) (a14 : Int) (a15 : Int), aloop refShifted_C (refShifted_G R) (refShifted_Lam0 R) refShifted_S6 refShifted_X6 refShifted_body6 n [D.str a0, D.sl (.ints .i32 a1), D.int .i64 a2, D.str a3, D.int .i64 a4, D.int .i64 a5, D.int .i64 a6, D.bool a7, D.int .i64 a8, D.int .i64 a9, D.bool a10, D.str a11, D.int .i64 a12, D.str a13, D.int .i64 a14, D.int .i64 a15] k = refShifted_L6 n a0 a1 a2 a3 a4 a5 a6 a7 a8 a9 a10 a11 a12 a13 a14 a15 (fun y0 y1 y2 y3 y4 y5 y6 y7 y8 y9 y10 y11 y12 y13 y14 => k (.exit 2) (mkSt refShifted_S6e2 [D.str y0, D.sl (.ints .i32 y1), D.int .i64 y2, D.str y3, D.int .i64 y4, D.int .i64 y5, D.bool y6, D.int .i64 y7, D.int .i64 y8, D.bool y9, D.str y10, D.int .i64 y11, D.str y12, D.int .i64 y13, D.int .i64 y14]))
  | 0, _, _, _, _, _, _, _, _, _, _, _, _, _, _, _, _ => rfl
  | n + 1, a0, a1, a2, a3, a4, a5, a6, a7, a8, a9, a10, a11, a12, a13, a14, a15 => by
    have h : (fun a0 a1 a2 a3 a4 a5 a6 a7 a8 a9 a10 a11 a12 a13 a14 a15 => aloop refShifted_C (refShifted_G R) (refShifted_Lam0 R) refShifted_S6 refShifted_X6 refShifted_body6 n [D.str a0, D.sl (.ints .i32 a1), D.int .i64 a2, D.str a3, D.int .i64 a4, D.int .i64 a5, D.int .i64 a6, D.bool a7, D.int .i64 a8, D.int .i64 a9, D.bool a10, D.str a11, D.int .i64 a12, D.str a13, D.int .i64 a14, D.int .i64 a15] k) = (fun a0 a1 a2 a3 a4 a5 a6 a7 a8 a9 a10 a11 a12 a13 a14 a15 => refShifted_L6 n a0 a1 a2 a3 a4 a5 a6 a7 a8 a9 a10 a11 a12 a13 a14 a15 (fun y0 y1 y2 y3 y4 y5 y6 y7 y8 y9 y10 y11 y12 y13 y14 => k (.exit 2) (mkSt refShifted_S6e2 [D.str y0, D.sl (.ints .i32 y1), D.int .i64 y2, D.str y3, D.int .i64 y4, D.int .i64 y5, D.bool y6, D.int .i64 y7, D.int .i64 y8, D.bool y9, D.str y10, D.int .i64 y11, D.str y12, D.int .i64 y13, D.int .i64 y14]))) := by
      funext a0 a1 a2 a3 a4 a5 a6 a7 a8 a9 a10 a11 a12 a13 a14 a15; exact refShifted_L6_eq k n a0 a1 a2 a3 a4 a5 a6 a7 a8 a9 a10 a11 a12 a13 a14 a15
    have s : aloop refShifted_C (refShifted_G R) (refShifted_Lam0 R) refShifted_S6 refShifted_X6 refShifted_body6 (n + 1) [D.str a0, D.sl (.ints .i32 a1), D.int .i64 a2, D.str a3, D.int .i64 a4, D.int .i64 a5, D.int .i64 a6, D.bool a7, D.int .i64 a8, D.int .i64 a9, D.bool a10, D.str a11, D.int .i64 a12, D.str a13, D.int .i64 a14, D.int .i64 a15] k = refShifted_B6 (fun a0 a1 a2 a3 a4 a5 a6 a7 a8 a9 a10 a11 a12 a13 a14 a15 => aloop refShifted_C (refShifted_G R) (refShifted_Lam0 R) refShifted_S6 refShifted_X6 refShifted_body6 n [D.str a0, D.sl (.ints .i32 a1), D.int .i64 a2, D.str a3, D.int .i64 a4, D.int .i64 a5, D.int .i64 a6, D.bool a7, D.int .i64 a8, D.int .i64 a9, D.bool a10, D.str a11, D.int .i64 a12, D.str a13, D.int .i64 a14, D.int .i64 a15] k) a0 a1 a2 a3 a4 a5 a6 a7 a8 a9 a10 a11 a12 a13 a14 a15 (fun y0 y1 y2 y3 y4 y5 y6 y7 y8 y9 y10 y11 y12 y13 y14 => k (.exit 2) (mkSt refShifted_S6e2 [D.str y0, D.sl (.ints .i32 y1), D.int .i64 y2, D.str y3, D.int .i64 y4, D.int .i64 y5, D.bool y6, D.int .i64 y7, D.int .i64 y8, D.bool y9, D.str y10, D.int .i64 y11, D.str y12, D.int .i64 y13, D.int .i64 y14])) := by kernel_rfl
    rw [s, h]; rfl
noncomputable def refShifted_A6 (R : Type) (ds : List D) (k : AExit → St → Option R) : Option R :=
  match ds with
  | [D.str a0, D.sl (.ints .i32 a1), D.int .i64 a2, D.str a3, D.int .i64 a4, D.int .i64 a5, D.int .i64 a6, D.bool a7, D.int .i64 a8, D.int .i64 a9, D.bool a10, D.str a11, D.int .i64 a12, D.str a13, D.int .i64 a14, D.int .i64 a15] => refShifted_M6 a0 a1 a2 a3 a4 a5 a6 a7 a8 a9 a10 a11 a12 a13 a14 a15 (fun y0 y1 y2 y3 y4 y5 y6 y7 y8 y9 y10 y11 y12 y13 y14 => k (.exit 2) (mkSt refShifted_S6e2 [D.str y0, D.sl (.ints .i32 y1), D.int .i64 y2, D.str y3, D.int .i64 y4, D.int .i64 y5, D.bool y6, D.int .i64 y7, D.int .i64 y8, D.bool y9, D.str y10, D.int .i64 y11, D.str y12, D.int .i64 y13, D.int .i64 y14]))
  | _ => none
noncomputable def refShifted_Lam1 (R : Type) : Lam R := fun key st k => bif Nat.beq key 6 then (match readSt refShifted_S6 st with | some ds => refShifted_A6 R ds k | none => none) else refShifted_Lam0 R key st k
theorem refShifted_A6_ok {R : Type} : ∀ ds k r, refShifted_A6 R ds k = some r → ∃ e st', k e st' = some r ∧ QA.Reach refShifted_C (.loop refShifted_body6) (mkSt refShifted_S6 ds) e st' := by
  intro ds k r h
  unfold refShifted_A6 at h
  split at h
  · rw [refShifted_M6_eq, ← refShifted_L6_eq] at h
    refine aloop_ok (C := refShifted_C) qOk (refShifted_Gok R) ?_ _ _ _ _ h
    rw [show loopsIn refShifted_body6 = [] from by kernel_rfl]
    intro b hb
    cases hb
  · cases h
noncomputable def refShifted_body3 : Code := (findLoop 3 refShifted_code).getD .skip
def refShifted_S3 : QA.Spec := (⟨[.t 0, .t 1, .t 3, .t 10, .t 11, .c 6 2, .c 6 1, .c 6 0, .c 8 5, .c 8 4, .c 8 3, .c 8 2, .c 8 1, .c 8 0], [6, 8], [], [(.t 6, 6, 0), (.t 8, 8, 0)], []⟩ : QA.Spec)
def refShifted_S3e0 : QA.Spec := (⟨[.t 0, .t 1, .t 10, .c 6 2, .c 6 1, .c 6 0, .c 8 5, .c 8 4, .c 8 3, .c 8 2, .c 8 1, .c 8 0], [6, 8], [], [(.t 6, 6, 0), (.t 8, 8, 0)], []⟩ : QA.Spec)
def refShifted_X3 : AExit → Option QA.Spec
  | .normal => none
  | .exit j => bif Nat.beq j 0 then some refShifted_S3e0 else none
  | .ret => none
theorem refShifted_L3_eq {R : Type} (k : AExit → St → Option R) : ∀ (n : Nat) (a0 : Str) (a1 : List Int) (a2 : Int) (a3 : Str) (a4 : Int) (a5 : Bool) (a6 : Int) (a7 : Int) (a8 : Bool) (a9 : Str) (a10 : Int) (a11 : Str) (a12 : Int) (a13 : Int), aloop refShifted_C (refShifted_G R) (refShifted_Lam1 R) refShifted_S3 refShifted_X3 refShifted_body3 n [D.str a0, D.sl (.ints .i32 a1), D.int .i64 a2, D.str a3, D.int .i64 a4, D.bool a5, D.int .i64 a6, D.int .i64 a7, D.bool a8, D.str a9, D.int .i64 a10, D.str a11, D.int .i64 a12, D.int .i64 a13] k = refShifted_L3 n a0 a1 a2 a3 a4 a5 a6 a7 a8 a9 a10 a11 a12 a13 (fun y0 y1 y2 y3 y4 y5 y6 y7 y8 y9 y10 y11 => k (.exit 0) (mkSt refShifted_S3e0 [D.str y0, D.sl (.ints .i32 y1), D.str y2, D.bool y3, D.int .i64 y4, D.int .i64 y5, D.bool y6, D.str y7, D.int .i64 y8, D.str y9, D.int .i64 y10, D.int .i64 y11]))
  | 0, _, _, _, _, _, _, _, _, _, _, _, _, _, _ => rfl
  | n + 1, a0, a1, a2, a3, a4, a5, a6, a7, a8, a9, a10, a11, a12, a13 => by
    have h : (fun a0 a1 a2 a3 a4 a5 a6 a7 a8 a9 a10 a11 a12 a13 => aloop refShifted_C (refShifted_G R) (refShifted_Lam1 R) refShifted_S3 refShifted_X3 refShifted_body3 n [D.str a0, D.sl (.ints .i32 a1), D.int .i64 a2, D.str a3, D.int .i64 a4, D.bool a5, D.int .i64 a6, D.int .i64 a7, D.bool a8, D.str a9, D.int .i64 a10, D.str a11, D.int .i64 a12, D.int .i64 a13] k) = (fun a0 a1 a2 a3 a4 a5 a6 a7 a8 a9 a10 a11 a12 a13 => refShifted_L3 n a0 a1 a2 a3 a4 a5 a6 a7 a8 a9 a10 a11 a12 a13 (fun y0 y1 y2 y3 y4 y5 y6 y7 y8 y9 y10 y11 => k (.exit 0) (mkSt refShifted_S3e0 [D.str y0, D.sl (.ints .i32 y1), D.str y2, D.bool y3, D.int .i64 y4, D.int .i64 y5, D.bool y6, D.str y7, D.int .i64 y8, D.str y9, D.int .i64 y10, D.int .i64 y11]))) := by
      funext a0 a1 a2 a3 a4 a5 a6 a7 a8 a9 a10 a11 a12 a13; exact refShifted_L3_eq k n a0 a1 a2 a3 a4 a5 a6 a7 a8 a9 a10 a11 a12 a13
    have s : aloop refShifted_C (refShifted_G R) (refShifted_Lam1 R) refShifted_S3 refShifted_X3 refShifted_body3 (n + 1) [D.str a0, D.sl (.ints .i32 a1), D.int .i64 a2, D.str a3, D.int .i64 a4, D.bool a5, D.int .i64 a6, D.int .i64 a7, D.bool a8, D.str a9, D.int .i64 a10, D.str a11, D.int .i64 a12, D.int .i64 a13] k = refShifted_B3 (fun a0 a1 a2 a3 a4 a5 a6 a7 a8 a9 a10 a11 a12 a13 => aloop refShifted_C (refShifted_G R) (refShifted_Lam1 R) refShifted_S3 refShifted_X3 refShifted_body3 n [D.str a0, D.sl (.ints .i32 a1), D.int .i64 a2, D.str a3, D.int .i64 a4, D.bool a5, D.int .i64 a6, D.int .i64 a7, D.bool a8, D.str a9, D.int .i64 a10, D.str a11, D.int .i64 a12, D.int .i64 a13] k) a0 a1 a2 a3 a4 a5 a6 a7 a8 a9 a10 a11 a12 a13 (fun y0 y1 y2 y3 y4 y5 y6 y7 y8 y9 y10 y11 => k (.exit 0) (mkSt refShifted_S3e0 [D.str y0, D.sl (.ints .i32 y1), D.str y2, D.bool y3, D.int .i64 y4, D.int .i64 y5, D.bool y6, D.str y7, D.int .i64 y8, D.str y9, D.int .i64 y10, D.int .i64 y11])) := by kernel_rfl
    rw [s, h]; rfl
noncomputable def refShifted_A3 (R : Type) (ds : List D) (k : AExit → St → Option R) : Option R :=
  match ds with
  | [D.str a0, D.sl (.ints .i32 a1), D.int .i64 a2, D.str a3, D.int .i64 a4, D.bool a5, D.int .i64 a6, D.int .i64 a7, D.bool a8, D.str a9, D.int .i64 a10, D.str a11, D.int .i64 a12, D.int .i64 a13] => refShifted_M3 a0 a1 a2 a3 a4 a5 a6 a7 a8 a9 a10 a11 a12 a13 (fun y0 y1 y2 y3 y4 y5 y6 y7 y8 y9 y10 y11 => k (.exit 0) (mkSt refShifted_S3e0 [D.str y0, D.sl (.ints .i32 y1), D.str y2, D.bool y3, D.int .i64 y4, D.int .i64 y5, D.bool y6, D.str y7, D.int .i64 y8, D.str y9, D.int .i64 y10, D.int .i64 y11]))
  | _ => none
noncomputable def refShifted_Lam2 (R : Type) : Lam R := fun key st k => bif Nat.beq key 3 then (match readSt refShifted_S3 st with | some ds => refShifted_A3 R ds k | none => none) else refShifted_Lam1 R key st k
theorem refShifted_A3_ok {R : Type} : ∀ ds k r, refShifted_A3 R ds k = some r → ∃ e st', k e st' = some r ∧ QA.Reach refShifted_C (.loop refShifted_body3) (mkSt refShifted_S3 ds) e st' := by
  intro ds k r h
  unfold refShifted_A3 at h
  split at h
  · rw [refShifted_M3_eq, ← refShifted_L3_eq] at h
    refine aloop_ok (C := refShifted_C) qOk (refShifted_Gok R) ?_ _ _ _ _ h
    rw [show loopsIn refShifted_body3 = [refShifted_body6] from by kernel_rfl]
    intro b hb
    simp only [List.mem_cons, List.not_mem_nil, or_false] at hb
    subst hb
    exact lam_of (key := 6) (S := refShifted_S6) (L := refShifted_A6 R) (fun st k => by kernel_rfl) (by kernel_rfl) refShifted_A6_ok
  · cases h
noncomputable def refShifted_T {R : Type} (s0 : Str) (l1 : List Int) (x2 : Int) (x3 : Int) (b4 : Bool) (x5 : Int) (k : Int → Int → Str → Int → Str → Bool → Int → Option R) : Option R :=
  refBegin_F l1 x2 (fun x6 =>
  (bif (Decidable.decide ((0 : Int) ≤ x6) && Decidable.decide (x6 ≤ (↑(List.length l1) : Int))) then
   refBegin_F l1 x2 (fun x7 =>
    refShifted_M3 s0 l1 x5 (Go.QA.strOf (List.drop (0 : Nat) (List.take (Int.toNat x6) l1))) x7 b4 x3 x2 Bool.false [] ((0 : Int)) [] ((0 : Int)) ((0 : Int))
     (fun s55 l56 s57 b58 x59 x60 b61 s62 x63 s64 x65 x66 =>
     refMay1_F s57 (fun b67 =>
      (bif !b67 then
       k ((0 : Int)) ((0 : Int)) [] ((0 : Int)) [] Bool.false ((4 : Int))
      else
       refBegin_F l56 x60 (fun x68 =>
        refTidy_F s57 x68 (fun x69 =>
         made18_F s55 s57 x69 (fun x70 x71 s72 x73 s74 b75 x76 =>
          k x70 x71 s72 x73 s74 b75 x76)))))))
  else
   none))
noncomputable def refShifted_F {R : Type} : Str → List Int → Int → Int → Bool → Int → (Int → Int → Str → Int → Str → Bool → Int → Option R) → Option R := lock refShifted_T
theorem refShifted_F_T {R : Type} : @refShifted_F R = refShifted_T := lock_eq _
theorem refShifted_F_eq {R : Type} (s0 : Str) (l1 : List Int) (x2 : Int) (x3 : Int) (b4 : Bool) (x5 : Int) (k : D → Option R) : afun qP [] (refShifted_G R) (refShifted_Lam2 R) Tryd.f89 [D.str s0, D.sl (.ints .i32 l1), D.agg [D.int .i64 x2, D.int .i64 x3, D.bool b4], D.int .i64 x5] k = refShifted_T s0 l1 x2 x3 b4 x5 (fun y0 y1 y2 y3 y4 y5 y6 => k (D.tup [D.agg [D.int .i64 y0, D.int .i64 y1, D.str y2, D.int .i64 y3, D.str y4, D.bool y5], D.int .i64 y6])) := by kernel_rfl
noncomputable def refShifted_abs (R : Type) (ds : List D) (k : D → Option R) : Option R :=
  match ds with
  | [D.str s0, D.sl (.ints .i32 l1), D.agg [D.int .i64 x2, D.int .i64 x3, D.bool b4], D.int .i64 x5] => refShifted_F s0 l1 x2 x3 b4 x5 (fun y0 y1 y2 y3 y4 y5 y6 => k (D.tup [D.agg [D.int .i64 y0, D.int .i64 y1, D.str y2, D.int .i64 y3, D.str y4, D.bool y5], D.int .i64 y6]))
  | _ => none
theorem refShifted_ok : FnOk qP 89 refShifted_abs := by
  intro R ds k r h
  unfold refShifted_abs at h
  split at h
  · rw [refShifted_F_T, ← refShifted_F_eq] at h
    refine afun_ok (P := qP) (c := refShifted_code) qOk (refShifted_Gok R) Tryd.func89 (by kernel_rfl) (by kernel_rfl) ?_ ?_ (by kernel_rfl) h
    rotate_left
    · exact Nat.le_of_ble_eq_true (by kernel_rfl)
    rw [show loopsIn refShifted_code = [refShifted_body3] from by kernel_rfl]
    intro b hb
    simp only [List.mem_cons, List.not_mem_nil, or_false] at hb
    subst hb
    exact lam_of (key := 3) (S := refShifted_S3) (L := refShifted_A3 R) (fun st k => by kernel_rfl) (by kernel_rfl) refShifted_A3_ok
  · cases h

/-! ### refSmall: function 23: for the keys r and ~ by the run in which the runes are one's own, else by the other -/

noncomputable def refSmall_F {R : Type} (s0 : Str) (x1 : Int) (x2 : Int) (x3 : Int) (x4 : Int) (k : Int → Int → Str → Int → Str → Bool → Int → Option R) : Option R :=
  bif x2 == 114 || x2 == 126 then refSmallB_F s0 x1 x2 x3 x4 k else refSmallA_F s0 x1 x2 x3 x4 k
noncomputable def refSmall_abs (R : Type) (ds : List D) (k : D → Option R) : Option R :=
  match ds with
  | [D.str s0, D.int .i64 x1, D.int .i64 x2, D.int .i64 x3, D.int .i64 x4] => refSmall_F s0 x1 x2 x3 x4 (fun y0 y1 y2 y3 y4 y5 y6 => k (D.tup [D.agg [D.int .i64 y0, D.int .i64 y1, D.str y2, D.int .i64 y3, D.str y4, D.bool y5], D.int .i64 y6]))
  | _ => none
theorem refSmall_ok : FnOk qP 23 refSmall_abs := by
  intro R ds k r h
  unfold refSmall_abs at h
  split at h
  · rename_i s0 x1 x2 x3 x4
    unfold refSmall_F at h
    cases hb : (x2 == 114 || x2 == 126) with
    | true => rw [hb] at h; exact refSmallB_ok R [D.str s0, D.int .i64 x1, D.int .i64 x2, D.int .i64 x3, D.int .i64 x4] k r h
    | false => rw [hb] at h; exact refSmallA_ok R [D.str s0, D.int .i64 x1, D.int .i64 x2, D.int .i64 x3, D.int .i64 x4] k r h
  · cases h

/-! ### smallBecome: function 74 -/

noncomputable def smallBecome_C : Cfg := ⟨qP, Tryd.f74.ntmps, [28]⟩
noncomputable def smallBecome_code : Code := Tryd.f74.body.getD .skip
noncomputable def smallBecome_G (R : Type) : Orc R := fun f args k => bif Nat.beq f 71 then MapRow_abs R args k else (fun f args k => bif Nat.beq f 72 then MapEnd_abs R args k else (fun f args k => bif Nat.beq f 100 then libClone_abs R args k else (fun f args k => bif Nat.beq f 65 then changeMade_abs R args k else (fun _ _ _ => none) f args k) f args k) f args k) f args k
theorem smallBecome_Gok (R : Type) : OrcOk qP (smallBecome_G R) := (orc_cons MapRow_ok (orc_cons MapEnd_ok (orc_cons libClone_ok (orc_cons changeMade_ok orc_nil))))
noncomputable def smallBecome_B5 {R : Type} (rec : Str → Int → Int → Int → List Int → Int → Bool → Str → Int → Str → Int → Int → Option R) (s9 : Str) (x10 : Int) (x11 : Int) (x12 : Int) (l13 : List Int) (x14 : Int) (b15 : Bool) (s16 : Str) (x17 : Int) (s18 : Str) (x19 : Int) (x20 : Int) (ke0 : Str → Int → Int → List Int → Bool → Str → Int → Str → Int → Int → Option R) : Option R :=
  (bif (Decidable.decide (x14 < Go.IntKind.wrap Go.IntKind.i64 (x10 + x11))) then
  (bif (Decidable.decide ((0 : Int) ≤ x14) && Decidable.decide (x14 < (↑(List.length l13) : Int))) then
   rec s9 x10 x11 x12 (List.set l13 (Int.toNat x14) (Go.IntKind.wrap Go.IntKind.i32 x12)) (Go.IntKind.wrap Go.IntKind.i64 (x14 + (1 : Int))) b15 s16 x17 s18 x19 x20
  else
   none)
 else
  ke0 s9 x10 x11 l13 b15 s16 x17 s18 x19 x20)
noncomputable def smallBecome_L5 {R : Type} : Nat → Str → Int → Int → Int → List Int → Int → Bool → Str → Int → Str → Int → Int → (Str → Int → Int → List Int → Bool → Str → Int → Str → Int → Int → Option R) → Option R
  | 0, _, _, _, _, _, _, _, _, _, _, _, _, _ => none
  | n + 1, s9, x10, x11, x12, l13, x14, b15, s16, x17, s18, x19, x20, ke0 => smallBecome_B5 (fun s9 x10 x11 x12 l13 x14 b15 s16 x17 s18 x19 x20 => smallBecome_L5 n s9 x10 x11 x12 l13 x14 b15 s16 x17 s18 x19 x20 ke0) s9 x10 x11 x12 l13 x14 b15 s16 x17 s18 x19 x20 ke0
noncomputable def smallBecome_M5 {R : Type} : Str → Int → Int → Int → List Int → Int → Bool → Str → Int → Str → Int → Int → (Str → Int → Int → List Int → Bool → Str → Int → Str → Int → Int → Option R) → Option R := lock (smallBecome_L5 4611686018427387904)
theorem smallBecome_M5_eq {R : Type} : @smallBecome_M5 R = smallBecome_L5 4611686018427387904 := lock_eq _
noncomputable def smallBecome_Lam0 (R : Type) : Lam R := fun _ _ _ => none
noncomputable def smallBecome_body5 : Code := (findLoop 5 smallBecome_code).getD .skip
def smallBecome_S5 : QA.Spec := (⟨[.t 0, .t 2, .t 3, .t 4, .t 12, .t 13, .c 10 5, .c 10 4, .c 10 3, .c 10 2, .c 10 1, .c 10 0], [10], [], [(.t 10, 10, 0)], []⟩ : QA.Spec)
def smallBecome_S5e0 : QA.Spec := (⟨[.t 0, .t 2, .t 3, .t 12, .c 10 5, .c 10 4, .c 10 3, .c 10 2, .c 10 1, .c 10 0], [10], [], [(.t 10, 10, 0)], []⟩ : QA.Spec)
def smallBecome_X5 : AExit → Option QA.Spec
  | .normal => none
  | .exit j => bif Nat.beq j 0 then some smallBecome_S5e0 else none
  | .ret => none
theorem smallBecome_L5_eq {R : Type} (k : AExit → St → Option R) : ∀ (n : Nat) (a0 : Str) (a1 : Int) (a2 : Int) (a3 : Int) (a4 : List Int) (a5 : Int) (a6 : Bool) (a7 : Str) (a8 : Int) (a9 : Str) (a10 : Int) (a11 : Int), aloop smallBecome_C (smallBecome_G R) (smallBecome_Lam0 R) smallBecome_S5 smallBecome_X5 smallBecome_body5 n [D.str a0, D.int .i64 a1, D.int .i64 a2, D.int .i64 a3, D.con (.ints .i32 a4), D.int .i64 a5, D.bool a6, D.str a7, D.int .i64 a8, D.str a9, D.int .i64 a10, D.int .i64 a11] k = smallBecome_L5 n a0 a1 a2 a3 a4 a5 a6 a7 a8 a9 a10 a11 (fun y0 y1 y2 y3 y4 y5 y6 y7 y8 y9 => k (.exit 0) (mkSt smallBecome_S5e0 [D.str y0, D.int .i64 y1, D.int .i64 y2, D.con (.ints .i32 y3), D.bool y4, D.str y5, D.int .i64 y6, D.str y7, D.int .i64 y8, D.int .i64 y9]))
  | 0, _, _, _, _, _, _, _, _, _, _, _, _ => rfl
  | n + 1, a0, a1, a2, a3, a4, a5, a6, a7, a8, a9, a10, a11 => by
    have h : (fun a0 a1 a2 a3 a4 a5 a6 a7 a8 a9 a10 a11 => aloop smallBecome_C (smallBecome_G R) (smallBecome_Lam0 R) smallBecome_S5 smallBecome_X5 smallBecome_body5 n [D.str a0, D.int .i64 a1, D.int .i64 a2, D.int .i64 a3, D.con (.ints .i32 a4), D.int .i64 a5, D.bool a6, D.str a7, D.int .i64 a8, D.str a9, D.int .i64 a10, D.int .i64 a11] k) = (fun a0 a1 a2 a3 a4 a5 a6 a7 a8 a9 a10 a11 => smallBecome_L5 n a0 a1 a2 a3 a4 a5 a6 a7 a8 a9 a10 a11 (fun y0 y1 y2 y3 y4 y5 y6 y7 y8 y9 => k (.exit 0) (mkSt smallBecome_S5e0 [D.str y0, D.int .i64 y1, D.int .i64 y2, D.con (.ints .i32 y3), D.bool y4, D.str y5, D.int .i64 y6, D.str y7, D.int .i64 y8, D.int .i64 y9]))) := by
      funext a0 a1 a2 a3 a4 a5 a6 a7 a8 a9 a10 a11; exact smallBecome_L5_eq k n a0 a1 a2 a3 a4 a5 a6 a7 a8 a9 a10 a11
    have s : aloop smallBecome_C (smallBecome_G R) (smallBecome_Lam0 R) smallBecome_S5 smallBecome_X5 smallBecome_body5 (n + 1) [D.str a0, D.int .i64 a1, D.int .i64 a2, D.int .i64 a3, D.con (.ints .i32 a4), D.int .i64 a5, D.bool a6, D.str a7, D.int .i64 a8, D.str a9, D.int .i64 a10, D.int .i64 a11] k = smallBecome_B5 (fun a0 a1 a2 a3 a4 a5 a6 a7 a8 a9 a10 a11 => aloop smallBecome_C (smallBecome_G R) (smallBecome_Lam0 R) smallBecome_S5 smallBecome_X5 smallBecome_body5 n [D.str a0, D.int .i64 a1, D.int .i64 a2, D.int .i64 a3, D.con (.ints .i32 a4), D.int .i64 a5, D.bool a6, D.str a7, D.int .i64 a8, D.str a9, D.int .i64 a10, D.int .i64 a11] k) a0 a1 a2 a3 a4 a5 a6 a7 a8 a9 a10 a11 (fun y0 y1 y2 y3 y4 y5 y6 y7 y8 y9 => k (.exit 0) (mkSt smallBecome_S5e0 [D.str y0, D.int .i64 y1, D.int .i64 y2, D.con (.ints .i32 y3), D.bool y4, D.str y5, D.int .i64 y6, D.str y7, D.int .i64 y8, D.int .i64 y9])) := by kernel_rfl
    rw [s, h]; rfl
noncomputable def smallBecome_A5 (R : Type) (ds : List D) (k : AExit → St → Option R) : Option R :=
  match ds with
  | [D.str a0, D.int .i64 a1, D.int .i64 a2, D.int .i64 a3, D.con (.ints .i32 a4), D.int .i64 a5, D.bool a6, D.str a7, D.int .i64 a8, D.str a9, D.int .i64 a10, D.int .i64 a11] => smallBecome_M5 a0 a1 a2 a3 a4 a5 a6 a7 a8 a9 a10 a11 (fun y0 y1 y2 y3 y4 y5 y6 y7 y8 y9 => k (.exit 0) (mkSt smallBecome_S5e0 [D.str y0, D.int .i64 y1, D.int .i64 y2, D.con (.ints .i32 y3), D.bool y4, D.str y5, D.int .i64 y6, D.str y7, D.int .i64 y8, D.int .i64 y9]))
  | _ => none
noncomputable def smallBecome_Lam1 (R : Type) : Lam R := fun key st k => bif Nat.beq key 5 then (match readSt smallBecome_S5 st with | some ds => smallBecome_A5 R ds k | none => none) else smallBecome_Lam0 R key st k
theorem smallBecome_A5_ok {R : Type} : ∀ ds k r, smallBecome_A5 R ds k = some r → ∃ e st', k e st' = some r ∧ QA.Reach smallBecome_C (.loop smallBecome_body5) (mkSt smallBecome_S5 ds) e st' := by
  intro ds k r h
  unfold smallBecome_A5 at h
  split at h
  · rw [smallBecome_M5_eq, ← smallBecome_L5_eq] at h
    refine aloop_ok (C := smallBecome_C) qOk (smallBecome_Gok R) ?_ _ _ _ _ h
    rw [show loopsIn smallBecome_body5 = [] from by kernel_rfl]
    intro b hb
    cases hb
  · cases h
noncomputable def smallBecome_T {R : Type} (s0 : Str) (l1 : List Int) (l2 : List Int) (x3 : Int) (x4 : Int) (x5 : Int) (k : Int → Int → Str → Int → Str → Bool → Int → Option R) : Option R :=
  MapRow_F l1 l2 x3 (fun x6 =>
  MapEnd_F l1 l2 x6 (fun x7 =>
   (bif (Decidable.decide (Go.IntKind.wrap Go.IntKind.i64 (x3 + x4) > x7)) then
    k ((0 : Int)) ((0 : Int)) [] ((0 : Int)) [] Bool.false ((6 : Int))
   else
    libClone_F l1 (fun l8 =>
     smallBecome_M5 s0 x3 x4 x5 l8 x3 Bool.false [] ((0 : Int)) [] ((0 : Int)) ((0 : Int))
      (fun s21 x22 x23 l24 b25 s26 x27 s28 x29 x30 =>
      changeMade_F s21 (Go.QA.strOf l24) (Go.IntKind.wrap Go.IntKind.i64 (Go.IntKind.wrap Go.IntKind.i64 (x22 + x23) - (1 : Int))) (fun x31 x32 s33 x34 s35 b36 x37 =>
       k x31 x32 s33 x34 s35 b36 x37))))))
noncomputable def smallBecome_F {R : Type} : Str → List Int → List Int → Int → Int → Int → (Int → Int → Str → Int → Str → Bool → Int → Option R) → Option R := lock smallBecome_T
theorem smallBecome_F_T {R : Type} : @smallBecome_F R = smallBecome_T := lock_eq _
theorem smallBecome_F_eq {R : Type} (s0 : Str) (l1 : List Int) (l2 : List Int) (x3 : Int) (x4 : Int) (x5 : Int) (k : D → Option R) : afun qP [28] (smallBecome_G R) (smallBecome_Lam1 R) Tryd.f74 [D.str s0, D.ptr [D.sl (.ints .i32 l1), D.sl (.ints .i64 l2)], D.int .i64 x3, D.int .i64 x4, D.int .i64 x5] k = smallBecome_T s0 l1 l2 x3 x4 x5 (fun y0 y1 y2 y3 y4 y5 y6 => k (D.tup [D.agg [D.int .i64 y0, D.int .i64 y1, D.str y2, D.int .i64 y3, D.str y4, D.bool y5], D.int .i64 y6])) := by kernel_rfl
noncomputable def smallBecome_abs (R : Type) (ds : List D) (k : D → Option R) : Option R :=
  match ds with
  | [D.str s0, D.ptr [D.sl (.ints .i32 l1), D.sl (.ints .i64 l2)], D.int .i64 x3, D.int .i64 x4, D.int .i64 x5] => smallBecome_F s0 l1 l2 x3 x4 x5 (fun y0 y1 y2 y3 y4 y5 y6 => k (D.tup [D.agg [D.int .i64 y0, D.int .i64 y1, D.str y2, D.int .i64 y3, D.str y4, D.bool y5], D.int .i64 y6]))
  | _ => none
theorem smallBecome_ok : FnOk qP 74 smallBecome_abs := by
  intro R ds k r h
  unfold smallBecome_abs at h
  split at h
  · rw [smallBecome_F_T, ← smallBecome_F_eq] at h
    refine afun_ok (P := qP) (c := smallBecome_code) qOk (smallBecome_Gok R) Tryd.func74 (by kernel_rfl) (by kernel_rfl) ?_ ?_ (by kernel_rfl) h
    rotate_left
    · exact Nat.le_of_ble_eq_true (by kernel_rfl)
    rw [show loopsIn smallBecome_code = [smallBecome_body5] from by kernel_rfl]
    intro b hb
    simp only [List.mem_cons, List.not_mem_nil, or_false] at hb
    subst hb
    exact lam_of (key := 5) (S := smallBecome_S5) (L := smallBecome_A5 R) (fun st k => by kernel_rfl) (by kernel_rfl) smallBecome_A5_ok
  · cases h

/-! ### smallCut: function 73 -/

noncomputable def smallCut_C : Cfg := ⟨qP, Tryd.f73.ntmps, []⟩
noncomputable def smallCut_code : Code := Tryd.f73.body.getD .skip
noncomputable def smallCut_G (R : Type) : Orc R := fun f args k => bif Nat.beq f 52 then textOf_abs R args k else (fun f args k => bif Nat.beq f 82 then MapRest_abs R args k else (fun f args k => bif Nat.beq f 65 then changeMade_abs R args k else (fun f args k => bif Nat.beq f 62 then MapCut_abs R args k else (fun _ _ _ => none) f args k) f args k) f args k) f args k
theorem smallCut_Gok (R : Type) : OrcOk qP (smallCut_G R) := (orc_cons textOf_ok (orc_cons MapRest_ok (orc_cons changeMade_ok (orc_cons MapCut_ok orc_nil))))
noncomputable def smallCut_Lam0 (R : Type) : Lam R := fun _ _ _ => none
noncomputable def smallCut_T {R : Type} (s0 : Str) (l1 : List Int) (l2 : List Int) (x3 : Int) (x4 : Int) (k : Int → Int → Str → Int → Str → Bool → Int → Option R) : Option R :=
  (bif (x3 == x4) then
  k ((0 : Int)) ((0 : Int)) [] ((0 : Int)) [] Bool.false ((6 : Int))
 else
  (bif (Decidable.decide ((0 : Int) ≤ x3) && Decidable.decide (x3 ≤ (↑(List.length l1) : Int))) then
   (bif (Decidable.decide ((0 : Int) ≤ x4) && Decidable.decide (x4 ≤ (↑(List.length l1) : Int))) then
    (bif (Decidable.decide (List.length (Go.QA.strOf (List.drop (0 : Nat) (List.take (Int.toNat x3) l1))) + List.length (Go.QA.strOf (List.drop (Int.toNat x4) (List.take (List.length l1) l1))) ≤ (9223372036854775807 : Nat))) then
     textOf_F (Go.QA.strOf (List.drop (0 : Nat) (List.take (Int.toNat x3) l1)) ++ Go.QA.strOf (List.drop (Int.toNat x4) (List.take (List.length l1) l1))) (fun l5 l6 =>
      MapRest_F l5 l6 x3 (fun x7 =>
       changeMade_F s0 (Go.QA.strOf (List.drop (0 : Nat) (List.take (Int.toNat x3) l1)) ++ Go.QA.strOf (List.drop (Int.toNat x4) (List.take (List.length l1) l1))) x7 (fun x8 x9 s10 x11 s12 b13 x14 =>
        MapCut_F l1 l2 x3 x4 (fun s15 =>
         k x8 x9 s10 x11 s15 b13 x14))))
    else
     none)
   else
    none)
  else
   none))
noncomputable def smallCut_F {R : Type} : Str → List Int → List Int → Int → Int → (Int → Int → Str → Int → Str → Bool → Int → Option R) → Option R := lock smallCut_T
theorem smallCut_F_T {R : Type} : @smallCut_F R = smallCut_T := lock_eq _
theorem smallCut_F_eq {R : Type} (s0 : Str) (l1 : List Int) (l2 : List Int) (x3 : Int) (x4 : Int) (k : D → Option R) : afun qP [] (smallCut_G R) (smallCut_Lam0 R) Tryd.f73 [D.str s0, D.ptr [D.sl (.ints .i32 l1), D.sl (.ints .i64 l2)], D.int .i64 x3, D.int .i64 x4] k = smallCut_T s0 l1 l2 x3 x4 (fun y0 y1 y2 y3 y4 y5 y6 => k (D.tup [D.agg [D.int .i64 y0, D.int .i64 y1, D.str y2, D.int .i64 y3, D.str y4, D.bool y5], D.int .i64 y6])) := by kernel_rfl
noncomputable def smallCut_abs (R : Type) (ds : List D) (k : D → Option R) : Option R :=
  match ds with
  | [D.str s0, D.ptr [D.sl (.ints .i32 l1), D.sl (.ints .i64 l2)], D.int .i64 x3, D.int .i64 x4] => smallCut_F s0 l1 l2 x3 x4 (fun y0 y1 y2 y3 y4 y5 y6 => k (D.tup [D.agg [D.int .i64 y0, D.int .i64 y1, D.str y2, D.int .i64 y3, D.str y4, D.bool y5], D.int .i64 y6]))
  | _ => none
theorem smallCut_ok : FnOk qP 73 smallCut_abs := by
  intro R ds k r h
  unfold smallCut_abs at h
  split at h
  · rw [smallCut_F_T, ← smallCut_F_eq] at h
    refine afun_ok (P := qP) (c := smallCut_code) qOk (smallCut_Gok R) Tryd.func73 (by kernel_rfl) (by kernel_rfl) ?_ ?_ (by kernel_rfl) h
    rotate_left
    · exact Nat.le_of_ble_eq_true (by kernel_rfl)
    rw [show loopsIn smallCut_code = [] from by kernel_rfl]
    intro b hb
    cases hb
  · cases h

end Go.Proofs.YtleoffdjdgbanaaDoor
