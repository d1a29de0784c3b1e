/- Functions as the model has them, and plain functions with the same answers: printed by a program of mine. -/
import Derived.Test.YtleoffdjdgbanaaDoorWalk3
set_option linter.unusedVariables false
set_option linter.unusedSimpArgs false
set_option linter.unusedVariables false
set_option linter.unusedSimpArgs false
set_option maxRecDepth 1000000
namespace Go.Proofs.YtleoffdjdgbanaaDoor
open Go Go.QA Go.Proofs

/-! ### smalls20: function 39 -/

noncomputable def smalls20_C : Cfg := ⟨qP, Tryd.f39.ntmps, []⟩
noncomputable def smalls20_code : Code := Tryd.f39.body.getD .skip
noncomputable def smalls20_G (R : Type) : Orc R := fun f args k => bif Nat.beq f 21 then lawHeavy10_abs R args k else (fun f args k => bif Nat.beq f 68 then lawOffsets_abs R args k else (fun f args k => bif Nat.beq f 40 then smallOf_abs R args k else (fun f args k => bif Nat.beq f 22 then refMay1_abs R args k else (fun f args k => bif Nat.beq f 69 then MaySmall_abs R args k else (fun f args k => bif Nat.beq f 23 then refSmall_abs R args k else (fun f args k => bif Nat.beq f 41 then num20_abs R args k else (fun f args k => bif Nat.beq f 43 then wakes20_abs R args k else (fun _ _ _ => none) f args k) f args k) f args k) f args k) f args k) f args k) f args k) f args k
theorem smalls20_Gok (R : Type) : OrcOk qP (smalls20_G R) := (orc_cons lawHeavy10_ok (orc_cons lawOffsets_ok (orc_cons smallOf_ok (orc_cons refMay1_ok (orc_cons MaySmall_ok (orc_cons refSmall_ok (orc_cons num20_ok (orc_cons wakes20_ok orc_nil))))))))
noncomputable def smalls20_B17 {R : Type} (rec : List Int → Int → Str → List Int → List Int → Int → Int → List Int → Int → Int → Int → Int → Int → Int → Int → Int → List Str → Option R) (l50 : List Int) (x51 : Int) (s52 : Str) (l53 : List Int) (l54 : List Int) (x55 : Int) (x56 : Int) (l57 : List Int) (x58 : Int) (x59 : Int) (x60 : Int) (x61 : Int) (x62 : Int) (x63 : Int) (x64 : Int) (x65 : Int) (q66 : List Str) (ke0 : Bool → Option R) (ke1 : List Int → Int → Str → List Int → List Int → Int → Int → Int → Int → Int → Int → Int → Int → Int → List Str → Option R) : Option R :=
  (bif (Decidable.decide (x58 < (3 : Int))) then
  (bif (Decidable.decide ((0 : Int) ≤ Int.tmod (Go.IntKind.wrap Go.IntKind.i64 (x55 + x58)) (4 : Int)) && Decidable.decide (Int.tmod (Go.IntKind.wrap Go.IntKind.i64 (x55 + x58)) (4 : Int) < (↑(List.length [(122 : Int), x59, (8364 : Int), (10 : Int)]) : Int))) then
   (bif (Decidable.decide ((0 : Int) ≤ x55) && Decidable.decide (x55 < (↑(List.length l54) : Int))) then
    (bif (Decidable.decide ((0 : Int) ≤ x56) && Decidable.decide (x56 < (↑(List.length l50) : Int))) then
     (bif (Decidable.decide ((0 : Int) ≤ x58) && Decidable.decide (x58 < (↑(List.length l57) : Int))) then
      smallOf_F s52 (List.getD l54 (Int.toNat x55) (0 : Int)) (List.getD l50 (Int.toNat x56) (0 : Int)) (List.getD [(122 : Int), x59, (8364 : Int), (10 : Int)] (Int.toNat (Int.tmod (Go.IntKind.wrap Go.IntKind.i64 (x55 + x58)) (4 : Int))) (0 : Int)) (List.getD l57 (Int.toNat x58) (0 : Int)) (fun x67 x68 s69 x70 s71 b72 x73 =>
       refMay1_F s52 (fun b74 =>
        (bif b74 then
         (bif (Decidable.decide ((0 : Int) ≤ x55) && Decidable.decide (x55 < (↑(List.length l54) : Int))) then
          (bif (Decidable.decide ((0 : Int) ≤ x56) && Decidable.decide (x56 < (↑(List.length l50) : Int))) then
           (bif (Decidable.decide ((0 : Int) ≤ x58) && Decidable.decide (x58 < (↑(List.length l57) : Int))) then
            MaySmall_F l53 (List.getD l54 (Int.toNat x55) (0 : Int)) (List.getD l50 (Int.toNat x56) (0 : Int)) (List.getD [(122 : Int), x59, (8364 : Int), (10 : Int)] (Int.toNat (Int.tmod (Go.IntKind.wrap Go.IntKind.i64 (x55 + x58)) (4 : Int))) (0 : Int)) (List.getD l57 (Int.toNat x58) (0 : Int)) (fun b75 =>
             (bif b75 then
              (bif (Decidable.decide ((0 : Int) ≤ x55) && Decidable.decide (x55 < (↑(List.length l54) : Int))) then
               (bif (Decidable.decide ((0 : Int) ≤ x56) && Decidable.decide (x56 < (↑(List.length l50) : Int))) then
                (bif (Decidable.decide ((0 : Int) ≤ x58) && Decidable.decide (x58 < (↑(List.length l57) : Int))) then
                 refSmall_F s52 (List.getD l54 (Int.toNat x55) (0 : Int)) (List.getD l50 (Int.toNat x56) (0 : Int)) (List.getD [(122 : Int), x59, (8364 : Int), (10 : Int)] (Int.toNat (Int.tmod (Go.IntKind.wrap Go.IntKind.i64 (x55 + x58)) (4 : Int))) (0 : Int)) (List.getD l57 (Int.toNat x58) (0 : Int)) (fun x76 x77 s78 x79 s80 b81 x82 =>
                  (bif (x82 != (0 : Int)) then
                   num20_F x73 (fun x83 =>
                    (bif (x83 != x82) then
                     ke0 Bool.false
                    else
                     (bif (!(x67 == (0 : Int) && (x68 == (0 : Int) && (s69 == [] && (x70 == (0 : Int) && (s71 == [] && (b72 == Bool.false && Bool.true))))))) then
                      ke0 Bool.false
                     else
                      rec l50 x51 s52 l53 l54 x55 x56 l57 (Go.IntKind.wrap Go.IntKind.i64 (x58 + (1 : Int))) x59 x60 x61 x62 x63 x64 x65 q66)))
                  else
                   num20_F x73 (fun x84 =>
                    (bif (x84 != x82) then
                     ke0 Bool.false
                    else
                     (bif (!(x67 == x76 && (x68 == x77 && (s69 == s78 && (x70 == x79 && (s71 == s80 && (b72 == b81 && Bool.true))))))) then
                      ke0 Bool.false
                     else
                      rec l50 x51 s52 l53 l54 x55 x56 l57 (Go.IntKind.wrap Go.IntKind.i64 (x58 + (1 : Int))) x59 x60 x61 x62 x63 x64 x65 q66)))))
                else
                 none)
               else
                none)
              else
               none)
             else
              num20_F x73 (fun x85 =>
               (bif (x85 != (1 : Int)) then
                ke0 Bool.false
               else
                (bif (!(x67 == (0 : Int) && (x68 == (0 : Int) && (s69 == [] && (x70 == (0 : Int) && (s71 == [] && (b72 == Bool.false && Bool.true))))))) then
                 ke0 Bool.false
                else
                 rec l50 x51 s52 l53 l54 x55 x56 l57 (Go.IntKind.wrap Go.IntKind.i64 (x58 + (1 : Int))) x59 x60 x61 x62 x63 x64 x65 q66)))))
           else
            none)
          else
           none)
         else
          none)
        else
         num20_F x73 (fun x86 =>
          (bif (x86 != (1 : Int)) then
           ke0 Bool.false
          else
           (bif (!(x67 == (0 : Int) && (x68 == (0 : Int) && (s69 == [] && (x70 == (0 : Int) && (s71 == [] && (b72 == Bool.false && Bool.true))))))) then
            ke0 Bool.false
           else
            rec l50 x51 s52 l53 l54 x55 x56 l57 (Go.IntKind.wrap Go.IntKind.i64 (x58 + (1 : Int))) x59 x60 x61 x62 x63 x64 x65 q66))))))
     else
      none)
    else
     none)
   else
    none)
  else
   none)
 else
  ke1 l50 x51 s52 l53 l54 x55 x56 x59 x60 x61 x62 x63 x64 x65 q66)
noncomputable def smalls20_L17 {R : Type} : Nat → List Int → Int → Str → List Int → List Int → Int → Int → List Int → Int → Int → Int → Int → Int → Int → Int → Int → List Str → (Bool → Option R) → (List Int → Int → Str → List Int → List Int → Int → Int → Int → Int → Int → Int → Int → Int → Int → List Str → Option R) → Option R
  | 0, _, _, _, _, _, _, _, _, _, _, _, _, _, _, _, _, _, _, _ => none
  | n + 1, l50, x51, s52, l53, l54, x55, x56, l57, x58, x59, x60, x61, x62, x63, x64, x65, q66, ke0, ke1 => smalls20_B17 (fun l50 x51 s52 l53 l54 x55 x56 l57 x58 x59 x60 x61 x62 x63 x64 x65 q66 => smalls20_L17 n l50 x51 s52 l53 l54 x55 x56 l57 x58 x59 x60 x61 x62 x63 x64 x65 q66 ke0 ke1) l50 x51 s52 l53 l54 x55 x56 l57 x58 x59 x60 x61 x62 x63 x64 x65 q66 ke0 ke1
noncomputable def smalls20_M17 {R : Type} : List Int → Int → Str → List Int → List Int → Int → Int → List Int → Int → Int → Int → Int → Int → Int → Int → Int → List Str → (Bool → Option R) → (List Int → Int → Str → List Int → List Int → Int → Int → Int → Int → Int → Int → Int → Int → Int → List Str → Option R) → Option R := lock (smalls20_L17 4611686018427387904)
theorem smalls20_M17_eq {R : Type} : @smalls20_M17 R = smalls20_L17 4611686018427387904 := lock_eq _
noncomputable def smalls20_B13 {R : Type} (rec : List Int → Int → Str → List Int → List Int → Int → Int → Int → Int → Int → Int → Int → Int → Int → List Str → Option R) (l35 : List Int) (x36 : Int) (s37 : Str) (l38 : List Int) (l39 : List Int) (x40 : Int) (x41 : Int) (x42 : Int) (x43 : Int) (x44 : Int) (x45 : Int) (x46 : Int) (x47 : Int) (x48 : Int) (q49 : List Str) (ke0 : Bool → Option R) (ke1 : List Int → Int → Str → List Int → List Int → Int → Int → Int → Int → Int → Int → Int → Int → List Str → Option R) : Option R :=
  (bif (Decidable.decide (x41 < (↑(List.length l35) : Int))) then
  smalls20_M17 l35 x36 s37 l38 l39 x40 x41 ([(1 : Int), Go.IntKind.wrap Go.IntKind.i64 ((2 : Int) + Int.tmod x40 (3 : Int)), x43]) ((0 : Int)) x42 x43 x44 x45 x46 x47 x48 q49
   (fun b87 =>
   ke0 b87)
   (fun l88 x89 s90 l91 l92 x93 x94 x95 x96 x97 x98 x99 x100 x101 q102 =>
   rec l88 x89 s90 l91 l92 x93 (Go.IntKind.wrap Go.IntKind.i64 (x94 + (1 : Int))) x95 x96 x97 x98 x99 x100 x101 q102)
 else
  ke1 l35 x36 s37 l38 l39 x40 x42 x43 x44 x45 x46 x47 x48 q49)
noncomputable def smalls20_L13 {R : Type} : Nat → List Int → Int → Str → List Int → List Int → Int → Int → Int → Int → Int → Int → Int → Int → Int → List Str → (Bool → Option R) → (List Int → Int → Str → List Int → List Int → Int → Int → Int → Int → Int → Int → Int → Int → List Str → Option R) → Option R
  | 0, _, _, _, _, _, _, _, _, _, _, _, _, _, _, _, _, _ => none
  | n + 1, l35, x36, s37, l38, l39, x40, x41, x42, x43, x44, x45, x46, x47, x48, q49, ke0, ke1 => smalls20_B13 (fun l35 x36 s37 l38 l39 x40 x41 x42 x43 x44 x45 x46 x47 x48 q49 => smalls20_L13 n l35 x36 s37 l38 l39 x40 x41 x42 x43 x44 x45 x46 x47 x48 q49 ke0 ke1) l35 x36 s37 l38 l39 x40 x41 x42 x43 x44 x45 x46 x47 x48 q49 ke0 ke1
noncomputable def smalls20_M13 {R : Type} : List Int → Int → Str → List Int → List Int → Int → Int → Int → Int → Int → Int → Int → Int → Int → List Str → (Bool → Option R) → (List Int → Int → Str → List Int → List Int → Int → Int → Int → Int → Int → Int → Int → Int → List Str → Option R) → Option R := lock (smalls20_L13 4611686018427387904)
theorem smalls20_M13_eq {R : Type} : @smalls20_M13 R = smalls20_L13 4611686018427387904 := lock_eq _
noncomputable def smalls20_B10 {R : Type} (rec : List Int → Int → Str → List Int → List Int → Int → Int → Int → Int → Int → Int → Int → Int → List Str → Option R) (l21 : List Int) (x22 : Int) (s23 : Str) (l24 : List Int) (l25 : List Int) (x26 : Int) (x27 : Int) (x28 : Int) (x29 : Int) (x30 : Int) (x31 : Int) (x32 : Int) (x33 : Int) (q34 : List Str) (ke0 : Bool → Option R) (ke1 : List Int → Int → Int → Int → Int → Int → Int → Int → Int → List Str → Option R) : Option R :=
  (bif (Decidable.decide (x26 < (↑(List.length l25) : Int))) then
  smalls20_M13 l21 x22 s23 l24 l25 x26 ((0 : Int)) x27 x28 x29 x30 x31 x32 x33 q34
   (fun b103 =>
   ke0 b103)
   (fun l104 x105 s106 l107 l108 x109 x110 x111 x112 x113 x114 x115 x116 q117 =>
   rec l104 x105 s106 l107 l108 (Go.IntKind.wrap Go.IntKind.i64 (x109 + (1 : Int))) x110 x111 x112 x113 x114 x115 x116 q117)
 else
  ke1 l21 x22 x27 x28 x29 x30 x31 x32 x33 q34)
noncomputable def smalls20_L10 {R : Type} : Nat → List Int → Int → Str → List Int → List Int → Int → Int → Int → Int → Int → Int → Int → Int → List Str → (Bool → Option R) → (List Int → Int → Int → Int → Int → Int → Int → Int → Int → List Str → Option R) → Option R
  | 0, _, _, _, _, _, _, _, _, _, _, _, _, _, _, _, _ => none
  | n + 1, l21, x22, s23, l24, l25, x26, x27, x28, x29, x30, x31, x32, x33, q34, ke0, ke1 => smalls20_B10 (fun l21 x22 s23 l24 l25 x26 x27 x28 x29 x30 x31 x32 x33 q34 => smalls20_L10 n l21 x22 s23 l24 l25 x26 x27 x28 x29 x30 x31 x32 x33 q34 ke0 ke1) l21 x22 s23 l24 l25 x26 x27 x28 x29 x30 x31 x32 x33 q34 ke0 ke1
noncomputable def smalls20_M10 {R : Type} : List Int → Int → Str → List Int → List Int → Int → Int → Int → Int → Int → Int → Int → Int → List Str → (Bool → Option R) → (List Int → Int → Int → Int → Int → Int → Int → Int → Int → List Str → Option R) → Option R := lock (smalls20_L10 4611686018427387904)
theorem smalls20_M10_eq {R : Type} : @smalls20_M10 R = smalls20_L10 4611686018427387904 := lock_eq _
noncomputable def smalls20_B4 {R : Type} (rec : List Int → Int → Int → Int → Int → Int → Int → Int → Int → List Str → Option R) (l10 : List Int) (x11 : Int) (x12 : Int) (x13 : Int) (x14 : Int) (x15 : Int) (x16 : Int) (x17 : Int) (x18 : Int) (q19 : List Str) (ke0 : Bool → Option R) (ke1 : Option R) : Option R :=
  (bif (Decidable.decide (x11 < (↑(List.length q19) : Int))) then
  (bif (Decidable.decide (x11 < (3 : Int))) then
   (bif (Decidable.decide ((0 : Int) ≤ x11) && Decidable.decide (x11 < (↑(List.length q19) : Int))) then
    lawOffsets_F q19 x18 x17 x16 x15 x14 x13 x12 (Go.QA.runesOf (List.getD q19 (Int.toNat x11) [])) (fun l20 =>
     smalls20_M10 l10 x11 (List.getD q19 (Int.toNat x11) []) (Go.QA.runesOf (List.getD q19 (Int.toNat x11) [])) l20 ((0 : Int)) x12 x13 x14 x15 x16 x17 x18 q19
      (fun b118 =>
      ke0 b118)
      (fun l119 x120 x121 x122 x123 x124 x125 x126 x127 q128 =>
      rec l119 (Go.IntKind.wrap Go.IntKind.i64 (x120 + (1 : Int))) x121 x122 x123 x124 x125 x126 x127 q128))
   else
    none)
  else
   ke1)
 else
  ke1)
noncomputable def smalls20_L4 {R : Type} : Nat → List Int → Int → Int → Int → Int → Int → Int → Int → Int → List Str → (Bool → Option R) → (Option R) → Option R
  | 0, _, _, _, _, _, _, _, _, _, _, _, _ => none
  | n + 1, l10, x11, x12, x13, x14, x15, x16, x17, x18, q19, ke0, ke1 => smalls20_B4 (fun l10 x11 x12 x13 x14 x15 x16 x17 x18 q19 => smalls20_L4 n l10 x11 x12 x13 x14 x15 x16 x17 x18 q19 ke0 ke1) l10 x11 x12 x13 x14 x15 x16 x17 x18 q19 ke0 ke1
noncomputable def smalls20_M4 {R : Type} : List Int → Int → Int → Int → Int → Int → Int → Int → Int → List Str → (Bool → Option R) → (Option R) → Option R := lock (smalls20_L4 4611686018427387904)
theorem smalls20_M4_eq {R : Type} : @smalls20_M4 R = smalls20_L4 4611686018427387904 := lock_eq _
noncomputable def smalls20_Lam0 (R : Type) : Lam R := fun _ _ _ => none
noncomputable def smalls20_body17 : Code := (findLoop 17 smalls20_code).getD .skip
def smalls20_S17 : QA.Spec := (⟨[.t 1, .t 5, .t 6, .t 7, .t 8, .t 9, .t 10, .t 11, .t 12, .c 2 7, .c 2 6, .c 2 5, .c 2 4, .c 2 3, .c 2 2, .c 2 1, .c 2 0], [2], [], [(.t 2, 2, 0)], []⟩ : QA.Spec)
def smalls20_S17r : QA.Spec := (⟨[.t 4], [], [], [], []⟩ : QA.Spec)
def smalls20_S17e6 : QA.Spec := (⟨[.t 1, .t 5, .t 6, .t 7, .t 8, .t 9, .t 10, .c 2 7, .c 2 6, .c 2 5, .c 2 4, .c 2 3, .c 2 2, .c 2 1, .c 2 0], [2], [], [(.t 2, 2, 0)], []⟩ : QA.Spec)
def smalls20_X17 : AExit → Option QA.Spec
  | .normal => none
  | .exit j => bif Nat.beq j 6 then some smalls20_S17e6 else none
  | .ret => some smalls20_S17r
theorem smalls20_L17_eq {R : Type} (k : AExit → St → Option R) : ∀ (n : Nat) (a0 : List Int) (a1 : Int) (a2 : Str) (a3 : List Int) (a4 : List Int) (a5 : Int) (a6 : Int) (a7 : List Int) (a8 : Int) (a9 : Int) (a10 : Int) (a11 : Int) (a12 : Int) (a13 : Int) (a14 : Int) (a15 : Int) (a16 : List Str), aloop smalls20_C (smalls20_G R) (smalls20_Lam0 R) smalls20_S17 smalls20_X17 smalls20_body17 n [D.sl (.ints .i64 a0), D.int .i64 a1, D.str a2, D.sl (.ints .i32 a3), D.sl (.ints .i64 a4), D.int .i64 a5, D.int .i64 a6, D.sl (.ints .i64 a7), D.int .i64 a8, D.int .i64 a9, D.int .i64 a10, D.int .i64 a11, D.int .i64 a12, D.int .i64 a13, D.int .i64 a14, D.int .i64 a15, D.sl (.strs a16)] k = smalls20_L17 n a0 a1 a2 a3 a4 a5 a6 a7 a8 a9 a10 a11 a12 a13 a14 a15 a16 (fun y0 => k .ret (mkSt smalls20_S17r [D.bool y0])) (fun y0 y1 y2 y3 y4 y5 y6 y7 y8 y9 y10 y11 y12 y13 y14 => k (.exit 6) (mkSt smalls20_S17e6 [D.sl (.ints .i64 y0), D.int .i64 y1, D.str y2, D.sl (.ints .i32 y3), D.sl (.ints .i64 y4), D.int .i64 y5, D.int .i64 y6, D.int .i64 y7, D.int .i64 y8, D.int .i64 y9, D.int .i64 y10, D.int .i64 y11, D.int .i64 y12, D.int .i64 y13, D.sl (.strs y14)]))
  | 0, _, _, _, _, _, _, _, _, _, _, _, _, _, _, _, _, _ => rfl
  | n + 1, a0, a1, a2, a3, a4, a5, a6, a7, a8, a9, a10, a11, a12, a13, a14, a15, a16 => by
    have h : (fun a0 a1 a2 a3 a4 a5 a6 a7 a8 a9 a10 a11 a12 a13 a14 a15 a16 => aloop smalls20_C (smalls20_G R) (smalls20_Lam0 R) smalls20_S17 smalls20_X17 smalls20_body17 n [D.sl (.ints .i64 a0), D.int .i64 a1, D.str a2, D.sl (.ints .i32 a3), D.sl (.ints .i64 a4), D.int .i64 a5, D.int .i64 a6, D.sl (.ints .i64 a7), D.int .i64 a8, D.int .i64 a9, D.int .i64 a10, D.int .i64 a11, D.int .i64 a12, D.int .i64 a13, D.int .i64 a14, D.int .i64 a15, D.sl (.strs a16)] k) = (fun a0 a1 a2 a3 a4 a5 a6 a7 a8 a9 a10 a11 a12 a13 a14 a15 a16 => smalls20_L17 n a0 a1 a2 a3 a4 a5 a6 a7 a8 a9 a10 a11 a12 a13 a14 a15 a16 (fun y0 => k .ret (mkSt smalls20_S17r [D.bool y0])) (fun y0 y1 y2 y3 y4 y5 y6 y7 y8 y9 y10 y11 y12 y13 y14 => k (.exit 6) (mkSt smalls20_S17e6 [D.sl (.ints .i64 y0), D.int .i64 y1, D.str y2, D.sl (.ints .i32 y3), D.sl (.ints .i64 y4), D.int .i64 y5, D.int .i64 y6, D.int .i64 y7, D.int .i64 y8, D.int .i64 y9, D.int .i64 y10, D.int .i64 y11, D.int .i64 y12, D.int .i64 y13, D.sl (.strs y14)]))) := by
      funext a0 a1 a2 a3 a4 a5 a6 a7 a8 a9 a10 a11 a12 a13 a14 a15 a16; exact smalls20_L17_eq k n a0 a1 a2 a3 a4 a5 a6 a7 a8 a9 a10 a11 a12 a13 a14 a15 a16
    have s : aloop smalls20_C (smalls20_G R) (smalls20_Lam0 R) smalls20_S17 smalls20_X17 smalls20_body17 (n + 1) [D.sl (.ints .i64 a0), D.int .i64 a1, D.str a2, D.sl (.ints .i32 a3), D.sl (.ints .i64 a4), D.int .i64 a5, D.int .i64 a6, D.sl (.ints .i64 a7), D.int .i64 a8, D.int .i64 a9, D.int .i64 a10, D.int .i64 a11, D.int .i64 a12, D.int .i64 a13, D.int .i64 a14, D.int .i64 a15, D.sl (.strs a16)] k = smalls20_B17 (fun a0 a1 a2 a3 a4 a5 a6 a7 a8 a9 a10 a11 a12 a13 a14 a15 a16 => aloop smalls20_C (smalls20_G R) (smalls20_Lam0 R) smalls20_S17 smalls20_X17 smalls20_body17 n [D.sl (.ints .i64 a0), D.int .i64 a1, D.str a2, D.sl (.ints .i32 a3), D.sl (.ints .i64 a4), D.int .i64 a5, D.int .i64 a6, D.sl (.ints .i64 a7), D.int .i64 a8, D.int .i64 a9, D.int .i64 a10, D.int .i64 a11, D.int .i64 a12, D.int .i64 a13, D.int .i64 a14, D.int .i64 a15, D.sl (.strs a16)] k) a0 a1 a2 a3 a4 a5 a6 a7 a8 a9 a10 a11 a12 a13 a14 a15 a16 (fun y0 => k .ret (mkSt smalls20_S17r [D.bool y0])) (fun y0 y1 y2 y3 y4 y5 y6 y7 y8 y9 y10 y11 y12 y13 y14 => k (.exit 6) (mkSt smalls20_S17e6 [D.sl (.ints .i64 y0), D.int .i64 y1, D.str y2, D.sl (.ints .i32 y3), D.sl (.ints .i64 y4), D.int .i64 y5, D.int .i64 y6, D.int .i64 y7, D.int .i64 y8, D.int .i64 y9, D.int .i64 y10, D.int .i64 y11, D.int .i64 y12, D.int .i64 y13, D.sl (.strs y14)])) := by kernel_rfl
    rw [s, h]; rfl
noncomputable def smalls20_A17 (R : Type) (ds : List D) (k : AExit → St → Option R) : Option R :=
  match ds with
  | [D.sl (.ints .i64 a0), D.int .i64 a1, D.str a2, D.sl (.ints .i32 a3), D.sl (.ints .i64 a4), D.int .i64 a5, D.int .i64 a6, D.sl (.ints .i64 a7), D.int .i64 a8, D.int .i64 a9, D.int .i64 a10, D.int .i64 a11, D.int .i64 a12, D.int .i64 a13, D.int .i64 a14, D.int .i64 a15, D.sl (.strs a16)] => smalls20_M17 a0 a1 a2 a3 a4 a5 a6 a7 a8 a9 a10 a11 a12 a13 a14 a15 a16 (fun y0 => k .ret (mkSt smalls20_S17r [D.bool y0])) (fun y0 y1 y2 y3 y4 y5 y6 y7 y8 y9 y10 y11 y12 y13 y14 => k (.exit 6) (mkSt smalls20_S17e6 [D.sl (.ints .i64 y0), D.int .i64 y1, D.str y2, D.sl (.ints .i32 y3), D.sl (.ints .i64 y4), D.int .i64 y5, D.int .i64 y6, D.int .i64 y7, D.int .i64 y8, D.int .i64 y9, D.int .i64 y10, D.int .i64 y11, D.int .i64 y12, D.int .i64 y13, D.sl (.strs y14)]))
  | _ => none
noncomputable def smalls20_Lam1 (R : Type) : Lam R := fun key st k => bif Nat.beq key 17 then (match readSt smalls20_S17 st with | some ds => smalls20_A17 R ds k | none => none) else smalls20_Lam0 R key st k
theorem smalls20_A17_ok {R : Type} : ∀ ds k r, smalls20_A17 R ds k = some r → ∃ e st', k e st' = some r ∧ QA.Reach smalls20_C (.loop smalls20_body17) (mkSt smalls20_S17 ds) e st' := by
  intro ds k r h
  unfold smalls20_A17 at h
  split at h
  · rw [smalls20_M17_eq, ← smalls20_L17_eq] at h
    refine aloop_ok (C := smalls20_C) qOk (smalls20_Gok R) ?_ _ _ _ _ h
    rw [show loopsIn smalls20_body17 = [] from by kernel_rfl]
    intro b hb
    cases hb
  · cases h
noncomputable def smalls20_body13 : Code := (findLoop 13 smalls20_code).getD .skip
def smalls20_S13 : QA.Spec := (⟨[.t 1, .t 5, .t 6, .t 7, .t 8, .t 9, .t 10, .c 2 7, .c 2 6, .c 2 5, .c 2 4, .c 2 3, .c 2 2, .c 2 1, .c 2 0], [2], [], [(.t 2, 2, 0)], []⟩ : QA.Spec)
def smalls20_S13r : QA.Spec := (⟨[.t 4], [], [], [], []⟩ : QA.Spec)
def smalls20_S13e4 : QA.Spec := (⟨[.t 1, .t 5, .t 6, .t 7, .t 8, .t 9, .c 2 7, .c 2 6, .c 2 5, .c 2 4, .c 2 3, .c 2 2, .c 2 1, .c 2 0], [2], [], [(.t 2, 2, 0)], []⟩ : QA.Spec)
def smalls20_X13 : AExit → Option QA.Spec
  | .normal => none
  | .exit j => bif Nat.beq j 4 then some smalls20_S13e4 else none
  | .ret => some smalls20_S13r
theorem smalls20_L13_eq {R : Type} (k : AExit → St → Option R) : ∀ (n : Nat) (a0 : List Int) (a1 : Int) (a2 : Str) (a3 : List Int) (a4 : List Int) (a5 : Int) (a6 : Int) (a7 : Int) (a8 : Int) (a9 : Int) (a10 : Int) (a11 : Int) (a12 : Int) (a13 : Int) (a14 : List Str), aloop smalls20_C (smalls20_G R) (smalls20_Lam1 R) smalls20_S13 smalls20_X13 smalls20_body13 n [D.sl (.ints .i64 a0), D.int .i64 a1, D.str a2, D.sl (.ints .i32 a3), D.sl (.ints .i64 a4), D.int .i64 a5, D.int .i64 a6, D.int .i64 a7, D.int .i64 a8, D.int .i64 a9, D.int .i64 a10, D.int .i64 a11, D.int .i64 a12, D.int .i64 a13, D.sl (.strs a14)] k = smalls20_L13 n a0 a1 a2 a3 a4 a5 a6 a7 a8 a9 a10 a11 a12 a13 a14 (fun y0 => k .ret (mkSt smalls20_S13r [D.bool y0])) (fun y0 y1 y2 y3 y4 y5 y6 y7 y8 y9 y10 y11 y12 y13 => k (.exit 4) (mkSt smalls20_S13e4 [D.sl (.ints .i64 y0), D.int .i64 y1, D.str y2, D.sl (.ints .i32 y3), D.sl (.ints .i64 y4), D.int .i64 y5, D.int .i64 y6, D.int .i64 y7, D.int .i64 y8, D.int .i64 y9, D.int .i64 y10, D.int .i64 y11, D.int .i64 y12, D.sl (.strs y13)]))
  | 0, _, _, _, _, _, _, _, _, _, _, _, _, _, _, _ => rfl
  | n + 1, a0, a1, a2, a3, a4, a5, a6, a7, a8, a9, a10, a11, a12, a13, a14 => by
    have h : (fun a0 a1 a2 a3 a4 a5 a6 a7 a8 a9 a10 a11 a12 a13 a14 => aloop smalls20_C (smalls20_G R) (smalls20_Lam1 R) smalls20_S13 smalls20_X13 smalls20_body13 n [D.sl (.ints .i64 a0), D.int .i64 a1, D.str a2, D.sl (.ints .i32 a3), D.sl (.ints .i64 a4), D.int .i64 a5, D.int .i64 a6, D.int .i64 a7, D.int .i64 a8, D.int .i64 a9, D.int .i64 a10, D.int .i64 a11, D.int .i64 a12, D.int .i64 a13, D.sl (.strs a14)] k) = (fun a0 a1 a2 a3 a4 a5 a6 a7 a8 a9 a10 a11 a12 a13 a14 => smalls20_L13 n a0 a1 a2 a3 a4 a5 a6 a7 a8 a9 a10 a11 a12 a13 a14 (fun y0 => k .ret (mkSt smalls20_S13r [D.bool y0])) (fun y0 y1 y2 y3 y4 y5 y6 y7 y8 y9 y10 y11 y12 y13 => k (.exit 4) (mkSt smalls20_S13e4 [D.sl (.ints .i64 y0), D.int .i64 y1, D.str y2, D.sl (.ints .i32 y3), D.sl (.ints .i64 y4), D.int .i64 y5, D.int .i64 y6, D.int .i64 y7, D.int .i64 y8, D.int .i64 y9, D.int .i64 y10, D.int .i64 y11, D.int .i64 y12, D.sl (.strs y13)]))) := by
      funext a0 a1 a2 a3 a4 a5 a6 a7 a8 a9 a10 a11 a12 a13 a14; exact smalls20_L13_eq k n a0 a1 a2 a3 a4 a5 a6 a7 a8 a9 a10 a11 a12 a13 a14
    have s : aloop smalls20_C (smalls20_G R) (smalls20_Lam1 R) smalls20_S13 smalls20_X13 smalls20_body13 (n + 1) [D.sl (.ints .i64 a0), D.int .i64 a1, D.str a2, D.sl (.ints .i32 a3), D.sl (.ints .i64 a4), D.int .i64 a5, D.int .i64 a6, D.int .i64 a7, D.int .i64 a8, D.int .i64 a9, D.int .i64 a10, D.int .i64 a11, D.int .i64 a12, D.int .i64 a13, D.sl (.strs a14)] k = smalls20_B13 (fun a0 a1 a2 a3 a4 a5 a6 a7 a8 a9 a10 a11 a12 a13 a14 => aloop smalls20_C (smalls20_G R) (smalls20_Lam1 R) smalls20_S13 smalls20_X13 smalls20_body13 n [D.sl (.ints .i64 a0), D.int .i64 a1, D.str a2, D.sl (.ints .i32 a3), D.sl (.ints .i64 a4), D.int .i64 a5, D.int .i64 a6, D.int .i64 a7, D.int .i64 a8, D.int .i64 a9, D.int .i64 a10, D.int .i64 a11, D.int .i64 a12, D.int .i64 a13, D.sl (.strs a14)] k) a0 a1 a2 a3 a4 a5 a6 a7 a8 a9 a10 a11 a12 a13 a14 (fun y0 => k .ret (mkSt smalls20_S13r [D.bool y0])) (fun y0 y1 y2 y3 y4 y5 y6 y7 y8 y9 y10 y11 y12 y13 => k (.exit 4) (mkSt smalls20_S13e4 [D.sl (.ints .i64 y0), D.int .i64 y1, D.str y2, D.sl (.ints .i32 y3), D.sl (.ints .i64 y4), D.int .i64 y5, D.int .i64 y6, D.int .i64 y7, D.int .i64 y8, D.int .i64 y9, D.int .i64 y10, D.int .i64 y11, D.int .i64 y12, D.sl (.strs y13)])) := by kernel_rfl
    rw [s, h]; rfl
noncomputable def smalls20_A13 (R : Type) (ds : List D) (k : AExit → St → Option R) : Option R :=
  match ds with
  | [D.sl (.ints .i64 a0), D.int .i64 a1, D.str a2, D.sl (.ints .i32 a3), D.sl (.ints .i64 a4), D.int .i64 a5, D.int .i64 a6, D.int .i64 a7, D.int .i64 a8, D.int .i64 a9, D.int .i64 a10, D.int .i64 a11, D.int .i64 a12, D.int .i64 a13, D.sl (.strs a14)] => smalls20_M13 a0 a1 a2 a3 a4 a5 a6 a7 a8 a9 a10 a11 a12 a13 a14 (fun y0 => k .ret (mkSt smalls20_S13r [D.bool y0])) (fun y0 y1 y2 y3 y4 y5 y6 y7 y8 y9 y10 y11 y12 y13 => k (.exit 4) (mkSt smalls20_S13e4 [D.sl (.ints .i64 y0), D.int .i64 y1, D.str y2, D.sl (.ints .i32 y3), D.sl (.ints .i64 y4), D.int .i64 y5, D.int .i64 y6, D.int .i64 y7, D.int .i64 y8, D.int .i64 y9, D.int .i64 y10, D.int .i64 y11, D.int .i64 y12, D.sl (.strs y13)]))
  | _ => none
noncomputable def smalls20_Lam2 (R : Type) : Lam R := fun key st k => bif Nat.beq key 13 then (match readSt smalls20_S13 st with | some ds => smalls20_A13 R ds k | none => none) else smalls20_Lam1 R key st k
theorem smalls20_A13_ok {R : Type} : ∀ ds k r, smalls20_A13 R ds k = some r → ∃ e st', k e st' = some r ∧ QA.Reach smalls20_C (.loop smalls20_body13) (mkSt smalls20_S13 ds) e st' := by
  intro ds k r h
  unfold smalls20_A13 at h
  split at h
  · rw [smalls20_M13_eq, ← smalls20_L13_eq] at h
    refine aloop_ok (C := smalls20_C) qOk (smalls20_Gok R) ?_ _ _ _ _ h
    rw [show loopsIn smalls20_body13 = [smalls20_body17] from by kernel_rfl]
    intro b hb
    simp only [List.mem_cons, List.not_mem_nil, or_false] at hb
    subst hb
    exact lam_of (key := 17) (S := smalls20_S17) (L := smalls20_A17 R) (fun st k => by kernel_rfl) (by kernel_rfl) smalls20_A17_ok
  · cases h
noncomputable def smalls20_body10 : Code := (findLoop 10 smalls20_code).getD .skip
def smalls20_S10 : QA.Spec := (⟨[.t 1, .t 5, .t 6, .t 7, .t 8, .t 9, .c 2 7, .c 2 6, .c 2 5, .c 2 4, .c 2 3, .c 2 2, .c 2 1, .c 2 0], [2], [], [(.t 2, 2, 0)], []⟩ : QA.Spec)
def smalls20_S10r : QA.Spec := (⟨[.t 4], [], [], [], []⟩ : QA.Spec)
def smalls20_S10e2 : QA.Spec := (⟨[.t 1, .t 5, .c 2 7, .c 2 6, .c 2 5, .c 2 4, .c 2 3, .c 2 2, .c 2 1, .c 2 0], [2], [], [(.t 2, 2, 0)], []⟩ : QA.Spec)
def smalls20_X10 : AExit → Option QA.Spec
  | .normal => none
  | .exit j => bif Nat.beq j 2 then some smalls20_S10e2 else none
  | .ret => some smalls20_S10r
theorem smalls20_L10_eq {R : Type} (k : AExit → St → Option R) : ∀ (n : Nat) (a0 : List Int) (a1 : Int) (a2 : Str) (a3 : List Int) (a4 : List Int) (a5 : Int) (a6 : Int) (a7 : Int) (a8 : Int) (a9 : Int) (a10 : Int) (a11 : Int) (a12 : Int) (a13 : List Str), aloop smalls20_C (smalls20_G R) (smalls20_Lam2 R) smalls20_S10 smalls20_X10 smalls20_body10 n [D.sl (.ints .i64 a0), D.int .i64 a1, D.str a2, D.sl (.ints .i32 a3), D.sl (.ints .i64 a4), D.int .i64 a5, D.int .i64 a6, D.int .i64 a7, D.int .i64 a8, D.int .i64 a9, D.int .i64 a10, D.int .i64 a11, D.int .i64 a12, D.sl (.strs a13)] k = smalls20_L10 n a0 a1 a2 a3 a4 a5 a6 a7 a8 a9 a10 a11 a12 a13 (fun y0 => k .ret (mkSt smalls20_S10r [D.bool y0])) (fun y0 y1 y2 y3 y4 y5 y6 y7 y8 y9 => k (.exit 2) (mkSt smalls20_S10e2 [D.sl (.ints .i64 y0), D.int .i64 y1, D.int .i64 y2, D.int .i64 y3, D.int .i64 y4, D.int .i64 y5, D.int .i64 y6, D.int .i64 y7, D.int .i64 y8, D.sl (.strs y9)]))
  | 0, _, _, _, _, _, _, _, _, _, _, _, _, _, _ => rfl
  | n + 1, a0, a1, a2, a3, a4, a5, a6, a7, a8, a9, a10, a11, a12, a13 => by
    have h : (fun a0 a1 a2 a3 a4 a5 a6 a7 a8 a9 a10 a11 a12 a13 => aloop smalls20_C (smalls20_G R) (smalls20_Lam2 R) smalls20_S10 smalls20_X10 smalls20_body10 n [D.sl (.ints .i64 a0), D.int .i64 a1, D.str a2, D.sl (.ints .i32 a3), D.sl (.ints .i64 a4), D.int .i64 a5, D.int .i64 a6, D.int .i64 a7, D.int .i64 a8, D.int .i64 a9, D.int .i64 a10, D.int .i64 a11, D.int .i64 a12, D.sl (.strs a13)] k) = (fun a0 a1 a2 a3 a4 a5 a6 a7 a8 a9 a10 a11 a12 a13 => smalls20_L10 n a0 a1 a2 a3 a4 a5 a6 a7 a8 a9 a10 a11 a12 a13 (fun y0 => k .ret (mkSt smalls20_S10r [D.bool y0])) (fun y0 y1 y2 y3 y4 y5 y6 y7 y8 y9 => k (.exit 2) (mkSt smalls20_S10e2 [D.sl (.ints .i64 y0), D.int .i64 y1, D.int .i64 y2, D.int .i64 y3, D.int .i64 y4, D.int .i64 y5, D.int .i64 y6, D.int .i64 y7, D.int .i64 y8, D.sl (.strs y9)]))) := by
      funext a0 a1 a2 a3 a4 a5 a6 a7 a8 a9 a10 a11 a12 a13; exact smalls20_L10_eq k n a0 a1 a2 a3 a4 a5 a6 a7 a8 a9 a10 a11 a12 a13
    have s : aloop smalls20_C (smalls20_G R) (smalls20_Lam2 R) smalls20_S10 smalls20_X10 smalls20_body10 (n + 1) [D.sl (.ints .i64 a0), D.int .i64 a1, D.str a2, D.sl (.ints .i32 a3), D.sl (.ints .i64 a4), D.int .i64 a5, D.int .i64 a6, D.int .i64 a7, D.int .i64 a8, D.int .i64 a9, D.int .i64 a10, D.int .i64 a11, D.int .i64 a12, D.sl (.strs a13)] k = smalls20_B10 (fun a0 a1 a2 a3 a4 a5 a6 a7 a8 a9 a10 a11 a12 a13 => aloop smalls20_C (smalls20_G R) (smalls20_Lam2 R) smalls20_S10 smalls20_X10 smalls20_body10 n [D.sl (.ints .i64 a0), D.int .i64 a1, D.str a2, D.sl (.ints .i32 a3), D.sl (.ints .i64 a4), D.int .i64 a5, D.int .i64 a6, D.int .i64 a7, D.int .i64 a8, D.int .i64 a9, D.int .i64 a10, D.int .i64 a11, D.int .i64 a12, D.sl (.strs a13)] k) a0 a1 a2 a3 a4 a5 a6 a7 a8 a9 a10 a11 a12 a13 (fun y0 => k .ret (mkSt smalls20_S10r [D.bool y0])) (fun y0 y1 y2 y3 y4 y5 y6 y7 y8 y9 => k (.exit 2) (mkSt smalls20_S10e2 [D.sl (.ints .i64 y0), D.int .i64 y1, D.int .i64 y2, D.int .i64 y3, D.int .i64 y4, D.int .i64 y5, D.int .i64 y6, D.int .i64 y7, D.int .i64 y8, D.sl (.strs y9)])) := by kernel_rfl
    rw [s, h]; rfl
noncomputable def smalls20_A10 (R : Type) (ds : List D) (k : AExit → St → Option R) : Option R :=
  match ds with
  | [D.sl (.ints .i64 a0), D.int .i64 a1, D.str a2, D.sl (.ints .i32 a3), D.sl (.ints .i64 a4), D.int .i64 a5, D.int .i64 a6, D.int .i64 a7, D.int .i64 a8, D.int .i64 a9, D.int .i64 a10, D.int .i64 a11, D.int .i64 a12, D.sl (.strs a13)] => smalls20_M10 a0 a1 a2 a3 a4 a5 a6 a7 a8 a9 a10 a11 a12 a13 (fun y0 => k .ret (mkSt smalls20_S10r [D.bool y0])) (fun y0 y1 y2 y3 y4 y5 y6 y7 y8 y9 => k (.exit 2) (mkSt smalls20_S10e2 [D.sl (.ints .i64 y0), D.int .i64 y1, D.int .i64 y2, D.int .i64 y3, D.int .i64 y4, D.int .i64 y5, D.int .i64 y6, D.int .i64 y7, D.int .i64 y8, D.sl (.strs y9)]))
  | _ => none
noncomputable def smalls20_Lam3 (R : Type) : Lam R := fun key st k => bif Nat.beq key 10 then (match readSt smalls20_S10 st with | some ds => smalls20_A10 R ds k | none => none) else smalls20_Lam2 R key st k
theorem smalls20_A10_ok {R : Type} : ∀ ds k r, smalls20_A10 R ds k = some r → ∃ e st', k e st' = some r ∧ QA.Reach smalls20_C (.loop smalls20_body10) (mkSt smalls20_S10 ds) e st' := by
  intro ds k r h
  unfold smalls20_A10 at h
  split at h
  · rw [smalls20_M10_eq, ← smalls20_L10_eq] at h
    refine aloop_ok (C := smalls20_C) qOk (smalls20_Gok R) ?_ _ _ _ _ h
    rw [show loopsIn smalls20_body10 = [smalls20_body13] from by kernel_rfl]
    intro b hb
    simp only [List.mem_cons, List.not_mem_nil, or_false] at hb
    subst hb
    exact lam_of (key := 13) (S := smalls20_S13) (L := smalls20_A13 R) (fun st k => by kernel_rfl) (by kernel_rfl) smalls20_A13_ok
  · cases h
noncomputable def smalls20_body4 : Code := (findLoop 4 smalls20_code).getD .skip
def smalls20_S4 : QA.Spec := (⟨[.t 1, .t 5, .c 2 7, .c 2 6, .c 2 5, .c 2 4, .c 2 3, .c 2 2, .c 2 1, .c 2 0], [2], [], [(.t 2, 2, 0)], []⟩ : QA.Spec)
def smalls20_S4r : QA.Spec := (⟨[.t 4], [], [], [], []⟩ : QA.Spec)
def smalls20_S4e0 : QA.Spec := (⟨[], [], [], [], []⟩ : QA.Spec)
def smalls20_X4 : AExit → Option QA.Spec
  | .normal => none
  | .exit j => bif Nat.beq j 0 then some smalls20_S4e0 else none
  | .ret => some smalls20_S4r
theorem smalls20_L4_eq {R : Type} (k : AExit → St → Option R) : ∀ (n : Nat) (a0 : List Int) (a1 : Int) (a2 : Int) (a3 : Int) (a4 : Int) (a5 : Int) (a6 : Int) (a7 : Int) (a8 : Int) (a9 : List Str), aloop smalls20_C (smalls20_G R) (smalls20_Lam3 R) smalls20_S4 smalls20_X4 smalls20_body4 n [D.sl (.ints .i64 a0), D.int .i64 a1, D.int .i64 a2, D.int .i64 a3, D.int .i64 a4, D.int .i64 a5, D.int .i64 a6, D.int .i64 a7, D.int .i64 a8, D.sl (.strs a9)] k = smalls20_L4 n a0 a1 a2 a3 a4 a5 a6 a7 a8 a9 (fun y0 => k .ret (mkSt smalls20_S4r [D.bool y0])) (k (.exit 0) (mkSt smalls20_S4e0 []))
  | 0, _, _, _, _, _, _, _, _, _, _ => rfl
  | n + 1, a0, a1, a2, a3, a4, a5, a6, a7, a8, a9 => by
    have h : (fun a0 a1 a2 a3 a4 a5 a6 a7 a8 a9 => aloop smalls20_C (smalls20_G R) (smalls20_Lam3 R) smalls20_S4 smalls20_X4 smalls20_body4 n [D.sl (.ints .i64 a0), D.int .i64 a1, D.int .i64 a2, D.int .i64 a3, D.int .i64 a4, D.int .i64 a5, D.int .i64 a6, D.int .i64 a7, D.int .i64 a8, D.sl (.strs a9)] k) = (fun a0 a1 a2 a3 a4 a5 a6 a7 a8 a9 => smalls20_L4 n a0 a1 a2 a3 a4 a5 a6 a7 a8 a9 (fun y0 => k .ret (mkSt smalls20_S4r [D.bool y0])) (k (.exit 0) (mkSt smalls20_S4e0 []))) := by
      funext a0 a1 a2 a3 a4 a5 a6 a7 a8 a9; exact smalls20_L4_eq k n a0 a1 a2 a3 a4 a5 a6 a7 a8 a9
    have s : aloop smalls20_C (smalls20_G R) (smalls20_Lam3 R) smalls20_S4 smalls20_X4 smalls20_body4 (n + 1) [D.sl (.ints .i64 a0), D.int .i64 a1, D.int .i64 a2, D.int .i64 a3, D.int .i64 a4, D.int .i64 a5, D.int .i64 a6, D.int .i64 a7, D.int .i64 a8, D.sl (.strs a9)] k = smalls20_B4 (fun a0 a1 a2 a3 a4 a5 a6 a7 a8 a9 => aloop smalls20_C (smalls20_G R) (smalls20_Lam3 R) smalls20_S4 smalls20_X4 smalls20_body4 n [D.sl (.ints .i64 a0), D.int .i64 a1, D.int .i64 a2, D.int .i64 a3, D.int .i64 a4, D.int .i64 a5, D.int .i64 a6, D.int .i64 a7, D.int .i64 a8, D.sl (.strs a9)] k) a0 a1 a2 a3 a4 a5 a6 a7 a8 a9 (fun y0 => k .ret (mkSt smalls20_S4r [D.bool y0])) (k (.exit 0) (mkSt smalls20_S4e0 [])) := by kernel_rfl
    rw [s, h]; rfl
noncomputable def smalls20_A4 (R : Type) (ds : List D) (k : AExit → St → Option R) : Option R :=
  match ds with
  | [D.sl (.ints .i64 a0), D.int .i64 a1, D.int .i64 a2, D.int .i64 a3, D.int .i64 a4, D.int .i64 a5, D.int .i64 a6, D.int .i64 a7, D.int .i64 a8, D.sl (.strs a9)] => smalls20_M4 a0 a1 a2 a3 a4 a5 a6 a7 a8 a9 (fun y0 => k .ret (mkSt smalls20_S4r [D.bool y0])) (k (.exit 0) (mkSt smalls20_S4e0 []))
  | _ => none
noncomputable def smalls20_Lam4 (R : Type) : Lam R := fun key st k => bif Nat.beq key 4 then (match readSt smalls20_S4 st with | some ds => smalls20_A4 R ds k | none => none) else smalls20_Lam3 R key st k
theorem smalls20_A4_ok {R : Type} : ∀ ds k r, smalls20_A4 R ds k = some r → ∃ e st', k e st' = some r ∧ QA.Reach smalls20_C (.loop smalls20_body4) (mkSt smalls20_S4 ds) e st' := by
  intro ds k r h
  unfold smalls20_A4 at h
  split at h
  · rw [smalls20_M4_eq, ← smalls20_L4_eq] at h
    refine aloop_ok (C := smalls20_C) qOk (smalls20_Gok R) ?_ _ _ _ _ h
    rw [show loopsIn smalls20_body4 = [smalls20_body10] from by kernel_rfl]
    intro b hb
    simp only [List.mem_cons, List.not_mem_nil, or_false] at hb
    subst hb
    exact lam_of (key := 10) (S := smalls20_S10) (L := smalls20_A10 R) (fun st k => by kernel_rfl) (by kernel_rfl) smalls20_A10_ok
  · cases h
noncomputable def smalls20_T {R : Type} (q0 : List Str) (x1 : Int) (x2 : Int) (x3 : Int) (x4 : Int) (x5 : Int) (x6 : Int) (x7 : Int) (l8 : List Int) (k : Bool → Option R) : Option R :=
  lawHeavy10_F q0 x1 x2 x3 x4 x5 x6 x7 (fun b9 =>
  (bif b9 then
   k Bool.true
  else
   smalls20_M4 l8 ((0 : Int)) x7 x6 x5 x4 x3 x2 x1 q0
    (fun b129 =>
    k b129)
    (
    wakes20_F (fun b130 =>
     k b130))))
noncomputable def smalls20_F {R : Type} : List Str → Int → Int → Int → Int → Int → Int → Int → List Int → (Bool → Option R) → Option R := lock smalls20_T
theorem smalls20_F_T {R : Type} : @smalls20_F R = smalls20_T := lock_eq _
theorem smalls20_F_eq {R : Type} (q0 : List Str) (x1 : Int) (x2 : Int) (x3 : Int) (x4 : Int) (x5 : Int) (x6 : Int) (x7 : Int) (l8 : List Int) (k : D → Option R) : afun qP [] (smalls20_G R) (smalls20_Lam4 R) Tryd.f39 [D.agg [D.sl (.strs q0), D.int .i64 x1, D.int .i64 x2, D.int .i64 x3, D.int .i64 x4, D.int .i64 x5, D.int .i64 x6, D.int .i64 x7], D.sl (.ints .i64 l8)] k = smalls20_T q0 x1 x2 x3 x4 x5 x6 x7 l8 (fun y0 => k (D.bool y0)) := by kernel_rfl
noncomputable def smalls20_abs (R : Type) (ds : List D) (k : D → Option R) : Option R :=
  match ds with
  | [D.agg [D.sl (.strs q0), D.int .i64 x1, D.int .i64 x2, D.int .i64 x3, D.int .i64 x4, D.int .i64 x5, D.int .i64 x6, D.int .i64 x7], D.sl (.ints .i64 l8)] => smalls20_F q0 x1 x2 x3 x4 x5 x6 x7 l8 (fun y0 => k (D.bool y0))
  | _ => none
theorem smalls20_ok : FnOk qP 39 smalls20_abs := by
  intro R ds k r h
  unfold smalls20_abs at h
  split at h
  · rw [smalls20_F_T, ← smalls20_F_eq] at h
    refine afun_ok (P := qP) (c := smalls20_code) qOk (smalls20_Gok R) Tryd.func39 (by kernel_rfl) (by kernel_rfl) ?_ ?_ (by kernel_rfl) h
    rotate_left
    · exact Nat.le_of_ble_eq_true (by kernel_rfl)
    rw [show loopsIn smalls20_code = [smalls20_body4] from by kernel_rfl]
    intro b hb
    simp only [List.mem_cons, List.not_mem_nil, or_false] at hb
    subst hb
    exact lam_of (key := 4) (S := smalls20_S4) (L := smalls20_A4 R) (fun st k => by kernel_rfl) (by kernel_rfl) smalls20_A4_ok
  · cases h

/-! ### ChangeCases: function 8 -/

noncomputable def ChangeCases_C : Cfg := ⟨qP, Tryd.f8.ntmps, []⟩
noncomputable def ChangeCases_code : Code := Tryd.f8.body.getD .skip
noncomputable def ChangeCases_G (R : Type) : Orc R := fun f args k => bif Nat.beq f 31 then changes18_abs R args k else (fun _ _ _ => none) f args k
theorem ChangeCases_Gok (R : Type) : OrcOk qP (ChangeCases_G R) := (orc_cons changes18_ok orc_nil)
noncomputable def ChangeCases_Lam0 (R : Type) : Lam R := fun _ _ _ => none
noncomputable def ChangeCases_T {R : Type} (q0 : List Str) (x1 : Int) (x2 : Int) (x3 : Int) (x4 : Int) (x5 : Int) (x6 : Int) (x7 : Int) (k : Bool → Option R) : Option R :=
  changes18_F q0 x1 x2 x3 x4 x5 x6 x7 ([(16777333 : Int), (16777301 : Int), (16777342 : Int), (120 : Int)]) (fun b8 =>
  k b8)
noncomputable def ChangeCases_F {R : Type} : List Str → Int → Int → Int → Int → Int → Int → Int → (Bool → Option R) → Option R := lock ChangeCases_T
theorem ChangeCases_F_T {R : Type} : @ChangeCases_F R = ChangeCases_T := lock_eq _
theorem ChangeCases_F_eq {R : Type} (q0 : List Str) (x1 : Int) (x2 : Int) (x3 : Int) (x4 : Int) (x5 : Int) (x6 : Int) (x7 : Int) (k : D → Option R) : afun qP [] (ChangeCases_G R) (ChangeCases_Lam0 R) Tryd.f8 [D.agg [D.sl (.strs q0), D.int .i64 x1, D.int .i64 x2, D.int .i64 x3, D.int .i64 x4, D.int .i64 x5, D.int .i64 x6, D.int .i64 x7]] k = ChangeCases_T q0 x1 x2 x3 x4 x5 x6 x7 (fun y0 => k (D.bool y0)) := by kernel_rfl
noncomputable def ChangeCases_abs (R : Type) (ds : List D) (k : D → Option R) : Option R :=
  match ds with
  | [D.agg [D.sl (.strs q0), D.int .i64 x1, D.int .i64 x2, D.int .i64 x3, D.int .i64 x4, D.int .i64 x5, D.int .i64 x6, D.int .i64 x7]] => ChangeCases_F q0 x1 x2 x3 x4 x5 x6 x7 (fun y0 => k (D.bool y0))
  | _ => none
theorem ChangeCases_ok : FnOk qP 8 ChangeCases_abs := by
  intro R ds k r h
  unfold ChangeCases_abs at h
  split at h
  · rw [ChangeCases_F_T, ← ChangeCases_F_eq] at h
    refine afun_ok (P := qP) (c := ChangeCases_code) qOk (ChangeCases_Gok R) Tryd.func8 (by kernel_rfl) (by kernel_rfl) ?_ ?_ (by kernel_rfl) h
    rotate_left
    · exact Nat.le_of_ble_eq_true (by kernel_rfl)
    rw [show loopsIn ChangeCases_code = [] from by kernel_rfl]
    intro b hb
    cases hb
  · cases h

/-! ### ChangeChanges: function 5 -/

noncomputable def ChangeChanges_C : Cfg := ⟨qP, Tryd.f5.ntmps, []⟩
noncomputable def ChangeChanges_code : Code := Tryd.f5.body.getD .skip
noncomputable def ChangeChanges_G (R : Type) : Orc R := fun f args k => bif Nat.beq f 31 then changes18_abs R args k else (fun _ _ _ => none) f args k
theorem ChangeChanges_Gok (R : Type) : OrcOk qP (ChangeChanges_G R) := (orc_cons changes18_ok orc_nil)
noncomputable def ChangeChanges_Lam0 (R : Type) : Lam R := fun _ _ _ => none
noncomputable def ChangeChanges_T {R : Type} (q0 : List Str) (x1 : Int) (x2 : Int) (x3 : Int) (x4 : Int) (x5 : Int) (x6 : Int) (x7 : Int) (k : Bool → Option R) : Option R :=
  changes18_F q0 x1 x2 x3 x4 x5 x6 x7 ([(99 : Int)]) (fun b8 =>
  k b8)
noncomputable def ChangeChanges_F {R : Type} : List Str → Int → Int → Int → Int → Int → Int → Int → (Bool → Option R) → Option R := lock ChangeChanges_T
theorem ChangeChanges_F_T {R : Type} : @ChangeChanges_F R = ChangeChanges_T := lock_eq _
theorem ChangeChanges_F_eq {R : Type} (q0 : List Str) (x1 : Int) (x2 : Int) (x3 : Int) (x4 : Int) (x5 : Int) (x6 : Int) (x7 : Int) (k : D → Option R) : afun qP [] (ChangeChanges_G R) (ChangeChanges_Lam0 R) Tryd.f5 [D.agg [D.sl (.strs q0), D.int .i64 x1, D.int .i64 x2, D.int .i64 x3, D.int .i64 x4, D.int .i64 x5, D.int .i64 x6, D.int .i64 x7]] k = ChangeChanges_T q0 x1 x2 x3 x4 x5 x6 x7 (fun y0 => k (D.bool y0)) := by kernel_rfl
noncomputable def ChangeChanges_abs (R : Type) (ds : List D) (k : D → Option R) : Option R :=
  match ds with
  | [D.agg [D.sl (.strs q0), D.int .i64 x1, D.int .i64 x2, D.int .i64 x3, D.int .i64 x4, D.int .i64 x5, D.int .i64 x6, D.int .i64 x7]] => ChangeChanges_F q0 x1 x2 x3 x4 x5 x6 x7 (fun y0 => k (D.bool y0))
  | _ => none
theorem ChangeChanges_ok : FnOk qP 5 ChangeChanges_abs := by
  intro R ds k r h
  unfold ChangeChanges_abs at h
  split at h
  · rw [ChangeChanges_F_T, ← ChangeChanges_F_eq] at h
    refine afun_ok (P := qP) (c := ChangeChanges_code) qOk (ChangeChanges_Gok R) Tryd.func5 (by kernel_rfl) (by kernel_rfl) ?_ ?_ (by kernel_rfl) h
    rotate_left
    · exact Nat.le_of_ble_eq_true (by kernel_rfl)
    rw [show loopsIn ChangeChanges_code = [] from by kernel_rfl]
    intro b hb
    cases hb
  · cases h

/-! ### ChangeDeletes: function 4 -/

noncomputable def ChangeDeletes_C : Cfg := ⟨qP, Tryd.f4.ntmps, []⟩
noncomputable def ChangeDeletes_code : Code := Tryd.f4.body.getD .skip
noncomputable def ChangeDeletes_G (R : Type) : Orc R := fun f args k => bif Nat.beq f 31 then changes18_abs R args k else (fun _ _ _ => none) f args k
theorem ChangeDeletes_Gok (R : Type) : OrcOk qP (ChangeDeletes_G R) := (orc_cons changes18_ok orc_nil)
noncomputable def ChangeDeletes_Lam0 (R : Type) : Lam R := fun _ _ _ => none
noncomputable def ChangeDeletes_T {R : Type} (q0 : List Str) (x1 : Int) (x2 : Int) (x3 : Int) (x4 : Int) (x5 : Int) (x6 : Int) (x7 : Int) (k : Bool → Option R) : Option R :=
  changes18_F q0 x1 x2 x3 x4 x5 x6 x7 ([(100 : Int)]) (fun b8 =>
  k b8)
noncomputable def ChangeDeletes_F {R : Type} : List Str → Int → Int → Int → Int → Int → Int → Int → (Bool → Option R) → Option R := lock ChangeDeletes_T
theorem ChangeDeletes_F_T {R : Type} : @ChangeDeletes_F R = ChangeDeletes_T := lock_eq _
theorem ChangeDeletes_F_eq {R : Type} (q0 : List Str) (x1 : Int) (x2 : Int) (x3 : Int) (x4 : Int) (x5 : Int) (x6 : Int) (x7 : Int) (k : D → Option R) : afun qP [] (ChangeDeletes_G R) (ChangeDeletes_Lam0 R) Tryd.f4 [D.agg [D.sl (.strs q0), D.int .i64 x1, D.int .i64 x2, D.int .i64 x3, D.int .i64 x4, D.int .i64 x5, D.int .i64 x6, D.int .i64 x7]] k = ChangeDeletes_T q0 x1 x2 x3 x4 x5 x6 x7 (fun y0 => k (D.bool y0)) := by kernel_rfl
noncomputable def ChangeDeletes_abs (R : Type) (ds : List D) (k : D → Option R) : Option R :=
  match ds with
  | [D.agg [D.sl (.strs q0), D.int .i64 x1, D.int .i64 x2, D.int .i64 x3, D.int .i64 x4, D.int .i64 x5, D.int .i64 x6, D.int .i64 x7]] => ChangeDeletes_F q0 x1 x2 x3 x4 x5 x6 x7 (fun y0 => k (D.bool y0))
  | _ => none
theorem ChangeDeletes_ok : FnOk qP 4 ChangeDeletes_abs := by
  intro R ds k r h
  unfold ChangeDeletes_abs at h
  split at h
  · rw [ChangeDeletes_F_T, ← ChangeDeletes_F_eq] at h
    refine afun_ok (P := qP) (c := ChangeDeletes_code) qOk (ChangeDeletes_Gok R) Tryd.func4 (by kernel_rfl) (by kernel_rfl) ?_ ?_ (by kernel_rfl) h
    rotate_left
    · exact Nat.le_of_ble_eq_true (by kernel_rfl)
    rw [show loopsIn ChangeDeletes_code = [] from by kernel_rfl]
    intro b hb
    cases hb
  · cases h

/-! ### ChangeShifts: function 7 -/

noncomputable def ChangeShifts_C : Cfg := ⟨qP, Tryd.f7.ntmps, []⟩
noncomputable def ChangeShifts_code : Code := Tryd.f7.body.getD .skip
noncomputable def ChangeShifts_G (R : Type) : Orc R := fun f args k => bif Nat.beq f 31 then changes18_abs R args k else (fun _ _ _ => none) f args k
theorem ChangeShifts_Gok (R : Type) : OrcOk qP (ChangeShifts_G R) := (orc_cons changes18_ok orc_nil)
noncomputable def ChangeShifts_Lam0 (R : Type) : Lam R := fun _ _ _ => none
noncomputable def ChangeShifts_T {R : Type} (q0 : List Str) (x1 : Int) (x2 : Int) (x3 : Int) (x4 : Int) (x5 : Int) (x6 : Int) (x7 : Int) (k : Bool → Option R) : Option R :=
  changes18_F q0 x1 x2 x3 x4 x5 x6 x7 ([(62 : Int), (60 : Int)]) (fun b8 =>
  k b8)
noncomputable def ChangeShifts_F {R : Type} : List Str → Int → Int → Int → Int → Int → Int → Int → (Bool → Option R) → Option R := lock ChangeShifts_T
theorem ChangeShifts_F_T {R : Type} : @ChangeShifts_F R = ChangeShifts_T := lock_eq _
theorem ChangeShifts_F_eq {R : Type} (q0 : List Str) (x1 : Int) (x2 : Int) (x3 : Int) (x4 : Int) (x5 : Int) (x6 : Int) (x7 : Int) (k : D → Option R) : afun qP [] (ChangeShifts_G R) (ChangeShifts_Lam0 R) Tryd.f7 [D.agg [D.sl (.strs q0), D.int .i64 x1, D.int .i64 x2, D.int .i64 x3, D.int .i64 x4, D.int .i64 x5, D.int .i64 x6, D.int .i64 x7]] k = ChangeShifts_T q0 x1 x2 x3 x4 x5 x6 x7 (fun y0 => k (D.bool y0)) := by kernel_rfl
noncomputable def ChangeShifts_abs (R : Type) (ds : List D) (k : D → Option R) : Option R :=
  match ds with
  | [D.agg [D.sl (.strs q0), D.int .i64 x1, D.int .i64 x2, D.int .i64 x3, D.int .i64 x4, D.int .i64 x5, D.int .i64 x6, D.int .i64 x7]] => ChangeShifts_F q0 x1 x2 x3 x4 x5 x6 x7 (fun y0 => k (D.bool y0))
  | _ => none
theorem ChangeShifts_ok : FnOk qP 7 ChangeShifts_abs := by
  intro R ds k r h
  unfold ChangeShifts_abs at h
  split at h
  · rw [ChangeShifts_F_T, ← ChangeShifts_F_eq] at h
    refine afun_ok (P := qP) (c := ChangeShifts_code) qOk (ChangeShifts_Gok R) Tryd.func7 (by kernel_rfl) (by kernel_rfl) ?_ ?_ (by kernel_rfl) h
    rotate_left
    · exact Nat.le_of_ble_eq_true (by kernel_rfl)
    rw [show loopsIn ChangeShifts_code = [] from by kernel_rfl]
    intro b hb
    cases hb
  · cases h

/-! ### ChangeYanks: function 6 -/

noncomputable def ChangeYanks_C : Cfg := ⟨qP, Tryd.f6.ntmps, []⟩
noncomputable def ChangeYanks_code : Code := Tryd.f6.body.getD .skip
noncomputable def ChangeYanks_G (R : Type) : Orc R := fun f args k => bif Nat.beq f 31 then changes18_abs R args k else (fun _ _ _ => none) f args k
theorem ChangeYanks_Gok (R : Type) : OrcOk qP (ChangeYanks_G R) := (orc_cons changes18_ok orc_nil)
noncomputable def ChangeYanks_Lam0 (R : Type) : Lam R := fun _ _ _ => none
noncomputable def ChangeYanks_T {R : Type} (q0 : List Str) (x1 : Int) (x2 : Int) (x3 : Int) (x4 : Int) (x5 : Int) (x6 : Int) (x7 : Int) (k : Bool → Option R) : Option R :=
  changes18_F q0 x1 x2 x3 x4 x5 x6 x7 ([(121 : Int)]) (fun b8 =>
  k b8)
noncomputable def ChangeYanks_F {R : Type} : List Str → Int → Int → Int → Int → Int → Int → Int → (Bool → Option R) → Option R := lock ChangeYanks_T
theorem ChangeYanks_F_T {R : Type} : @ChangeYanks_F R = ChangeYanks_T := lock_eq _
theorem ChangeYanks_F_eq {R : Type} (q0 : List Str) (x1 : Int) (x2 : Int) (x3 : Int) (x4 : Int) (x5 : Int) (x6 : Int) (x7 : Int) (k : D → Option R) : afun qP [] (ChangeYanks_G R) (ChangeYanks_Lam0 R) Tryd.f6 [D.agg [D.sl (.strs q0), D.int .i64 x1, D.int .i64 x2, D.int .i64 x3, D.int .i64 x4, D.int .i64 x5, D.int .i64 x6, D.int .i64 x7]] k = ChangeYanks_T q0 x1 x2 x3 x4 x5 x6 x7 (fun y0 => k (D.bool y0)) := by kernel_rfl
noncomputable def ChangeYanks_abs (R : Type) (ds : List D) (k : D → Option R) : Option R :=
  match ds with
  | [D.agg [D.sl (.strs q0), D.int .i64 x1, D.int .i64 x2, D.int .i64 x3, D.int .i64 x4, D.int .i64 x5, D.int .i64 x6, D.int .i64 x7]] => ChangeYanks_F q0 x1 x2 x3 x4 x5 x6 x7 (fun y0 => k (D.bool y0))
  | _ => none
theorem ChangeYanks_ok : FnOk qP 6 ChangeYanks_abs := by
  intro R ds k r h
  unfold ChangeYanks_abs at h
  split at h
  · rw [ChangeYanks_F_T, ← ChangeYanks_F_eq] at h
    refine afun_ok (P := qP) (c := ChangeYanks_code) qOk (ChangeYanks_Gok R) Tryd.func6 (by kernel_rfl) (by kernel_rfl) ?_ ?_ (by kernel_rfl) h
    rotate_left
    · exact Nat.le_of_ble_eq_true (by kernel_rfl)
    rw [show loopsIn ChangeYanks_code = [] from by kernel_rfl]
    intro b hb
    cases hb
  · cases h

/-! ### OperLeft: function 14 -/

noncomputable def OperLeft_C : Cfg := ⟨qP, Tryd.f14.ntmps, []⟩
noncomputable def OperLeft_code : Code := Tryd.f14.body.getD .skip
noncomputable def OperLeft_G (R : Type) : Orc R := fun f args k => bif Nat.beq f 31 then changes18_abs R args k else (fun _ _ _ => none) f args k
theorem OperLeft_Gok (R : Type) : OrcOk qP (OperLeft_G R) := (orc_cons changes18_ok orc_nil)
noncomputable def OperLeft_Lam0 (R : Type) : Lam R := fun _ _ _ => none
noncomputable def OperLeft_T {R : Type} (q0 : List Str) (x1 : Int) (x2 : Int) (x3 : Int) (x4 : Int) (x5 : Int) (x6 : Int) (x7 : Int) (k : Bool → Option R) : Option R :=
  changes18_F q0 x1 x2 x3 x4 x5 x6 x7 ([(60 : Int)]) (fun b8 =>
  k b8)
noncomputable def OperLeft_F {R : Type} : List Str → Int → Int → Int → Int → Int → Int → Int → (Bool → Option R) → Option R := lock OperLeft_T
theorem OperLeft_F_T {R : Type} : @OperLeft_F R = OperLeft_T := lock_eq _
theorem OperLeft_F_eq {R : Type} (q0 : List Str) (x1 : Int) (x2 : Int) (x3 : Int) (x4 : Int) (x5 : Int) (x6 : Int) (x7 : Int) (k : D → Option R) : afun qP [] (OperLeft_G R) (OperLeft_Lam0 R) Tryd.f14 [D.agg [D.sl (.strs q0), D.int .i64 x1, D.int .i64 x2, D.int .i64 x3, D.int .i64 x4, D.int .i64 x5, D.int .i64 x6, D.int .i64 x7]] k = OperLeft_T q0 x1 x2 x3 x4 x5 x6 x7 (fun y0 => k (D.bool y0)) := by kernel_rfl
noncomputable def OperLeft_abs (R : Type) (ds : List D) (k : D → Option R) : Option R :=
  match ds with
  | [D.agg [D.sl (.strs q0), D.int .i64 x1, D.int .i64 x2, D.int .i64 x3, D.int .i64 x4, D.int .i64 x5, D.int .i64 x6, D.int .i64 x7]] => OperLeft_F q0 x1 x2 x3 x4 x5 x6 x7 (fun y0 => k (D.bool y0))
  | _ => none
theorem OperLeft_ok : FnOk qP 14 OperLeft_abs := by
  intro R ds k r h
  unfold OperLeft_abs at h
  split at h
  · rw [OperLeft_F_T, ← OperLeft_F_eq] at h
    refine afun_ok (P := qP) (c := OperLeft_code) qOk (OperLeft_Gok R) Tryd.func14 (by kernel_rfl) (by kernel_rfl) ?_ ?_ (by kernel_rfl) h
    rotate_left
    · exact Nat.le_of_ble_eq_true (by kernel_rfl)
    rw [show loopsIn OperLeft_code = [] from by kernel_rfl]
    intro b hb
    cases hb
  · cases h

/-! ### OperLower: function 10 -/

noncomputable def OperLower_C : Cfg := ⟨qP, Tryd.f10.ntmps, []⟩
noncomputable def OperLower_code : Code := Tryd.f10.body.getD .skip
noncomputable def OperLower_G (R : Type) : Orc R := fun f args k => bif Nat.beq f 31 then changes18_abs R args k else (fun _ _ _ => none) f args k
theorem OperLower_Gok (R : Type) : OrcOk qP (OperLower_G R) := (orc_cons changes18_ok orc_nil)
noncomputable def OperLower_Lam0 (R : Type) : Lam R := fun _ _ _ => none
noncomputable def OperLower_T {R : Type} (q0 : List Str) (x1 : Int) (x2 : Int) (x3 : Int) (x4 : Int) (x5 : Int) (x6 : Int) (x7 : Int) (k : Bool → Option R) : Option R :=
  changes18_F q0 x1 x2 x3 x4 x5 x6 x7 ([(16777333 : Int)]) (fun b8 =>
  k b8)
noncomputable def OperLower_F {R : Type} : List Str → Int → Int → Int → Int → Int → Int → Int → (Bool → Option R) → Option R := lock OperLower_T
theorem OperLower_F_T {R : Type} : @OperLower_F R = OperLower_T := lock_eq _
theorem OperLower_F_eq {R : Type} (q0 : List Str) (x1 : Int) (x2 : Int) (x3 : Int) (x4 : Int) (x5 : Int) (x6 : Int) (x7 : Int) (k : D → Option R) : afun qP [] (OperLower_G R) (OperLower_Lam0 R) Tryd.f10 [D.agg [D.sl (.strs q0), D.int .i64 x1, D.int .i64 x2, D.int .i64 x3, D.int .i64 x4, D.int .i64 x5, D.int .i64 x6, D.int .i64 x7]] k = OperLower_T q0 x1 x2 x3 x4 x5 x6 x7 (fun y0 => k (D.bool y0)) := by kernel_rfl
noncomputable def OperLower_abs (R : Type) (ds : List D) (k : D → Option R) : Option R :=
  match ds with
  | [D.agg [D.sl (.strs q0), D.int .i64 x1, D.int .i64 x2, D.int .i64 x3, D.int .i64 x4, D.int .i64 x5, D.int .i64 x6, D.int .i64 x7]] => OperLower_F q0 x1 x2 x3 x4 x5 x6 x7 (fun y0 => k (D.bool y0))
  | _ => none
theorem OperLower_ok : FnOk qP 10 OperLower_abs := by
  intro R ds k r h
  unfold OperLower_abs at h
  split at h
  · rw [OperLower_F_T, ← OperLower_F_eq] at h
    refine afun_ok (P := qP) (c := OperLower_code) qOk (OperLower_Gok R) Tryd.func10 (by kernel_rfl) (by kernel_rfl) ?_ ?_ (by kernel_rfl) h
    rotate_left
    · exact Nat.le_of_ble_eq_true (by kernel_rfl)
    rw [show loopsIn OperLower_code = [] from by kernel_rfl]
    intro b hb
    cases hb
  · cases h

/-! ### OperRight: function 13 -/

noncomputable def OperRight_C : Cfg := ⟨qP, Tryd.f13.ntmps, []⟩
noncomputable def OperRight_code : Code := Tryd.f13.body.getD .skip
noncomputable def OperRight_G (R : Type) : Orc R := fun f args k => bif Nat.beq f 31 then changes18_abs R args k else (fun _ _ _ => none) f args k
theorem OperRight_Gok (R : Type) : OrcOk qP (OperRight_G R) := (orc_cons changes18_ok orc_nil)
noncomputable def OperRight_Lam0 (R : Type) : Lam R := fun _ _ _ => none
noncomputable def OperRight_T {R : Type} (q0 : List Str) (x1 : Int) (x2 : Int) (x3 : Int) (x4 : Int) (x5 : Int) (x6 : Int) (x7 : Int) (k : Bool → Option R) : Option R :=
  changes18_F q0 x1 x2 x3 x4 x5 x6 x7 ([(62 : Int)]) (fun b8 =>
  k b8)
noncomputable def OperRight_F {R : Type} : List Str → Int → Int → Int → Int → Int → Int → Int → (Bool → Option R) → Option R := lock OperRight_T
theorem OperRight_F_T {R : Type} : @OperRight_F R = OperRight_T := lock_eq _
theorem OperRight_F_eq {R : Type} (q0 : List Str) (x1 : Int) (x2 : Int) (x3 : Int) (x4 : Int) (x5 : Int) (x6 : Int) (x7 : Int) (k : D → Option R) : afun qP [] (OperRight_G R) (OperRight_Lam0 R) Tryd.f13 [D.agg [D.sl (.strs q0), D.int .i64 x1, D.int .i64 x2, D.int .i64 x3, D.int .i64 x4, D.int .i64 x5, D.int .i64 x6, D.int .i64 x7]] k = OperRight_T q0 x1 x2 x3 x4 x5 x6 x7 (fun y0 => k (D.bool y0)) := by kernel_rfl
noncomputable def OperRight_abs (R : Type) (ds : List D) (k : D → Option R) : Option R :=
  match ds with
  | [D.agg [D.sl (.strs q0), D.int .i64 x1, D.int .i64 x2, D.int .i64 x3, D.int .i64 x4, D.int .i64 x5, D.int .i64 x6, D.int .i64 x7]] => OperRight_F q0 x1 x2 x3 x4 x5 x6 x7 (fun y0 => k (D.bool y0))
  | _ => none
theorem OperRight_ok : FnOk qP 13 OperRight_abs := by
  intro R ds k r h
  unfold OperRight_abs at h
  split at h
  · rw [OperRight_F_T, ← OperRight_F_eq] at h
    refine afun_ok (P := qP) (c := OperRight_code) qOk (OperRight_Gok R) Tryd.func13 (by kernel_rfl) (by kernel_rfl) ?_ ?_ (by kernel_rfl) h
    rotate_left
    · exact Nat.le_of_ble_eq_true (by kernel_rfl)
    rw [show loopsIn OperRight_code = [] from by kernel_rfl]
    intro b hb
    cases hb
  · cases h

/-! ### OperTurn: function 12 -/

noncomputable def OperTurn_C : Cfg := ⟨qP, Tryd.f12.ntmps, []⟩
noncomputable def OperTurn_code : Code := Tryd.f12.body.getD .skip
noncomputable def OperTurn_G (R : Type) : Orc R := fun f args k => bif Nat.beq f 31 then changes18_abs R args k else (fun _ _ _ => none) f args k
theorem OperTurn_Gok (R : Type) : OrcOk qP (OperTurn_G R) := (orc_cons changes18_ok orc_nil)
noncomputable def OperTurn_Lam0 (R : Type) : Lam R := fun _ _ _ => none
noncomputable def OperTurn_T {R : Type} (q0 : List Str) (x1 : Int) (x2 : Int) (x3 : Int) (x4 : Int) (x5 : Int) (x6 : Int) (x7 : Int) (k : Bool → Option R) : Option R :=
  changes18_F q0 x1 x2 x3 x4 x5 x6 x7 ([(16777342 : Int)]) (fun b8 =>
  k b8)
noncomputable def OperTurn_F {R : Type} : List Str → Int → Int → Int → Int → Int → Int → Int → (Bool → Option R) → Option R := lock OperTurn_T
theorem OperTurn_F_T {R : Type} : @OperTurn_F R = OperTurn_T := lock_eq _
theorem OperTurn_F_eq {R : Type} (q0 : List Str) (x1 : Int) (x2 : Int) (x3 : Int) (x4 : Int) (x5 : Int) (x6 : Int) (x7 : Int) (k : D → Option R) : afun qP [] (OperTurn_G R) (OperTurn_Lam0 R) Tryd.f12 [D.agg [D.sl (.strs q0), D.int .i64 x1, D.int .i64 x2, D.int .i64 x3, D.int .i64 x4, D.int .i64 x5, D.int .i64 x6, D.int .i64 x7]] k = OperTurn_T q0 x1 x2 x3 x4 x5 x6 x7 (fun y0 => k (D.bool y0)) := by kernel_rfl
noncomputable def OperTurn_abs (R : Type) (ds : List D) (k : D → Option R) : Option R :=
  match ds with
  | [D.agg [D.sl (.strs q0), D.int .i64 x1, D.int .i64 x2, D.int .i64 x3, D.int .i64 x4, D.int .i64 x5, D.int .i64 x6, D.int .i64 x7]] => OperTurn_F q0 x1 x2 x3 x4 x5 x6 x7 (fun y0 => k (D.bool y0))
  | _ => none
theorem OperTurn_ok : FnOk qP 12 OperTurn_abs := by
  intro R ds k r h
  unfold OperTurn_abs at h
  split at h
  · rw [OperTurn_F_T, ← OperTurn_F_eq] at h
    refine afun_ok (P := qP) (c := OperTurn_code) qOk (OperTurn_Gok R) Tryd.func12 (by kernel_rfl) (by kernel_rfl) ?_ ?_ (by kernel_rfl) h
    rotate_left
    · exact Nat.le_of_ble_eq_true (by kernel_rfl)
    rw [show loopsIn OperTurn_code = [] from by kernel_rfl]
    intro b hb
    cases hb
  · cases h

/-! ### OperUpper: function 11 -/

noncomputable def OperUpper_C : Cfg := ⟨qP, Tryd.f11.ntmps, []⟩
noncomputable def OperUpper_code : Code := Tryd.f11.body.getD .skip
noncomputable def OperUpper_G (R : Type) : Orc R := fun f args k => bif Nat.beq f 31 then changes18_abs R args k else (fun _ _ _ => none) f args k
theorem OperUpper_Gok (R : Type) : OrcOk qP (OperUpper_G R) := (orc_cons changes18_ok orc_nil)
noncomputable def OperUpper_Lam0 (R : Type) : Lam R := fun _ _ _ => none
noncomputable def OperUpper_T {R : Type} (q0 : List Str) (x1 : Int) (x2 : Int) (x3 : Int) (x4 : Int) (x5 : Int) (x6 : Int) (x7 : Int) (k : Bool → Option R) : Option R :=
  changes18_F q0 x1 x2 x3 x4 x5 x6 x7 ([(16777301 : Int)]) (fun b8 =>
  k b8)
noncomputable def OperUpper_F {R : Type} : List Str → Int → Int → Int → Int → Int → Int → Int → (Bool → Option R) → Option R := lock OperUpper_T
theorem OperUpper_F_T {R : Type} : @OperUpper_F R = OperUpper_T := lock_eq _
theorem OperUpper_F_eq {R : Type} (q0 : List Str) (x1 : Int) (x2 : Int) (x3 : Int) (x4 : Int) (x5 : Int) (x6 : Int) (x7 : Int) (k : D → Option R) : afun qP [] (OperUpper_G R) (OperUpper_Lam0 R) Tryd.f11 [D.agg [D.sl (.strs q0), D.int .i64 x1, D.int .i64 x2, D.int .i64 x3, D.int .i64 x4, D.int .i64 x5, D.int .i64 x6, D.int .i64 x7]] k = OperUpper_T q0 x1 x2 x3 x4 x5 x6 x7 (fun y0 => k (D.bool y0)) := by kernel_rfl
noncomputable def OperUpper_abs (R : Type) (ds : List D) (k : D → Option R) : Option R :=
  match ds with
  | [D.agg [D.sl (.strs q0), D.int .i64 x1, D.int .i64 x2, D.int .i64 x3, D.int .i64 x4, D.int .i64 x5, D.int .i64 x6, D.int .i64 x7]] => OperUpper_F q0 x1 x2 x3 x4 x5 x6 x7 (fun y0 => k (D.bool y0))
  | _ => none
theorem OperUpper_ok : FnOk qP 11 OperUpper_abs := by
  intro R ds k r h
  unfold OperUpper_abs at h
  split at h
  · rw [OperUpper_F_T, ← OperUpper_F_eq] at h
    refine afun_ok (P := qP) (c := OperUpper_code) qOk (OperUpper_Gok R) Tryd.func11 (by kernel_rfl) (by kernel_rfl) ?_ ?_ (by kernel_rfl) h
    rotate_left
    · exact Nat.le_of_ble_eq_true (by kernel_rfl)
    rw [show loopsIn OperUpper_code = [] from by kernel_rfl]
    intro b hb
    cases hb
  · cases h

end Go.Proofs.YtleoffdjdgbanaaDoor

set_option linter.unusedVariables false
set_option linter.unusedSimpArgs false
set_option maxRecDepth 1000000
namespace Go.Proofs.YtleoffdjdgbanaaDoor
open Go Go.QA Go.Proofs

/-! ### SmallJoins: function 16 -/

noncomputable def SmallJoins_C : Cfg := ⟨qP, Tryd.f16.ntmps, []⟩
noncomputable def SmallJoins_code : Code := Tryd.f16.body.getD .skip
noncomputable def SmallJoins_G (R : Type) : Orc R := fun f args k => bif Nat.beq f 39 then smalls20_abs R args k else (fun _ _ _ => none) f args k
theorem SmallJoins_Gok (R : Type) : OrcOk qP (SmallJoins_G R) := (orc_cons smalls20_ok orc_nil)
noncomputable def SmallJoins_Lam0 (R : Type) : Lam R := fun _ _ _ => none
noncomputable def SmallJoins_T {R : Type} (q0 : List Str) (x1 : Int) (x2 : Int) (x3 : Int) (x4 : Int) (x5 : Int) (x6 : Int) (x7 : Int) (k : Bool → Option R) : Option R :=
  smalls20_F q0 x1 x2 x3 x4 x5 x6 x7 ([(74 : Int)]) (fun b8 =>
  k b8)
noncomputable def SmallJoins_F {R : Type} : List Str → Int → Int → Int → Int → Int → Int → Int → (Bool → Option R) → Option R := lock SmallJoins_T
theorem SmallJoins_F_T {R : Type} : @SmallJoins_F R = SmallJoins_T := lock_eq _
theorem SmallJoins_F_eq {R : Type} (q0 : List Str) (x1 : Int) (x2 : Int) (x3 : Int) (x4 : Int) (x5 : Int) (x6 : Int) (x7 : Int) (k : D → Option R) : afun qP [] (SmallJoins_G R) (SmallJoins_Lam0 R) Tryd.f16 [D.agg [D.sl (.strs q0), D.int .i64 x1, D.int .i64 x2, D.int .i64 x3, D.int .i64 x4, D.int .i64 x5, D.int .i64 x6, D.int .i64 x7]] k = SmallJoins_T q0 x1 x2 x3 x4 x5 x6 x7 (fun y0 => k (D.bool y0)) := by kernel_rfl
noncomputable def SmallJoins_abs (R : Type) (ds : List D) (k : D → Option R) : Option R :=
  match ds with
  | [D.agg [D.sl (.strs q0), D.int .i64 x1, D.int .i64 x2, D.int .i64 x3, D.int .i64 x4, D.int .i64 x5, D.int .i64 x6, D.int .i64 x7]] => SmallJoins_F q0 x1 x2 x3 x4 x5 x6 x7 (fun y0 => k (D.bool y0))
  | _ => none
theorem SmallJoins_ok : FnOk qP 16 SmallJoins_abs := by
  intro R ds k r h
  unfold SmallJoins_abs at h
  split at h
  · rw [SmallJoins_F_T, ← SmallJoins_F_eq] at h
    refine afun_ok (P := qP) (c := SmallJoins_code) qOk (SmallJoins_Gok R) Tryd.func16 (by kernel_rfl) (by kernel_rfl) ?_ ?_ (by kernel_rfl) h
    rotate_left
    · exact Nat.le_of_ble_eq_true (by kernel_rfl)
    rw [show loopsIn SmallJoins_code = [] from by kernel_rfl]
    intro b hb
    cases hb
  · cases h

/-! ### SmallR: function 19 -/

noncomputable def SmallR_C : Cfg := ⟨qP, Tryd.f19.ntmps, []⟩
noncomputable def SmallR_code : Code := Tryd.f19.body.getD .skip
noncomputable def SmallR_G (R : Type) : Orc R := fun f args k => bif Nat.beq f 39 then smalls20_abs R args k else (fun _ _ _ => none) f args k
theorem SmallR_Gok (R : Type) : OrcOk qP (SmallR_G R) := (orc_cons smalls20_ok orc_nil)
noncomputable def SmallR_Lam0 (R : Type) : Lam R := fun _ _ _ => none
noncomputable def SmallR_T {R : Type} (q0 : List Str) (x1 : Int) (x2 : Int) (x3 : Int) (x4 : Int) (x5 : Int) (x6 : Int) (x7 : Int) (k : Bool → Option R) : Option R :=
  smalls20_F q0 x1 x2 x3 x4 x5 x6 x7 ([(114 : Int)]) (fun b8 =>
  k b8)
noncomputable def SmallR_F {R : Type} : List Str → Int → Int → Int → Int → Int → Int → Int → (Bool → Option R) → Option R := lock SmallR_T
theorem SmallR_F_T {R : Type} : @SmallR_F R = SmallR_T := lock_eq _
theorem SmallR_F_eq {R : Type} (q0 : List Str) (x1 : Int) (x2 : Int) (x3 : Int) (x4 : Int) (x5 : Int) (x6 : Int) (x7 : Int) (k : D → Option R) : afun qP [] (SmallR_G R) (SmallR_Lam0 R) Tryd.f19 [D.agg [D.sl (.strs q0), D.int .i64 x1, D.int .i64 x2, D.int .i64 x3, D.int .i64 x4, D.int .i64 x5, D.int .i64 x6, D.int .i64 x7]] k = SmallR_T q0 x1 x2 x3 x4 x5 x6 x7 (fun y0 => k (D.bool y0)) := by kernel_rfl
noncomputable def SmallR_abs (R : Type) (ds : List D) (k : D → Option R) : Option R :=
  match ds with
  | [D.agg [D.sl (.strs q0), D.int .i64 x1, D.int .i64 x2, D.int .i64 x3, D.int .i64 x4, D.int .i64 x5, D.int .i64 x6, D.int .i64 x7]] => SmallR_F q0 x1 x2 x3 x4 x5 x6 x7 (fun y0 => k (D.bool y0))
  | _ => none
theorem SmallR_ok : FnOk qP 19 SmallR_abs := by
  intro R ds k r h
  unfold SmallR_abs at h
  split at h
  · rw [SmallR_F_T, ← SmallR_F_eq] at h
    refine afun_ok (P := qP) (c := SmallR_code) qOk (SmallR_Gok R) Tryd.func19 (by kernel_rfl) (by kernel_rfl) ?_ ?_ (by kernel_rfl) h
    rotate_left
    · exact Nat.le_of_ble_eq_true (by kernel_rfl)
    rw [show loopsIn SmallR_code = [] from by kernel_rfl]
    intro b hb
    cases hb
  · cases h

/-! ### SmallTilde: function 20 -/

noncomputable def SmallTilde_C : Cfg := ⟨qP, Tryd.f20.ntmps, []⟩
noncomputable def SmallTilde_code : Code := Tryd.f20.body.getD .skip
noncomputable def SmallTilde_G (R : Type) : Orc R := fun f args k => bif Nat.beq f 39 then smalls20_abs R args k else (fun _ _ _ => none) f args k
theorem SmallTilde_Gok (R : Type) : OrcOk qP (SmallTilde_G R) := (orc_cons smalls20_ok orc_nil)
noncomputable def SmallTilde_Lam0 (R : Type) : Lam R := fun _ _ _ => none
noncomputable def SmallTilde_T {R : Type} (q0 : List Str) (x1 : Int) (x2 : Int) (x3 : Int) (x4 : Int) (x5 : Int) (x6 : Int) (x7 : Int) (k : Bool → Option R) : Option R :=
  smalls20_F q0 x1 x2 x3 x4 x5 x6 x7 ([(126 : Int)]) (fun b8 =>
  k b8)
noncomputable def SmallTilde_F {R : Type} : List Str → Int → Int → Int → Int → Int → Int → Int → (Bool → Option R) → Option R := lock SmallTilde_T
theorem SmallTilde_F_T {R : Type} : @SmallTilde_F R = SmallTilde_T := lock_eq _
theorem SmallTilde_F_eq {R : Type} (q0 : List Str) (x1 : Int) (x2 : Int) (x3 : Int) (x4 : Int) (x5 : Int) (x6 : Int) (x7 : Int) (k : D → Option R) : afun qP [] (SmallTilde_G R) (SmallTilde_Lam0 R) Tryd.f20 [D.agg [D.sl (.strs q0), D.int .i64 x1, D.int .i64 x2, D.int .i64 x3, D.int .i64 x4, D.int .i64 x5, D.int .i64 x6, D.int .i64 x7]] k = SmallTilde_T q0 x1 x2 x3 x4 x5 x6 x7 (fun y0 => k (D.bool y0)) := by kernel_rfl
noncomputable def SmallTilde_abs (R : Type) (ds : List D) (k : D → Option R) : Option R :=
  match ds with
  | [D.agg [D.sl (.strs q0), D.int .i64 x1, D.int .i64 x2, D.int .i64 x3, D.int .i64 x4, D.int .i64 x5, D.int .i64 x6, D.int .i64 x7]] => SmallTilde_F q0 x1 x2 x3 x4 x5 x6 x7 (fun y0 => k (D.bool y0))
  | _ => none
theorem SmallTilde_ok : FnOk qP 20 SmallTilde_abs := by
  intro R ds k r h
  unfold SmallTilde_abs at h
  split at h
  · rw [SmallTilde_F_T, ← SmallTilde_F_eq] at h
    refine afun_ok (P := qP) (c := SmallTilde_code) qOk (SmallTilde_Gok R) Tryd.func20 (by kernel_rfl) (by kernel_rfl) ?_ ?_ (by kernel_rfl) h
    rotate_left
    · exact Nat.le_of_ble_eq_true (by kernel_rfl)
    rw [show loopsIn SmallTilde_code = [] from by kernel_rfl]
    intro b hb
    cases hb
  · cases h

/-! ### SmallTurns: function 15 -/

noncomputable def SmallTurns_C : Cfg := ⟨qP, Tryd.f15.ntmps, []⟩
noncomputable def SmallTurns_code : Code := Tryd.f15.body.getD .skip
noncomputable def SmallTurns_G (R : Type) : Orc R := fun f args k => bif Nat.beq f 39 then smalls20_abs R args k else (fun _ _ _ => none) f args k
theorem SmallTurns_Gok (R : Type) : OrcOk qP (SmallTurns_G R) := (orc_cons smalls20_ok orc_nil)
noncomputable def SmallTurns_Lam0 (R : Type) : Lam R := fun _ _ _ => none
noncomputable def SmallTurns_T {R : Type} (q0 : List Str) (x1 : Int) (x2 : Int) (x3 : Int) (x4 : Int) (x5 : Int) (x6 : Int) (x7 : Int) (k : Bool → Option R) : Option R :=
  smalls20_F q0 x1 x2 x3 x4 x5 x6 x7 ([(114 : Int), (126 : Int), x5]) (fun b8 =>
  k b8)
noncomputable def SmallTurns_F {R : Type} : List Str → Int → Int → Int → Int → Int → Int → Int → (Bool → Option R) → Option R := lock SmallTurns_T
theorem SmallTurns_F_T {R : Type} : @SmallTurns_F R = SmallTurns_T := lock_eq _
theorem SmallTurns_F_eq {R : Type} (q0 : List Str) (x1 : Int) (x2 : Int) (x3 : Int) (x4 : Int) (x5 : Int) (x6 : Int) (x7 : Int) (k : D → Option R) : afun qP [] (SmallTurns_G R) (SmallTurns_Lam0 R) Tryd.f15 [D.agg [D.sl (.strs q0), D.int .i64 x1, D.int .i64 x2, D.int .i64 x3, D.int .i64 x4, D.int .i64 x5, D.int .i64 x6, D.int .i64 x7]] k = SmallTurns_T q0 x1 x2 x3 x4 x5 x6 x7 (fun y0 => k (D.bool y0)) := by kernel_rfl
noncomputable def SmallTurns_abs (R : Type) (ds : List D) (k : D → Option R) : Option R :=
  match ds with
  | [D.agg [D.sl (.strs q0), D.int .i64 x1, D.int .i64 x2, D.int .i64 x3, D.int .i64 x4, D.int .i64 x5, D.int .i64 x6, D.int .i64 x7]] => SmallTurns_F q0 x1 x2 x3 x4 x5 x6 x7 (fun y0 => k (D.bool y0))
  | _ => none
theorem SmallTurns_ok : FnOk qP 15 SmallTurns_abs := by
  intro R ds k r h
  unfold SmallTurns_abs at h
  split at h
  · rw [SmallTurns_F_T, ← SmallTurns_F_eq] at h
    refine afun_ok (P := qP) (c := SmallTurns_code) qOk (SmallTurns_Gok R) Tryd.func15 (by kernel_rfl) (by kernel_rfl) ?_ ?_ (by kernel_rfl) h
    rotate_left
    · exact Nat.le_of_ble_eq_true (by kernel_rfl)
    rw [show loopsIn SmallTurns_code = [] from by kernel_rfl]
    intro b hb
    cases hb
  · cases h

/-! ### SmallX: function 18 -/

noncomputable def SmallX_C : Cfg := ⟨qP, Tryd.f18.ntmps, []⟩
noncomputable def SmallX_code : Code := Tryd.f18.body.getD .skip
noncomputable def SmallX_G (R : Type) : Orc R := fun f args k => bif Nat.beq f 39 then smalls20_abs R args k else (fun _ _ _ => none) f args k
theorem SmallX_Gok (R : Type) : OrcOk qP (SmallX_G R) := (orc_cons smalls20_ok orc_nil)
noncomputable def SmallX_Lam0 (R : Type) : Lam R := fun _ _ _ => none
noncomputable def SmallX_T {R : Type} (q0 : List Str) (x1 : Int) (x2 : Int) (x3 : Int) (x4 : Int) (x5 : Int) (x6 : Int) (x7 : Int) (k : Bool → Option R) : Option R :=
  smalls20_F q0 x1 x2 x3 x4 x5 x6 x7 ([(120 : Int)]) (fun b8 =>
  k b8)
noncomputable def SmallX_F {R : Type} : List Str → Int → Int → Int → Int → Int → Int → Int → (Bool → Option R) → Option R := lock SmallX_T
theorem SmallX_F_T {R : Type} : @SmallX_F R = SmallX_T := lock_eq _
theorem SmallX_F_eq {R : Type} (q0 : List Str) (x1 : Int) (x2 : Int) (x3 : Int) (x4 : Int) (x5 : Int) (x6 : Int) (x7 : Int) (k : D → Option R) : afun qP [] (SmallX_G R) (SmallX_Lam0 R) Tryd.f18 [D.agg [D.sl (.strs q0), D.int .i64 x1, D.int .i64 x2, D.int .i64 x3, D.int .i64 x4, D.int .i64 x5, D.int .i64 x6, D.int .i64 x7]] k = SmallX_T q0 x1 x2 x3 x4 x5 x6 x7 (fun y0 => k (D.bool y0)) := by kernel_rfl
noncomputable def SmallX_abs (R : Type) (ds : List D) (k : D → Option R) : Option R :=
  match ds with
  | [D.agg [D.sl (.strs q0), D.int .i64 x1, D.int .i64 x2, D.int .i64 x3, D.int .i64 x4, D.int .i64 x5, D.int .i64 x6, D.int .i64 x7]] => SmallX_F q0 x1 x2 x3 x4 x5 x6 x7 (fun y0 => k (D.bool y0))
  | _ => none
theorem SmallX_ok : FnOk qP 18 SmallX_abs := by
  intro R ds k r h
  unfold SmallX_abs at h
  split at h
  · rw [SmallX_F_T, ← SmallX_F_eq] at h
    refine afun_ok (P := qP) (c := SmallX_code) qOk (SmallX_Gok R) Tryd.func18 (by kernel_rfl) (by kernel_rfl) ?_ ?_ (by kernel_rfl) h
    rotate_left
    · exact Nat.le_of_ble_eq_true (by kernel_rfl)
    rw [show loopsIn SmallX_code = [] from by kernel_rfl]
    intro b hb
    cases hb
  · cases h

end Go.Proofs.YtleoffdjdgbanaaDoor
