/- Functions as the model has them, and plain functions with the same answers: printed by a program of mine. -/
import Derived.Test.YtleoffdjdgbanaaDoorVWalk2
set_option linter.unusedVariables false
set_option linter.unusedSimpArgs false
set_option linter.unusedVariables false
set_option linter.unusedSimpArgs false
set_option maxRecDepth 1000000
namespace Go.Proofs.YtleoffdjdgbanaaDoor
open Go Go.QA Go.Proofs

/-! ### refChange: function 58 -/

noncomputable def refChange_C : Cfg := ⟨qP, Tryd.f58.ntmps, [91]⟩
noncomputable def refChange_code : Code := Tryd.f58.body.getD .skip
noncomputable def refChange_G (R : Type) : Orc R := fun f args k => bif Nat.beq f 47 then refRest_abs R args k else (fun f args k => bif Nat.beq f 87 then refColumn_abs R args k else (fun f args k => bif Nat.beq f 88 then refDeleted_abs R args k else (fun f args k => bif Nat.beq f 48 then made18_abs R args k else (fun f args k => bif Nat.beq f 89 then refShifted_abs R args k else (fun f args k => bif Nat.beq f 49 then Turned18_abs R args k else (fun _ _ _ => none) f args k) f args k) f args k) f args k) f args k) f args k
theorem refChange_Gok (R : Type) : OrcOk qP (refChange_G R) := (orc_cons refRest_ok (orc_cons refColumn_ok (orc_cons refDeleted_ok (orc_cons made18_ok (orc_cons refShifted_ok (orc_cons Turned18_ok orc_nil))))))
noncomputable def refChange_B20 {R : Type} (rec : Str → Int → Int → List Int → Int → Bool → Int → Int → Bool → Str → Int → Str → Int → Int → Option R) (s36 : Str) (x37 : Int) (x38 : Int) (l39 : List Int) (x40 : Int) (b41 : Bool) (x42 : Int) (x43 : Int) (b44 : Bool) (s45 : Str) (x46 : Int) (s47 : Str) (x48 : Int) (x49 : Int) (ke0 : Str → Int → List Int → Bool → Str → Int → Str → Int → Int → Option R) : Option R :=
  (bif (Decidable.decide (x40 < x42)) then
  (bif (Decidable.decide ((0 : Int) ≤ x40) && Decidable.decide (x40 < (↑(List.length l39) : Int))) then
   Turned18_F (List.getD l39 (Int.toNat x40) (0 : Int)) (Go.IntKind.wrap Go.IntKind.i64 (x37 - (16777216 : Int))) (fun x50 =>
    (bif (Decidable.decide ((0 : Int) ≤ x40) && Decidable.decide (x40 < (↑(List.length l39) : Int))) then
     rec s36 x37 x38 (List.set l39 (Int.toNat x40) x50) (Go.IntKind.wrap Go.IntKind.i64 (x40 + (1 : Int))) b41 x42 x43 b44 s45 x46 s47 x48 x49
    else
     none))
  else
   none)
 else
  ke0 s36 x38 l39 b44 s45 x46 s47 x48 x49)
noncomputable def refChange_L20 {R : Type} : Nat → Str → Int → Int → List Int → Int → Bool → Int → Int → Bool → Str → Int → Str → Int → Int → (Str → Int → List Int → Bool → Str → Int → Str → Int → Int → Option R) → Option R
  | 0, _, _, _, _, _, _, _, _, _, _, _, _, _, _, _ => none
  | n + 1, s36, x37, x38, l39, x40, b41, x42, x43, b44, s45, x46, s47, x48, x49, ke0 => refChange_B20 (fun s36 x37 x38 l39 x40 b41 x42 x43 b44 s45 x46 s47 x48 x49 => refChange_L20 n s36 x37 x38 l39 x40 b41 x42 x43 b44 s45 x46 s47 x48 x49 ke0) s36 x37 x38 l39 x40 b41 x42 x43 b44 s45 x46 s47 x48 x49 ke0
noncomputable def refChange_M20 {R : Type} : Str → Int → Int → List Int → Int → Bool → Int → Int → Bool → Str → Int → Str → Int → Int → (Str → Int → List Int → Bool → Str → Int → Str → Int → Int → Option R) → Option R := lock (refChange_L20 4611686018427387904)
theorem refChange_M20_eq {R : Type} : @refChange_M20 R = refChange_L20 4611686018427387904 := lock_eq _
noncomputable def refChange_Lam0 (R : Type) : Lam R := fun _ _ _ => none
noncomputable def refChange_body20 : Code := (findLoop 20 refChange_code).getD .skip
def refChange_S20 : QA.Spec := (⟨[.t 0, .t 2, .t 12, .t 15, .t 16, .c 5 2, .c 5 1, .c 5 0, .c 8 5, .c 8 4, .c 8 3, .c 8 2, .c 8 1, .c 8 0], [5, 8], [], [(.t 5, 5, 0), (.t 8, 8, 0)], []⟩ : QA.Spec)
def refChange_S20e1 : QA.Spec := (⟨[.t 0, .t 12, .t 15, .c 8 5, .c 8 4, .c 8 3, .c 8 2, .c 8 1, .c 8 0], [8], [], [(.t 8, 8, 0)], []⟩ : QA.Spec)
def refChange_X20 : AExit → Option QA.Spec
  | .normal => none
  | .exit j => bif Nat.beq j 1 then some refChange_S20e1 else none
  | .ret => none
theorem refChange_L20_eq {R : Type} (k : AExit → St → Option R) : ∀ (n : Nat) (a0 : Str) (a1 : Int) (a2 : Int) (a3 : List Int) (a4 : Int) (a5 : Bool) (a6 : Int) (a7 : Int) (a8 : Bool) (a9 : Str) (a10 : Int) (a11 : Str) (a12 : Int) (a13 : Int), aloop refChange_C (refChange_G R) (refChange_Lam0 R) refChange_S20 refChange_X20 refChange_body20 n [D.str a0, D.int .i64 a1, D.int .i64 a2, D.con (.ints .i32 a3), D.int .i64 a4, D.bool a5, D.int .i64 a6, D.int .i64 a7, D.bool a8, D.str a9, D.int .i64 a10, D.str a11, D.int .i64 a12, D.int .i64 a13] k = refChange_L20 n a0 a1 a2 a3 a4 a5 a6 a7 a8 a9 a10 a11 a12 a13 (fun y0 y1 y2 y3 y4 y5 y6 y7 y8 => k (.exit 1) (mkSt refChange_S20e1 [D.str y0, D.int .i64 y1, D.con (.ints .i32 y2), D.bool y3, D.str y4, D.int .i64 y5, D.str y6, D.int .i64 y7, D.int .i64 y8]))
  | 0, _, _, _, _, _, _, _, _, _, _, _, _, _, _ => rfl
  | n + 1, a0, a1, a2, a3, a4, a5, a6, a7, a8, a9, a10, a11, a12, a13 => by
    have h : (fun a0 a1 a2 a3 a4 a5 a6 a7 a8 a9 a10 a11 a12 a13 => aloop refChange_C (refChange_G R) (refChange_Lam0 R) refChange_S20 refChange_X20 refChange_body20 n [D.str a0, D.int .i64 a1, D.int .i64 a2, D.con (.ints .i32 a3), D.int .i64 a4, D.bool a5, D.int .i64 a6, D.int .i64 a7, D.bool a8, D.str a9, D.int .i64 a10, D.str a11, D.int .i64 a12, D.int .i64 a13] k) = (fun a0 a1 a2 a3 a4 a5 a6 a7 a8 a9 a10 a11 a12 a13 => refChange_L20 n a0 a1 a2 a3 a4 a5 a6 a7 a8 a9 a10 a11 a12 a13 (fun y0 y1 y2 y3 y4 y5 y6 y7 y8 => k (.exit 1) (mkSt refChange_S20e1 [D.str y0, D.int .i64 y1, D.con (.ints .i32 y2), D.bool y3, D.str y4, D.int .i64 y5, D.str y6, D.int .i64 y7, D.int .i64 y8]))) := by
      funext a0 a1 a2 a3 a4 a5 a6 a7 a8 a9 a10 a11 a12 a13; exact refChange_L20_eq k n a0 a1 a2 a3 a4 a5 a6 a7 a8 a9 a10 a11 a12 a13
    have s : aloop refChange_C (refChange_G R) (refChange_Lam0 R) refChange_S20 refChange_X20 refChange_body20 (n + 1) [D.str a0, D.int .i64 a1, D.int .i64 a2, D.con (.ints .i32 a3), D.int .i64 a4, D.bool a5, D.int .i64 a6, D.int .i64 a7, D.bool a8, D.str a9, D.int .i64 a10, D.str a11, D.int .i64 a12, D.int .i64 a13] k = refChange_B20 (fun a0 a1 a2 a3 a4 a5 a6 a7 a8 a9 a10 a11 a12 a13 => aloop refChange_C (refChange_G R) (refChange_Lam0 R) refChange_S20 refChange_X20 refChange_body20 n [D.str a0, D.int .i64 a1, D.int .i64 a2, D.con (.ints .i32 a3), D.int .i64 a4, D.bool a5, D.int .i64 a6, D.int .i64 a7, D.bool a8, D.str a9, D.int .i64 a10, D.str a11, D.int .i64 a12, D.int .i64 a13] k) a0 a1 a2 a3 a4 a5 a6 a7 a8 a9 a10 a11 a12 a13 (fun y0 y1 y2 y3 y4 y5 y6 y7 y8 => k (.exit 1) (mkSt refChange_S20e1 [D.str y0, D.int .i64 y1, D.con (.ints .i32 y2), D.bool y3, D.str y4, D.int .i64 y5, D.str y6, D.int .i64 y7, D.int .i64 y8])) := by kernel_rfl
    rw [s, h]; rfl
noncomputable def refChange_A20 (R : Type) (ds : List D) (k : AExit → St → Option R) : Option R :=
  match ds with
  | [D.str a0, D.int .i64 a1, D.int .i64 a2, D.con (.ints .i32 a3), D.int .i64 a4, D.bool a5, D.int .i64 a6, D.int .i64 a7, D.bool a8, D.str a9, D.int .i64 a10, D.str a11, D.int .i64 a12, D.int .i64 a13] => refChange_M20 a0 a1 a2 a3 a4 a5 a6 a7 a8 a9 a10 a11 a12 a13 (fun y0 y1 y2 y3 y4 y5 y6 y7 y8 => k (.exit 1) (mkSt refChange_S20e1 [D.str y0, D.int .i64 y1, D.con (.ints .i32 y2), D.bool y3, D.str y4, D.int .i64 y5, D.str y6, D.int .i64 y7, D.int .i64 y8]))
  | _ => none
noncomputable def refChange_Lam1 (R : Type) : Lam R := fun key st k => bif Nat.beq key 20 then (match readSt refChange_S20 st with | some ds => refChange_A20 R ds k | none => none) else refChange_Lam0 R key st k
theorem refChange_A20_ok {R : Type} : ∀ ds k r, refChange_A20 R ds k = some r → ∃ e st', k e st' = some r ∧ QA.Reach refChange_C (.loop refChange_body20) (mkSt refChange_S20 ds) e st' := by
  intro ds k r h
  unfold refChange_A20 at h
  split at h
  · rw [refChange_M20_eq, ← refChange_L20_eq] at h
    refine aloop_ok (C := refChange_C) qOk (refChange_Gok R) ?_ _ _ _ _ h
    rw [show loopsIn refChange_body20 = [] from by kernel_rfl]
    intro b hb
    cases hb
  · cases h
noncomputable def refChange_T {R : Type} (s0 : Str) (x1 : Int) (x2 : Int) (b3 : Bool) (x4 : Int) (x5 : Int) (k : Int → Int → Str → Int → Str → Bool → Int → Option R) : Option R :=
  (bif (Decidable.decide ((0 : Int) ≤ x2) && Decidable.decide (x2 ≤ (↑(List.length (Go.QA.runesOf s0)) : Int))) then
  (bif (Decidable.decide ((0 : Int) ≤ x1) && Decidable.decide (x1 ≤ (↑(Int.toNat x2) : Int))) then
   refRest_F (Go.QA.runesOf s0) x1 (fun x6 =>
    (bif b3 then
     refColumn_F (Go.QA.runesOf s0) x1 x5 (fun x7 =>
      (bif (x4 == (121 : Int)) then
       k ((0 : Int)) ((0 : Int)) [] x7 (Go.QA.strOf (List.drop (Int.toNat x1) (List.take (Int.toNat x2) (Go.QA.runesOf s0)))) b3 ((0 : Int))
      else
       (bif (x4 == (100 : Int)) then
        refDeleted_F s0 (Go.QA.runesOf s0) x1 x2 b3 (fun x8 x9 s10 x11 s12 b13 x14 =>
         k x8 x9 s10 x11 s12 b13 x14)
       else
        (bif (x4 == (99 : Int)) then
         (bif (Decidable.decide ((0 : Int) ≤ x1) && Decidable.decide (x1 ≤ (↑(List.length (Go.QA.runesOf s0)) : Int))) then
          (bif (Decidable.decide ((0 : Int) ≤ x2) && Decidable.decide (x2 ≤ (↑(List.length (Go.QA.runesOf s0)) : Int))) then
           (bif (Decidable.decide (List.length (Go.QA.strOf (List.drop (0 : Nat) (List.take (Int.toNat x1) (Go.QA.runesOf s0)))) + List.length (Go.QA.strOf (List.drop (Int.toNat x2) (List.take (List.length (Go.QA.runesOf s0)) (Go.QA.runesOf s0)))) ≤ (9223372036854775807 : Nat))) then
            made18_F s0 (Go.QA.strOf (List.drop (0 : Nat) (List.take (Int.toNat x1) (Go.QA.runesOf s0))) ++ Go.QA.strOf (List.drop (Int.toNat x2) (List.take (List.length (Go.QA.runesOf s0)) (Go.QA.runesOf s0)))) x1 (fun x15 x16 s17 x18 s19 b20 x21 =>
             k x15 x16 s17 x18 (Go.QA.strOf (List.drop (Int.toNat x1) (List.take (Int.toNat x2) (Go.QA.runesOf s0)))) b3 x21)
           else
            none)
          else
           none)
         else
          none)
        else
         (bif (x4 == (62 : Int)) then
          refShifted_F s0 (Go.QA.runesOf s0) x1 x2 b3 x4 (fun x22 x23 s24 x25 s26 b27 x28 =>
           k x22 x23 s24 x25 s26 b27 x28)
         else
          (bif (x4 == (60 : Int)) then
           refShifted_F s0 (Go.QA.runesOf s0) x1 x2 b3 x4 (fun x29 x30 s31 x32 s33 b34 x35 =>
            k x29 x30 s31 x32 s33 b34 x35)
          else
           refChange_M20 s0 x4 x7 (Go.QA.runesOf s0) x1 b3 x2 x1 Bool.false [] ((0 : Int)) [] ((0 : Int)) ((0 : Int))
            (fun s51 x52 l53 b54 s55 x56 s57 x58 x59 =>
            made18_F s51 (Go.QA.strOf l53) x52 (fun x60 x61 s62 x63 s64 b65 x66 =>
             k x60 x61 s62 x63 s64 b65 x66))))))))
    else
     (bif (x4 == (121 : Int)) then
      k ((0 : Int)) ((0 : Int)) [] x6 (Go.QA.strOf (List.drop (Int.toNat x1) (List.take (Int.toNat x2) (Go.QA.runesOf s0)))) b3 ((0 : Int))
     else
      (bif (x4 == (100 : Int)) then
       refDeleted_F s0 (Go.QA.runesOf s0) x1 x2 b3 (fun x67 x68 s69 x70 s71 b72 x73 =>
        k x67 x68 s69 x70 s71 b72 x73)
      else
       (bif (x4 == (99 : Int)) then
        (bif (Decidable.decide ((0 : Int) ≤ x1) && Decidable.decide (x1 ≤ (↑(List.length (Go.QA.runesOf s0)) : Int))) then
         (bif (Decidable.decide ((0 : Int) ≤ x2) && Decidable.decide (x2 ≤ (↑(List.length (Go.QA.runesOf s0)) : Int))) then
          (bif (Decidable.decide (List.length (Go.QA.strOf (List.drop (0 : Nat) (List.take (Int.toNat x1) (Go.QA.runesOf s0)))) + List.length (Go.QA.strOf (List.drop (Int.toNat x2) (List.take (List.length (Go.QA.runesOf s0)) (Go.QA.runesOf s0)))) ≤ (9223372036854775807 : Nat))) then
           made18_F s0 (Go.QA.strOf (List.drop (0 : Nat) (List.take (Int.toNat x1) (Go.QA.runesOf s0))) ++ Go.QA.strOf (List.drop (Int.toNat x2) (List.take (List.length (Go.QA.runesOf s0)) (Go.QA.runesOf s0)))) x1 (fun x74 x75 s76 x77 s78 b79 x80 =>
            k x74 x75 s76 x77 (Go.QA.strOf (List.drop (Int.toNat x1) (List.take (Int.toNat x2) (Go.QA.runesOf s0)))) b3 x80)
          else
           none)
         else
          none)
        else
         none)
       else
        (bif (x4 == (62 : Int)) then
         refShifted_F s0 (Go.QA.runesOf s0) x1 x2 b3 x4 (fun x81 x82 s83 x84 s85 b86 x87 =>
          k x81 x82 s83 x84 s85 b86 x87)
        else
         (bif (x4 == (60 : Int)) then
          refShifted_F s0 (Go.QA.runesOf s0) x1 x2 b3 x4 (fun x88 x89 s90 x91 s92 b93 x94 =>
           k x88 x89 s90 x91 s92 b93 x94)
         else
          refChange_M20 s0 x4 x6 (Go.QA.runesOf s0) x1 b3 x2 x1 Bool.false [] ((0 : Int)) [] ((0 : Int)) ((0 : Int))
           (fun s95 x96 l97 b98 s99 x100 s101 x102 x103 =>
           made18_F s95 (Go.QA.strOf l97) x96 (fun x104 x105 s106 x107 s108 b109 x110 =>
            k x104 x105 s106 x107 s108 b109 x110)))))))))
  else
   none)
 else
  none)
noncomputable def refChange_F {R : Type} : Str → Int → Int → Bool → Int → Int → (Int → Int → Str → Int → Str → Bool → Int → Option R) → Option R := lock refChange_T
theorem refChange_F_T {R : Type} : @refChange_F R = refChange_T := lock_eq _
theorem refChange_F_eq {R : Type} (s0 : Str) (x1 : Int) (x2 : Int) (b3 : Bool) (x4 : Int) (x5 : Int) (k : D → Option R) : afun qP [91] (refChange_G R) (refChange_Lam1 R) Tryd.f58 [D.str s0, D.agg [D.int .i64 x1, D.int .i64 x2, D.bool b3], D.int .i64 x4, D.int .i64 x5] k = refChange_T s0 x1 x2 b3 x4 x5 (fun y0 y1 y2 y3 y4 y5 y6 => k (D.tup [D.agg [D.int .i64 y0, D.int .i64 y1, D.str y2, D.int .i64 y3, D.str y4, D.bool y5], D.int .i64 y6])) := by kernel_rfl
noncomputable def refChange_abs (R : Type) (ds : List D) (k : D → Option R) : Option R :=
  match ds with
  | [D.str s0, D.agg [D.int .i64 x1, D.int .i64 x2, D.bool b3], D.int .i64 x4, D.int .i64 x5] => refChange_F s0 x1 x2 b3 x4 x5 (fun y0 y1 y2 y3 y4 y5 y6 => k (D.tup [D.agg [D.int .i64 y0, D.int .i64 y1, D.str y2, D.int .i64 y3, D.str y4, D.bool y5], D.int .i64 y6]))
  | _ => none
theorem refChange_ok : FnOk qP 58 refChange_abs := by
  intro R ds k r h
  unfold refChange_abs at h
  split at h
  · rw [refChange_F_T, ← refChange_F_eq] at h
    refine afun_ok (P := qP) (c := refChange_code) qOk (refChange_Gok R) Tryd.func58 (by kernel_rfl) (by kernel_rfl) ?_ ?_ (by kernel_rfl) h
    rotate_left
    · exact Nat.le_of_ble_eq_true (by kernel_rfl)
    rw [show loopsIn refChange_code = [refChange_body20] from by kernel_rfl]
    intro b hb
    simp only [List.mem_cons, List.not_mem_nil, or_false] at hb
    subst hb
    exact lam_of (key := 20) (S := refChange_S20) (L := refChange_A20 R) (fun st k => by kernel_rfl) (by kernel_rfl) refChange_A20_ok
  · cases h

/-! ### wakes19: function 30 -/

noncomputable def wakes19_C : Cfg := ⟨qP, Tryd.f30.ntmps, []⟩
noncomputable def wakes19_code : Code := Tryd.f30.body.getD .skip
noncomputable def wakes19_G (R : Type) : Orc R := fun f args k => bif Nat.beq f 25 then putOf_abs R args k else (fun f args k => bif Nat.beq f 26 then num19_abs R args k else (fun f args k => bif Nat.beq f 24 then refApply_abs R args k else (fun _ _ _ => none) f args k) f args k) f args k
theorem wakes19_Gok (R : Type) : OrcOk qP (wakes19_G R) := (orc_cons putOf_ok (orc_cons num19_ok (orc_cons refApply_ok orc_nil)))
noncomputable def wakes19_Lam0 (R : Type) : Lam R := fun _ _ _ => none
noncomputable def wakes19_T {R : Type} (k : Bool → Option R) : Option R :=
  putOf_F ([(97 : UInt8)]) ((0 : Int)) ((0 : Int)) ([(120 : UInt8)]) Bool.false ((80 : Int)) ((1 : Int)) (fun x0 x1 s2 x3 s4 b5 x6 =>
  num19_F x6 (fun x7 =>
   (bif (x7 == (0 : Int)) then
    refApply_F ([(97 : UInt8)]) x0 x1 s2 (fun s8 =>
     k (s8 == [(120 : UInt8), (97 : UInt8)]))
   else
    k Bool.false)))
noncomputable def wakes19_F {R : Type} : (Bool → Option R) → Option R := lock wakes19_T
theorem wakes19_F_T {R : Type} : @wakes19_F R = wakes19_T := lock_eq _
theorem wakes19_F_eq {R : Type} (k : D → Option R) : afun qP [] (wakes19_G R) (wakes19_Lam0 R) Tryd.f30 [] k = wakes19_T (fun y0 => k (D.bool y0)) := by kernel_rfl
noncomputable def wakes19_abs (R : Type) (ds : List D) (k : D → Option R) : Option R :=
  match ds with
  | [] => wakes19_F (fun y0 => k (D.bool y0))
  | _ => none
theorem wakes19_ok : FnOk qP 30 wakes19_abs := by
  intro R ds k r h
  unfold wakes19_abs at h
  split at h
  · rw [wakes19_F_T, ← wakes19_F_eq] at h
    refine afun_ok (P := qP) (c := wakes19_code) qOk (wakes19_Gok R) Tryd.func30 (by kernel_rfl) (by kernel_rfl) ?_ ?_ (by kernel_rfl) h
    rotate_left
    · exact Nat.le_of_ble_eq_true (by kernel_rfl)
    rw [show loopsIn wakes19_code = [] from by kernel_rfl]
    intro b hb
    cases hb
  · cases h

/-! ### PutBack: function 3 -/

noncomputable def PutBack_C : Cfg := ⟨qP, Tryd.f3.ntmps, []⟩
noncomputable def PutBack_code : Code := Tryd.f3.body.getD .skip
noncomputable def PutBack_G (R : Type) : Orc R := fun f args k => bif Nat.beq f 21 then lawHeavy10_abs R args k else (fun f args k => bif Nat.beq f 22 then refMay1_abs R args k else (fun f args k => bif Nat.beq f 23 then refSmall_abs R args k else (fun f args k => bif Nat.beq f 24 then refApply_abs R args k else (fun f args k => bif Nat.beq f 25 then putOf_abs R args k else (fun f args k => bif Nat.beq f 26 then num19_abs R args k else (fun f args k => bif Nat.beq f 27 then refMay4_abs R args k else (fun f args k => bif Nat.beq f 28 then refRows_abs R args k else (fun f args k => bif Nat.beq f 29 then lawWithin_abs R args k else (fun f args k => bif Nat.beq f 30 then wakes19_abs R args k else (fun _ _ _ => none) f args k) f args k) f args k) f args k) f args k) f args k) f args k) f args k) f args k) f args k
theorem PutBack_Gok (R : Type) : OrcOk qP (PutBack_G R) := (orc_cons lawHeavy10_ok (orc_cons refMay1_ok (orc_cons refSmall_ok (orc_cons refApply_ok (orc_cons putOf_ok (orc_cons num19_ok (orc_cons refMay4_ok (orc_cons refRows_ok (orc_cons lawWithin_ok (orc_cons wakes19_ok orc_nil))))))))))
noncomputable def PutBack_B10 {R : Type} (rec : Int → Str → List Int → Int → Int → Int → Int → Int → Int → Int → Int → List Str → Option R) (x19 : Int) (s20 : Str) (l21 : List Int) (x22 : Int) (x23 : Int) (x24 : Int) (x25 : Int) (x26 : Int) (x27 : Int) (x28 : Int) (x29 : Int) (q30 : List Str) (ke0 : Bool → Option R) (ke1 : Int → Int → Int → Int → Int → Int → Int → Int → List Str → Option R) : Option R :=
  (bif (Decidable.decide (x22 < (↑(List.length l21) : Int))) then
  (bif (Decidable.decide (x22 < (60 : Int))) then
   refSmall_F s20 x22 ((120 : Int)) ((0 : Int)) (Go.IntKind.wrap Go.IntKind.i64 ((1 : Int) + Int.tmod x22 (3 : Int))) (fun x31 x32 s33 x34 s35 b36 x37 =>
    (bif (x37 != (0 : Int)) then
     rec x19 s20 l21 (Go.IntKind.wrap Go.IntKind.i64 (x22 + (1 : Int))) x23 x24 x25 x26 x27 x28 x29 q30
    else
     refApply_F s20 x31 x32 s33 (fun s38 =>
      putOf_F s38 x34 ((0 : Int)) s35 Bool.false ((80 : Int)) ((1 : Int)) (fun x39 x40 s41 x42 s43 b44 x45 =>
       num19_F x45 (fun x46 =>
        (bif (x46 != (0 : Int)) then
         ke0 Bool.false
        else
         refMay4_F s38 x39 x40 s41 (fun b47 =>
          (bif !b47 then
           ke0 Bool.false
          else
           (bif (x34 == x22) then
            refApply_F s38 x39 x40 s41 (fun s48 =>
             (bif (!s48 == s20) then
              ke0 Bool.false
             else
              putOf_F s20 x22 ((0 : Int)) ([(114 : UInt8), (111 : UInt8), (119 : UInt8)]) Bool.true ((112 : Int)) ((1 : Int)) (fun x49 x50 s51 x52 s53 b54 x55 =>
               num19_F x55 (fun x56 =>
                (bif (x56 != (0 : Int)) then
                 ke0 Bool.false
                else
                 refMay4_F s20 x49 x50 s51 (fun b57 =>
                  (bif !b57 then
                   ke0 Bool.false
                  else
                   refApply_F s20 x49 x50 s51 (fun s58 =>
                    refRows_F s58 (fun q59 =>
                     refRows_F s20 (fun q60 =>
                      (bif ((↑(List.length q59) : Int) != Go.IntKind.wrap Go.IntKind.i64 ((↑(List.length q60) : Int) + (1 : Int))) then
                       ke0 Bool.false
                      else
                       rec x19 s20 l21 (Go.IntKind.wrap Go.IntKind.i64 (x22 + (1 : Int))) x23 x24 x25 x26 x27 x28 x29 q30)))))))))))
           else
            putOf_F s20 x22 ((0 : Int)) ([(114 : UInt8), (111 : UInt8), (119 : UInt8)]) Bool.true ((112 : Int)) ((1 : Int)) (fun x61 x62 s63 x64 s65 b66 x67 =>
             num19_F x67 (fun x68 =>
              (bif (x68 != (0 : Int)) then
               ke0 Bool.false
              else
               refMay4_F s20 x61 x62 s63 (fun b69 =>
                (bif !b69 then
                 ke0 Bool.false
                else
                 refApply_F s20 x61 x62 s63 (fun s70 =>
                  refRows_F s70 (fun q71 =>
                   refRows_F s20 (fun q72 =>
                    (bif ((↑(List.length q71) : Int) != Go.IntKind.wrap Go.IntKind.i64 ((↑(List.length q72) : Int) + (1 : Int))) then
                     ke0 Bool.false
                    else
                     rec x19 s20 l21 (Go.IntKind.wrap Go.IntKind.i64 (x22 + (1 : Int))) x23 x24 x25 x26 x27 x28 x29 q30))))))))))))))))))
  else
   ke1 x19 x23 x24 x25 x26 x27 x28 x29 q30)
 else
  ke1 x19 x23 x24 x25 x26 x27 x28 x29 q30)
noncomputable def PutBack_L10 {R : Type} : Nat → Int → Str → List Int → Int → Int → Int → Int → Int → Int → Int → Int → List Str → (Bool → Option R) → (Int → Int → Int → Int → Int → Int → Int → Int → List Str → Option R) → Option R
  | 0, _, _, _, _, _, _, _, _, _, _, _, _, _, _ => none
  | n + 1, x19, s20, l21, x22, x23, x24, x25, x26, x27, x28, x29, q30, ke0, ke1 => PutBack_B10 (fun x19 s20 l21 x22 x23 x24 x25 x26 x27 x28 x29 q30 => PutBack_L10 n x19 s20 l21 x22 x23 x24 x25 x26 x27 x28 x29 q30 ke0 ke1) x19 s20 l21 x22 x23 x24 x25 x26 x27 x28 x29 q30 ke0 ke1
noncomputable def PutBack_M10 {R : Type} : Int → Str → List Int → Int → Int → Int → Int → Int → Int → Int → Int → List Str → (Bool → Option R) → (Int → Int → Int → Int → Int → Int → Int → Int → List Str → Option R) → Option R := lock (PutBack_L10 4611686018427387904)
theorem PutBack_M10_eq {R : Type} : @PutBack_M10 R = PutBack_L10 4611686018427387904 := lock_eq _
noncomputable def PutBack_B4 {R : Type} (rec : Int → Int → Int → Int → Int → Int → Int → Int → List Str → Option R) (x9 : Int) (x10 : Int) (x11 : Int) (x12 : Int) (x13 : Int) (x14 : Int) (x15 : Int) (x16 : Int) (q17 : List Str) (ke0 : Bool → Option R) (ke1 : Option R) : Option R :=
  (bif (Decidable.decide (x9 < (↑(List.length q17) : Int))) then
  (bif (Decidable.decide (x9 < (3 : Int))) then
   (bif (Decidable.decide ((0 : Int) ≤ x9) && Decidable.decide (x9 < (↑(List.length q17) : Int))) then
    refMay1_F (List.getD q17 (Int.toNat x9) []) (fun b18 =>
     (bif !b18 then
      rec (Go.IntKind.wrap Go.IntKind.i64 (x9 + (1 : Int))) x10 x11 x12 x13 x14 x15 x16 q17
     else
      (bif (Decidable.decide ((↑(List.length (List.getD q17 (Int.toNat x9) [])) : Int) > (1000 : Int))) then
       rec (Go.IntKind.wrap Go.IntKind.i64 (x9 + (1 : Int))) x10 x11 x12 x13 x14 x15 x16 q17
      else
       PutBack_M10 x9 (List.getD q17 (Int.toNat x9) []) (Go.QA.runesOf (List.getD q17 (Int.toNat x9) [])) ((0 : Int)) x10 x11 x12 x13 x14 x15 x16 q17
        (fun b73 =>
        ke0 b73)
        (fun x74 x75 x76 x77 x78 x79 x80 x81 q82 =>
        rec (Go.IntKind.wrap Go.IntKind.i64 (x74 + (1 : Int))) x75 x76 x77 x78 x79 x80 x81 q82))))
   else
    none)
  else
   ke1)
 else
  ke1)
noncomputable def PutBack_L4 {R : Type} : Nat → Int → Int → Int → Int → Int → Int → Int → Int → List Str → (Bool → Option R) → (Option R) → Option R
  | 0, _, _, _, _, _, _, _, _, _, _, _ => none
  | n + 1, x9, x10, x11, x12, x13, x14, x15, x16, q17, ke0, ke1 => PutBack_B4 (fun x9 x10 x11 x12 x13 x14 x15 x16 q17 => PutBack_L4 n x9 x10 x11 x12 x13 x14 x15 x16 q17 ke0 ke1) x9 x10 x11 x12 x13 x14 x15 x16 q17 ke0 ke1
noncomputable def PutBack_M4 {R : Type} : Int → Int → Int → Int → Int → Int → Int → Int → List Str → (Bool → Option R) → (Option R) → Option R := lock (PutBack_L4 4611686018427387904)
theorem PutBack_M4_eq {R : Type} : @PutBack_M4 R = PutBack_L4 4611686018427387904 := lock_eq _
noncomputable def PutBack_Lam0 (R : Type) : Lam R := fun _ _ _ => none
noncomputable def PutBack_body10 : Code := (findLoop 10 PutBack_code).getD .skip
def PutBack_S10 : QA.Spec := (⟨[.t 3, .t 4, .t 5, .t 6, .c 1 7, .c 1 6, .c 1 5, .c 1 4, .c 1 3, .c 1 2, .c 1 1, .c 1 0], [1], [], [(.t 1, 1, 0)], []⟩ : QA.Spec)
def PutBack_S10r : QA.Spec := (⟨[.t 2], [], [], [], []⟩ : QA.Spec)
def PutBack_S10e2 : QA.Spec := (⟨[.t 3, .c 1 7, .c 1 6, .c 1 5, .c 1 4, .c 1 3, .c 1 2, .c 1 1, .c 1 0], [1], [], [(.t 1, 1, 0)], []⟩ : QA.Spec)
def PutBack_X10 : AExit → Option QA.Spec
  | .normal => none
  | .exit j => bif Nat.beq j 2 then some PutBack_S10e2 else none
  | .ret => some PutBack_S10r
theorem PutBack_L10_eq {R : Type} (k : AExit → St → Option R) : ∀ (n : Nat) (a0 : Int) (a1 : Str) (a2 : List Int) (a3 : Int) (a4 : Int) (a5 : Int) (a6 : Int) (a7 : Int) (a8 : Int) (a9 : Int) (a10 : Int) (a11 : List Str), aloop PutBack_C (PutBack_G R) (PutBack_Lam0 R) PutBack_S10 PutBack_X10 PutBack_body10 n [D.int .i64 a0, D.str a1, D.sl (.ints .i32 a2), D.int .i64 a3, D.int .i64 a4, D.int .i64 a5, D.int .i64 a6, D.int .i64 a7, D.int .i64 a8, D.int .i64 a9, D.int .i64 a10, D.sl (.strs a11)] k = PutBack_L10 n a0 a1 a2 a3 a4 a5 a6 a7 a8 a9 a10 a11 (fun y0 => k .ret (mkSt PutBack_S10r [D.bool y0])) (fun y0 y1 y2 y3 y4 y5 y6 y7 y8 => k (.exit 2) (mkSt PutBack_S10e2 [D.int .i64 y0, D.int .i64 y1, D.int .i64 y2, D.int .i64 y3, D.int .i64 y4, D.int .i64 y5, D.int .i64 y6, D.int .i64 y7, D.sl (.strs y8)]))
  | 0, _, _, _, _, _, _, _, _, _, _, _, _ => rfl
  | n + 1, a0, a1, a2, a3, a4, a5, a6, a7, a8, a9, a10, a11 => by
    have h : (fun a0 a1 a2 a3 a4 a5 a6 a7 a8 a9 a10 a11 => aloop PutBack_C (PutBack_G R) (PutBack_Lam0 R) PutBack_S10 PutBack_X10 PutBack_body10 n [D.int .i64 a0, D.str a1, D.sl (.ints .i32 a2), D.int .i64 a3, D.int .i64 a4, D.int .i64 a5, D.int .i64 a6, D.int .i64 a7, D.int .i64 a8, D.int .i64 a9, D.int .i64 a10, D.sl (.strs a11)] k) = (fun a0 a1 a2 a3 a4 a5 a6 a7 a8 a9 a10 a11 => PutBack_L10 n a0 a1 a2 a3 a4 a5 a6 a7 a8 a9 a10 a11 (fun y0 => k .ret (mkSt PutBack_S10r [D.bool y0])) (fun y0 y1 y2 y3 y4 y5 y6 y7 y8 => k (.exit 2) (mkSt PutBack_S10e2 [D.int .i64 y0, D.int .i64 y1, D.int .i64 y2, D.int .i64 y3, D.int .i64 y4, D.int .i64 y5, D.int .i64 y6, D.int .i64 y7, D.sl (.strs y8)]))) := by
      funext a0 a1 a2 a3 a4 a5 a6 a7 a8 a9 a10 a11; exact PutBack_L10_eq k n a0 a1 a2 a3 a4 a5 a6 a7 a8 a9 a10 a11
    have s : aloop PutBack_C (PutBack_G R) (PutBack_Lam0 R) PutBack_S10 PutBack_X10 PutBack_body10 (n + 1) [D.int .i64 a0, D.str a1, D.sl (.ints .i32 a2), D.int .i64 a3, D.int .i64 a4, D.int .i64 a5, D.int .i64 a6, D.int .i64 a7, D.int .i64 a8, D.int .i64 a9, D.int .i64 a10, D.sl (.strs a11)] k = PutBack_B10 (fun a0 a1 a2 a3 a4 a5 a6 a7 a8 a9 a10 a11 => aloop PutBack_C (PutBack_G R) (PutBack_Lam0 R) PutBack_S10 PutBack_X10 PutBack_body10 n [D.int .i64 a0, D.str a1, D.sl (.ints .i32 a2), D.int .i64 a3, D.int .i64 a4, D.int .i64 a5, D.int .i64 a6, D.int .i64 a7, D.int .i64 a8, D.int .i64 a9, D.int .i64 a10, D.sl (.strs a11)] k) a0 a1 a2 a3 a4 a5 a6 a7 a8 a9 a10 a11 (fun y0 => k .ret (mkSt PutBack_S10r [D.bool y0])) (fun y0 y1 y2 y3 y4 y5 y6 y7 y8 => k (.exit 2) (mkSt PutBack_S10e2 [D.int .i64 y0, D.int .i64 y1, D.int .i64 y2, D.int .i64 y3, D.int .i64 y4, D.int .i64 y5, D.int .i64 y6, D.int .i64 y7, D.sl (.strs y8)])) := by kernel_rfl
    rw [s, h]; rfl
noncomputable def PutBack_A10 (R : Type) (ds : List D) (k : AExit → St → Option R) : Option R :=
  match ds with
  | [D.int .i64 a0, D.str a1, D.sl (.ints .i32 a2), D.int .i64 a3, D.int .i64 a4, D.int .i64 a5, D.int .i64 a6, D.int .i64 a7, D.int .i64 a8, D.int .i64 a9, D.int .i64 a10, D.sl (.strs a11)] => PutBack_M10 a0 a1 a2 a3 a4 a5 a6 a7 a8 a9 a10 a11 (fun y0 => k .ret (mkSt PutBack_S10r [D.bool y0])) (fun y0 y1 y2 y3 y4 y5 y6 y7 y8 => k (.exit 2) (mkSt PutBack_S10e2 [D.int .i64 y0, D.int .i64 y1, D.int .i64 y2, D.int .i64 y3, D.int .i64 y4, D.int .i64 y5, D.int .i64 y6, D.int .i64 y7, D.sl (.strs y8)]))
  | _ => none
noncomputable def PutBack_Lam1 (R : Type) : Lam R := fun key st k => bif Nat.beq key 10 then (match readSt PutBack_S10 st with | some ds => PutBack_A10 R ds k | none => none) else PutBack_Lam0 R key st k
theorem PutBack_A10_ok {R : Type} : ∀ ds k r, PutBack_A10 R ds k = some r → ∃ e st', k e st' = some r ∧ QA.Reach PutBack_C (.loop PutBack_body10) (mkSt PutBack_S10 ds) e st' := by
  intro ds k r h
  unfold PutBack_A10 at h
  split at h
  · rw [PutBack_M10_eq, ← PutBack_L10_eq] at h
    refine aloop_ok (C := PutBack_C) qOk (PutBack_Gok R) ?_ _ _ _ _ h
    rw [show loopsIn PutBack_body10 = [] from by kernel_rfl]
    intro b hb
    cases hb
  · cases h
noncomputable def PutBack_body4 : Code := (findLoop 4 PutBack_code).getD .skip
def PutBack_S4 : QA.Spec := (⟨[.t 3, .c 1 7, .c 1 6, .c 1 5, .c 1 4, .c 1 3, .c 1 2, .c 1 1, .c 1 0], [1], [], [(.t 1, 1, 0)], []⟩ : QA.Spec)
def PutBack_S4r : QA.Spec := (⟨[.t 2], [], [], [], []⟩ : QA.Spec)
def PutBack_S4e0 : QA.Spec := (⟨[], [], [], [], []⟩ : QA.Spec)
def PutBack_X4 : AExit → Option QA.Spec
  | .normal => none
  | .exit j => bif Nat.beq j 0 then some PutBack_S4e0 else none
  | .ret => some PutBack_S4r
theorem PutBack_L4_eq {R : Type} (k : AExit → St → Option R) : ∀ (n : Nat) (a0 : Int) (a1 : Int) (a2 : Int) (a3 : Int) (a4 : Int) (a5 : Int) (a6 : Int) (a7 : Int) (a8 : List Str), aloop PutBack_C (PutBack_G R) (PutBack_Lam1 R) PutBack_S4 PutBack_X4 PutBack_body4 n [D.int .i64 a0, D.int .i64 a1, D.int .i64 a2, D.int .i64 a3, D.int .i64 a4, D.int .i64 a5, D.int .i64 a6, D.int .i64 a7, D.sl (.strs a8)] k = PutBack_L4 n a0 a1 a2 a3 a4 a5 a6 a7 a8 (fun y0 => k .ret (mkSt PutBack_S4r [D.bool y0])) (k (.exit 0) (mkSt PutBack_S4e0 []))
  | 0, _, _, _, _, _, _, _, _, _ => rfl
  | n + 1, a0, a1, a2, a3, a4, a5, a6, a7, a8 => by
    have h : (fun a0 a1 a2 a3 a4 a5 a6 a7 a8 => aloop PutBack_C (PutBack_G R) (PutBack_Lam1 R) PutBack_S4 PutBack_X4 PutBack_body4 n [D.int .i64 a0, D.int .i64 a1, D.int .i64 a2, D.int .i64 a3, D.int .i64 a4, D.int .i64 a5, D.int .i64 a6, D.int .i64 a7, D.sl (.strs a8)] k) = (fun a0 a1 a2 a3 a4 a5 a6 a7 a8 => PutBack_L4 n a0 a1 a2 a3 a4 a5 a6 a7 a8 (fun y0 => k .ret (mkSt PutBack_S4r [D.bool y0])) (k (.exit 0) (mkSt PutBack_S4e0 []))) := by
      funext a0 a1 a2 a3 a4 a5 a6 a7 a8; exact PutBack_L4_eq k n a0 a1 a2 a3 a4 a5 a6 a7 a8
    have s : aloop PutBack_C (PutBack_G R) (PutBack_Lam1 R) PutBack_S4 PutBack_X4 PutBack_body4 (n + 1) [D.int .i64 a0, D.int .i64 a1, D.int .i64 a2, D.int .i64 a3, D.int .i64 a4, D.int .i64 a5, D.int .i64 a6, D.int .i64 a7, D.sl (.strs a8)] k = PutBack_B4 (fun a0 a1 a2 a3 a4 a5 a6 a7 a8 => aloop PutBack_C (PutBack_G R) (PutBack_Lam1 R) PutBack_S4 PutBack_X4 PutBack_body4 n [D.int .i64 a0, D.int .i64 a1, D.int .i64 a2, D.int .i64 a3, D.int .i64 a4, D.int .i64 a5, D.int .i64 a6, D.int .i64 a7, D.sl (.strs a8)] k) a0 a1 a2 a3 a4 a5 a6 a7 a8 (fun y0 => k .ret (mkSt PutBack_S4r [D.bool y0])) (k (.exit 0) (mkSt PutBack_S4e0 [])) := by kernel_rfl
    rw [s, h]; rfl
noncomputable def PutBack_A4 (R : Type) (ds : List D) (k : AExit → St → Option R) : Option R :=
  match ds with
  | [D.int .i64 a0, D.int .i64 a1, D.int .i64 a2, D.int .i64 a3, D.int .i64 a4, D.int .i64 a5, D.int .i64 a6, D.int .i64 a7, D.sl (.strs a8)] => PutBack_M4 a0 a1 a2 a3 a4 a5 a6 a7 a8 (fun y0 => k .ret (mkSt PutBack_S4r [D.bool y0])) (k (.exit 0) (mkSt PutBack_S4e0 []))
  | _ => none
noncomputable def PutBack_Lam2 (R : Type) : Lam R := fun key st k => bif Nat.beq key 4 then (match readSt PutBack_S4 st with | some ds => PutBack_A4 R ds k | none => none) else PutBack_Lam1 R key st k
theorem PutBack_A4_ok {R : Type} : ∀ ds k r, PutBack_A4 R ds k = some r → ∃ e st', k e st' = some r ∧ QA.Reach PutBack_C (.loop PutBack_body4) (mkSt PutBack_S4 ds) e st' := by
  intro ds k r h
  unfold PutBack_A4 at h
  split at h
  · rw [PutBack_M4_eq, ← PutBack_L4_eq] at h
    refine aloop_ok (C := PutBack_C) qOk (PutBack_Gok R) ?_ _ _ _ _ h
    rw [show loopsIn PutBack_body4 = [PutBack_body10] from by kernel_rfl]
    intro b hb
    simp only [List.mem_cons, List.not_mem_nil, or_false] at hb
    subst hb
    exact lam_of (key := 10) (S := PutBack_S10) (L := PutBack_A10 R) (fun st k => by kernel_rfl) (by kernel_rfl) PutBack_A10_ok
  · cases h
noncomputable def PutBack_T {R : Type} (q0 : List Str) (x1 : Int) (x2 : Int) (x3 : Int) (x4 : Int) (x5 : Int) (x6 : Int) (x7 : Int) (k : Bool → Option R) : Option R :=
  lawHeavy10_F q0 x1 x2 x3 x4 x5 x6 x7 (fun b8 =>
  (bif b8 then
   k Bool.true
  else
   PutBack_M4 ((0 : Int)) x7 x6 x5 x4 x3 x2 x1 q0
    (fun b83 =>
    k b83)
    (
    lawWithin_F ((3 : Int)) ((2 : Int)) (fun x84 =>
     (bif (x84 == (1 : Int)) then
      wakes19_F (fun b85 =>
       k b85)
     else
      k Bool.false)))))
noncomputable def PutBack_F {R : Type} : List Str → Int → Int → Int → Int → Int → Int → Int → (Bool → Option R) → Option R := lock PutBack_T
theorem PutBack_F_T {R : Type} : @PutBack_F R = PutBack_T := lock_eq _
theorem PutBack_F_eq {R : Type} (q0 : List Str) (x1 : Int) (x2 : Int) (x3 : Int) (x4 : Int) (x5 : Int) (x6 : Int) (x7 : Int) (k : D → Option R) : afun qP [] (PutBack_G R) (PutBack_Lam2 R) Tryd.f3 [D.agg [D.sl (.strs q0), D.int .i64 x1, D.int .i64 x2, D.int .i64 x3, D.int .i64 x4, D.int .i64 x5, D.int .i64 x6, D.int .i64 x7]] k = PutBack_T q0 x1 x2 x3 x4 x5 x6 x7 (fun y0 => k (D.bool y0)) := by kernel_rfl
noncomputable def PutBack_abs (R : Type) (ds : List D) (k : D → Option R) : Option R :=
  match ds with
  | [D.agg [D.sl (.strs q0), D.int .i64 x1, D.int .i64 x2, D.int .i64 x3, D.int .i64 x4, D.int .i64 x5, D.int .i64 x6, D.int .i64 x7]] => PutBack_F q0 x1 x2 x3 x4 x5 x6 x7 (fun y0 => k (D.bool y0))
  | _ => none
theorem PutBack_ok : FnOk qP 3 PutBack_abs := by
  intro R ds k r h
  unfold PutBack_abs at h
  split at h
  · rw [PutBack_F_T, ← PutBack_F_eq] at h
    refine afun_ok (P := qP) (c := PutBack_code) qOk (PutBack_Gok R) Tryd.func3 (by kernel_rfl) (by kernel_rfl) ?_ ?_ (by kernel_rfl) h
    rotate_left
    · exact Nat.le_of_ble_eq_true (by kernel_rfl)
    rw [show loopsIn PutBack_code = [PutBack_body4] from by kernel_rfl]
    intro b hb
    simp only [List.mem_cons, List.not_mem_nil, or_false] at hb
    subst hb
    exact lam_of (key := 4) (S := PutBack_S4) (L := PutBack_A4 R) (fun st k => by kernel_rfl) (by kernel_rfl) PutBack_A4_ok
  · cases h

end Go.Proofs.YtleoffdjdgbanaaDoor
