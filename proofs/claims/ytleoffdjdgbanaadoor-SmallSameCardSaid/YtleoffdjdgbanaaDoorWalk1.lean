/- Functions as the model has them, and plain functions with the same answers: printed by a program of mine. -/
import Derived.Test.YtleoffdjdgbanaaDoorGround
set_option linter.unusedVariables false
set_option linter.unusedSimpArgs false
set_option linter.unusedVariables false
set_option linter.unusedSimpArgs false
set_option maxRecDepth 1000000
namespace Go.Proofs.YtleoffdjdgbanaaDoor
open Go Go.QA Go.Proofs

/-! ### MapCut: function 62 -/

noncomputable def MapCut_C : Cfg := ⟨qP, Tryd.f62.ntmps, []⟩
noncomputable def MapCut_code : Code := Tryd.f62.body.getD .skip
noncomputable def MapCut_G (R : Type) : Orc R := fun _ _ _ => none
theorem MapCut_Gok (R : Type) : OrcOk qP (MapCut_G R) := orc_nil
noncomputable def MapCut_Lam0 (R : Type) : Lam R := fun _ _ _ => none
noncomputable def MapCut_T {R : Type} (l0 : List Int) (l1 : List Int) (x2 : Int) (x3 : Int) (k : Str → Option R) : Option R :=
  (bif (Decidable.decide ((0 : Int) ≤ x3) && Decidable.decide (x3 ≤ (↑(List.length l0) : Int))) then
  (bif (Decidable.decide ((0 : Int) ≤ x2) && Decidable.decide (x2 ≤ (↑(Int.toNat x3) : Int))) then
   k (Go.QA.strOf (List.drop (Int.toNat x2) (List.take (Int.toNat x3) l0)))
  else
   none)
 else
  none)
noncomputable def MapCut_F {R : Type} : List Int → List Int → Int → Int → (Str → Option R) → Option R := lock MapCut_T
theorem MapCut_F_T {R : Type} : @MapCut_F R = MapCut_T := lock_eq _
theorem MapCut_F_eq {R : Type} (l0 : List Int) (l1 : List Int) (x2 : Int) (x3 : Int) (k : D → Option R) : afun qP [] (MapCut_G R) (MapCut_Lam0 R) Tryd.f62 [D.ptr [D.sl (.ints .i32 l0), D.sl (.ints .i64 l1)], D.int .i64 x2, D.int .i64 x3] k = MapCut_T l0 l1 x2 x3 (fun y0 => k (D.str y0)) := by kernel_rfl
noncomputable def MapCut_abs (R : Type) (ds : List D) (k : D → Option R) : Option R :=
  match ds with
  | [D.ptr [D.sl (.ints .i32 l0), D.sl (.ints .i64 l1)], D.int .i64 x2, D.int .i64 x3] => MapCut_F l0 l1 x2 x3 (fun y0 => k (D.str y0))
  | _ => none
theorem MapCut_ok : FnOk qP 62 MapCut_abs := by
  intro R ds k r h
  unfold MapCut_abs at h
  split at h
  · rw [MapCut_F_T, ← MapCut_F_eq] at h
    refine afun_ok (P := qP) (c := MapCut_code) qOk (MapCut_Gok R) Tryd.func62 (by kernel_rfl) (by kernel_rfl) ?_ ?_ (by kernel_rfl) h
    rotate_left
    · exact Nat.le_of_ble_eq_true (by kernel_rfl)
    rw [show loopsIn MapCut_code = [] from by kernel_rfl]
    intro b hb
    cases hb
  · cases h

/-! ### MapEnd: function 72 -/

noncomputable def MapEnd_C : Cfg := ⟨qP, Tryd.f72.ntmps, []⟩
noncomputable def MapEnd_code : Code := Tryd.f72.body.getD .skip
noncomputable def MapEnd_G (R : Type) : Orc R := fun _ _ _ => none
theorem MapEnd_Gok (R : Type) : OrcOk qP (MapEnd_G R) := orc_nil
noncomputable def MapEnd_Lam0 (R : Type) : Lam R := fun _ _ _ => none
noncomputable def MapEnd_T {R : Type} (l0 : List Int) (l1 : List Int) (x2 : Int) (k : Int → Option R) : Option R :=
  (bif (Decidable.decide (Go.IntKind.wrap Go.IntKind.i64 (x2 + (1 : Int)) < (↑(List.length l1) : Int))) then
  (bif (Decidable.decide ((0 : Int) ≤ Go.IntKind.wrap Go.IntKind.i64 (x2 + (1 : Int))) && Decidable.decide (Go.IntKind.wrap Go.IntKind.i64 (x2 + (1 : Int)) < (↑(List.length l1) : Int))) then
   k (Go.IntKind.wrap Go.IntKind.i64 (List.getD l1 (Int.toNat (Go.IntKind.wrap Go.IntKind.i64 (x2 + (1 : Int)))) (0 : Int) - (1 : Int)))
  else
   none)
 else
  k ((↑(List.length l0) : Int)))
noncomputable def MapEnd_F {R : Type} : List Int → List Int → Int → (Int → Option R) → Option R := lock MapEnd_T
theorem MapEnd_F_T {R : Type} : @MapEnd_F R = MapEnd_T := lock_eq _
theorem MapEnd_F_eq {R : Type} (l0 : List Int) (l1 : List Int) (x2 : Int) (k : D → Option R) : afun qP [] (MapEnd_G R) (MapEnd_Lam0 R) Tryd.f72 [D.ptr [D.sl (.ints .i32 l0), D.sl (.ints .i64 l1)], D.int .i64 x2] k = MapEnd_T l0 l1 x2 (fun y0 => k (D.int .i64 y0)) := by kernel_rfl
noncomputable def MapEnd_abs (R : Type) (ds : List D) (k : D → Option R) : Option R :=
  match ds with
  | [D.ptr [D.sl (.ints .i32 l0), D.sl (.ints .i64 l1)], D.int .i64 x2] => MapEnd_F l0 l1 x2 (fun y0 => k (D.int .i64 y0))
  | _ => none
theorem MapEnd_ok : FnOk qP 72 MapEnd_abs := by
  intro R ds k r h
  unfold MapEnd_abs at h
  split at h
  · rw [MapEnd_F_T, ← MapEnd_F_eq] at h
    refine afun_ok (P := qP) (c := MapEnd_code) qOk (MapEnd_Gok R) Tryd.func72 (by kernel_rfl) (by kernel_rfl) ?_ ?_ (by kernel_rfl) h
    rotate_left
    · exact Nat.le_of_ble_eq_true (by kernel_rfl)
    rw [show loopsIn MapEnd_code = [] from by kernel_rfl]
    intro b hb
    cases hb
  · cases h

/-! ### MapIs: function 53 -/

noncomputable def MapIs_C : Cfg := ⟨qP, Tryd.f53.ntmps, []⟩
noncomputable def MapIs_code : Code := Tryd.f53.body.getD .skip
noncomputable def MapIs_G (R : Type) : Orc R := fun _ _ _ => none
theorem MapIs_Gok (R : Type) : OrcOk qP (MapIs_G R) := orc_nil
noncomputable def MapIs_Lam0 (R : Type) : Lam R := fun _ _ _ => none
noncomputable def MapIs_T {R : Type} (l0 : List Int) (l1 : List Int) (x2 : Int) (k : Bool → Option R) : Option R :=
  (bif (Decidable.decide (x2 ≥ (0 : Int))) then
  k (Decidable.decide (x2 ≤ (↑(List.length l0) : Int)))
 else
  k Bool.false)
noncomputable def MapIs_F {R : Type} : List Int → List Int → Int → (Bool → Option R) → Option R := lock MapIs_T
theorem MapIs_F_T {R : Type} : @MapIs_F R = MapIs_T := lock_eq _
theorem MapIs_F_eq {R : Type} (l0 : List Int) (l1 : List Int) (x2 : Int) (k : D → Option R) : afun qP [] (MapIs_G R) (MapIs_Lam0 R) Tryd.f53 [D.ptr [D.sl (.ints .i32 l0), D.sl (.ints .i64 l1)], D.int .i64 x2] k = MapIs_T l0 l1 x2 (fun y0 => k (D.bool y0)) := by kernel_rfl
noncomputable def MapIs_abs (R : Type) (ds : List D) (k : D → Option R) : Option R :=
  match ds with
  | [D.ptr [D.sl (.ints .i32 l0), D.sl (.ints .i64 l1)], D.int .i64 x2] => MapIs_F l0 l1 x2 (fun y0 => k (D.bool y0))
  | _ => none
theorem MapIs_ok : FnOk qP 53 MapIs_abs := by
  intro R ds k r h
  unfold MapIs_abs at h
  split at h
  · rw [MapIs_F_T, ← MapIs_F_eq] at h
    refine afun_ok (P := qP) (c := MapIs_code) qOk (MapIs_Gok R) Tryd.func53 (by kernel_rfl) (by kernel_rfl) ?_ ?_ (by kernel_rfl) h
    rotate_left
    · exact Nat.le_of_ble_eq_true (by kernel_rfl)
    rw [show loopsIn MapIs_code = [] from by kernel_rfl]
    intro b hb
    cases hb
  · cases h

/-! ### MapRow: function 71 -/

noncomputable def MapRow_C : Cfg := ⟨qP, Tryd.f71.ntmps, []⟩
noncomputable def MapRow_code : Code := Tryd.f71.body.getD .skip
noncomputable def MapRow_G (R : Type) : Orc R := fun _ _ _ => none
theorem MapRow_Gok (R : Type) : OrcOk qP (MapRow_G R) := orc_nil
noncomputable def MapRow_B2 {R : Type} (rec : List Int → List Int → Int → Int → Option R) (l3 : List Int) (l4 : List Int) (x5 : Int) (x6 : Int) (ke0 : Int → Option R) : Option R :=
  (bif (Decidable.decide (Go.IntKind.wrap Go.IntKind.i64 (x6 + (1 : Int)) < (↑(List.length l4) : Int))) then
  (bif (Decidable.decide ((0 : Int) ≤ Go.IntKind.wrap Go.IntKind.i64 (x6 + (1 : Int))) && Decidable.decide (Go.IntKind.wrap Go.IntKind.i64 (x6 + (1 : Int)) < (↑(List.length l4) : Int))) then
   (bif (Decidable.decide (List.getD l4 (Int.toNat (Go.IntKind.wrap Go.IntKind.i64 (x6 + (1 : Int)))) (0 : Int) ≤ x5)) then
    rec l3 l4 x5 (Go.IntKind.wrap Go.IntKind.i64 (x6 + (1 : Int)))
   else
    ke0 x6)
  else
   none)
 else
  ke0 x6)
noncomputable def MapRow_L2 {R : Type} : Nat → List Int → List Int → Int → Int → (Int → Option R) → Option R
  | 0, _, _, _, _, _ => none
  | n + 1, l3, l4, x5, x6, ke0 => MapRow_B2 (fun l3 l4 x5 x6 => MapRow_L2 n l3 l4 x5 x6 ke0) l3 l4 x5 x6 ke0
noncomputable def MapRow_M2 {R : Type} : List Int → List Int → Int → Int → (Int → Option R) → Option R := lock (MapRow_L2 4611686018427387904)
theorem MapRow_M2_eq {R : Type} : @MapRow_M2 R = MapRow_L2 4611686018427387904 := lock_eq _
noncomputable def MapRow_Lam0 (R : Type) : Lam R := fun _ _ _ => none
noncomputable def MapRow_body2 : Code := (findLoop 2 MapRow_code).getD .skip
def MapRow_S2 : QA.Spec := (⟨[.t 0, .t 1, .t 5], [], [], [], []⟩ : QA.Spec)
def MapRow_S2e0 : QA.Spec := (⟨[.t 5], [], [], [], []⟩ : QA.Spec)
def MapRow_X2 : AExit → Option QA.Spec
  | .normal => none
  | .exit j => bif Nat.beq j 0 then some MapRow_S2e0 else none
  | .ret => none
theorem MapRow_L2_eq {R : Type} (k : AExit → St → Option R) : ∀ (n : Nat) (a0 : List Int) (a1 : List Int) (a2 : Int) (a3 : Int), aloop MapRow_C (MapRow_G R) (MapRow_Lam0 R) MapRow_S2 MapRow_X2 MapRow_body2 n [D.ptr [D.sl (.ints .i32 a0), D.sl (.ints .i64 a1)], D.int .i64 a2, D.int .i64 a3] k = MapRow_L2 n a0 a1 a2 a3 (fun y0 => k (.exit 0) (mkSt MapRow_S2e0 [D.int .i64 y0]))
  | 0, _, _, _, _ => rfl
  | n + 1, a0, a1, a2, a3 => by
    have h : (fun a0 a1 a2 a3 => aloop MapRow_C (MapRow_G R) (MapRow_Lam0 R) MapRow_S2 MapRow_X2 MapRow_body2 n [D.ptr [D.sl (.ints .i32 a0), D.sl (.ints .i64 a1)], D.int .i64 a2, D.int .i64 a3] k) = (fun a0 a1 a2 a3 => MapRow_L2 n a0 a1 a2 a3 (fun y0 => k (.exit 0) (mkSt MapRow_S2e0 [D.int .i64 y0]))) := by
      funext a0 a1 a2 a3; exact MapRow_L2_eq k n a0 a1 a2 a3
    have s : aloop MapRow_C (MapRow_G R) (MapRow_Lam0 R) MapRow_S2 MapRow_X2 MapRow_body2 (n + 1) [D.ptr [D.sl (.ints .i32 a0), D.sl (.ints .i64 a1)], D.int .i64 a2, D.int .i64 a3] k = MapRow_B2 (fun a0 a1 a2 a3 => aloop MapRow_C (MapRow_G R) (MapRow_Lam0 R) MapRow_S2 MapRow_X2 MapRow_body2 n [D.ptr [D.sl (.ints .i32 a0), D.sl (.ints .i64 a1)], D.int .i64 a2, D.int .i64 a3] k) a0 a1 a2 a3 (fun y0 => k (.exit 0) (mkSt MapRow_S2e0 [D.int .i64 y0])) := by kernel_rfl
    rw [s, h]; rfl
noncomputable def MapRow_A2 (R : Type) (ds : List D) (k : AExit → St → Option R) : Option R :=
  match ds with
  | [D.ptr [D.sl (.ints .i32 a0), D.sl (.ints .i64 a1)], D.int .i64 a2, D.int .i64 a3] => MapRow_M2 a0 a1 a2 a3 (fun y0 => k (.exit 0) (mkSt MapRow_S2e0 [D.int .i64 y0]))
  | _ => none
noncomputable def MapRow_Lam1 (R : Type) : Lam R := fun key st k => bif Nat.beq key 2 then (match readSt MapRow_S2 st with | some ds => MapRow_A2 R ds k | none => none) else MapRow_Lam0 R key st k
theorem MapRow_A2_ok {R : Type} : ∀ ds k r, MapRow_A2 R ds k = some r → ∃ e st', k e st' = some r ∧ QA.Reach MapRow_C (.loop MapRow_body2) (mkSt MapRow_S2 ds) e st' := by
  intro ds k r h
  unfold MapRow_A2 at h
  split at h
  · rw [MapRow_M2_eq, ← MapRow_L2_eq] at h
    refine aloop_ok (C := MapRow_C) qOk (MapRow_Gok R) ?_ _ _ _ _ h
    rw [show loopsIn MapRow_body2 = [] from by kernel_rfl]
    intro b hb
    cases hb
  · cases h
noncomputable def MapRow_T {R : Type} (l0 : List Int) (l1 : List Int) (x2 : Int) (k : Int → Option R) : Option R :=
  MapRow_M2 l0 l1 x2 ((0 : Int))
  (fun x7 =>
  k x7)
noncomputable def MapRow_F {R : Type} : List Int → List Int → Int → (Int → Option R) → Option R := lock MapRow_T
theorem MapRow_F_T {R : Type} : @MapRow_F R = MapRow_T := lock_eq _
theorem MapRow_F_eq {R : Type} (l0 : List Int) (l1 : List Int) (x2 : Int) (k : D → Option R) : afun qP [] (MapRow_G R) (MapRow_Lam1 R) Tryd.f71 [D.ptr [D.sl (.ints .i32 l0), D.sl (.ints .i64 l1)], D.int .i64 x2] k = MapRow_T l0 l1 x2 (fun y0 => k (D.int .i64 y0)) := by kernel_rfl
noncomputable def MapRow_abs (R : Type) (ds : List D) (k : D → Option R) : Option R :=
  match ds with
  | [D.ptr [D.sl (.ints .i32 l0), D.sl (.ints .i64 l1)], D.int .i64 x2] => MapRow_F l0 l1 x2 (fun y0 => k (D.int .i64 y0))
  | _ => none
theorem MapRow_ok : FnOk qP 71 MapRow_abs := by
  intro R ds k r h
  unfold MapRow_abs at h
  split at h
  · rw [MapRow_F_T, ← MapRow_F_eq] at h
    refine afun_ok (P := qP) (c := MapRow_code) qOk (MapRow_Gok R) Tryd.func71 (by kernel_rfl) (by kernel_rfl) ?_ ?_ (by kernel_rfl) h
    rotate_left
    · exact Nat.le_of_ble_eq_true (by kernel_rfl)
    rw [show loopsIn MapRow_code = [MapRow_body2] from by kernel_rfl]
    intro b hb
    simp only [List.mem_cons, List.not_mem_nil, or_false] at hb
    subst hb
    exact lam_of (key := 2) (S := MapRow_S2) (L := MapRow_A2 R) (fun st k => by kernel_rfl) (by kernel_rfl) MapRow_A2_ok
  · cases h

/-! ### MapRows: function 92 -/

noncomputable def MapRows_C : Cfg := ⟨qP, Tryd.f92.ntmps, []⟩
noncomputable def MapRows_code : Code := Tryd.f92.body.getD .skip
noncomputable def MapRows_G (R : Type) : Orc R := fun _ _ _ => none
theorem MapRows_Gok (R : Type) : OrcOk qP (MapRows_G R) := orc_nil
noncomputable def MapRows_Lam0 (R : Type) : Lam R := fun _ _ _ => none
noncomputable def MapRows_T {R : Type} (l0 : List Int) (l1 : List Int) (k : Int → Option R) : Option R :=
  k ((↑(List.length l1) : Int))
noncomputable def MapRows_F {R : Type} : List Int → List Int → (Int → Option R) → Option R := lock MapRows_T
theorem MapRows_F_T {R : Type} : @MapRows_F R = MapRows_T := lock_eq _
theorem MapRows_F_eq {R : Type} (l0 : List Int) (l1 : List Int) (k : D → Option R) : afun qP [] (MapRows_G R) (MapRows_Lam0 R) Tryd.f92 [D.ptr [D.sl (.ints .i32 l0), D.sl (.ints .i64 l1)]] k = MapRows_T l0 l1 (fun y0 => k (D.int .i64 y0)) := by kernel_rfl
noncomputable def MapRows_abs (R : Type) (ds : List D) (k : D → Option R) : Option R :=
  match ds with
  | [D.ptr [D.sl (.ints .i32 l0), D.sl (.ints .i64 l1)]] => MapRows_F l0 l1 (fun y0 => k (D.int .i64 y0))
  | _ => none
theorem MapRows_ok : FnOk qP 92 MapRows_abs := by
  intro R ds k r h
  unfold MapRows_abs at h
  split at h
  · rw [MapRows_F_T, ← MapRows_F_eq] at h
    refine afun_ok (P := qP) (c := MapRows_code) qOk (MapRows_Gok R) Tryd.func92 (by kernel_rfl) (by kernel_rfl) ?_ ?_ (by kernel_rfl) h
    rotate_left
    · exact Nat.le_of_ble_eq_true (by kernel_rfl)
    rw [show loopsIn MapRows_code = [] from by kernel_rfl]
    intro b hb
    cases hb
  · cases h

/-! ### Turned18: function 49 -/

noncomputable def Turned18_C : Cfg := ⟨qP, Tryd.f49.ntmps, []⟩
noncomputable def Turned18_code : Code := Tryd.f49.body.getD .skip
noncomputable def Turned18_G (R : Type) : Orc R := fun _ _ _ => none
theorem Turned18_Gok (R : Type) : OrcOk qP (Turned18_G R) := orc_nil
noncomputable def Turned18_Lam0 (R : Type) : Lam R := fun _ _ _ => none
noncomputable def Turned18_T {R : Type} (x0 : Int) (x1 : Int) (k : Int → Option R) : Option R :=
  (bif (Decidable.decide (x0 ≥ (97 : Int))) then
  (bif (Decidable.decide (x0 ≥ (65 : Int))) then
   (bif (Decidable.decide (x0 ≤ (90 : Int))) then
    (bif (x1 != (85 : Int)) then
     k (Go.IntKind.wrap Go.IntKind.i32 (Go.IntKind.wrap Go.IntKind.i32 (x0 + (97 : Int)) - (65 : Int)))
    else
     (bif (Decidable.decide (x0 ≤ (122 : Int))) then
      (bif (x1 != (117 : Int)) then
       k (Go.IntKind.wrap Go.IntKind.i32 (Go.IntKind.wrap Go.IntKind.i32 (x0 - (97 : Int)) + (65 : Int)))
      else
       k x0)
     else
      k x0))
   else
    (bif (Decidable.decide (x0 ≤ (122 : Int))) then
     (bif (x1 != (117 : Int)) then
      k (Go.IntKind.wrap Go.IntKind.i32 (Go.IntKind.wrap Go.IntKind.i32 (x0 - (97 : Int)) + (65 : Int)))
     else
      k x0)
    else
     k x0))
  else
   (bif (Decidable.decide (x0 ≤ (122 : Int))) then
    (bif (x1 != (117 : Int)) then
     k (Go.IntKind.wrap Go.IntKind.i32 (Go.IntKind.wrap Go.IntKind.i32 (x0 - (97 : Int)) + (65 : Int)))
    else
     k x0)
   else
    k x0))
 else
  (bif (Decidable.decide (x0 ≥ (65 : Int))) then
   (bif (Decidable.decide (x0 ≤ (90 : Int))) then
    (bif (x1 != (85 : Int)) then
     k (Go.IntKind.wrap Go.IntKind.i32 (Go.IntKind.wrap Go.IntKind.i32 (x0 + (97 : Int)) - (65 : Int)))
    else
     k x0)
   else
    k x0)
  else
   k x0))
noncomputable def Turned18_F {R : Type} : Int → Int → (Int → Option R) → Option R := lock Turned18_T
theorem Turned18_F_T {R : Type} : @Turned18_F R = Turned18_T := lock_eq _
theorem Turned18_F_eq {R : Type} (x0 : Int) (x1 : Int) (k : D → Option R) : afun qP [] (Turned18_G R) (Turned18_Lam0 R) Tryd.f49 [D.int .i32 x0, D.int .i64 x1] k = Turned18_T x0 x1 (fun y0 => k (D.int .i32 y0)) := by kernel_rfl
noncomputable def Turned18_abs (R : Type) (ds : List D) (k : D → Option R) : Option R :=
  match ds with
  | [D.int .i32 x0, D.int .i64 x1] => Turned18_F x0 x1 (fun y0 => k (D.int .i32 y0))
  | _ => none
theorem Turned18_ok : FnOk qP 49 Turned18_abs := by
  intro R ds k r h
  unfold Turned18_abs at h
  split at h
  · rw [Turned18_F_T, ← Turned18_F_eq] at h
    refine afun_ok (P := qP) (c := Turned18_code) qOk (Turned18_Gok R) Tryd.func49 (by kernel_rfl) (by kernel_rfl) ?_ ?_ (by kernel_rfl) h
    rotate_left
    · exact Nat.le_of_ble_eq_true (by kernel_rfl)
    rw [show loopsIn Turned18_code = [] from by kernel_rfl]
    intro b hb
    cases hb
  · cases h

/-! ### changeGone: function 91 -/

noncomputable def changeGone_C : Cfg := ⟨qP, Tryd.f91.ntmps, []⟩
noncomputable def changeGone_code : Code := Tryd.f91.body.getD .skip
noncomputable def changeGone_G (R : Type) : Orc R := fun _ _ _ => none
theorem changeGone_Gok (R : Type) : OrcOk qP (changeGone_G R) := orc_nil
noncomputable def changeGone_Lam0 (R : Type) : Lam R := fun _ _ _ => none
noncomputable def changeGone_T {R : Type} (l0 : List Int) (l1 : List Int) (x2 : Int) (x3 : Int) (b4 : Bool) (k : Str → Option R) : Option R :=
  (bif !b4 then
  (bif (Decidable.decide ((0 : Int) ≤ x2) && Decidable.decide (x2 ≤ (↑(List.length l0) : Int))) then
   (bif (Decidable.decide ((0 : Int) ≤ x3) && Decidable.decide (x3 ≤ (↑(List.length l0) : Int))) then
    (bif (Decidable.decide (List.length (Go.QA.strOf (List.drop (0 : Nat) (List.take (Int.toNat x2) l0))) + List.length (Go.QA.strOf (List.drop (Int.toNat x3) (List.take (List.length l0) l0))) ≤ (9223372036854775807 : Nat))) then
     k (Go.QA.strOf (List.drop (0 : Nat) (List.take (Int.toNat x2) l0)) ++ Go.QA.strOf (List.drop (Int.toNat x3) (List.take (List.length l0) l0)))
    else
     none)
   else
    none)
  else
   none)
 else
  (bif (Decidable.decide (x3 < (↑(List.length l0) : Int))) then
   (bif (Decidable.decide ((0 : Int) ≤ x2) && Decidable.decide (x2 ≤ (↑(List.length l0) : Int))) then
    (bif (Decidable.decide ((0 : Int) ≤ Go.IntKind.wrap Go.IntKind.i64 (x3 + (1 : Int))) && Decidable.decide (Go.IntKind.wrap Go.IntKind.i64 (x3 + (1 : Int)) ≤ (↑(List.length l0) : Int))) then
     (bif (Decidable.decide (List.length (Go.QA.strOf (List.drop (0 : Nat) (List.take (Int.toNat x2) l0))) + List.length (Go.QA.strOf (List.drop (Int.toNat (Go.IntKind.wrap Go.IntKind.i64 (x3 + (1 : Int)))) (List.take (List.length l0) l0))) ≤ (9223372036854775807 : Nat))) then
      k (Go.QA.strOf (List.drop (0 : Nat) (List.take (Int.toNat x2) l0)) ++ Go.QA.strOf (List.drop (Int.toNat (Go.IntKind.wrap Go.IntKind.i64 (x3 + (1 : Int)))) (List.take (List.length l0) l0)))
     else
      none)
    else
     none)
   else
    none)
  else
   (bif (Decidable.decide (x2 > (0 : Int))) then
    (bif (Decidable.decide ((0 : Int) ≤ Go.IntKind.wrap Go.IntKind.i64 (x2 - (1 : Int))) && Decidable.decide (Go.IntKind.wrap Go.IntKind.i64 (x2 - (1 : Int)) ≤ (↑(List.length l0) : Int))) then
     (bif (Decidable.decide ((0 : Int) ≤ x3) && Decidable.decide (x3 ≤ (↑(List.length l0) : Int))) then
      (bif (Decidable.decide (List.length (Go.QA.strOf (List.drop (0 : Nat) (List.take (Int.toNat (Go.IntKind.wrap Go.IntKind.i64 (x2 - (1 : Int)))) l0))) + List.length (Go.QA.strOf (List.drop (Int.toNat x3) (List.take (List.length l0) l0))) ≤ (9223372036854775807 : Nat))) then
       k (Go.QA.strOf (List.drop (0 : Nat) (List.take (Int.toNat (Go.IntKind.wrap Go.IntKind.i64 (x2 - (1 : Int)))) l0)) ++ Go.QA.strOf (List.drop (Int.toNat x3) (List.take (List.length l0) l0)))
      else
       none)
     else
      none)
    else
     none)
   else
    (bif (Decidable.decide ((0 : Int) ≤ x2) && Decidable.decide (x2 ≤ (↑(List.length l0) : Int))) then
     (bif (Decidable.decide ((0 : Int) ≤ x3) && Decidable.decide (x3 ≤ (↑(List.length l0) : Int))) then
      (bif (Decidable.decide (List.length (Go.QA.strOf (List.drop (0 : Nat) (List.take (Int.toNat x2) l0))) + List.length (Go.QA.strOf (List.drop (Int.toNat x3) (List.take (List.length l0) l0))) ≤ (9223372036854775807 : Nat))) then
       k (Go.QA.strOf (List.drop (0 : Nat) (List.take (Int.toNat x2) l0)) ++ Go.QA.strOf (List.drop (Int.toNat x3) (List.take (List.length l0) l0)))
      else
       none)
     else
      none)
    else
     none))))
noncomputable def changeGone_F {R : Type} : List Int → List Int → Int → Int → Bool → (Str → Option R) → Option R := lock changeGone_T
theorem changeGone_F_T {R : Type} : @changeGone_F R = changeGone_T := lock_eq _
theorem changeGone_F_eq {R : Type} (l0 : List Int) (l1 : List Int) (x2 : Int) (x3 : Int) (b4 : Bool) (k : D → Option R) : afun qP [] (changeGone_G R) (changeGone_Lam0 R) Tryd.f91 [D.ptr [D.sl (.ints .i32 l0), D.sl (.ints .i64 l1)], D.agg [D.int .i64 x2, D.int .i64 x3, D.bool b4]] k = changeGone_T l0 l1 x2 x3 b4 (fun y0 => k (D.str y0)) := by kernel_rfl
noncomputable def changeGone_abs (R : Type) (ds : List D) (k : D → Option R) : Option R :=
  match ds with
  | [D.ptr [D.sl (.ints .i32 l0), D.sl (.ints .i64 l1)], D.agg [D.int .i64 x2, D.int .i64 x3, D.bool b4]] => changeGone_F l0 l1 x2 x3 b4 (fun y0 => k (D.str y0))
  | _ => none
theorem changeGone_ok : FnOk qP 91 changeGone_abs := by
  intro R ds k r h
  unfold changeGone_abs at h
  split at h
  · rw [changeGone_F_T, ← changeGone_F_eq] at h
    refine afun_ok (P := qP) (c := changeGone_code) qOk (changeGone_Gok R) Tryd.func91 (by kernel_rfl) (by kernel_rfl) ?_ ?_ (by kernel_rfl) h
    rotate_left
    · exact Nat.le_of_ble_eq_true (by kernel_rfl)
    rw [show loopsIn changeGone_code = [] from by kernel_rfl]
    intro b hb
    cases hb
  · cases h

/-! ### changeIs: function 60 -/

noncomputable def changeIs_C : Cfg := ⟨qP, Tryd.f60.ntmps, []⟩
noncomputable def changeIs_code : Code := Tryd.f60.body.getD .skip
noncomputable def changeIs_G (R : Type) : Orc R := fun _ _ _ => none
theorem changeIs_Gok (R : Type) : OrcOk qP (changeIs_G R) := orc_nil
noncomputable def changeIs_Lam0 (R : Type) : Lam R := fun _ _ _ => none
noncomputable def changeIs_T {R : Type} (x0 : Int) (k : Bool → Option R) : Option R :=
  (bif (x0 == (100 : Int)) then
  k Bool.true
 else
  (bif (x0 == (99 : Int)) then
   k Bool.true
  else
   (bif (x0 == (121 : Int)) then
    k Bool.true
   else
    (bif (x0 == (62 : Int)) then
     k Bool.true
    else
     (bif (x0 == (60 : Int)) then
      k Bool.true
     else
      (bif (x0 == (16777333 : Int)) then
       k Bool.true
      else
       (bif (x0 == (16777301 : Int)) then
        k Bool.true
       else
        (bif (x0 == (16777342 : Int)) then
         k Bool.true
        else
         k Bool.false))))))))
noncomputable def changeIs_F {R : Type} : Int → (Bool → Option R) → Option R := lock changeIs_T
theorem changeIs_F_T {R : Type} : @changeIs_F R = changeIs_T := lock_eq _
theorem changeIs_F_eq {R : Type} (x0 : Int) (k : D → Option R) : afun qP [] (changeIs_G R) (changeIs_Lam0 R) Tryd.f60 [D.int .i64 x0] k = changeIs_T x0 (fun y0 => k (D.bool y0)) := by kernel_rfl
noncomputable def changeIs_abs (R : Type) (ds : List D) (k : D → Option R) : Option R :=
  match ds with
  | [D.int .i64 x0] => changeIs_F x0 (fun y0 => k (D.bool y0))
  | _ => none
theorem changeIs_ok : FnOk qP 60 changeIs_abs := by
  intro R ds k r h
  unfold changeIs_abs at h
  split at h
  · rw [changeIs_F_T, ← changeIs_F_eq] at h
    refine afun_ok (P := qP) (c := changeIs_code) qOk (changeIs_Gok R) Tryd.func60 (by kernel_rfl) (by kernel_rfl) ?_ ?_ (by kernel_rfl) h
    rotate_left
    · exact Nat.le_of_ble_eq_true (by kernel_rfl)
    rw [show loopsIn changeIs_code = [] from by kernel_rfl]
    intro b hb
    cases hb
  · cases h

/-! ### changeTurned: function 97 -/

noncomputable def changeTurned_C : Cfg := ⟨qP, Tryd.f97.ntmps, []⟩
noncomputable def changeTurned_code : Code := Tryd.f97.body.getD .skip
noncomputable def changeTurned_G (R : Type) : Orc R := fun f args k => bif Nat.beq f 115 then libToLower_abs R args k else (fun f args k => bif Nat.beq f 114 then libIsUpper_abs R args k else (fun f args k => bif Nat.beq f 116 then libToUpper_abs R args k else (fun _ _ _ => none) f args k) f args k) f args k
theorem changeTurned_Gok (R : Type) : OrcOk qP (changeTurned_G R) := (orc_cons libToLower_ok (orc_cons libIsUpper_ok (orc_cons libToUpper_ok orc_nil)))
noncomputable def changeTurned_Lam0 (R : Type) : Lam R := fun _ _ _ => none
noncomputable def changeTurned_T {R : Type} (x0 : Int) (x1 : Int) (k : Int → Option R) : Option R :=
  (bif (Decidable.decide (x0 ≥ (128 : Int))) then
  k x0
 else
  (bif (x1 == (117 : Int)) then
   libToLower_F x0 (fun x2 =>
    k x2)
  else
   (bif (x1 == (126 : Int)) then
    libIsUpper_F x0 (fun b3 =>
     (bif b3 then
      libToLower_F x0 (fun x4 =>
       k x4)
     else
      libToUpper_F x0 (fun x5 =>
       k x5)))
   else
    libToUpper_F x0 (fun x6 =>
     k x6))))
noncomputable def changeTurned_F {R : Type} : Int → Int → (Int → Option R) → Option R := lock changeTurned_T
theorem changeTurned_F_T {R : Type} : @changeTurned_F R = changeTurned_T := lock_eq _
theorem changeTurned_F_eq {R : Type} (x0 : Int) (x1 : Int) (k : D → Option R) : afun qP [] (changeTurned_G R) (changeTurned_Lam0 R) Tryd.f97 [D.int .i32 x0, D.int .i64 x1] k = changeTurned_T x0 x1 (fun y0 => k (D.int .i32 y0)) := by kernel_rfl
noncomputable def changeTurned_abs (R : Type) (ds : List D) (k : D → Option R) : Option R :=
  match ds with
  | [D.int .i32 x0, D.int .i64 x1] => changeTurned_F x0 x1 (fun y0 => k (D.int .i32 y0))
  | _ => none
theorem changeTurned_ok : FnOk qP 97 changeTurned_abs := by
  intro R ds k r h
  unfold changeTurned_abs at h
  split at h
  · rw [changeTurned_F_T, ← changeTurned_F_eq] at h
    refine afun_ok (P := qP) (c := changeTurned_code) qOk (changeTurned_Gok R) Tryd.func97 (by kernel_rfl) (by kernel_rfl) ?_ ?_ (by kernel_rfl) h
    rotate_left
    · exact Nat.le_of_ble_eq_true (by kernel_rfl)
    rw [show loopsIn changeTurned_code = [] from by kernel_rfl]
    intro b hb
    cases hb
  · cases h

/-! ### lawTexts: function 77 -/

noncomputable def lawTexts_C : Cfg := ⟨qP, Tryd.f77.ntmps, []⟩
noncomputable def lawTexts_code : Code := Tryd.f77.body.getD .skip
noncomputable def lawTexts_G (R : Type) : Orc R := fun _ _ _ => none
theorem lawTexts_Gok (R : Type) : OrcOk qP (lawTexts_G R) := orc_nil
noncomputable def lawTexts_B3 {R : Type} (rec : List Str → Int → Int → Option R) (q1 : List Str) (x2 : Int) (x3 : Int) (ke0 : Int → Option R) : Option R :=
  (bif (Decidable.decide (x3 < (↑(List.length q1) : Int))) then
  (bif (Decidable.decide (x2 < (1048576 : Int))) then
   (bif (Decidable.decide ((0 : Int) ≤ x3) && Decidable.decide (x3 < (↑(List.length q1) : Int))) then
    rec q1 (Go.IntKind.wrap Go.IntKind.i64 (x2 + (↑(List.length (List.getD q1 (Int.toNat x3) [])) : Int))) (Go.IntKind.wrap Go.IntKind.i64 (x3 + (1 : Int)))
   else
    none)
  else
   ke0 x2)
 else
  ke0 x2)
noncomputable def lawTexts_L3 {R : Type} : Nat → List Str → Int → Int → (Int → Option R) → Option R
  | 0, _, _, _, _ => none
  | n + 1, q1, x2, x3, ke0 => lawTexts_B3 (fun q1 x2 x3 => lawTexts_L3 n q1 x2 x3 ke0) q1 x2 x3 ke0
noncomputable def lawTexts_M3 {R : Type} : List Str → Int → Int → (Int → Option R) → Option R := lock (lawTexts_L3 4611686018427387904)
theorem lawTexts_M3_eq {R : Type} : @lawTexts_M3 R = lawTexts_L3 4611686018427387904 := lock_eq _
noncomputable def lawTexts_Lam0 (R : Type) : Lam R := fun _ _ _ => none
noncomputable def lawTexts_body3 : Code := (findLoop 3 lawTexts_code).getD .skip
def lawTexts_S3 : QA.Spec := (⟨[.t 0, .t 3, .t 4], [], [], [], []⟩ : QA.Spec)
def lawTexts_S3e0 : QA.Spec := (⟨[.t 3], [], [], [], []⟩ : QA.Spec)
def lawTexts_X3 : AExit → Option QA.Spec
  | .normal => none
  | .exit j => bif Nat.beq j 0 then some lawTexts_S3e0 else none
  | .ret => none
theorem lawTexts_L3_eq {R : Type} (k : AExit → St → Option R) : ∀ (n : Nat) (a0 : List Str) (a1 : Int) (a2 : Int), aloop lawTexts_C (lawTexts_G R) (lawTexts_Lam0 R) lawTexts_S3 lawTexts_X3 lawTexts_body3 n [D.sl (.strs a0), D.int .i64 a1, D.int .i64 a2] k = lawTexts_L3 n a0 a1 a2 (fun y0 => k (.exit 0) (mkSt lawTexts_S3e0 [D.int .i64 y0]))
  | 0, _, _, _ => rfl
  | n + 1, a0, a1, a2 => by
    have h : (fun a0 a1 a2 => aloop lawTexts_C (lawTexts_G R) (lawTexts_Lam0 R) lawTexts_S3 lawTexts_X3 lawTexts_body3 n [D.sl (.strs a0), D.int .i64 a1, D.int .i64 a2] k) = (fun a0 a1 a2 => lawTexts_L3 n a0 a1 a2 (fun y0 => k (.exit 0) (mkSt lawTexts_S3e0 [D.int .i64 y0]))) := by
      funext a0 a1 a2; exact lawTexts_L3_eq k n a0 a1 a2
    have s : aloop lawTexts_C (lawTexts_G R) (lawTexts_Lam0 R) lawTexts_S3 lawTexts_X3 lawTexts_body3 (n + 1) [D.sl (.strs a0), D.int .i64 a1, D.int .i64 a2] k = lawTexts_B3 (fun a0 a1 a2 => aloop lawTexts_C (lawTexts_G R) (lawTexts_Lam0 R) lawTexts_S3 lawTexts_X3 lawTexts_body3 n [D.sl (.strs a0), D.int .i64 a1, D.int .i64 a2] k) a0 a1 a2 (fun y0 => k (.exit 0) (mkSt lawTexts_S3e0 [D.int .i64 y0])) := by kernel_rfl
    rw [s, h]; rfl
noncomputable def lawTexts_A3 (R : Type) (ds : List D) (k : AExit → St → Option R) : Option R :=
  match ds with
  | [D.sl (.strs a0), D.int .i64 a1, D.int .i64 a2] => lawTexts_M3 a0 a1 a2 (fun y0 => k (.exit 0) (mkSt lawTexts_S3e0 [D.int .i64 y0]))
  | _ => none
noncomputable def lawTexts_Lam1 (R : Type) : Lam R := fun key st k => bif Nat.beq key 3 then (match readSt lawTexts_S3 st with | some ds => lawTexts_A3 R ds k | none => none) else lawTexts_Lam0 R key st k
theorem lawTexts_A3_ok {R : Type} : ∀ ds k r, lawTexts_A3 R ds k = some r → ∃ e st', k e st' = some r ∧ QA.Reach lawTexts_C (.loop lawTexts_body3) (mkSt lawTexts_S3 ds) e st' := by
  intro ds k r h
  unfold lawTexts_A3 at h
  split at h
  · rw [lawTexts_M3_eq, ← lawTexts_L3_eq] at h
    refine aloop_ok (C := lawTexts_C) qOk (lawTexts_Gok R) ?_ _ _ _ _ h
    rw [show loopsIn lawTexts_body3 = [] from by kernel_rfl]
    intro b hb
    cases hb
  · cases h
noncomputable def lawTexts_T {R : Type} (q0 : List Str) (k : Int → Option R) : Option R :=
  lawTexts_M3 q0 ((↑(List.length q0) : Int)) ((0 : Int))
  (fun x4 =>
  k x4)
noncomputable def lawTexts_F {R : Type} : List Str → (Int → Option R) → Option R := lock lawTexts_T
theorem lawTexts_F_T {R : Type} : @lawTexts_F R = lawTexts_T := lock_eq _
theorem lawTexts_F_eq {R : Type} (q0 : List Str) (k : D → Option R) : afun qP [] (lawTexts_G R) (lawTexts_Lam1 R) Tryd.f77 [D.sl (.strs q0)] k = lawTexts_T q0 (fun y0 => k (D.int .i64 y0)) := by kernel_rfl
noncomputable def lawTexts_abs (R : Type) (ds : List D) (k : D → Option R) : Option R :=
  match ds with
  | [D.sl (.strs q0)] => lawTexts_F q0 (fun y0 => k (D.int .i64 y0))
  | _ => none
theorem lawTexts_ok : FnOk qP 77 lawTexts_abs := by
  intro R ds k r h
  unfold lawTexts_abs at h
  split at h
  · rw [lawTexts_F_T, ← lawTexts_F_eq] at h
    refine afun_ok (P := qP) (c := lawTexts_code) qOk (lawTexts_Gok R) Tryd.func77 (by kernel_rfl) (by kernel_rfl) ?_ ?_ (by kernel_rfl) h
    rotate_left
    · exact Nat.le_of_ble_eq_true (by kernel_rfl)
    rw [show loopsIn lawTexts_code = [lawTexts_body3] from by kernel_rfl]
    intro b hb
    simp only [List.mem_cons, List.not_mem_nil, or_false] at hb
    subst hb
    exact lam_of (key := 3) (S := lawTexts_S3) (L := lawTexts_A3 R) (fun st k => by kernel_rfl) (by kernel_rfl) lawTexts_A3_ok
  · cases h

/-! ### lawWithin: function 29 -/

noncomputable def lawWithin_C : Cfg := ⟨qP, Tryd.f29.ntmps, []⟩
noncomputable def lawWithin_code : Code := Tryd.f29.body.getD .skip
noncomputable def lawWithin_G (R : Type) : Orc R := fun _ _ _ => none
theorem lawWithin_Gok (R : Type) : OrcOk qP (lawWithin_G R) := orc_nil
noncomputable def lawWithin_Lam0 (R : Type) : Lam R := fun _ _ _ => none
noncomputable def lawWithin_T {R : Type} (x0 : Int) (x1 : Int) (k : Int → Option R) : Option R :=
  (bif (Go.IntKind.wrap Go.IntKind.u64 x1 == (0 : Int)) then
  none
 else
  k (Go.IntKind.wrap Go.IntKind.i64 (Int.tmod (Go.IntKind.wrap Go.IntKind.u64 x0) (Go.IntKind.wrap Go.IntKind.u64 x1))))
noncomputable def lawWithin_F {R : Type} : Int → Int → (Int → Option R) → Option R := lock lawWithin_T
theorem lawWithin_F_T {R : Type} : @lawWithin_F R = lawWithin_T := lock_eq _
theorem lawWithin_F_eq {R : Type} (x0 : Int) (x1 : Int) (k : D → Option R) : afun qP [] (lawWithin_G R) (lawWithin_Lam0 R) Tryd.f29 [D.int .i64 x0, D.int .i64 x1] k = lawWithin_T x0 x1 (fun y0 => k (D.int .i64 y0)) := by kernel_rfl
noncomputable def lawWithin_abs (R : Type) (ds : List D) (k : D → Option R) : Option R :=
  match ds with
  | [D.int .i64 x0, D.int .i64 x1] => lawWithin_F x0 x1 (fun y0 => k (D.int .i64 y0))
  | _ => none
theorem lawWithin_ok : FnOk qP 29 lawWithin_abs := by
  intro R ds k r h
  unfold lawWithin_abs at h
  split at h
  · rw [lawWithin_F_T, ← lawWithin_F_eq] at h
    refine afun_ok (P := qP) (c := lawWithin_code) qOk (lawWithin_Gok R) Tryd.func29 (by kernel_rfl) (by kernel_rfl) ?_ ?_ (by kernel_rfl) h
    rotate_left
    · exact Nat.le_of_ble_eq_true (by kernel_rfl)
    rw [show loopsIn lawWithin_code = [] from by kernel_rfl]
    intro b hb
    cases hb
  · cases h

/-! ### num18: function 35 -/

noncomputable def num18_C : Cfg := ⟨qP, Tryd.f35.ntmps, []⟩
noncomputable def num18_code : Code := Tryd.f35.body.getD .skip
noncomputable def num18_G (R : Type) : Orc R := fun _ _ _ => none
theorem num18_Gok (R : Type) : OrcOk qP (num18_G R) := orc_nil
noncomputable def num18_Lam0 (R : Type) : Lam R := fun _ _ _ => none
noncomputable def num18_T {R : Type} (x0 : Int) (k : Int → Option R) : Option R :=
  k x0
noncomputable def num18_F {R : Type} : Int → (Int → Option R) → Option R := lock num18_T
theorem num18_F_T {R : Type} : @num18_F R = num18_T := lock_eq _
theorem num18_F_eq {R : Type} (x0 : Int) (k : D → Option R) : afun qP [] (num18_G R) (num18_Lam0 R) Tryd.f35 [D.int .i64 x0] k = num18_T x0 (fun y0 => k (D.int .i64 y0)) := by kernel_rfl
noncomputable def num18_abs (R : Type) (ds : List D) (k : D → Option R) : Option R :=
  match ds with
  | [D.int .i64 x0] => num18_F x0 (fun y0 => k (D.int .i64 y0))
  | _ => none
theorem num18_ok : FnOk qP 35 num18_abs := by
  intro R ds k r h
  unfold num18_abs at h
  split at h
  · rw [num18_F_T, ← num18_F_eq] at h
    refine afun_ok (P := qP) (c := num18_code) qOk (num18_Gok R) Tryd.func35 (by kernel_rfl) (by kernel_rfl) ?_ ?_ (by kernel_rfl) h
    rotate_left
    · exact Nat.le_of_ble_eq_true (by kernel_rfl)
    rw [show loopsIn num18_code = [] from by kernel_rfl]
    intro b hb
    cases hb
  · cases h

/-! ### num20: function 41 -/

noncomputable def num20_C : Cfg := ⟨qP, Tryd.f41.ntmps, []⟩
noncomputable def num20_code : Code := Tryd.f41.body.getD .skip
noncomputable def num20_G (R : Type) : Orc R := fun _ _ _ => none
theorem num20_Gok (R : Type) : OrcOk qP (num20_G R) := orc_nil
noncomputable def num20_Lam0 (R : Type) : Lam R := fun _ _ _ => none
noncomputable def num20_T {R : Type} (x0 : Int) (k : Int → Option R) : Option R :=
  k x0
noncomputable def num20_F {R : Type} : Int → (Int → Option R) → Option R := lock num20_T
theorem num20_F_T {R : Type} : @num20_F R = num20_T := lock_eq _
theorem num20_F_eq {R : Type} (x0 : Int) (k : D → Option R) : afun qP [] (num20_G R) (num20_Lam0 R) Tryd.f41 [D.int .i64 x0] k = num20_T x0 (fun y0 => k (D.int .i64 y0)) := by kernel_rfl
noncomputable def num20_abs (R : Type) (ds : List D) (k : D → Option R) : Option R :=
  match ds with
  | [D.int .i64 x0] => num20_F x0 (fun y0 => k (D.int .i64 y0))
  | _ => none
theorem num20_ok : FnOk qP 41 num20_abs := by
  intro R ds k r h
  unfold num20_abs at h
  split at h
  · rw [num20_F_T, ← num20_F_eq] at h
    refine afun_ok (P := qP) (c := num20_code) qOk (num20_Gok R) Tryd.func41 (by kernel_rfl) (by kernel_rfl) ?_ ?_ (by kernel_rfl) h
    rotate_left
    · exact Nat.le_of_ble_eq_true (by kernel_rfl)
    rw [show loopsIn num20_code = [] from by kernel_rfl]
    intro b hb
    cases hb
  · cases h

/-! ### patchOf: function 93 -/

noncomputable def patchOf_C : Cfg := ⟨qP, Tryd.f93.ntmps, []⟩
noncomputable def patchOf_code : Code := Tryd.f93.body.getD .skip
noncomputable def patchOf_G (R : Type) : Orc R := fun _ _ _ => none
theorem patchOf_Gok (R : Type) : OrcOk qP (patchOf_G R) := orc_nil
noncomputable def patchOf_B3 {R : Type} (rec : List Int → List Int → Int → Str → Int → Int → Option R) (l2 : List Int) (l3 : List Int) (x4 : Int) (s5 : Str) (x6 : Int) (x7 : Int) (ke0 : List Int → List Int → Int → Str → Int → Int → Option R) : Option R :=
  (bif (Decidable.decide (x4 < Go.QA.mm Bool.false (↑(List.length l2) : Int) (↑(List.length l3) : Int))) then
  (bif (Decidable.decide ((0 : Int) ≤ x4) && Decidable.decide (x4 < (↑(List.length l2) : Int))) then
   (bif (Decidable.decide ((0 : Int) ≤ x4) && Decidable.decide (x4 < (↑(List.length l3) : Int))) then
    (bif (List.getD l2 (Int.toNat x4) (0 : Int) == List.getD l3 (Int.toNat x4) (0 : Int)) then
     rec l2 l3 (Go.IntKind.wrap Go.IntKind.i64 (x4 + (1 : Int))) s5 x6 x7
    else
     ke0 l2 l3 x4 s5 x6 x7)
   else
    none)
  else
   none)
 else
  ke0 l2 l3 x4 s5 x6 x7)
noncomputable def patchOf_L3 {R : Type} : Nat → List Int → List Int → Int → Str → Int → Int → (List Int → List Int → Int → Str → Int → Int → Option R) → Option R
  | 0, _, _, _, _, _, _, _ => none
  | n + 1, l2, l3, x4, s5, x6, x7, ke0 => patchOf_B3 (fun l2 l3 x4 s5 x6 x7 => patchOf_L3 n l2 l3 x4 s5 x6 x7 ke0) l2 l3 x4 s5 x6 x7 ke0
noncomputable def patchOf_M3 {R : Type} : List Int → List Int → Int → Str → Int → Int → (List Int → List Int → Int → Str → Int → Int → Option R) → Option R := lock (patchOf_L3 4611686018427387904)
theorem patchOf_M3_eq {R : Type} : @patchOf_M3 R = patchOf_L3 4611686018427387904 := lock_eq _
noncomputable def patchOf_B6 {R : Type} (rec : List Int → List Int → Int → Str → Int → Int → Option R) (l14 : List Int) (l15 : List Int) (x16 : Int) (s17 : Str) (x18 : Int) (x19 : Int) (ke0 : List Int → List Int → Int → Str → Int → Int → Option R) : Option R :=
  (bif (Decidable.decide ((↑(List.length l14) : Int) > (0 : Int))) then
  (bif (Decidable.decide ((↑(List.length l15) : Int) > (0 : Int))) then
   (bif (Decidable.decide ((0 : Int) ≤ Go.IntKind.wrap Go.IntKind.i64 ((↑(List.length l14) : Int) - (1 : Int))) && Decidable.decide (Go.IntKind.wrap Go.IntKind.i64 ((↑(List.length l14) : Int) - (1 : Int)) < (↑(List.length l14) : Int))) then
    (bif (Decidable.decide ((0 : Int) ≤ Go.IntKind.wrap Go.IntKind.i64 ((↑(List.length l15) : Int) - (1 : Int))) && Decidable.decide (Go.IntKind.wrap Go.IntKind.i64 ((↑(List.length l15) : Int) - (1 : Int)) < (↑(List.length l15) : Int))) then
     (bif (List.getD l14 (Int.toNat (Go.IntKind.wrap Go.IntKind.i64 ((↑(List.length l14) : Int) - (1 : Int)))) (0 : Int) == List.getD l15 (Int.toNat (Go.IntKind.wrap Go.IntKind.i64 ((↑(List.length l15) : Int) - (1 : Int)))) (0 : Int)) then
      (bif (Decidable.decide ((0 : Int) ≤ Go.IntKind.wrap Go.IntKind.i64 ((↑(List.length l14) : Int) - (1 : Int))) && Decidable.decide (Go.IntKind.wrap Go.IntKind.i64 ((↑(List.length l14) : Int) - (1 : Int)) ≤ (↑(List.length l14) : Int))) then
       (bif (Decidable.decide ((0 : Int) ≤ Go.IntKind.wrap Go.IntKind.i64 ((↑(List.length l15) : Int) - (1 : Int))) && Decidable.decide (Go.IntKind.wrap Go.IntKind.i64 ((↑(List.length l15) : Int) - (1 : Int)) ≤ (↑(List.length l15) : Int))) then
        rec (List.drop (0 : Nat) (List.take (Int.toNat (Go.IntKind.wrap Go.IntKind.i64 ((↑(List.length l14) : Int) - (1 : Int)))) l14)) (List.drop (0 : Nat) (List.take (Int.toNat (Go.IntKind.wrap Go.IntKind.i64 ((↑(List.length l15) : Int) - (1 : Int)))) l15)) x16 s17 x18 x19
       else
        none)
      else
       none)
     else
      ke0 l14 l15 x16 s17 x18 x19)
    else
     none)
   else
    none)
  else
   ke0 l14 l15 x16 s17 x18 x19)
 else
  ke0 l14 l15 x16 s17 x18 x19)
noncomputable def patchOf_L6 {R : Type} : Nat → List Int → List Int → Int → Str → Int → Int → (List Int → List Int → Int → Str → Int → Int → Option R) → Option R
  | 0, _, _, _, _, _, _, _ => none
  | n + 1, l14, l15, x16, s17, x18, x19, ke0 => patchOf_B6 (fun l14 l15 x16 s17 x18 x19 => patchOf_L6 n l14 l15 x16 s17 x18 x19 ke0) l14 l15 x16 s17 x18 x19 ke0
noncomputable def patchOf_M6 {R : Type} : List Int → List Int → Int → Str → Int → Int → (List Int → List Int → Int → Str → Int → Int → Option R) → Option R := lock (patchOf_L6 4611686018427387904)
theorem patchOf_M6_eq {R : Type} : @patchOf_M6 R = patchOf_L6 4611686018427387904 := lock_eq _
noncomputable def patchOf_Lam0 (R : Type) : Lam R := fun _ _ _ => none
noncomputable def patchOf_body3 : Code := (findLoop 3 patchOf_code).getD .skip
def patchOf_S3 : QA.Spec := (⟨[.t 5, .t 6, .t 7, .c 4 2, .c 4 1, .c 4 0], [4], [], [(.t 4, 4, 0)], []⟩ : QA.Spec)
def patchOf_S3e0 : QA.Spec := (⟨[.t 5, .t 6, .t 7, .c 4 2, .c 4 1, .c 4 0], [4], [], [(.t 4, 4, 0)], []⟩ : QA.Spec)
def patchOf_X3 : AExit → Option QA.Spec
  | .normal => none
  | .exit j => bif Nat.beq j 0 then some patchOf_S3e0 else none
  | .ret => none
theorem patchOf_L3_eq {R : Type} (k : AExit → St → Option R) : ∀ (n : Nat) (a0 : List Int) (a1 : List Int) (a2 : Int) (a3 : Str) (a4 : Int) (a5 : Int), aloop patchOf_C (patchOf_G R) (patchOf_Lam0 R) patchOf_S3 patchOf_X3 patchOf_body3 n [D.sl (.ints .i32 a0), D.sl (.ints .i32 a1), D.int .i64 a2, D.str a3, D.int .i64 a4, D.int .i64 a5] k = patchOf_L3 n a0 a1 a2 a3 a4 a5 (fun y0 y1 y2 y3 y4 y5 => k (.exit 0) (mkSt patchOf_S3e0 [D.sl (.ints .i32 y0), D.sl (.ints .i32 y1), D.int .i64 y2, D.str y3, D.int .i64 y4, D.int .i64 y5]))
  | 0, _, _, _, _, _, _ => rfl
  | n + 1, a0, a1, a2, a3, a4, a5 => by
    have h : (fun a0 a1 a2 a3 a4 a5 => aloop patchOf_C (patchOf_G R) (patchOf_Lam0 R) patchOf_S3 patchOf_X3 patchOf_body3 n [D.sl (.ints .i32 a0), D.sl (.ints .i32 a1), D.int .i64 a2, D.str a3, D.int .i64 a4, D.int .i64 a5] k) = (fun a0 a1 a2 a3 a4 a5 => patchOf_L3 n a0 a1 a2 a3 a4 a5 (fun y0 y1 y2 y3 y4 y5 => k (.exit 0) (mkSt patchOf_S3e0 [D.sl (.ints .i32 y0), D.sl (.ints .i32 y1), D.int .i64 y2, D.str y3, D.int .i64 y4, D.int .i64 y5]))) := by
      funext a0 a1 a2 a3 a4 a5; exact patchOf_L3_eq k n a0 a1 a2 a3 a4 a5
    have s : aloop patchOf_C (patchOf_G R) (patchOf_Lam0 R) patchOf_S3 patchOf_X3 patchOf_body3 (n + 1) [D.sl (.ints .i32 a0), D.sl (.ints .i32 a1), D.int .i64 a2, D.str a3, D.int .i64 a4, D.int .i64 a5] k = patchOf_B3 (fun a0 a1 a2 a3 a4 a5 => aloop patchOf_C (patchOf_G R) (patchOf_Lam0 R) patchOf_S3 patchOf_X3 patchOf_body3 n [D.sl (.ints .i32 a0), D.sl (.ints .i32 a1), D.int .i64 a2, D.str a3, D.int .i64 a4, D.int .i64 a5] k) a0 a1 a2 a3 a4 a5 (fun y0 y1 y2 y3 y4 y5 => k (.exit 0) (mkSt patchOf_S3e0 [D.sl (.ints .i32 y0), D.sl (.ints .i32 y1), D.int .i64 y2, D.str y3, D.int .i64 y4, D.int .i64 y5])) := by kernel_rfl
    rw [s, h]; rfl
noncomputable def patchOf_A3 (R : Type) (ds : List D) (k : AExit → St → Option R) : Option R :=
  match ds with
  | [D.sl (.ints .i32 a0), D.sl (.ints .i32 a1), D.int .i64 a2, D.str a3, D.int .i64 a4, D.int .i64 a5] => patchOf_M3 a0 a1 a2 a3 a4 a5 (fun y0 y1 y2 y3 y4 y5 => k (.exit 0) (mkSt patchOf_S3e0 [D.sl (.ints .i32 y0), D.sl (.ints .i32 y1), D.int .i64 y2, D.str y3, D.int .i64 y4, D.int .i64 y5]))
  | _ => none
noncomputable def patchOf_Lam1 (R : Type) : Lam R := fun key st k => bif Nat.beq key 3 then (match readSt patchOf_S3 st with | some ds => patchOf_A3 R ds k | none => none) else patchOf_Lam0 R key st k
theorem patchOf_A3_ok {R : Type} : ∀ ds k r, patchOf_A3 R ds k = some r → ∃ e st', k e st' = some r ∧ QA.Reach patchOf_C (.loop patchOf_body3) (mkSt patchOf_S3 ds) e st' := by
  intro ds k r h
  unfold patchOf_A3 at h
  split at h
  · rw [patchOf_M3_eq, ← patchOf_L3_eq] at h
    refine aloop_ok (C := patchOf_C) qOk (patchOf_Gok R) ?_ _ _ _ _ h
    rw [show loopsIn patchOf_body3 = [] from by kernel_rfl]
    intro b hb
    cases hb
  · cases h
noncomputable def patchOf_body6 : Code := (findLoop 6 patchOf_code).getD .skip
def patchOf_S6 : QA.Spec := (⟨[.t 5, .t 6, .t 7, .c 4 2, .c 4 1, .c 4 0], [4], [], [(.t 4, 4, 0)], []⟩ : QA.Spec)
def patchOf_S6e2 : QA.Spec := (⟨[.t 5, .t 6, .t 7, .c 4 2, .c 4 1, .c 4 0], [4], [], [(.t 4, 4, 0)], []⟩ : QA.Spec)
def patchOf_X6 : AExit → Option QA.Spec
  | .normal => none
  | .exit j => bif Nat.beq j 2 then some patchOf_S6e2 else none
  | .ret => none
theorem patchOf_L6_eq {R : Type} (k : AExit → St → Option R) : ∀ (n : Nat) (a0 : List Int) (a1 : List Int) (a2 : Int) (a3 : Str) (a4 : Int) (a5 : Int), aloop patchOf_C (patchOf_G R) (patchOf_Lam1 R) patchOf_S6 patchOf_X6 patchOf_body6 n [D.sl (.ints .i32 a0), D.sl (.ints .i32 a1), D.int .i64 a2, D.str a3, D.int .i64 a4, D.int .i64 a5] k = patchOf_L6 n a0 a1 a2 a3 a4 a5 (fun y0 y1 y2 y3 y4 y5 => k (.exit 2) (mkSt patchOf_S6e2 [D.sl (.ints .i32 y0), D.sl (.ints .i32 y1), D.int .i64 y2, D.str y3, D.int .i64 y4, D.int .i64 y5]))
  | 0, _, _, _, _, _, _ => rfl
  | n + 1, a0, a1, a2, a3, a4, a5 => by
    have h : (fun a0 a1 a2 a3 a4 a5 => aloop patchOf_C (patchOf_G R) (patchOf_Lam1 R) patchOf_S6 patchOf_X6 patchOf_body6 n [D.sl (.ints .i32 a0), D.sl (.ints .i32 a1), D.int .i64 a2, D.str a3, D.int .i64 a4, D.int .i64 a5] k) = (fun a0 a1 a2 a3 a4 a5 => patchOf_L6 n a0 a1 a2 a3 a4 a5 (fun y0 y1 y2 y3 y4 y5 => k (.exit 2) (mkSt patchOf_S6e2 [D.sl (.ints .i32 y0), D.sl (.ints .i32 y1), D.int .i64 y2, D.str y3, D.int .i64 y4, D.int .i64 y5]))) := by
      funext a0 a1 a2 a3 a4 a5; exact patchOf_L6_eq k n a0 a1 a2 a3 a4 a5
    have s : aloop patchOf_C (patchOf_G R) (patchOf_Lam1 R) patchOf_S6 patchOf_X6 patchOf_body6 (n + 1) [D.sl (.ints .i32 a0), D.sl (.ints .i32 a1), D.int .i64 a2, D.str a3, D.int .i64 a4, D.int .i64 a5] k = patchOf_B6 (fun a0 a1 a2 a3 a4 a5 => aloop patchOf_C (patchOf_G R) (patchOf_Lam1 R) patchOf_S6 patchOf_X6 patchOf_body6 n [D.sl (.ints .i32 a0), D.sl (.ints .i32 a1), D.int .i64 a2, D.str a3, D.int .i64 a4, D.int .i64 a5] k) a0 a1 a2 a3 a4 a5 (fun y0 y1 y2 y3 y4 y5 => k (.exit 2) (mkSt patchOf_S6e2 [D.sl (.ints .i32 y0), D.sl (.ints .i32 y1), D.int .i64 y2, D.str y3, D.int .i64 y4, D.int .i64 y5])) := by kernel_rfl
    rw [s, h]; rfl
noncomputable def patchOf_A6 (R : Type) (ds : List D) (k : AExit → St → Option R) : Option R :=
  match ds with
  | [D.sl (.ints .i32 a0), D.sl (.ints .i32 a1), D.int .i64 a2, D.str a3, D.int .i64 a4, D.int .i64 a5] => patchOf_M6 a0 a1 a2 a3 a4 a5 (fun y0 y1 y2 y3 y4 y5 => k (.exit 2) (mkSt patchOf_S6e2 [D.sl (.ints .i32 y0), D.sl (.ints .i32 y1), D.int .i64 y2, D.str y3, D.int .i64 y4, D.int .i64 y5]))
  | _ => none
noncomputable def patchOf_Lam2 (R : Type) : Lam R := fun key st k => bif Nat.beq key 6 then (match readSt patchOf_S6 st with | some ds => patchOf_A6 R ds k | none => none) else patchOf_Lam1 R key st k
theorem patchOf_A6_ok {R : Type} : ∀ ds k r, patchOf_A6 R ds k = some r → ∃ e st', k e st' = some r ∧ QA.Reach patchOf_C (.loop patchOf_body6) (mkSt patchOf_S6 ds) e st' := by
  intro ds k r h
  unfold patchOf_A6 at h
  split at h
  · rw [patchOf_M6_eq, ← patchOf_L6_eq] at h
    refine aloop_ok (C := patchOf_C) qOk (patchOf_Gok R) ?_ _ _ _ _ h
    rw [show loopsIn patchOf_body6 = [] from by kernel_rfl]
    intro b hb
    cases hb
  · cases h
noncomputable def patchOf_T {R : Type} (s0 : Str) (s1 : Str) (k : Int → Int → Str → Option R) : Option R :=
  patchOf_M3 (Go.QA.runesOf s0) (Go.QA.runesOf s1) ((0 : Int)) [] ((0 : Int)) ((0 : Int))
  (fun l8 l9 x10 s11 x12 x13 =>
  (bif (Decidable.decide ((0 : Int) ≤ x10) && Decidable.decide (x10 ≤ (↑(List.length l8) : Int))) then
   (bif (Decidable.decide ((0 : Int) ≤ x10) && Decidable.decide (x10 ≤ (↑(List.length l9) : Int))) then
    patchOf_M6 (List.drop (Int.toNat x10) (List.take (List.length l8) l8)) (List.drop (Int.toNat x10) (List.take (List.length l9) l9)) x10 s11 x12 x13
     (fun l20 l21 x22 s23 x24 x25 =>
     k x22 ((↑(List.length l20) : Int)) (Go.QA.strOf l21))
   else
    none)
  else
   none))
noncomputable def patchOf_F {R : Type} : Str → Str → (Int → Int → Str → Option R) → Option R := lock patchOf_T
theorem patchOf_F_T {R : Type} : @patchOf_F R = patchOf_T := lock_eq _
theorem patchOf_F_eq {R : Type} (s0 : Str) (s1 : Str) (k : D → Option R) : afun qP [] (patchOf_G R) (patchOf_Lam2 R) Tryd.f93 [D.str s0, D.str s1] k = patchOf_T s0 s1 (fun y0 y1 y2 => k (D.agg [D.int .i64 y0, D.int .i64 y1, D.str y2])) := by kernel_rfl
noncomputable def patchOf_abs (R : Type) (ds : List D) (k : D → Option R) : Option R :=
  match ds with
  | [D.str s0, D.str s1] => patchOf_F s0 s1 (fun y0 y1 y2 => k (D.agg [D.int .i64 y0, D.int .i64 y1, D.str y2]))
  | _ => none
theorem patchOf_ok : FnOk qP 93 patchOf_abs := by
  intro R ds k r h
  unfold patchOf_abs at h
  split at h
  · rw [patchOf_F_T, ← patchOf_F_eq] at h
    refine afun_ok (P := qP) (c := patchOf_code) qOk (patchOf_Gok R) Tryd.func93 (by kernel_rfl) (by kernel_rfl) ?_ ?_ (by kernel_rfl) h
    rotate_left
    · exact Nat.le_of_ble_eq_true (by kernel_rfl)
    rw [show loopsIn patchOf_code = [patchOf_body3, patchOf_body6] from by kernel_rfl]
    intro b hb
    simp only [List.mem_cons, List.not_mem_nil, or_false] at hb
    rcases hb with rfl | rfl
    · exact lam_of (key := 3) (S := patchOf_S3) (L := patchOf_A3 R) (fun st k => by kernel_rfl) (by kernel_rfl) patchOf_A3_ok
    · exact lam_of (key := 6) (S := patchOf_S6) (L := patchOf_A6 R) (fun st k => by kernel_rfl) (by kernel_rfl) patchOf_A6_ok
  · cases h

/-! ### refApply: function 24 -/

noncomputable def refApply_C : Cfg := ⟨qP, Tryd.f24.ntmps, []⟩
noncomputable def refApply_code : Code := Tryd.f24.body.getD .skip
noncomputable def refApply_G (R : Type) : Orc R := fun _ _ _ => none
theorem refApply_Gok (R : Type) : OrcOk qP (refApply_G R) := orc_nil
noncomputable def refApply_Lam0 (R : Type) : Lam R := fun _ _ _ => none
noncomputable def refApply_T {R : Type} (s0 : Str) (x1 : Int) (x2 : Int) (s3 : Str) (k : Str → Option R) : Option R :=
  (bif (Decidable.decide ((0 : Int) ≤ x1) && Decidable.decide (x1 ≤ (↑(List.length (Go.QA.runesOf s0)) : Int))) then
  (bif (Decidable.decide (List.length (Go.QA.strOf (List.drop (0 : Nat) (List.take (Int.toNat x1) (Go.QA.runesOf s0)))) + List.length s3 ≤ (9223372036854775807 : Nat))) then
   (bif (Decidable.decide ((0 : Int) ≤ Go.IntKind.wrap Go.IntKind.i64 (x1 + x2)) && Decidable.decide (Go.IntKind.wrap Go.IntKind.i64 (x1 + x2) ≤ (↑(List.length (Go.QA.runesOf s0)) : Int))) then
    (bif (Decidable.decide (List.length (Go.QA.strOf (List.drop (0 : Nat) (List.take (Int.toNat x1) (Go.QA.runesOf s0))) ++ s3) + List.length (Go.QA.strOf (List.drop (Int.toNat (Go.IntKind.wrap Go.IntKind.i64 (x1 + x2))) (List.take (List.length (Go.QA.runesOf s0)) (Go.QA.runesOf s0)))) ≤ (9223372036854775807 : Nat))) then
     k (Go.QA.strOf (List.drop (0 : Nat) (List.take (Int.toNat x1) (Go.QA.runesOf s0))) ++ s3 ++ Go.QA.strOf (List.drop (Int.toNat (Go.IntKind.wrap Go.IntKind.i64 (x1 + x2))) (List.take (List.length (Go.QA.runesOf s0)) (Go.QA.runesOf s0))))
    else
     none)
   else
    none)
  else
   none)
 else
  none)
noncomputable def refApply_F {R : Type} : Str → Int → Int → Str → (Str → Option R) → Option R := lock refApply_T
theorem refApply_F_T {R : Type} : @refApply_F R = refApply_T := lock_eq _
theorem refApply_F_eq {R : Type} (s0 : Str) (x1 : Int) (x2 : Int) (s3 : Str) (k : D → Option R) : afun qP [] (refApply_G R) (refApply_Lam0 R) Tryd.f24 [D.str s0, D.agg [D.int .i64 x1, D.int .i64 x2, D.str s3]] k = refApply_T s0 x1 x2 s3 (fun y0 => k (D.str y0)) := by kernel_rfl
noncomputable def refApply_abs (R : Type) (ds : List D) (k : D → Option R) : Option R :=
  match ds with
  | [D.str s0, D.agg [D.int .i64 x1, D.int .i64 x2, D.str s3]] => refApply_F s0 x1 x2 s3 (fun y0 => k (D.str y0))
  | _ => none
theorem refApply_ok : FnOk qP 24 refApply_abs := by
  intro R ds k r h
  unfold refApply_abs at h
  split at h
  · rw [refApply_F_T, ← refApply_F_eq] at h
    refine afun_ok (P := qP) (c := refApply_code) qOk (refApply_Gok R) Tryd.func24 (by kernel_rfl) (by kernel_rfl) ?_ ?_ (by kernel_rfl) h
    rotate_left
    · exact Nat.le_of_ble_eq_true (by kernel_rfl)
    rw [show loopsIn refApply_code = [] from by kernel_rfl]
    intro b hb
    cases hb
  · cases h

/-! ### refBegin: function 46 -/

noncomputable def refBegin_C : Cfg := ⟨qP, Tryd.f46.ntmps, []⟩
noncomputable def refBegin_code : Code := Tryd.f46.body.getD .skip
noncomputable def refBegin_G (R : Type) : Orc R := fun _ _ _ => none
theorem refBegin_Gok (R : Type) : OrcOk qP (refBegin_G R) := orc_nil
noncomputable def refBegin_B1 {R : Type} (rec : List Int → Int → Option R) (l2 : List Int) (x3 : Int) (ke0 : Int → Option R) : Option R :=
  (bif (Decidable.decide (x3 > (0 : Int))) then
  (bif (Decidable.decide ((0 : Int) ≤ Go.IntKind.wrap Go.IntKind.i64 (x3 - (1 : Int))) && Decidable.decide (Go.IntKind.wrap Go.IntKind.i64 (x3 - (1 : Int)) < (↑(List.length l2) : Int))) then
   (bif (List.getD l2 (Int.toNat (Go.IntKind.wrap Go.IntKind.i64 (x3 - (1 : Int)))) (0 : Int) != (10 : Int)) then
    rec l2 (Go.IntKind.wrap Go.IntKind.i64 (x3 - (1 : Int)))
   else
    ke0 x3)
  else
   none)
 else
  ke0 x3)
noncomputable def refBegin_L1 {R : Type} : Nat → List Int → Int → (Int → Option R) → Option R
  | 0, _, _, _ => none
  | n + 1, l2, x3, ke0 => refBegin_B1 (fun l2 x3 => refBegin_L1 n l2 x3 ke0) l2 x3 ke0
noncomputable def refBegin_M1 {R : Type} : List Int → Int → (Int → Option R) → Option R := lock (refBegin_L1 4611686018427387904)
theorem refBegin_M1_eq {R : Type} : @refBegin_M1 R = refBegin_L1 4611686018427387904 := lock_eq _
noncomputable def refBegin_Lam0 (R : Type) : Lam R := fun _ _ _ => none
noncomputable def refBegin_body1 : Code := (findLoop 1 refBegin_code).getD .skip
def refBegin_S1 : QA.Spec := (⟨[.t 0, .t 1], [], [], [], []⟩ : QA.Spec)
def refBegin_S1e0 : QA.Spec := (⟨[.t 1], [], [], [], []⟩ : QA.Spec)
def refBegin_X1 : AExit → Option QA.Spec
  | .normal => none
  | .exit j => bif Nat.beq j 0 then some refBegin_S1e0 else none
  | .ret => none
theorem refBegin_L1_eq {R : Type} (k : AExit → St → Option R) : ∀ (n : Nat) (a0 : List Int) (a1 : Int), aloop refBegin_C (refBegin_G R) (refBegin_Lam0 R) refBegin_S1 refBegin_X1 refBegin_body1 n [D.sl (.ints .i32 a0), D.int .i64 a1] k = refBegin_L1 n a0 a1 (fun y0 => k (.exit 0) (mkSt refBegin_S1e0 [D.int .i64 y0]))
  | 0, _, _ => rfl
  | n + 1, a0, a1 => by
    have h : (fun a0 a1 => aloop refBegin_C (refBegin_G R) (refBegin_Lam0 R) refBegin_S1 refBegin_X1 refBegin_body1 n [D.sl (.ints .i32 a0), D.int .i64 a1] k) = (fun a0 a1 => refBegin_L1 n a0 a1 (fun y0 => k (.exit 0) (mkSt refBegin_S1e0 [D.int .i64 y0]))) := by
      funext a0 a1; exact refBegin_L1_eq k n a0 a1
    have s : aloop refBegin_C (refBegin_G R) (refBegin_Lam0 R) refBegin_S1 refBegin_X1 refBegin_body1 (n + 1) [D.sl (.ints .i32 a0), D.int .i64 a1] k = refBegin_B1 (fun a0 a1 => aloop refBegin_C (refBegin_G R) (refBegin_Lam0 R) refBegin_S1 refBegin_X1 refBegin_body1 n [D.sl (.ints .i32 a0), D.int .i64 a1] k) a0 a1 (fun y0 => k (.exit 0) (mkSt refBegin_S1e0 [D.int .i64 y0])) := by kernel_rfl
    rw [s, h]; rfl
noncomputable def refBegin_A1 (R : Type) (ds : List D) (k : AExit → St → Option R) : Option R :=
  match ds with
  | [D.sl (.ints .i32 a0), D.int .i64 a1] => refBegin_M1 a0 a1 (fun y0 => k (.exit 0) (mkSt refBegin_S1e0 [D.int .i64 y0]))
  | _ => none
noncomputable def refBegin_Lam1 (R : Type) : Lam R := fun key st k => bif Nat.beq key 1 then (match readSt refBegin_S1 st with | some ds => refBegin_A1 R ds k | none => none) else refBegin_Lam0 R key st k
theorem refBegin_A1_ok {R : Type} : ∀ ds k r, refBegin_A1 R ds k = some r → ∃ e st', k e st' = some r ∧ QA.Reach refBegin_C (.loop refBegin_body1) (mkSt refBegin_S1 ds) e st' := by
  intro ds k r h
  unfold refBegin_A1 at h
  split at h
  · rw [refBegin_M1_eq, ← refBegin_L1_eq] at h
    refine aloop_ok (C := refBegin_C) qOk (refBegin_Gok R) ?_ _ _ _ _ h
    rw [show loopsIn refBegin_body1 = [] from by kernel_rfl]
    intro b hb
    cases hb
  · cases h
noncomputable def refBegin_T {R : Type} (l0 : List Int) (x1 : Int) (k : Int → Option R) : Option R :=
  refBegin_M1 l0 x1
  (fun x4 =>
  k x4)
noncomputable def refBegin_F {R : Type} : List Int → Int → (Int → Option R) → Option R := lock refBegin_T
theorem refBegin_F_T {R : Type} : @refBegin_F R = refBegin_T := lock_eq _
theorem refBegin_F_eq {R : Type} (l0 : List Int) (x1 : Int) (k : D → Option R) : afun qP [] (refBegin_G R) (refBegin_Lam1 R) Tryd.f46 [D.sl (.ints .i32 l0), D.int .i64 x1] k = refBegin_T l0 x1 (fun y0 => k (D.int .i64 y0)) := by kernel_rfl
noncomputable def refBegin_abs (R : Type) (ds : List D) (k : D → Option R) : Option R :=
  match ds with
  | [D.sl (.ints .i32 l0), D.int .i64 x1] => refBegin_F l0 x1 (fun y0 => k (D.int .i64 y0))
  | _ => none
theorem refBegin_ok : FnOk qP 46 refBegin_abs := by
  intro R ds k r h
  unfold refBegin_abs at h
  split at h
  · rw [refBegin_F_T, ← refBegin_F_eq] at h
    refine afun_ok (P := qP) (c := refBegin_code) qOk (refBegin_Gok R) Tryd.func46 (by kernel_rfl) (by kernel_rfl) ?_ ?_ (by kernel_rfl) h
    rotate_left
    · exact Nat.le_of_ble_eq_true (by kernel_rfl)
    rw [show loopsIn refBegin_code = [refBegin_body1] from by kernel_rfl]
    intro b hb
    simp only [List.mem_cons, List.not_mem_nil, or_false] at hb
    subst hb
    exact lam_of (key := 1) (S := refBegin_S1) (L := refBegin_A1 R) (fun st k => by kernel_rfl) (by kernel_rfl) refBegin_A1_ok
  · cases h

/-! ### refBetween0: function 59 -/

noncomputable def refBetween0_C : Cfg := ⟨qP, Tryd.f59.ntmps, []⟩
noncomputable def refBetween0_code : Code := Tryd.f59.body.getD .skip
noncomputable def refBetween0_G (R : Type) : Orc R := fun _ _ _ => none
theorem refBetween0_Gok (R : Type) : OrcOk qP (refBetween0_G R) := orc_nil
noncomputable def refBetween0_Lam0 (R : Type) : Lam R := fun _ _ _ => none
noncomputable def refBetween0_T {R : Type} (x0 : Int) (x1 : Int) (x2 : Int) (k : Bool → Option R) : Option R :=
  (bif (Decidable.decide (x0 ≥ x1)) then
  k (Decidable.decide (x0 ≤ x2))
 else
  k Bool.false)
noncomputable def refBetween0_F {R : Type} : Int → Int → Int → (Bool → Option R) → Option R := lock refBetween0_T
theorem refBetween0_F_T {R : Type} : @refBetween0_F R = refBetween0_T := lock_eq _
theorem refBetween0_F_eq {R : Type} (x0 : Int) (x1 : Int) (x2 : Int) (k : D → Option R) : afun qP [] (refBetween0_G R) (refBetween0_Lam0 R) Tryd.f59 [D.int .i64 x0, D.int .i64 x1, D.int .i64 x2] k = refBetween0_T x0 x1 x2 (fun y0 => k (D.bool y0)) := by kernel_rfl
noncomputable def refBetween0_abs (R : Type) (ds : List D) (k : D → Option R) : Option R :=
  match ds with
  | [D.int .i64 x0, D.int .i64 x1, D.int .i64 x2] => refBetween0_F x0 x1 x2 (fun y0 => k (D.bool y0))
  | _ => none
theorem refBetween0_ok : FnOk qP 59 refBetween0_abs := by
  intro R ds k r h
  unfold refBetween0_abs at h
  split at h
  · rw [refBetween0_F_T, ← refBetween0_F_eq] at h
    refine afun_ok (P := qP) (c := refBetween0_code) qOk (refBetween0_Gok R) Tryd.func59 (by kernel_rfl) (by kernel_rfl) ?_ ?_ (by kernel_rfl) h
    rotate_left
    · exact Nat.le_of_ble_eq_true (by kernel_rfl)
    rw [show loopsIn refBetween0_code = [] from by kernel_rfl]
    intro b hb
    cases hb
  · cases h

end Go.Proofs.YtleoffdjdgbanaaDoor

set_option linter.unusedVariables false
set_option linter.unusedSimpArgs false
set_option maxRecDepth 1000000
namespace Go.Proofs.YtleoffdjdgbanaaDoor
open Go Go.QA Go.Proofs

/-! ### refBetween4: function 79 -/

noncomputable def refBetween4_C : Cfg := ⟨qP, Tryd.f79.ntmps, []⟩
noncomputable def refBetween4_code : Code := Tryd.f79.body.getD .skip
noncomputable def refBetween4_G (R : Type) : Orc R := fun _ _ _ => none
theorem refBetween4_Gok (R : Type) : OrcOk qP (refBetween4_G R) := orc_nil
noncomputable def refBetween4_B3 {R : Type} (rec : List Int → List Int → Str → Int → Int → Str → Int → Int → Option R) (l2 : List Int) (l3 : List Int) (s4 : Str) (x5 : Int) (x6 : Int) (s7 : Str) (x8 : Int) (x9 : Int) (ke0 : List Int → List Int → Str → Int → Int → Str → Int → Int → Option R) : Option R :=
  (bif (Decidable.decide (x9 < (↑(List.length l2) : Int))) then
  (bif (Decidable.decide (x9 < (↑(List.length l3) : Int))) then
   (bif (Decidable.decide ((0 : Int) ≤ x9) && Decidable.decide (x9 < (↑(List.length l2) : Int))) then
    (bif (Decidable.decide ((0 : Int) ≤ x9) && Decidable.decide (x9 < (↑(List.length l3) : Int))) then
     (bif (List.getD l2 (Int.toNat x9) (0 : Int) == List.getD l3 (Int.toNat x9) (0 : Int)) then
      rec l2 l3 s4 x5 x6 s7 x8 (Go.IntKind.wrap Go.IntKind.i64 (x9 + (1 : Int)))
     else
      ke0 l2 l3 s4 x5 x6 s7 x8 x9)
    else
     none)
   else
    none)
  else
   ke0 l2 l3 s4 x5 x6 s7 x8 x9)
 else
  ke0 l2 l3 s4 x5 x6 s7 x8 x9)
noncomputable def refBetween4_L3 {R : Type} : Nat → List Int → List Int → Str → Int → Int → Str → Int → Int → (List Int → List Int → Str → Int → Int → Str → Int → Int → Option R) → Option R
  | 0, _, _, _, _, _, _, _, _, _ => none
  | n + 1, l2, l3, s4, x5, x6, s7, x8, x9, ke0 => refBetween4_B3 (fun l2 l3 s4 x5 x6 s7 x8 x9 => refBetween4_L3 n l2 l3 s4 x5 x6 s7 x8 x9 ke0) l2 l3 s4 x5 x6 s7 x8 x9 ke0
noncomputable def refBetween4_M3 {R : Type} : List Int → List Int → Str → Int → Int → Str → Int → Int → (List Int → List Int → Str → Int → Int → Str → Int → Int → Option R) → Option R := lock (refBetween4_L3 4611686018427387904)
theorem refBetween4_M3_eq {R : Type} : @refBetween4_M3 R = refBetween4_L3 4611686018427387904 := lock_eq _
noncomputable def refBetween4_B6 {R : Type} (rec : List Int → List Int → Int → Str → Int → Int → Str → Int → Int → Option R) (l18 : List Int) (l19 : List Int) (x20 : Int) (s21 : Str) (x22 : Int) (x23 : Int) (s24 : Str) (x25 : Int) (x26 : Int) (ke0 : List Int → List Int → Int → Str → Int → Int → Str → Int → Int → Option R) : Option R :=
  (bif (Decidable.decide (x20 < Go.IntKind.wrap Go.IntKind.i64 ((↑(List.length l18) : Int) - x26))) then
  (bif (Decidable.decide (x20 < Go.IntKind.wrap Go.IntKind.i64 ((↑(List.length l19) : Int) - x26))) then
   (bif (Decidable.decide ((0 : Int) ≤ Go.IntKind.wrap Go.IntKind.i64 (Go.IntKind.wrap Go.IntKind.i64 ((↑(List.length l18) : Int) - (1 : Int)) - x20)) && Decidable.decide (Go.IntKind.wrap Go.IntKind.i64 (Go.IntKind.wrap Go.IntKind.i64 ((↑(List.length l18) : Int) - (1 : Int)) - x20) < (↑(List.length l18) : Int))) then
    (bif (Decidable.decide ((0 : Int) ≤ Go.IntKind.wrap Go.IntKind.i64 (Go.IntKind.wrap Go.IntKind.i64 ((↑(List.length l19) : Int) - (1 : Int)) - x20)) && Decidable.decide (Go.IntKind.wrap Go.IntKind.i64 (Go.IntKind.wrap Go.IntKind.i64 ((↑(List.length l19) : Int) - (1 : Int)) - x20) < (↑(List.length l19) : Int))) then
     (bif (List.getD l18 (Int.toNat (Go.IntKind.wrap Go.IntKind.i64 (Go.IntKind.wrap Go.IntKind.i64 ((↑(List.length l18) : Int) - (1 : Int)) - x20))) (0 : Int) == List.getD l19 (Int.toNat (Go.IntKind.wrap Go.IntKind.i64 (Go.IntKind.wrap Go.IntKind.i64 ((↑(List.length l19) : Int) - (1 : Int)) - x20))) (0 : Int)) then
      rec l18 l19 (Go.IntKind.wrap Go.IntKind.i64 (x20 + (1 : Int))) s21 x22 x23 s24 x25 x26
     else
      ke0 l18 l19 x20 s21 x22 x23 s24 x25 x26)
    else
     none)
   else
    none)
  else
   ke0 l18 l19 x20 s21 x22 x23 s24 x25 x26)
 else
  ke0 l18 l19 x20 s21 x22 x23 s24 x25 x26)
noncomputable def refBetween4_L6 {R : Type} : Nat → List Int → List Int → Int → Str → Int → Int → Str → Int → Int → (List Int → List Int → Int → Str → Int → Int → Str → Int → Int → Option R) → Option R
  | 0, _, _, _, _, _, _, _, _, _, _ => none
  | n + 1, l18, l19, x20, s21, x22, x23, s24, x25, x26, ke0 => refBetween4_B6 (fun l18 l19 x20 s21 x22 x23 s24 x25 x26 => refBetween4_L6 n l18 l19 x20 s21 x22 x23 s24 x25 x26 ke0) l18 l19 x20 s21 x22 x23 s24 x25 x26 ke0
noncomputable def refBetween4_M6 {R : Type} : List Int → List Int → Int → Str → Int → Int → Str → Int → Int → (List Int → List Int → Int → Str → Int → Int → Str → Int → Int → Option R) → Option R := lock (refBetween4_L6 4611686018427387904)
theorem refBetween4_M6_eq {R : Type} : @refBetween4_M6 R = refBetween4_L6 4611686018427387904 := lock_eq _
noncomputable def refBetween4_Lam0 (R : Type) : Lam R := fun _ _ _ => none
noncomputable def refBetween4_body3 : Code := (findLoop 3 refBetween4_code).getD .skip
def refBetween4_S3 : QA.Spec := (⟨[.t 5, .t 6, .c 4 2, .c 4 1, .c 4 0, .c 7 2, .c 7 1, .c 7 0], [4, 7], [], [(.t 4, 4, 0), (.t 7, 7, 0)], []⟩ : QA.Spec)
def refBetween4_S3e0 : QA.Spec := (⟨[.t 5, .t 6, .c 4 2, .c 4 1, .c 4 0, .c 7 2, .c 7 1, .c 7 0], [4, 7], [], [(.t 4, 4, 0), (.t 7, 7, 0)], []⟩ : QA.Spec)
def refBetween4_X3 : AExit → Option QA.Spec
  | .normal => none
  | .exit j => bif Nat.beq j 0 then some refBetween4_S3e0 else none
  | .ret => none
theorem refBetween4_L3_eq {R : Type} (k : AExit → St → Option R) : ∀ (n : Nat) (a0 : List Int) (a1 : List Int) (a2 : Str) (a3 : Int) (a4 : Int) (a5 : Str) (a6 : Int) (a7 : Int), aloop refBetween4_C (refBetween4_G R) (refBetween4_Lam0 R) refBetween4_S3 refBetween4_X3 refBetween4_body3 n [D.sl (.ints .i32 a0), D.sl (.ints .i32 a1), D.str a2, D.int .i64 a3, D.int .i64 a4, D.str a5, D.int .i64 a6, D.int .i64 a7] k = refBetween4_L3 n a0 a1 a2 a3 a4 a5 a6 a7 (fun y0 y1 y2 y3 y4 y5 y6 y7 => k (.exit 0) (mkSt refBetween4_S3e0 [D.sl (.ints .i32 y0), D.sl (.ints .i32 y1), D.str y2, D.int .i64 y3, D.int .i64 y4, D.str y5, D.int .i64 y6, D.int .i64 y7]))
  | 0, _, _, _, _, _, _, _, _ => rfl
  | n + 1, a0, a1, a2, a3, a4, a5, a6, a7 => by
    have h : (fun a0 a1 a2 a3 a4 a5 a6 a7 => aloop refBetween4_C (refBetween4_G R) (refBetween4_Lam0 R) refBetween4_S3 refBetween4_X3 refBetween4_body3 n [D.sl (.ints .i32 a0), D.sl (.ints .i32 a1), D.str a2, D.int .i64 a3, D.int .i64 a4, D.str a5, D.int .i64 a6, D.int .i64 a7] k) = (fun a0 a1 a2 a3 a4 a5 a6 a7 => refBetween4_L3 n a0 a1 a2 a3 a4 a5 a6 a7 (fun y0 y1 y2 y3 y4 y5 y6 y7 => k (.exit 0) (mkSt refBetween4_S3e0 [D.sl (.ints .i32 y0), D.sl (.ints .i32 y1), D.str y2, D.int .i64 y3, D.int .i64 y4, D.str y5, D.int .i64 y6, D.int .i64 y7]))) := by
      funext a0 a1 a2 a3 a4 a5 a6 a7; exact refBetween4_L3_eq k n a0 a1 a2 a3 a4 a5 a6 a7
    have s : aloop refBetween4_C (refBetween4_G R) (refBetween4_Lam0 R) refBetween4_S3 refBetween4_X3 refBetween4_body3 (n + 1) [D.sl (.ints .i32 a0), D.sl (.ints .i32 a1), D.str a2, D.int .i64 a3, D.int .i64 a4, D.str a5, D.int .i64 a6, D.int .i64 a7] k = refBetween4_B3 (fun a0 a1 a2 a3 a4 a5 a6 a7 => aloop refBetween4_C (refBetween4_G R) (refBetween4_Lam0 R) refBetween4_S3 refBetween4_X3 refBetween4_body3 n [D.sl (.ints .i32 a0), D.sl (.ints .i32 a1), D.str a2, D.int .i64 a3, D.int .i64 a4, D.str a5, D.int .i64 a6, D.int .i64 a7] k) a0 a1 a2 a3 a4 a5 a6 a7 (fun y0 y1 y2 y3 y4 y5 y6 y7 => k (.exit 0) (mkSt refBetween4_S3e0 [D.sl (.ints .i32 y0), D.sl (.ints .i32 y1), D.str y2, D.int .i64 y3, D.int .i64 y4, D.str y5, D.int .i64 y6, D.int .i64 y7])) := by kernel_rfl
    rw [s, h]; rfl
noncomputable def refBetween4_A3 (R : Type) (ds : List D) (k : AExit → St → Option R) : Option R :=
  match ds with
  | [D.sl (.ints .i32 a0), D.sl (.ints .i32 a1), D.str a2, D.int .i64 a3, D.int .i64 a4, D.str a5, D.int .i64 a6, D.int .i64 a7] => refBetween4_M3 a0 a1 a2 a3 a4 a5 a6 a7 (fun y0 y1 y2 y3 y4 y5 y6 y7 => k (.exit 0) (mkSt refBetween4_S3e0 [D.sl (.ints .i32 y0), D.sl (.ints .i32 y1), D.str y2, D.int .i64 y3, D.int .i64 y4, D.str y5, D.int .i64 y6, D.int .i64 y7]))
  | _ => none
noncomputable def refBetween4_Lam1 (R : Type) : Lam R := fun key st k => bif Nat.beq key 3 then (match readSt refBetween4_S3 st with | some ds => refBetween4_A3 R ds k | none => none) else refBetween4_Lam0 R key st k
theorem refBetween4_A3_ok {R : Type} : ∀ ds k r, refBetween4_A3 R ds k = some r → ∃ e st', k e st' = some r ∧ QA.Reach refBetween4_C (.loop refBetween4_body3) (mkSt refBetween4_S3 ds) e st' := by
  intro ds k r h
  unfold refBetween4_A3 at h
  split at h
  · rw [refBetween4_M3_eq, ← refBetween4_L3_eq] at h
    refine aloop_ok (C := refBetween4_C) qOk (refBetween4_Gok R) ?_ _ _ _ _ h
    rw [show loopsIn refBetween4_body3 = [] from by kernel_rfl]
    intro b hb
    cases hb
  · cases h
noncomputable def refBetween4_body6 : Code := (findLoop 6 refBetween4_code).getD .skip
def refBetween4_S6 : QA.Spec := (⟨[.t 5, .t 6, .t 8, .c 4 2, .c 4 1, .c 4 0, .c 7 2, .c 7 1, .c 7 0], [4, 7], [], [(.t 4, 4, 0), (.t 7, 7, 0)], []⟩ : QA.Spec)
def refBetween4_S6e2 : QA.Spec := (⟨[.t 5, .t 6, .t 8, .c 4 2, .c 4 1, .c 4 0, .c 7 2, .c 7 1, .c 7 0], [4, 7], [], [(.t 4, 4, 0), (.t 7, 7, 0)], []⟩ : QA.Spec)
def refBetween4_X6 : AExit → Option QA.Spec
  | .normal => none
  | .exit j => bif Nat.beq j 2 then some refBetween4_S6e2 else none
  | .ret => none
theorem refBetween4_L6_eq {R : Type} (k : AExit → St → Option R) : ∀ (n : Nat) (a0 : List Int) (a1 : List Int) (a2 : Int) (a3 : Str) (a4 : Int) (a5 : Int) (a6 : Str) (a7 : Int) (a8 : Int), aloop refBetween4_C (refBetween4_G R) (refBetween4_Lam1 R) refBetween4_S6 refBetween4_X6 refBetween4_body6 n [D.sl (.ints .i32 a0), D.sl (.ints .i32 a1), D.int .i64 a2, D.str a3, D.int .i64 a4, D.int .i64 a5, D.str a6, D.int .i64 a7, D.int .i64 a8] k = refBetween4_L6 n a0 a1 a2 a3 a4 a5 a6 a7 a8 (fun y0 y1 y2 y3 y4 y5 y6 y7 y8 => k (.exit 2) (mkSt refBetween4_S6e2 [D.sl (.ints .i32 y0), D.sl (.ints .i32 y1), D.int .i64 y2, D.str y3, D.int .i64 y4, D.int .i64 y5, D.str y6, D.int .i64 y7, D.int .i64 y8]))
  | 0, _, _, _, _, _, _, _, _, _ => rfl
  | n + 1, a0, a1, a2, a3, a4, a5, a6, a7, a8 => by
    have h : (fun a0 a1 a2 a3 a4 a5 a6 a7 a8 => aloop refBetween4_C (refBetween4_G R) (refBetween4_Lam1 R) refBetween4_S6 refBetween4_X6 refBetween4_body6 n [D.sl (.ints .i32 a0), D.sl (.ints .i32 a1), D.int .i64 a2, D.str a3, D.int .i64 a4, D.int .i64 a5, D.str a6, D.int .i64 a7, D.int .i64 a8] k) = (fun a0 a1 a2 a3 a4 a5 a6 a7 a8 => refBetween4_L6 n a0 a1 a2 a3 a4 a5 a6 a7 a8 (fun y0 y1 y2 y3 y4 y5 y6 y7 y8 => k (.exit 2) (mkSt refBetween4_S6e2 [D.sl (.ints .i32 y0), D.sl (.ints .i32 y1), D.int .i64 y2, D.str y3, D.int .i64 y4, D.int .i64 y5, D.str y6, D.int .i64 y7, D.int .i64 y8]))) := by
      funext a0 a1 a2 a3 a4 a5 a6 a7 a8; exact refBetween4_L6_eq k n a0 a1 a2 a3 a4 a5 a6 a7 a8
    have s : aloop refBetween4_C (refBetween4_G R) (refBetween4_Lam1 R) refBetween4_S6 refBetween4_X6 refBetween4_body6 (n + 1) [D.sl (.ints .i32 a0), D.sl (.ints .i32 a1), D.int .i64 a2, D.str a3, D.int .i64 a4, D.int .i64 a5, D.str a6, D.int .i64 a7, D.int .i64 a8] k = refBetween4_B6 (fun a0 a1 a2 a3 a4 a5 a6 a7 a8 => aloop refBetween4_C (refBetween4_G R) (refBetween4_Lam1 R) refBetween4_S6 refBetween4_X6 refBetween4_body6 n [D.sl (.ints .i32 a0), D.sl (.ints .i32 a1), D.int .i64 a2, D.str a3, D.int .i64 a4, D.int .i64 a5, D.str a6, D.int .i64 a7, D.int .i64 a8] k) a0 a1 a2 a3 a4 a5 a6 a7 a8 (fun y0 y1 y2 y3 y4 y5 y6 y7 y8 => k (.exit 2) (mkSt refBetween4_S6e2 [D.sl (.ints .i32 y0), D.sl (.ints .i32 y1), D.int .i64 y2, D.str y3, D.int .i64 y4, D.int .i64 y5, D.str y6, D.int .i64 y7, D.int .i64 y8])) := by kernel_rfl
    rw [s, h]; rfl
noncomputable def refBetween4_A6 (R : Type) (ds : List D) (k : AExit → St → Option R) : Option R :=
  match ds with
  | [D.sl (.ints .i32 a0), D.sl (.ints .i32 a1), D.int .i64 a2, D.str a3, D.int .i64 a4, D.int .i64 a5, D.str a6, D.int .i64 a7, D.int .i64 a8] => refBetween4_M6 a0 a1 a2 a3 a4 a5 a6 a7 a8 (fun y0 y1 y2 y3 y4 y5 y6 y7 y8 => k (.exit 2) (mkSt refBetween4_S6e2 [D.sl (.ints .i32 y0), D.sl (.ints .i32 y1), D.int .i64 y2, D.str y3, D.int .i64 y4, D.int .i64 y5, D.str y6, D.int .i64 y7, D.int .i64 y8]))
  | _ => none
noncomputable def refBetween4_Lam2 (R : Type) : Lam R := fun key st k => bif Nat.beq key 6 then (match readSt refBetween4_S6 st with | some ds => refBetween4_A6 R ds k | none => none) else refBetween4_Lam1 R key st k
theorem refBetween4_A6_ok {R : Type} : ∀ ds k r, refBetween4_A6 R ds k = some r → ∃ e st', k e st' = some r ∧ QA.Reach refBetween4_C (.loop refBetween4_body6) (mkSt refBetween4_S6 ds) e st' := by
  intro ds k r h
  unfold refBetween4_A6 at h
  split at h
  · rw [refBetween4_M6_eq, ← refBetween4_L6_eq] at h
    refine aloop_ok (C := refBetween4_C) qOk (refBetween4_Gok R) ?_ _ _ _ _ h
    rw [show loopsIn refBetween4_body6 = [] from by kernel_rfl]
    intro b hb
    cases hb
  · cases h
noncomputable def refBetween4_T {R : Type} (s0 : Str) (s1 : Str) (k : Int → Int → Str → Option R) : Option R :=
  refBetween4_M3 (Go.QA.runesOf s0) (Go.QA.runesOf s1) [] ((0 : Int)) ((0 : Int)) [] ((0 : Int)) ((0 : Int))
  (fun l10 l11 s12 x13 x14 s15 x16 x17 =>
  refBetween4_M6 l10 l11 ((0 : Int)) s12 x13 x14 s15 x16 x17
   (fun l27 l28 x29 s30 x31 x32 s33 x34 x35 =>
   (bif (Decidable.decide ((0 : Int) ≤ Go.IntKind.wrap Go.IntKind.i64 ((↑(List.length l28) : Int) - x29)) && Decidable.decide (Go.IntKind.wrap Go.IntKind.i64 ((↑(List.length l28) : Int) - x29) ≤ (↑(List.length l28) : Int))) then
    (bif (Decidable.decide ((0 : Int) ≤ x35) && Decidable.decide (x35 ≤ (↑(Int.toNat (Go.IntKind.wrap Go.IntKind.i64 ((↑(List.length l28) : Int) - x29))) : Int))) then
     k x35 (Go.IntKind.wrap Go.IntKind.i64 (Go.IntKind.wrap Go.IntKind.i64 ((↑(List.length l27) : Int) - x29) - x35)) (Go.QA.strOf (List.drop (Int.toNat x35) (List.take (Int.toNat (Go.IntKind.wrap Go.IntKind.i64 ((↑(List.length l28) : Int) - x29))) l28)))
    else
     none)
   else
    none)))
noncomputable def refBetween4_F {R : Type} : Str → Str → (Int → Int → Str → Option R) → Option R := lock refBetween4_T
theorem refBetween4_F_T {R : Type} : @refBetween4_F R = refBetween4_T := lock_eq _
theorem refBetween4_F_eq {R : Type} (s0 : Str) (s1 : Str) (k : D → Option R) : afun qP [] (refBetween4_G R) (refBetween4_Lam2 R) Tryd.f79 [D.str s0, D.str s1] k = refBetween4_T s0 s1 (fun y0 y1 y2 => k (D.agg [D.int .i64 y0, D.int .i64 y1, D.str y2])) := by kernel_rfl
noncomputable def refBetween4_abs (R : Type) (ds : List D) (k : D → Option R) : Option R :=
  match ds with
  | [D.str s0, D.str s1] => refBetween4_F s0 s1 (fun y0 y1 y2 => k (D.agg [D.int .i64 y0, D.int .i64 y1, D.str y2]))
  | _ => none
theorem refBetween4_ok : FnOk qP 79 refBetween4_abs := by
  intro R ds k r h
  unfold refBetween4_abs at h
  split at h
  · rw [refBetween4_F_T, ← refBetween4_F_eq] at h
    refine afun_ok (P := qP) (c := refBetween4_code) qOk (refBetween4_Gok R) Tryd.func79 (by kernel_rfl) (by kernel_rfl) ?_ ?_ (by kernel_rfl) h
    rotate_left
    · exact Nat.le_of_ble_eq_true (by kernel_rfl)
    rw [show loopsIn refBetween4_code = [refBetween4_body3, refBetween4_body6] from by kernel_rfl]
    intro b hb
    simp only [List.mem_cons, List.not_mem_nil, or_false] at hb
    rcases hb with rfl | rfl
    · exact lam_of (key := 3) (S := refBetween4_S3) (L := refBetween4_A3 R) (fun st k => by kernel_rfl) (by kernel_rfl) refBetween4_A3_ok
    · exact lam_of (key := 6) (S := refBetween4_S6) (L := refBetween4_A6 R) (fun st k => by kernel_rfl) (by kernel_rfl) refBetween4_A6_ok
  · cases h

/-! ### refClass: function 50 -/

noncomputable def refClass_C : Cfg := ⟨qP, Tryd.f50.ntmps, []⟩
noncomputable def refClass_code : Code := Tryd.f50.body.getD .skip
noncomputable def refClass_G (R : Type) : Orc R := fun _ _ _ => none
theorem refClass_Gok (R : Type) : OrcOk qP (refClass_G R) := orc_nil
noncomputable def refClass_Lam0 (R : Type) : Lam R := fun _ _ _ => none
noncomputable def refClass_T {R : Type} (x0 : Int) (k : Int → Option R) : Option R :=
  (bif (x0 == (32 : Int)) then
  k ((0 : Int))
 else
  (bif (x0 == (9 : Int)) then
   k ((0 : Int))
  else
   (bif (Decidable.decide (x0 ≥ (97 : Int))) then
    (bif (Decidable.decide (x0 ≤ (122 : Int))) then
     k ((1 : Int))
    else
     (bif (Decidable.decide (x0 ≥ (65 : Int))) then
      (bif (Decidable.decide (x0 ≤ (90 : Int))) then
       k ((1 : Int))
      else
       (bif (Decidable.decide (x0 ≥ (48 : Int))) then
        (bif (Decidable.decide (x0 ≤ (57 : Int))) then
         k ((1 : Int))
        else
         (bif (x0 == (95 : Int)) then
          k ((1 : Int))
         else
          (bif (Decidable.decide (x0 ≥ (128 : Int))) then
           k ((1 : Int))
          else
           k ((2 : Int)))))
       else
        (bif (x0 == (95 : Int)) then
         k ((1 : Int))
        else
         (bif (Decidable.decide (x0 ≥ (128 : Int))) then
          k ((1 : Int))
         else
          k ((2 : Int))))))
     else
      (bif (Decidable.decide (x0 ≥ (48 : Int))) then
       (bif (Decidable.decide (x0 ≤ (57 : Int))) then
        k ((1 : Int))
       else
        (bif (x0 == (95 : Int)) then
         k ((1 : Int))
        else
         (bif (Decidable.decide (x0 ≥ (128 : Int))) then
          k ((1 : Int))
         else
          k ((2 : Int)))))
      else
       (bif (x0 == (95 : Int)) then
        k ((1 : Int))
       else
        (bif (Decidable.decide (x0 ≥ (128 : Int))) then
         k ((1 : Int))
        else
         k ((2 : Int)))))))
   else
    (bif (Decidable.decide (x0 ≥ (65 : Int))) then
     (bif (Decidable.decide (x0 ≤ (90 : Int))) then
      k ((1 : Int))
     else
      (bif (Decidable.decide (x0 ≥ (48 : Int))) then
       (bif (Decidable.decide (x0 ≤ (57 : Int))) then
        k ((1 : Int))
       else
        (bif (x0 == (95 : Int)) then
         k ((1 : Int))
        else
         (bif (Decidable.decide (x0 ≥ (128 : Int))) then
          k ((1 : Int))
         else
          k ((2 : Int)))))
      else
       (bif (x0 == (95 : Int)) then
        k ((1 : Int))
       else
        (bif (Decidable.decide (x0 ≥ (128 : Int))) then
         k ((1 : Int))
        else
         k ((2 : Int))))))
    else
     (bif (Decidable.decide (x0 ≥ (48 : Int))) then
      (bif (Decidable.decide (x0 ≤ (57 : Int))) then
       k ((1 : Int))
      else
       (bif (x0 == (95 : Int)) then
        k ((1 : Int))
       else
        (bif (Decidable.decide (x0 ≥ (128 : Int))) then
         k ((1 : Int))
        else
         k ((2 : Int)))))
     else
      (bif (x0 == (95 : Int)) then
       k ((1 : Int))
      else
       (bif (Decidable.decide (x0 ≥ (128 : Int))) then
        k ((1 : Int))
       else
        k ((2 : Int)))))))))
noncomputable def refClass_F {R : Type} : Int → (Int → Option R) → Option R := lock refClass_T
theorem refClass_F_T {R : Type} : @refClass_F R = refClass_T := lock_eq _
theorem refClass_F_eq {R : Type} (x0 : Int) (k : D → Option R) : afun qP [] (refClass_G R) (refClass_Lam0 R) Tryd.f50 [D.int .i64 x0] k = refClass_T x0 (fun y0 => k (D.int .i64 y0)) := by kernel_rfl
noncomputable def refClass_abs (R : Type) (ds : List D) (k : D → Option R) : Option R :=
  match ds with
  | [D.int .i64 x0] => refClass_F x0 (fun y0 => k (D.int .i64 y0))
  | _ => none
theorem refClass_ok : FnOk qP 50 refClass_abs := by
  intro R ds k r h
  unfold refClass_abs at h
  split at h
  · rw [refClass_F_T, ← refClass_F_eq] at h
    refine afun_ok (P := qP) (c := refClass_code) qOk (refClass_Gok R) Tryd.func50 (by kernel_rfl) (by kernel_rfl) ?_ ?_ (by kernel_rfl) h
    rotate_left
    · exact Nat.le_of_ble_eq_true (by kernel_rfl)
    rw [show loopsIn refClass_code = [] from by kernel_rfl]
    intro b hb
    cases hb
  · cases h

/-! ### refEnd: function 37 -/

noncomputable def refEnd_C : Cfg := ⟨qP, Tryd.f37.ntmps, []⟩
noncomputable def refEnd_code : Code := Tryd.f37.body.getD .skip
noncomputable def refEnd_G (R : Type) : Orc R := fun _ _ _ => none
theorem refEnd_Gok (R : Type) : OrcOk qP (refEnd_G R) := orc_nil
noncomputable def refEnd_B1 {R : Type} (rec : List Int → Int → Option R) (l2 : List Int) (x3 : Int) (ke0 : Int → Option R) : Option R :=
  (bif (Decidable.decide (x3 < (↑(List.length l2) : Int))) then
  (bif (Decidable.decide ((0 : Int) ≤ x3) && Decidable.decide (x3 < (↑(List.length l2) : Int))) then
   (bif (List.getD l2 (Int.toNat x3) (0 : Int) != (10 : Int)) then
    rec l2 (Go.IntKind.wrap Go.IntKind.i64 (x3 + (1 : Int)))
   else
    ke0 x3)
  else
   none)
 else
  ke0 x3)
noncomputable def refEnd_L1 {R : Type} : Nat → List Int → Int → (Int → Option R) → Option R
  | 0, _, _, _ => none
  | n + 1, l2, x3, ke0 => refEnd_B1 (fun l2 x3 => refEnd_L1 n l2 x3 ke0) l2 x3 ke0
noncomputable def refEnd_M1 {R : Type} : List Int → Int → (Int → Option R) → Option R := lock (refEnd_L1 4611686018427387904)
theorem refEnd_M1_eq {R : Type} : @refEnd_M1 R = refEnd_L1 4611686018427387904 := lock_eq _
noncomputable def refEnd_Lam0 (R : Type) : Lam R := fun _ _ _ => none
noncomputable def refEnd_body1 : Code := (findLoop 1 refEnd_code).getD .skip
def refEnd_S1 : QA.Spec := (⟨[.t 0, .t 1], [], [], [], []⟩ : QA.Spec)
def refEnd_S1e0 : QA.Spec := (⟨[.t 1], [], [], [], []⟩ : QA.Spec)
def refEnd_X1 : AExit → Option QA.Spec
  | .normal => none
  | .exit j => bif Nat.beq j 0 then some refEnd_S1e0 else none
  | .ret => none
theorem refEnd_L1_eq {R : Type} (k : AExit → St → Option R) : ∀ (n : Nat) (a0 : List Int) (a1 : Int), aloop refEnd_C (refEnd_G R) (refEnd_Lam0 R) refEnd_S1 refEnd_X1 refEnd_body1 n [D.sl (.ints .i32 a0), D.int .i64 a1] k = refEnd_L1 n a0 a1 (fun y0 => k (.exit 0) (mkSt refEnd_S1e0 [D.int .i64 y0]))
  | 0, _, _ => rfl
  | n + 1, a0, a1 => by
    have h : (fun a0 a1 => aloop refEnd_C (refEnd_G R) (refEnd_Lam0 R) refEnd_S1 refEnd_X1 refEnd_body1 n [D.sl (.ints .i32 a0), D.int .i64 a1] k) = (fun a0 a1 => refEnd_L1 n a0 a1 (fun y0 => k (.exit 0) (mkSt refEnd_S1e0 [D.int .i64 y0]))) := by
      funext a0 a1; exact refEnd_L1_eq k n a0 a1
    have s : aloop refEnd_C (refEnd_G R) (refEnd_Lam0 R) refEnd_S1 refEnd_X1 refEnd_body1 (n + 1) [D.sl (.ints .i32 a0), D.int .i64 a1] k = refEnd_B1 (fun a0 a1 => aloop refEnd_C (refEnd_G R) (refEnd_Lam0 R) refEnd_S1 refEnd_X1 refEnd_body1 n [D.sl (.ints .i32 a0), D.int .i64 a1] k) a0 a1 (fun y0 => k (.exit 0) (mkSt refEnd_S1e0 [D.int .i64 y0])) := by kernel_rfl
    rw [s, h]; rfl
noncomputable def refEnd_A1 (R : Type) (ds : List D) (k : AExit → St → Option R) : Option R :=
  match ds with
  | [D.sl (.ints .i32 a0), D.int .i64 a1] => refEnd_M1 a0 a1 (fun y0 => k (.exit 0) (mkSt refEnd_S1e0 [D.int .i64 y0]))
  | _ => none
noncomputable def refEnd_Lam1 (R : Type) : Lam R := fun key st k => bif Nat.beq key 1 then (match readSt refEnd_S1 st with | some ds => refEnd_A1 R ds k | none => none) else refEnd_Lam0 R key st k
theorem refEnd_A1_ok {R : Type} : ∀ ds k r, refEnd_A1 R ds k = some r → ∃ e st', k e st' = some r ∧ QA.Reach refEnd_C (.loop refEnd_body1) (mkSt refEnd_S1 ds) e st' := by
  intro ds k r h
  unfold refEnd_A1 at h
  split at h
  · rw [refEnd_M1_eq, ← refEnd_L1_eq] at h
    refine aloop_ok (C := refEnd_C) qOk (refEnd_Gok R) ?_ _ _ _ _ h
    rw [show loopsIn refEnd_body1 = [] from by kernel_rfl]
    intro b hb
    cases hb
  · cases h
noncomputable def refEnd_T {R : Type} (l0 : List Int) (x1 : Int) (k : Int → Option R) : Option R :=
  refEnd_M1 l0 x1
  (fun x4 =>
  k x4)
noncomputable def refEnd_F {R : Type} : List Int → Int → (Int → Option R) → Option R := lock refEnd_T
theorem refEnd_F_T {R : Type} : @refEnd_F R = refEnd_T := lock_eq _
theorem refEnd_F_eq {R : Type} (l0 : List Int) (x1 : Int) (k : D → Option R) : afun qP [] (refEnd_G R) (refEnd_Lam1 R) Tryd.f37 [D.sl (.ints .i32 l0), D.int .i64 x1] k = refEnd_T l0 x1 (fun y0 => k (D.int .i64 y0)) := by kernel_rfl
noncomputable def refEnd_abs (R : Type) (ds : List D) (k : D → Option R) : Option R :=
  match ds with
  | [D.sl (.ints .i32 l0), D.int .i64 x1] => refEnd_F l0 x1 (fun y0 => k (D.int .i64 y0))
  | _ => none
theorem refEnd_ok : FnOk qP 37 refEnd_abs := by
  intro R ds k r h
  unfold refEnd_abs at h
  split at h
  · rw [refEnd_F_T, ← refEnd_F_eq] at h
    refine afun_ok (P := qP) (c := refEnd_code) qOk (refEnd_Gok R) Tryd.func37 (by kernel_rfl) (by kernel_rfl) ?_ ?_ (by kernel_rfl) h
    rotate_left
    · exact Nat.le_of_ble_eq_true (by kernel_rfl)
    rw [show loopsIn refEnd_code = [refEnd_body1] from by kernel_rfl]
    intro b hb
    simp only [List.mem_cons, List.not_mem_nil, or_false] at hb
    subst hb
    exact lam_of (key := 1) (S := refEnd_S1) (L := refEnd_A1 R) (fun st k => by kernel_rfl) (by kernel_rfl) refEnd_A1_ok
  · cases h

/-! ### refIn: function 86 -/

noncomputable def refIn_C : Cfg := ⟨qP, Tryd.f86.ntmps, []⟩
noncomputable def refIn_code : Code := Tryd.f86.body.getD .skip
noncomputable def refIn_G (R : Type) : Orc R := fun _ _ _ => none
theorem refIn_Gok (R : Type) : OrcOk qP (refIn_G R) := orc_nil
noncomputable def refIn_B2 {R : Type} (rec : List Int → Int → Int → Option R) (l2 : List Int) (x3 : Int) (x4 : Int) (ke0 : Int → Option R) (ke1 : Option R) : Option R :=
  (bif (Decidable.decide (x4 < (↑(List.length l2) : Int))) then
  (bif (Decidable.decide ((0 : Int) ≤ x4) && Decidable.decide (x4 < (↑(List.length l2) : Int))) then
   (bif (List.getD l2 (Int.toNat x4) (0 : Int) == x3) then
    ke0 x4
   else
    rec l2 x3 (Go.IntKind.wrap Go.IntKind.i64 (x4 + (1 : Int))))
  else
   none)
 else
  ke1)
noncomputable def refIn_L2 {R : Type} : Nat → List Int → Int → Int → (Int → Option R) → (Option R) → Option R
  | 0, _, _, _, _, _ => none
  | n + 1, l2, x3, x4, ke0, ke1 => refIn_B2 (fun l2 x3 x4 => refIn_L2 n l2 x3 x4 ke0 ke1) l2 x3 x4 ke0 ke1
noncomputable def refIn_M2 {R : Type} : List Int → Int → Int → (Int → Option R) → (Option R) → Option R := lock (refIn_L2 4611686018427387904)
theorem refIn_M2_eq {R : Type} : @refIn_M2 R = refIn_L2 4611686018427387904 := lock_eq _
noncomputable def refIn_Lam0 (R : Type) : Lam R := fun _ _ _ => none
noncomputable def refIn_body2 : Code := (findLoop 2 refIn_code).getD .skip
def refIn_S2 : QA.Spec := (⟨[.t 0, .t 1, .t 5], [], [], [], []⟩ : QA.Spec)
def refIn_S2r : QA.Spec := (⟨[.t 4], [], [], [], []⟩ : QA.Spec)
def refIn_S2e0 : QA.Spec := (⟨[], [], [], [], []⟩ : QA.Spec)
def refIn_X2 : AExit → Option QA.Spec
  | .normal => none
  | .exit j => bif Nat.beq j 0 then some refIn_S2e0 else none
  | .ret => some refIn_S2r
theorem refIn_L2_eq {R : Type} (k : AExit → St → Option R) : ∀ (n : Nat) (a0 : List Int) (a1 : Int) (a2 : Int), aloop refIn_C (refIn_G R) (refIn_Lam0 R) refIn_S2 refIn_X2 refIn_body2 n [D.sl (.ints .i64 a0), D.int .i64 a1, D.int .i64 a2] k = refIn_L2 n a0 a1 a2 (fun y0 => k .ret (mkSt refIn_S2r [D.int .i64 y0])) (k (.exit 0) (mkSt refIn_S2e0 []))
  | 0, _, _, _ => rfl
  | n + 1, a0, a1, a2 => by
    have h : (fun a0 a1 a2 => aloop refIn_C (refIn_G R) (refIn_Lam0 R) refIn_S2 refIn_X2 refIn_body2 n [D.sl (.ints .i64 a0), D.int .i64 a1, D.int .i64 a2] k) = (fun a0 a1 a2 => refIn_L2 n a0 a1 a2 (fun y0 => k .ret (mkSt refIn_S2r [D.int .i64 y0])) (k (.exit 0) (mkSt refIn_S2e0 []))) := by
      funext a0 a1 a2; exact refIn_L2_eq k n a0 a1 a2
    have s : aloop refIn_C (refIn_G R) (refIn_Lam0 R) refIn_S2 refIn_X2 refIn_body2 (n + 1) [D.sl (.ints .i64 a0), D.int .i64 a1, D.int .i64 a2] k = refIn_B2 (fun a0 a1 a2 => aloop refIn_C (refIn_G R) (refIn_Lam0 R) refIn_S2 refIn_X2 refIn_body2 n [D.sl (.ints .i64 a0), D.int .i64 a1, D.int .i64 a2] k) a0 a1 a2 (fun y0 => k .ret (mkSt refIn_S2r [D.int .i64 y0])) (k (.exit 0) (mkSt refIn_S2e0 [])) := by kernel_rfl
    rw [s, h]; rfl
noncomputable def refIn_A2 (R : Type) (ds : List D) (k : AExit → St → Option R) : Option R :=
  match ds with
  | [D.sl (.ints .i64 a0), D.int .i64 a1, D.int .i64 a2] => refIn_M2 a0 a1 a2 (fun y0 => k .ret (mkSt refIn_S2r [D.int .i64 y0])) (k (.exit 0) (mkSt refIn_S2e0 []))
  | _ => none
noncomputable def refIn_Lam1 (R : Type) : Lam R := fun key st k => bif Nat.beq key 2 then (match readSt refIn_S2 st with | some ds => refIn_A2 R ds k | none => none) else refIn_Lam0 R key st k
theorem refIn_A2_ok {R : Type} : ∀ ds k r, refIn_A2 R ds k = some r → ∃ e st', k e st' = some r ∧ QA.Reach refIn_C (.loop refIn_body2) (mkSt refIn_S2 ds) e st' := by
  intro ds k r h
  unfold refIn_A2 at h
  split at h
  · rw [refIn_M2_eq, ← refIn_L2_eq] at h
    refine aloop_ok (C := refIn_C) qOk (refIn_Gok R) ?_ _ _ _ _ h
    rw [show loopsIn refIn_body2 = [] from by kernel_rfl]
    intro b hb
    cases hb
  · cases h
noncomputable def refIn_T {R : Type} (l0 : List Int) (x1 : Int) (k : Int → Option R) : Option R :=
  refIn_M2 l0 x1 ((0 : Int))
  (fun x5 =>
  k x5)
  (
  k ((-1 : Int)))
noncomputable def refIn_F {R : Type} : List Int → Int → (Int → Option R) → Option R := lock refIn_T
theorem refIn_F_T {R : Type} : @refIn_F R = refIn_T := lock_eq _
theorem refIn_F_eq {R : Type} (l0 : List Int) (x1 : Int) (k : D → Option R) : afun qP [] (refIn_G R) (refIn_Lam1 R) Tryd.f86 [D.sl (.ints .i64 l0), D.int .i64 x1] k = refIn_T l0 x1 (fun y0 => k (D.int .i64 y0)) := by kernel_rfl
noncomputable def refIn_abs (R : Type) (ds : List D) (k : D → Option R) : Option R :=
  match ds with
  | [D.sl (.ints .i64 l0), D.int .i64 x1] => refIn_F l0 x1 (fun y0 => k (D.int .i64 y0))
  | _ => none
theorem refIn_ok : FnOk qP 86 refIn_abs := by
  intro R ds k r h
  unfold refIn_abs at h
  split at h
  · rw [refIn_F_T, ← refIn_F_eq] at h
    refine afun_ok (P := qP) (c := refIn_code) qOk (refIn_Gok R) Tryd.func86 (by kernel_rfl) (by kernel_rfl) ?_ ?_ (by kernel_rfl) h
    rotate_left
    · exact Nat.le_of_ble_eq_true (by kernel_rfl)
    rw [show loopsIn refIn_code = [refIn_body2] from by kernel_rfl]
    intro b hb
    simp only [List.mem_cons, List.not_mem_nil, or_false] at hb
    subst hb
    exact lam_of (key := 2) (S := refIn_S2) (L := refIn_A2 R) (fun st k => by kernel_rfl) (by kernel_rfl) refIn_A2_ok
  · cases h

/-! ### refLen: function 42 -/

noncomputable def refLen_C : Cfg := ⟨qP, Tryd.f42.ntmps, []⟩
noncomputable def refLen_code : Code := Tryd.f42.body.getD .skip
noncomputable def refLen_G (R : Type) : Orc R := fun _ _ _ => none
theorem refLen_Gok (R : Type) : OrcOk qP (refLen_G R) := orc_nil
noncomputable def refLen_Lam0 (R : Type) : Lam R := fun _ _ _ => none
noncomputable def refLen_T {R : Type} (s0 : Str) (k : Int → Option R) : Option R :=
  k ((↑(List.length (Go.QA.runesOf s0)) : Int))
noncomputable def refLen_F {R : Type} : Str → (Int → Option R) → Option R := lock refLen_T
theorem refLen_F_T {R : Type} : @refLen_F R = refLen_T := lock_eq _
theorem refLen_F_eq {R : Type} (s0 : Str) (k : D → Option R) : afun qP [] (refLen_G R) (refLen_Lam0 R) Tryd.f42 [D.str s0] k = refLen_T s0 (fun y0 => k (D.int .i64 y0)) := by kernel_rfl
noncomputable def refLen_abs (R : Type) (ds : List D) (k : D → Option R) : Option R :=
  match ds with
  | [D.str s0] => refLen_F s0 (fun y0 => k (D.int .i64 y0))
  | _ => none
theorem refLen_ok : FnOk qP 42 refLen_abs := by
  intro R ds k r h
  unfold refLen_abs at h
  split at h
  · rw [refLen_F_T, ← refLen_F_eq] at h
    refine afun_ok (P := qP) (c := refLen_code) qOk (refLen_Gok R) Tryd.func42 (by kernel_rfl) (by kernel_rfl) ?_ ?_ (by kernel_rfl) h
    rotate_left
    · exact Nat.le_of_ble_eq_true (by kernel_rfl)
    rw [show loopsIn refLen_code = [] from by kernel_rfl]
    intro b hb
    cases hb
  · cases h

/-! ### refMay1: function 22 -/

noncomputable def refMay1_C : Cfg := ⟨qP, Tryd.f22.ntmps, []⟩
noncomputable def refMay1_code : Code := Tryd.f22.body.getD .skip
noncomputable def refMay1_G (R : Type) : Orc R := fun f args k => bif Nat.beq f 45 then libValidString_abs R args k else (fun _ _ _ => none) f args k
theorem refMay1_Gok (R : Type) : OrcOk qP (refMay1_G R) := (orc_cons libValidString_ok orc_nil)
noncomputable def refMay1_B4 {R : Type} (rec : Str → Int → Option R) (s2 : Str) (x3 : Int) (ke0 : Bool → Option R) (ke1 : Option R) : Option R :=
  (bif (Decidable.decide (x3 < (↑(List.length s2) : Int))) then
  (bif (Decidable.decide ((0 : Int) ≤ x3) && Decidable.decide (x3 < (↑(List.length s2) : Int))) then
   (bif ((↑(UInt8.toNat (List.getD s2 (Int.toNat x3) (0 : UInt8))) : Int) == (0 : Int)) then
    ke0 Bool.false
   else
    rec s2 (Go.IntKind.wrap Go.IntKind.i64 (x3 + (1 : Int))))
  else
   none)
 else
  ke1)
noncomputable def refMay1_L4 {R : Type} : Nat → Str → Int → (Bool → Option R) → (Option R) → Option R
  | 0, _, _, _, _ => none
  | n + 1, s2, x3, ke0, ke1 => refMay1_B4 (fun s2 x3 => refMay1_L4 n s2 x3 ke0 ke1) s2 x3 ke0 ke1
noncomputable def refMay1_M4 {R : Type} : Str → Int → (Bool → Option R) → (Option R) → Option R := lock (refMay1_L4 4611686018427387904)
theorem refMay1_M4_eq {R : Type} : @refMay1_M4 R = refMay1_L4 4611686018427387904 := lock_eq _
noncomputable def refMay1_Lam0 (R : Type) : Lam R := fun _ _ _ => none
noncomputable def refMay1_body4 : Code := (findLoop 4 refMay1_code).getD .skip
def refMay1_S4 : QA.Spec := (⟨[.t 0, .t 3], [], [], [], []⟩ : QA.Spec)
def refMay1_S4r : QA.Spec := (⟨[.t 2], [], [], [], []⟩ : QA.Spec)
def refMay1_S4e0 : QA.Spec := (⟨[], [], [], [], []⟩ : QA.Spec)
def refMay1_X4 : AExit → Option QA.Spec
  | .normal => none
  | .exit j => bif Nat.beq j 0 then some refMay1_S4e0 else none
  | .ret => some refMay1_S4r
theorem refMay1_L4_eq {R : Type} (k : AExit → St → Option R) : ∀ (n : Nat) (a0 : Str) (a1 : Int), aloop refMay1_C (refMay1_G R) (refMay1_Lam0 R) refMay1_S4 refMay1_X4 refMay1_body4 n [D.str a0, D.int .i64 a1] k = refMay1_L4 n a0 a1 (fun y0 => k .ret (mkSt refMay1_S4r [D.bool y0])) (k (.exit 0) (mkSt refMay1_S4e0 []))
  | 0, _, _ => rfl
  | n + 1, a0, a1 => by
    have h : (fun a0 a1 => aloop refMay1_C (refMay1_G R) (refMay1_Lam0 R) refMay1_S4 refMay1_X4 refMay1_body4 n [D.str a0, D.int .i64 a1] k) = (fun a0 a1 => refMay1_L4 n a0 a1 (fun y0 => k .ret (mkSt refMay1_S4r [D.bool y0])) (k (.exit 0) (mkSt refMay1_S4e0 []))) := by
      funext a0 a1; exact refMay1_L4_eq k n a0 a1
    have s : aloop refMay1_C (refMay1_G R) (refMay1_Lam0 R) refMay1_S4 refMay1_X4 refMay1_body4 (n + 1) [D.str a0, D.int .i64 a1] k = refMay1_B4 (fun a0 a1 => aloop refMay1_C (refMay1_G R) (refMay1_Lam0 R) refMay1_S4 refMay1_X4 refMay1_body4 n [D.str a0, D.int .i64 a1] k) a0 a1 (fun y0 => k .ret (mkSt refMay1_S4r [D.bool y0])) (k (.exit 0) (mkSt refMay1_S4e0 [])) := by kernel_rfl
    rw [s, h]; rfl
noncomputable def refMay1_A4 (R : Type) (ds : List D) (k : AExit → St → Option R) : Option R :=
  match ds with
  | [D.str a0, D.int .i64 a1] => refMay1_M4 a0 a1 (fun y0 => k .ret (mkSt refMay1_S4r [D.bool y0])) (k (.exit 0) (mkSt refMay1_S4e0 []))
  | _ => none
noncomputable def refMay1_Lam1 (R : Type) : Lam R := fun key st k => bif Nat.beq key 4 then (match readSt refMay1_S4 st with | some ds => refMay1_A4 R ds k | none => none) else refMay1_Lam0 R key st k
theorem refMay1_A4_ok {R : Type} : ∀ ds k r, refMay1_A4 R ds k = some r → ∃ e st', k e st' = some r ∧ QA.Reach refMay1_C (.loop refMay1_body4) (mkSt refMay1_S4 ds) e st' := by
  intro ds k r h
  unfold refMay1_A4 at h
  split at h
  · rw [refMay1_M4_eq, ← refMay1_L4_eq] at h
    refine aloop_ok (C := refMay1_C) qOk (refMay1_Gok R) ?_ _ _ _ _ h
    rw [show loopsIn refMay1_body4 = [] from by kernel_rfl]
    intro b hb
    cases hb
  · cases h
noncomputable def refMay1_T {R : Type} (s0 : Str) (k : Bool → Option R) : Option R :=
  (bif (Decidable.decide ((↑(List.length s0) : Int) > (4000 : Int))) then
  k Bool.false
 else
  libValidString_F s0 (fun b1 =>
   (bif !b1 then
    k Bool.false
   else
    refMay1_M4 s0 ((0 : Int))
     (fun b4 =>
     k b4)
     (
     k Bool.true))))
noncomputable def refMay1_F {R : Type} : Str → (Bool → Option R) → Option R := lock refMay1_T
theorem refMay1_F_T {R : Type} : @refMay1_F R = refMay1_T := lock_eq _
theorem refMay1_F_eq {R : Type} (s0 : Str) (k : D → Option R) : afun qP [] (refMay1_G R) (refMay1_Lam1 R) Tryd.f22 [D.str s0] k = refMay1_T s0 (fun y0 => k (D.bool y0)) := by kernel_rfl
noncomputable def refMay1_abs (R : Type) (ds : List D) (k : D → Option R) : Option R :=
  match ds with
  | [D.str s0] => refMay1_F s0 (fun y0 => k (D.bool y0))
  | _ => none
theorem refMay1_ok : FnOk qP 22 refMay1_abs := by
  intro R ds k r h
  unfold refMay1_abs at h
  split at h
  · rw [refMay1_F_T, ← refMay1_F_eq] at h
    refine afun_ok (P := qP) (c := refMay1_code) qOk (refMay1_Gok R) Tryd.func22 (by kernel_rfl) (by kernel_rfl) ?_ ?_ (by kernel_rfl) h
    rotate_left
    · exact Nat.le_of_ble_eq_true (by kernel_rfl)
    rw [show loopsIn refMay1_code = [refMay1_body4] from by kernel_rfl]
    intro b hb
    simp only [List.mem_cons, List.not_mem_nil, or_false] at hb
    subst hb
    exact lam_of (key := 4) (S := refMay1_S4) (L := refMay1_A4 R) (fun st k => by kernel_rfl) (by kernel_rfl) refMay1_A4_ok
  · cases h

/-! ### refNum: function 56 -/

noncomputable def refNum_C : Cfg := ⟨qP, Tryd.f56.ntmps, []⟩
noncomputable def refNum_code : Code := Tryd.f56.body.getD .skip
noncomputable def refNum_G (R : Type) : Orc R := fun _ _ _ => none
theorem refNum_Gok (R : Type) : OrcOk qP (refNum_G R) := orc_nil
noncomputable def refNum_Lam0 (R : Type) : Lam R := fun _ _ _ => none
noncomputable def refNum_T {R : Type} (x0 : Int) (x1 : Int) (k : Bool → Option R) : Option R :=
  (bif (Decidable.decide (x0 ≥ (0 : Int))) then
  k (Decidable.decide (x0 ≤ x1))
 else
  k Bool.false)
noncomputable def refNum_F {R : Type} : Int → Int → (Bool → Option R) → Option R := lock refNum_T
theorem refNum_F_T {R : Type} : @refNum_F R = refNum_T := lock_eq _
theorem refNum_F_eq {R : Type} (x0 : Int) (x1 : Int) (k : D → Option R) : afun qP [] (refNum_G R) (refNum_Lam0 R) Tryd.f56 [D.int .i64 x0, D.int .i64 x1] k = refNum_T x0 x1 (fun y0 => k (D.bool y0)) := by kernel_rfl
noncomputable def refNum_abs (R : Type) (ds : List D) (k : D → Option R) : Option R :=
  match ds with
  | [D.int .i64 x0, D.int .i64 x1] => refNum_F x0 x1 (fun y0 => k (D.bool y0))
  | _ => none
theorem refNum_ok : FnOk qP 56 refNum_abs := by
  intro R ds k r h
  unfold refNum_abs at h
  split at h
  · rw [refNum_F_T, ← refNum_F_eq] at h
    refine afun_ok (P := qP) (c := refNum_code) qOk (refNum_Gok R) Tryd.func56 (by kernel_rfl) (by kernel_rfl) ?_ ?_ (by kernel_rfl) h
    rotate_left
    · exact Nat.le_of_ble_eq_true (by kernel_rfl)
    rw [show loopsIn refNum_code = [] from by kernel_rfl]
    intro b hb
    cases hb
  · cases h

/-! ### refRows: function 28 -/

noncomputable def refRows_C : Cfg := ⟨qP, Tryd.f28.ntmps, []⟩
noncomputable def refRows_code : Code := Tryd.f28.body.getD .skip
noncomputable def refRows_G (R : Type) : Orc R := fun _ _ _ => none
theorem refRows_Gok (R : Type) : OrcOk qP (refRows_G R) := orc_nil
noncomputable def refRows_B4 {R : Type} (rec : Str → List Str → Int → Int → Option R) (s4 : Str) (q5 : List Str) (x6 : Int) (x7 : Int) (ke0 : Str → List Str → Int → Option R) : Option R :=
  (bif (Decidable.decide (x7 < (↑(List.length s4) : Int))) then
  (bif (Decidable.decide ((0 : Int) ≤ x7) && Decidable.decide (x7 < (↑(List.length s4) : Int))) then
   (bif ((↑(UInt8.toNat (List.getD s4 (Int.toNat x7) (0 : UInt8))) : Int) == (10 : Int)) then
    (bif (Decidable.decide ((0 : Int) ≤ x7) && Decidable.decide (x7 ≤ (↑(List.length s4) : Int))) then
     (bif (Decidable.decide ((0 : Int) ≤ x6) && Decidable.decide (x6 ≤ (↑(Int.toNat x7) : Int))) then
      (bif (Decidable.decide (List.length (q5 ++ [List.drop (Int.toNat x6) (List.take (Int.toNat x7) s4)]) * (16 : Nat) ≤ (140737488355328 : Nat)) && Decidable.decide (List.length (q5 ++ [List.drop (Int.toNat x6) (List.take (Int.toNat x7) s4)]) ≤ (9223372036854775807 : Nat))) then
       rec s4 (q5 ++ [List.drop (Int.toNat x6) (List.take (Int.toNat x7) s4)]) (Go.IntKind.wrap Go.IntKind.i64 (x7 + (1 : Int))) (Go.IntKind.wrap Go.IntKind.i64 (x7 + (1 : Int)))
      else
       none)
     else
      none)
    else
     none)
   else
    rec s4 q5 x6 (Go.IntKind.wrap Go.IntKind.i64 (x7 + (1 : Int))))
  else
   none)
 else
  ke0 s4 q5 x6)
noncomputable def refRows_L4 {R : Type} : Nat → Str → List Str → Int → Int → (Str → List Str → Int → Option R) → Option R
  | 0, _, _, _, _, _ => none
  | n + 1, s4, q5, x6, x7, ke0 => refRows_B4 (fun s4 q5 x6 x7 => refRows_L4 n s4 q5 x6 x7 ke0) s4 q5 x6 x7 ke0
noncomputable def refRows_M4 {R : Type} : Str → List Str → Int → Int → (Str → List Str → Int → Option R) → Option R := lock (refRows_L4 4611686018427387904)
theorem refRows_M4_eq {R : Type} : @refRows_M4 R = refRows_L4 4611686018427387904 := lock_eq _
noncomputable def refRows_Lam0 (R : Type) : Lam R := fun _ _ _ => none
noncomputable def refRows_body4 : Code := (findLoop 4 refRows_code).getD .skip
def refRows_S4 : QA.Spec := (⟨[.t 0, .t 3, .t 4, .t 5], [], [(3, .strs [])], [], []⟩ : QA.Spec)
def refRows_S4e0 : QA.Spec := (⟨[.t 0, .t 3, .t 4], [], [], [], []⟩ : QA.Spec)
def refRows_X4 : AExit → Option QA.Spec
  | .normal => none
  | .exit j => bif Nat.beq j 0 then some refRows_S4e0 else none
  | .ret => none
theorem refRows_L4_eq {R : Type} (k : AExit → St → Option R) : ∀ (n : Nat) (a0 : Str) (a1 : List Str) (a2 : Int) (a3 : Int), aloop refRows_C (refRows_G R) (refRows_Lam0 R) refRows_S4 refRows_X4 refRows_body4 n [D.str a0, D.con (.strs a1), D.int .i64 a2, D.int .i64 a3] k = refRows_L4 n a0 a1 a2 a3 (fun y0 y1 y2 => k (.exit 0) (mkSt refRows_S4e0 [D.str y0, D.con (.strs y1), D.int .i64 y2]))
  | 0, _, _, _, _ => rfl
  | n + 1, a0, a1, a2, a3 => by
    have h : (fun a0 a1 a2 a3 => aloop refRows_C (refRows_G R) (refRows_Lam0 R) refRows_S4 refRows_X4 refRows_body4 n [D.str a0, D.con (.strs a1), D.int .i64 a2, D.int .i64 a3] k) = (fun a0 a1 a2 a3 => refRows_L4 n a0 a1 a2 a3 (fun y0 y1 y2 => k (.exit 0) (mkSt refRows_S4e0 [D.str y0, D.con (.strs y1), D.int .i64 y2]))) := by
      funext a0 a1 a2 a3; exact refRows_L4_eq k n a0 a1 a2 a3
    have s : aloop refRows_C (refRows_G R) (refRows_Lam0 R) refRows_S4 refRows_X4 refRows_body4 (n + 1) [D.str a0, D.con (.strs a1), D.int .i64 a2, D.int .i64 a3] k = refRows_B4 (fun a0 a1 a2 a3 => aloop refRows_C (refRows_G R) (refRows_Lam0 R) refRows_S4 refRows_X4 refRows_body4 n [D.str a0, D.con (.strs a1), D.int .i64 a2, D.int .i64 a3] k) a0 a1 a2 a3 (fun y0 y1 y2 => k (.exit 0) (mkSt refRows_S4e0 [D.str y0, D.con (.strs y1), D.int .i64 y2])) := by kernel_rfl
    rw [s, h]; rfl
noncomputable def refRows_A4 (R : Type) (ds : List D) (k : AExit → St → Option R) : Option R :=
  match ds with
  | [D.str a0, D.con (.strs a1), D.int .i64 a2, D.int .i64 a3] => refRows_M4 a0 a1 a2 a3 (fun y0 y1 y2 => k (.exit 0) (mkSt refRows_S4e0 [D.str y0, D.con (.strs y1), D.int .i64 y2]))
  | _ => none
noncomputable def refRows_Lam1 (R : Type) : Lam R := fun key st k => bif Nat.beq key 4 then (match readSt refRows_S4 st with | some ds => refRows_A4 R ds k | none => none) else refRows_Lam0 R key st k
theorem refRows_A4_ok {R : Type} : ∀ ds k r, refRows_A4 R ds k = some r → ∃ e st', k e st' = some r ∧ QA.Reach refRows_C (.loop refRows_body4) (mkSt refRows_S4 ds) e st' := by
  intro ds k r h
  unfold refRows_A4 at h
  split at h
  · rw [refRows_M4_eq, ← refRows_L4_eq] at h
    refine aloop_ok (C := refRows_C) qOk (refRows_Gok R) ?_ _ _ _ _ h
    rw [show loopsIn refRows_body4 = [] from by kernel_rfl]
    intro b hb
    cases hb
  · cases h
noncomputable def refRows_T {R : Type} (s0 : Str) (k : List Str → Option R) : Option R :=
  refRows_M4 s0 [] ((0 : Int)) ((0 : Int))
  (fun s8 q9 x10 =>
  (bif (Decidable.decide ((0 : Int) ≤ x10) && Decidable.decide (x10 ≤ (↑(List.length s8) : Int))) then
   (bif (Decidable.decide (List.length (q9 ++ [List.drop (Int.toNat x10) (List.take (List.length s8) s8)]) * (16 : Nat) ≤ (140737488355328 : Nat)) && Decidable.decide (List.length (q9 ++ [List.drop (Int.toNat x10) (List.take (List.length s8) s8)]) ≤ (9223372036854775807 : Nat))) then
    k (q9 ++ [List.drop (Int.toNat x10) (List.take (List.length s8) s8)])
   else
    none)
  else
   none))
noncomputable def refRows_F {R : Type} : Str → (List Str → Option R) → Option R := lock refRows_T
theorem refRows_F_T {R : Type} : @refRows_F R = refRows_T := lock_eq _
theorem refRows_F_eq {R : Type} (s0 : Str) (k : D → Option R) : afun qP [] (refRows_G R) (refRows_Lam1 R) Tryd.f28 [D.str s0] k = refRows_T s0 (fun y0 => k (D.sl (.strs y0))) := by kernel_rfl
noncomputable def refRows_abs (R : Type) (ds : List D) (k : D → Option R) : Option R :=
  match ds with
  | [D.str s0] => refRows_F s0 (fun y0 => k (D.sl (.strs y0)))
  | _ => none
theorem refRows_ok : FnOk qP 28 refRows_abs := by
  intro R ds k r h
  unfold refRows_abs at h
  split at h
  · rw [refRows_F_T, ← refRows_F_eq] at h
    refine afun_ok (P := qP) (c := refRows_code) qOk (refRows_Gok R) Tryd.func28 (by kernel_rfl) (by kernel_rfl) ?_ ?_ (by kernel_rfl) h
    rotate_left
    · exact Nat.le_of_ble_eq_true (by kernel_rfl)
    rw [show loopsIn refRows_code = [refRows_body4] from by kernel_rfl]
    intro b hb
    simp only [List.mem_cons, List.not_mem_nil, or_false] at hb
    subst hb
    exact lam_of (key := 4) (S := refRows_S4) (L := refRows_A4 R) (fun st k => by kernel_rfl) (by kernel_rfl) refRows_A4_ok
  · cases h

/-! ### refRune: function 98 -/

noncomputable def refRune_C : Cfg := ⟨qP, Tryd.f98.ntmps, []⟩
noncomputable def refRune_code : Code := Tryd.f98.body.getD .skip
noncomputable def refRune_G (R : Type) : Orc R := fun _ _ _ => none
theorem refRune_Gok (R : Type) : OrcOk qP (refRune_G R) := orc_nil
noncomputable def refRune_Lam0 (R : Type) : Lam R := fun _ _ _ => none
noncomputable def refRune_T {R : Type} (x0 : Int) (k : Bool → Option R) : Option R :=
  (bif (Decidable.decide (x0 ≥ (1 : Int))) then
  (bif (Decidable.decide (x0 ≤ (1114111 : Int))) then
   (bif (Decidable.decide (x0 ≥ (55296 : Int))) then
    k (!Decidable.decide (x0 ≤ (57343 : Int)))
   else
    k !Bool.false)
  else
   k Bool.false)
 else
  k Bool.false)
noncomputable def refRune_F {R : Type} : Int → (Bool → Option R) → Option R := lock refRune_T
theorem refRune_F_T {R : Type} : @refRune_F R = refRune_T := lock_eq _
theorem refRune_F_eq {R : Type} (x0 : Int) (k : D → Option R) : afun qP [] (refRune_G R) (refRune_Lam0 R) Tryd.f98 [D.int .i64 x0] k = refRune_T x0 (fun y0 => k (D.bool y0)) := by kernel_rfl
noncomputable def refRune_abs (R : Type) (ds : List D) (k : D → Option R) : Option R :=
  match ds with
  | [D.int .i64 x0] => refRune_F x0 (fun y0 => k (D.bool y0))
  | _ => none
theorem refRune_ok : FnOk qP 98 refRune_abs := by
  intro R ds k r h
  unfold refRune_abs at h
  split at h
  · rw [refRune_F_T, ← refRune_F_eq] at h
    refine afun_ok (P := qP) (c := refRune_code) qOk (refRune_Gok R) Tryd.func98 (by kernel_rfl) (by kernel_rfl) ?_ ?_ (by kernel_rfl) h
    rotate_left
    · exact Nat.le_of_ble_eq_true (by kernel_rfl)
    rw [show loopsIn refRune_code = [] from by kernel_rfl]
    intro b hb
    cases hb
  · cases h

/-! ### slicesConcat: function 102 -/

noncomputable def slicesConcat_C : Cfg := ⟨qP, Tryd.f102.ntmps, [24, 33]⟩
noncomputable def slicesConcat_code : Code := Tryd.f102.body.getD .skip
noncomputable def slicesConcat_G (R : Type) : Orc R := fun f args k => bif Nat.beq f 117 then libGrow_abs R args k else (fun _ _ _ => none) f args k
theorem slicesConcat_Gok (R : Type) : OrcOk qP (slicesConcat_G R) := (orc_cons libGrow_ok orc_nil)
noncomputable def slicesConcat_B3 {R : Type} (rec : List Str → List Str → List Str → Int → List Str → List Str → List Str → Int → Int → Option R) (q3 : List Str) (q4 : List Str) (q5 : List Str) (x6 : Int) (q7 : List Str) (q8 : List Str) (q9 : List Str) (x10 : Int) (x11 : Int) (ke0 : List Str → List Str → List Str → Int → Option R) : Option R :=
  (bif (Decidable.decide (x11 < x10)) then
  (bif (Decidable.decide ((0 : Int) ≤ x11) && Decidable.decide (x11 < (↑(List.length [Go.QA.D.sl (Go.QA.Con.strs q7), Go.QA.D.sl (Go.QA.Con.strs q8), Go.QA.D.sl (Go.QA.Con.strs q9)]) : Int))) then
   (bif (Decidable.decide (Go.IntKind.wrap Go.IntKind.i64 (x6 + (↑(List.length (List.getD [q7, q8, q9] (Int.toNat x11) [])) : Int)) < (0 : Int))) then
    none
   else
    rec q3 q4 q5 (Go.IntKind.wrap Go.IntKind.i64 (x6 + (↑(List.length (List.getD [q7, q8, q9] (Int.toNat x11) [])) : Int))) q7 q8 q9 x10 (Go.IntKind.wrap Go.IntKind.i64 (x11 + (1 : Int))))
  else
   none)
 else
  ke0 q3 q4 q5 x6)
noncomputable def slicesConcat_L3 {R : Type} : Nat → List Str → List Str → List Str → Int → List Str → List Str → List Str → Int → Int → (List Str → List Str → List Str → Int → Option R) → Option R
  | 0, _, _, _, _, _, _, _, _, _, _ => none
  | n + 1, q3, q4, q5, x6, q7, q8, q9, x10, x11, ke0 => slicesConcat_B3 (fun q3 q4 q5 x6 q7 q8 q9 x10 x11 => slicesConcat_L3 n q3 q4 q5 x6 q7 q8 q9 x10 x11 ke0) q3 q4 q5 x6 q7 q8 q9 x10 x11 ke0
noncomputable def slicesConcat_M3 {R : Type} : List Str → List Str → List Str → Int → List Str → List Str → List Str → Int → Int → (List Str → List Str → List Str → Int → Option R) → Option R := lock (slicesConcat_L3 4611686018427387904)
theorem slicesConcat_M3_eq {R : Type} : @slicesConcat_M3 R = slicesConcat_L3 4611686018427387904 := lock_eq _
noncomputable def slicesConcat_B11 {R : Type} (rec : List Str → List Str → List Str → List Str → Int → Int → Option R) (q17 : List Str) (q18 : List Str) (q19 : List Str) (q20 : List Str) (x21 : Int) (x22 : Int) (ke0 : List Str → Option R) : Option R :=
  (bif (Decidable.decide (x22 < x21)) then
  (bif (Decidable.decide ((0 : Int) ≤ x22) && Decidable.decide (x22 < (↑(List.length [Go.QA.D.sl (Go.QA.Con.strs q18), Go.QA.D.sl (Go.QA.Con.strs q19), Go.QA.D.sl (Go.QA.Con.strs q20)]) : Int))) then
   (bif (Decidable.decide (List.length (q17 ++ List.getD [q18, q19, q20] (Int.toNat x22) []) * (16 : Nat) ≤ (140737488355328 : Nat)) && Decidable.decide (List.length (q17 ++ List.getD [q18, q19, q20] (Int.toNat x22) []) ≤ (9223372036854775807 : Nat))) then
    rec (q17 ++ List.getD [q18, q19, q20] (Int.toNat x22) []) q18 q19 q20 x21 (Go.IntKind.wrap Go.IntKind.i64 (x22 + (1 : Int)))
   else
    none)
  else
   none)
 else
  ke0 q17)
noncomputable def slicesConcat_L11 {R : Type} : Nat → List Str → List Str → List Str → List Str → Int → Int → (List Str → Option R) → Option R
  | 0, _, _, _, _, _, _, _ => none
  | n + 1, q17, q18, q19, q20, x21, x22, ke0 => slicesConcat_B11 (fun q17 q18 q19 q20 x21 x22 => slicesConcat_L11 n q17 q18 q19 q20 x21 x22 ke0) q17 q18 q19 q20 x21 x22 ke0
noncomputable def slicesConcat_M11 {R : Type} : List Str → List Str → List Str → List Str → Int → Int → (List Str → Option R) → Option R := lock (slicesConcat_L11 4611686018427387904)
theorem slicesConcat_M11_eq {R : Type} : @slicesConcat_M11 R = slicesConcat_L11 4611686018427387904 := lock_eq _
noncomputable def slicesConcat_Lam0 (R : Type) : Lam R := fun _ _ _ => none
noncomputable def slicesConcat_body3 : Code := (findLoop 3 slicesConcat_code).getD .skip
def slicesConcat_S3 : QA.Spec := (⟨[.t 0, .t 3, .t 9, .t 10, .t 11], [], [], [], []⟩ : QA.Spec)
def slicesConcat_S3e0 : QA.Spec := (⟨[.t 0, .t 3], [], [], [], []⟩ : QA.Spec)
def slicesConcat_X3 : AExit → Option QA.Spec
  | .normal => none
  | .exit j => bif Nat.beq j 0 then some slicesConcat_S3e0 else none
  | .ret => none
theorem slicesConcat_L3_eq {R : Type} (k : AExit → St → Option R) : ∀ (n : Nat) (a0 : List Str) (a1 : List Str) (a2 : List Str) (a3 : Int) (a4 : List Str) (a5 : List Str) (a6 : List Str) (a7 : Int) (a8 : Int), aloop slicesConcat_C (slicesConcat_G R) (slicesConcat_Lam0 R) slicesConcat_S3 slicesConcat_X3 slicesConcat_body3 n [D.sls [D.sl (.strs a0), D.sl (.strs a1), D.sl (.strs a2)], D.int .i64 a3, D.sls [D.sl (.strs a4), D.sl (.strs a5), D.sl (.strs a6)], D.int .i64 a7, D.int .i64 a8] k = slicesConcat_L3 n a0 a1 a2 a3 a4 a5 a6 a7 a8 (fun y0 y1 y2 y3 => k (.exit 0) (mkSt slicesConcat_S3e0 [D.sls [D.sl (.strs y0), D.sl (.strs y1), D.sl (.strs y2)], D.int .i64 y3]))
  | 0, _, _, _, _, _, _, _, _, _ => rfl
  | n + 1, a0, a1, a2, a3, a4, a5, a6, a7, a8 => by
    have h : (fun a0 a1 a2 a3 a4 a5 a6 a7 a8 => aloop slicesConcat_C (slicesConcat_G R) (slicesConcat_Lam0 R) slicesConcat_S3 slicesConcat_X3 slicesConcat_body3 n [D.sls [D.sl (.strs a0), D.sl (.strs a1), D.sl (.strs a2)], D.int .i64 a3, D.sls [D.sl (.strs a4), D.sl (.strs a5), D.sl (.strs a6)], D.int .i64 a7, D.int .i64 a8] k) = (fun a0 a1 a2 a3 a4 a5 a6 a7 a8 => slicesConcat_L3 n a0 a1 a2 a3 a4 a5 a6 a7 a8 (fun y0 y1 y2 y3 => k (.exit 0) (mkSt slicesConcat_S3e0 [D.sls [D.sl (.strs y0), D.sl (.strs y1), D.sl (.strs y2)], D.int .i64 y3]))) := by
      funext a0 a1 a2 a3 a4 a5 a6 a7 a8; exact slicesConcat_L3_eq k n a0 a1 a2 a3 a4 a5 a6 a7 a8
    have s : aloop slicesConcat_C (slicesConcat_G R) (slicesConcat_Lam0 R) slicesConcat_S3 slicesConcat_X3 slicesConcat_body3 (n + 1) [D.sls [D.sl (.strs a0), D.sl (.strs a1), D.sl (.strs a2)], D.int .i64 a3, D.sls [D.sl (.strs a4), D.sl (.strs a5), D.sl (.strs a6)], D.int .i64 a7, D.int .i64 a8] k = slicesConcat_B3 (fun a0 a1 a2 a3 a4 a5 a6 a7 a8 => aloop slicesConcat_C (slicesConcat_G R) (slicesConcat_Lam0 R) slicesConcat_S3 slicesConcat_X3 slicesConcat_body3 n [D.sls [D.sl (.strs a0), D.sl (.strs a1), D.sl (.strs a2)], D.int .i64 a3, D.sls [D.sl (.strs a4), D.sl (.strs a5), D.sl (.strs a6)], D.int .i64 a7, D.int .i64 a8] k) a0 a1 a2 a3 a4 a5 a6 a7 a8 (fun y0 y1 y2 y3 => k (.exit 0) (mkSt slicesConcat_S3e0 [D.sls [D.sl (.strs y0), D.sl (.strs y1), D.sl (.strs y2)], D.int .i64 y3])) := by kernel_rfl
    rw [s, h]; rfl
noncomputable def slicesConcat_A3 (R : Type) (ds : List D) (k : AExit → St → Option R) : Option R :=
  match ds with
  | [D.sls [D.sl (.strs a0), D.sl (.strs a1), D.sl (.strs a2)], D.int .i64 a3, D.sls [D.sl (.strs a4), D.sl (.strs a5), D.sl (.strs a6)], D.int .i64 a7, D.int .i64 a8] => slicesConcat_M3 a0 a1 a2 a3 a4 a5 a6 a7 a8 (fun y0 y1 y2 y3 => k (.exit 0) (mkSt slicesConcat_S3e0 [D.sls [D.sl (.strs y0), D.sl (.strs y1), D.sl (.strs y2)], D.int .i64 y3]))
  | _ => none
noncomputable def slicesConcat_Lam1 (R : Type) : Lam R := fun key st k => bif Nat.beq key 3 then (match readSt slicesConcat_S3 st with | some ds => slicesConcat_A3 R ds k | none => none) else slicesConcat_Lam0 R key st k
theorem slicesConcat_A3_ok {R : Type} : ∀ ds k r, slicesConcat_A3 R ds k = some r → ∃ e st', k e st' = some r ∧ QA.Reach slicesConcat_C (.loop slicesConcat_body3) (mkSt slicesConcat_S3 ds) e st' := by
  intro ds k r h
  unfold slicesConcat_A3 at h
  split at h
  · rw [slicesConcat_M3_eq, ← slicesConcat_L3_eq] at h
    refine aloop_ok (C := slicesConcat_C) qOk (slicesConcat_Gok R) ?_ _ _ _ _ h
    rw [show loopsIn slicesConcat_body3 = [] from by kernel_rfl]
    intro b hb
    cases hb
  · cases h
noncomputable def slicesConcat_body11 : Code := (findLoop 11 slicesConcat_code).getD .skip
def slicesConcat_S11 : QA.Spec := (⟨[.t 6, .t 25, .t 26, .t 27], [], [], [], []⟩ : QA.Spec)
def slicesConcat_S11e2 : QA.Spec := (⟨[.t 6], [], [], [], []⟩ : QA.Spec)
def slicesConcat_X11 : AExit → Option QA.Spec
  | .normal => none
  | .exit j => bif Nat.beq j 2 then some slicesConcat_S11e2 else none
  | .ret => none
theorem slicesConcat_L11_eq {R : Type} (k : AExit → St → Option R) : ∀ (n : Nat) (a0 : List Str) (a1 : List Str) (a2 : List Str) (a3 : List Str) (a4 : Int) (a5 : Int), aloop slicesConcat_C (slicesConcat_G R) (slicesConcat_Lam1 R) slicesConcat_S11 slicesConcat_X11 slicesConcat_body11 n [D.con (.strs a0), D.sls [D.sl (.strs a1), D.sl (.strs a2), D.sl (.strs a3)], D.int .i64 a4, D.int .i64 a5] k = slicesConcat_L11 n a0 a1 a2 a3 a4 a5 (fun y0 => k (.exit 2) (mkSt slicesConcat_S11e2 [D.con (.strs y0)]))
  | 0, _, _, _, _, _, _ => rfl
  | n + 1, a0, a1, a2, a3, a4, a5 => by
    have h : (fun a0 a1 a2 a3 a4 a5 => aloop slicesConcat_C (slicesConcat_G R) (slicesConcat_Lam1 R) slicesConcat_S11 slicesConcat_X11 slicesConcat_body11 n [D.con (.strs a0), D.sls [D.sl (.strs a1), D.sl (.strs a2), D.sl (.strs a3)], D.int .i64 a4, D.int .i64 a5] k) = (fun a0 a1 a2 a3 a4 a5 => slicesConcat_L11 n a0 a1 a2 a3 a4 a5 (fun y0 => k (.exit 2) (mkSt slicesConcat_S11e2 [D.con (.strs y0)]))) := by
      funext a0 a1 a2 a3 a4 a5; exact slicesConcat_L11_eq k n a0 a1 a2 a3 a4 a5
    have s : aloop slicesConcat_C (slicesConcat_G R) (slicesConcat_Lam1 R) slicesConcat_S11 slicesConcat_X11 slicesConcat_body11 (n + 1) [D.con (.strs a0), D.sls [D.sl (.strs a1), D.sl (.strs a2), D.sl (.strs a3)], D.int .i64 a4, D.int .i64 a5] k = slicesConcat_B11 (fun a0 a1 a2 a3 a4 a5 => aloop slicesConcat_C (slicesConcat_G R) (slicesConcat_Lam1 R) slicesConcat_S11 slicesConcat_X11 slicesConcat_body11 n [D.con (.strs a0), D.sls [D.sl (.strs a1), D.sl (.strs a2), D.sl (.strs a3)], D.int .i64 a4, D.int .i64 a5] k) a0 a1 a2 a3 a4 a5 (fun y0 => k (.exit 2) (mkSt slicesConcat_S11e2 [D.con (.strs y0)])) := by kernel_rfl
    rw [s, h]; rfl
noncomputable def slicesConcat_A11 (R : Type) (ds : List D) (k : AExit → St → Option R) : Option R :=
  match ds with
  | [D.con (.strs a0), D.sls [D.sl (.strs a1), D.sl (.strs a2), D.sl (.strs a3)], D.int .i64 a4, D.int .i64 a5] => slicesConcat_M11 a0 a1 a2 a3 a4 a5 (fun y0 => k (.exit 2) (mkSt slicesConcat_S11e2 [D.con (.strs y0)]))
  | _ => none
noncomputable def slicesConcat_Lam2 (R : Type) : Lam R := fun key st k => bif Nat.beq key 11 then (match readSt slicesConcat_S11 st with | some ds => slicesConcat_A11 R ds k | none => none) else slicesConcat_Lam1 R key st k
theorem slicesConcat_A11_ok {R : Type} : ∀ ds k r, slicesConcat_A11 R ds k = some r → ∃ e st', k e st' = some r ∧ QA.Reach slicesConcat_C (.loop slicesConcat_body11) (mkSt slicesConcat_S11 ds) e st' := by
  intro ds k r h
  unfold slicesConcat_A11 at h
  split at h
  · rw [slicesConcat_M11_eq, ← slicesConcat_L11_eq] at h
    refine aloop_ok (C := slicesConcat_C) qOk (slicesConcat_Gok R) ?_ _ _ _ _ h
    rw [show loopsIn slicesConcat_body11 = [] from by kernel_rfl]
    intro b hb
    cases hb
  · cases h
noncomputable def slicesConcat_T {R : Type} (q0 : List Str) (q1 : List Str) (q2 : List Str) (k : List Str → Option R) : Option R :=
  slicesConcat_M3 q0 q1 q2 ((0 : Int)) q0 q1 q2 ((↑(List.length [Go.QA.D.sl (Go.QA.Con.strs q0), Go.QA.D.sl (Go.QA.Con.strs q1), Go.QA.D.sl (Go.QA.Con.strs q2)]) : Int)) ((0 : Int))
  (fun q12 q13 q14 x15 =>
  libGrow_F x15 (fun q16 =>
   slicesConcat_M11 q16 q12 q13 q14 ((↑(List.length [Go.QA.D.sl (Go.QA.Con.strs q12), Go.QA.D.sl (Go.QA.Con.strs q13), Go.QA.D.sl (Go.QA.Con.strs q14)]) : Int)) ((0 : Int))
    (fun q23 =>
    k q23)))
noncomputable def slicesConcat_F {R : Type} : List Str → List Str → List Str → (List Str → Option R) → Option R := lock slicesConcat_T
theorem slicesConcat_F_T {R : Type} : @slicesConcat_F R = slicesConcat_T := lock_eq _
theorem slicesConcat_F_eq {R : Type} (q0 : List Str) (q1 : List Str) (q2 : List Str) (k : D → Option R) : afun qP [24, 33] (slicesConcat_G R) (slicesConcat_Lam2 R) Tryd.f102 [D.sls [D.sl (.strs q0), D.sl (.strs q1), D.sl (.strs q2)]] k = slicesConcat_T q0 q1 q2 (fun y0 => k (D.sl (.strs y0))) := by kernel_rfl
noncomputable def slicesConcat_abs (R : Type) (ds : List D) (k : D → Option R) : Option R :=
  match ds with
  | [D.sls [D.sl (.strs q0), D.sl (.strs q1), D.sl (.strs q2)]] => slicesConcat_F q0 q1 q2 (fun y0 => k (D.sl (.strs y0)))
  | _ => none
theorem slicesConcat_ok : FnOk qP 102 slicesConcat_abs := by
  intro R ds k r h
  unfold slicesConcat_abs at h
  split at h
  · rw [slicesConcat_F_T, ← slicesConcat_F_eq] at h
    refine afun_ok (P := qP) (c := slicesConcat_code) qOk (slicesConcat_Gok R) Tryd.func102 (by kernel_rfl) (by kernel_rfl) ?_ ?_ (by kernel_rfl) h
    rotate_left
    · exact Nat.le_of_ble_eq_true (by kernel_rfl)
    rw [show loopsIn slicesConcat_code = [slicesConcat_body3, slicesConcat_body11] from by kernel_rfl]
    intro b hb
    simp only [List.mem_cons, List.not_mem_nil, or_false] at hb
    rcases hb with rfl | rfl
    · exact lam_of (key := 3) (S := slicesConcat_S3) (L := slicesConcat_A3 R) (fun st k => by kernel_rfl) (by kernel_rfl) slicesConcat_A3_ok
    · exact lam_of (key := 11) (S := slicesConcat_S11) (L := slicesConcat_A11 R) (fun st k => by kernel_rfl) (by kernel_rfl) slicesConcat_A11_ok
  · cases h

end Go.Proofs.YtleoffdjdgbanaaDoor

set_option linter.unusedVariables false
set_option linter.unusedSimpArgs false
set_option maxRecDepth 1000000
namespace Go.Proofs.YtleoffdjdgbanaaDoor
open Go Go.QA Go.Proofs

/-! ### smallMay: function 70 -/

noncomputable def smallMay_C : Cfg := ⟨qP, Tryd.f70.ntmps, []⟩
noncomputable def smallMay_code : Code := Tryd.f70.body.getD .skip
noncomputable def smallMay_G (R : Type) : Orc R := fun f args k => bif Nat.beq f 99 then libValidRune_abs R args k else (fun _ _ _ => none) f args k
theorem smallMay_Gok (R : Type) : OrcOk qP (smallMay_G R) := (orc_cons libValidRune_ok orc_nil)
noncomputable def smallMay_Lam0 (R : Type) : Lam R := fun _ _ _ => none
noncomputable def smallMay_T {R : Type} (x0 : Int) (k : Bool → Option R) : Option R :=
  (bif (Decidable.decide (x0 ≥ (32 : Int))) then
  (bif (Decidable.decide (x0 ≤ (1114111 : Int))) then
   libValidRune_F (Go.IntKind.wrap Go.IntKind.i32 x0) (fun b1 =>
    k b1)
  else
   k Bool.false)
 else
  k Bool.false)
noncomputable def smallMay_F {R : Type} : Int → (Bool → Option R) → Option R := lock smallMay_T
theorem smallMay_F_T {R : Type} : @smallMay_F R = smallMay_T := lock_eq _
theorem smallMay_F_eq {R : Type} (x0 : Int) (k : D → Option R) : afun qP [] (smallMay_G R) (smallMay_Lam0 R) Tryd.f70 [D.int .i64 x0] k = smallMay_T x0 (fun y0 => k (D.bool y0)) := by kernel_rfl
noncomputable def smallMay_abs (R : Type) (ds : List D) (k : D → Option R) : Option R :=
  match ds with
  | [D.int .i64 x0] => smallMay_F x0 (fun y0 => k (D.bool y0))
  | _ => none
theorem smallMay_ok : FnOk qP 70 smallMay_abs := by
  intro R ds k r h
  unfold smallMay_abs at h
  split at h
  · rw [smallMay_F_T, ← smallMay_F_eq] at h
    refine afun_ok (P := qP) (c := smallMay_code) qOk (smallMay_Gok R) Tryd.func70 (by kernel_rfl) (by kernel_rfl) ?_ ?_ (by kernel_rfl) h
    rotate_left
    · exact Nat.le_of_ble_eq_true (by kernel_rfl)
    rw [show loopsIn smallMay_code = [] from by kernel_rfl]
    intro b hb
    cases hb
  · cases h

/-! ### textMade: function 113 -/

noncomputable def textMade_C : Cfg := ⟨qP, Tryd.f113.ntmps, []⟩
noncomputable def textMade_code : Code := Tryd.f113.body.getD .skip
noncomputable def textMade_G (R : Type) : Orc R := fun _ _ _ => none
theorem textMade_Gok (R : Type) : OrcOk qP (textMade_G R) := orc_nil
noncomputable def textMade_Lam0 (R : Type) : Lam R := fun _ _ _ => none
noncomputable def textMade_T {R : Type} (x0 : Int) (k : Int → Option R) : Option R :=
  (bif (x0 == (32 : Int)) then
  k ((0 : Int))
 else
  (bif (x0 == (9 : Int)) then
   k ((0 : Int))
  else
   (bif (x0 == (95 : Int)) then
    k ((1 : Int))
   else
    (bif (Decidable.decide (x0 ≥ (48 : Int))) then
     (bif (Decidable.decide (x0 ≤ (57 : Int))) then
      k ((1 : Int))
     else
      (bif (Decidable.decide (x0 ≥ (97 : Int))) then
       (bif (Decidable.decide (x0 ≤ (122 : Int))) then
        k ((1 : Int))
       else
        (bif (Decidable.decide (x0 ≥ (65 : Int))) then
         (bif (Decidable.decide (x0 ≤ (90 : Int))) then
          k ((1 : Int))
         else
          k ((2 : Int)))
        else
         k ((2 : Int))))
      else
       (bif (Decidable.decide (x0 ≥ (65 : Int))) then
        (bif (Decidable.decide (x0 ≤ (90 : Int))) then
         k ((1 : Int))
        else
         k ((2 : Int)))
       else
        k ((2 : Int)))))
    else
     (bif (Decidable.decide (x0 ≥ (97 : Int))) then
      (bif (Decidable.decide (x0 ≤ (122 : Int))) then
       k ((1 : Int))
      else
       (bif (Decidable.decide (x0 ≥ (65 : Int))) then
        (bif (Decidable.decide (x0 ≤ (90 : Int))) then
         k ((1 : Int))
        else
         k ((2 : Int)))
       else
        k ((2 : Int))))
     else
      (bif (Decidable.decide (x0 ≥ (65 : Int))) then
       (bif (Decidable.decide (x0 ≤ (90 : Int))) then
        k ((1 : Int))
       else
        k ((2 : Int)))
      else
       k ((2 : Int))))))))
noncomputable def textMade_F {R : Type} : Int → (Int → Option R) → Option R := lock textMade_T
theorem textMade_F_T {R : Type} : @textMade_F R = textMade_T := lock_eq _
theorem textMade_F_eq {R : Type} (x0 : Int) (k : D → Option R) : afun qP [] (textMade_G R) (textMade_Lam0 R) Tryd.f113 [D.int .i64 x0] k = textMade_T x0 (fun y0 => k (D.int .i64 y0)) := by kernel_rfl
noncomputable def textMade_abs (R : Type) (ds : List D) (k : D → Option R) : Option R :=
  match ds with
  | [D.int .i64 x0] => textMade_F x0 (fun y0 => k (D.int .i64 y0))
  | _ => none
theorem textMade_ok : FnOk qP 113 textMade_abs := by
  intro R ds k r h
  unfold textMade_abs at h
  split at h
  · rw [textMade_F_T, ← textMade_F_eq] at h
    refine afun_ok (P := qP) (c := textMade_code) qOk (textMade_Gok R) Tryd.func113 (by kernel_rfl) (by kernel_rfl) ?_ ?_ (by kernel_rfl) h
    rotate_left
    · exact Nat.le_of_ble_eq_true (by kernel_rfl)
    rw [show loopsIn textMade_code = [] from by kernel_rfl]
    intro b hb
    cases hb
  · cases h

/-! ### textOf: function 52 -/

noncomputable def textOf_C : Cfg := ⟨qP, Tryd.f52.ntmps, [8]⟩
noncomputable def textOf_code : Code := Tryd.f52.body.getD .skip
noncomputable def textOf_G (R : Type) : Orc R := fun _ _ _ => none
theorem textOf_Gok (R : Type) : OrcOk qP (textOf_G R) := orc_nil
noncomputable def textOf_B3 {R : Type} (rec : List Int → Int → Int → List Int → List Int → Option R) (l1 : List Int) (x2 : Int) (x3 : Int) (l4 : List Int) (l5 : List Int) (ke0 : List Int → List Int → Option R) : Option R :=
  (bif (Decidable.decide (x3 < x2)) then
  (bif (Decidable.decide ((0 : Int) ≤ x3) && Decidable.decide (x3 < (↑(List.length l1) : Int))) then
   (bif (List.getD l1 (Int.toNat x3) (0 : Int) == (10 : Int)) then
    (bif (Decidable.decide (List.length (l4 ++ [Go.IntKind.wrap Go.IntKind.i64 (x3 + (1 : Int))]) * (8 : Nat) ≤ (140737488355328 : Nat)) && Decidable.decide (List.length (l4 ++ [Go.IntKind.wrap Go.IntKind.i64 (x3 + (1 : Int))]) ≤ (9223372036854775807 : Nat))) then
     rec l1 x2 (Go.IntKind.wrap Go.IntKind.i64 (x3 + (1 : Int))) (l4 ++ [Go.IntKind.wrap Go.IntKind.i64 (x3 + (1 : Int))]) l5
    else
     none)
   else
    rec l1 x2 (Go.IntKind.wrap Go.IntKind.i64 (x3 + (1 : Int))) l4 l5)
  else
   none)
 else
  ke0 l4 l5)
noncomputable def textOf_L3 {R : Type} : Nat → List Int → Int → Int → List Int → List Int → (List Int → List Int → Option R) → Option R
  | 0, _, _, _, _, _, _ => none
  | n + 1, l1, x2, x3, l4, l5, ke0 => textOf_B3 (fun l1 x2 x3 l4 l5 => textOf_L3 n l1 x2 x3 l4 l5 ke0) l1 x2 x3 l4 l5 ke0
noncomputable def textOf_M3 {R : Type} : List Int → Int → Int → List Int → List Int → (List Int → List Int → Option R) → Option R := lock (textOf_L3 4611686018427387904)
theorem textOf_M3_eq {R : Type} : @textOf_M3 R = textOf_L3 4611686018427387904 := lock_eq _
noncomputable def textOf_Lam0 (R : Type) : Lam R := fun _ _ _ => none
noncomputable def textOf_body3 : Code := (findLoop 3 textOf_code).getD .skip
def textOf_S3 : QA.Spec := (⟨[.t 14, .t 15, .t 16, .c 10 1, .c 10 0], [10], [], [(.t 3, 10, 0)], []⟩ : QA.Spec)
def textOf_S3e0 : QA.Spec := (⟨[.c 10 1, .c 10 0], [10], [], [(.t 3, 10, 0)], []⟩ : QA.Spec)
def textOf_X3 : AExit → Option QA.Spec
  | .normal => none
  | .exit j => bif Nat.beq j 0 then some textOf_S3e0 else none
  | .ret => none
theorem textOf_L3_eq {R : Type} (k : AExit → St → Option R) : ∀ (n : Nat) (a0 : List Int) (a1 : Int) (a2 : Int) (a3 : List Int) (a4 : List Int), aloop textOf_C (textOf_G R) (textOf_Lam0 R) textOf_S3 textOf_X3 textOf_body3 n [D.sl (.ints .i32 a0), D.int .i64 a1, D.int .i64 a2, D.con (.ints .i64 a3), D.sl (.ints .i32 a4)] k = textOf_L3 n a0 a1 a2 a3 a4 (fun y0 y1 => k (.exit 0) (mkSt textOf_S3e0 [D.con (.ints .i64 y0), D.sl (.ints .i32 y1)]))
  | 0, _, _, _, _, _ => rfl
  | n + 1, a0, a1, a2, a3, a4 => by
    have h : (fun a0 a1 a2 a3 a4 => aloop textOf_C (textOf_G R) (textOf_Lam0 R) textOf_S3 textOf_X3 textOf_body3 n [D.sl (.ints .i32 a0), D.int .i64 a1, D.int .i64 a2, D.con (.ints .i64 a3), D.sl (.ints .i32 a4)] k) = (fun a0 a1 a2 a3 a4 => textOf_L3 n a0 a1 a2 a3 a4 (fun y0 y1 => k (.exit 0) (mkSt textOf_S3e0 [D.con (.ints .i64 y0), D.sl (.ints .i32 y1)]))) := by
      funext a0 a1 a2 a3 a4; exact textOf_L3_eq k n a0 a1 a2 a3 a4
    have s : aloop textOf_C (textOf_G R) (textOf_Lam0 R) textOf_S3 textOf_X3 textOf_body3 (n + 1) [D.sl (.ints .i32 a0), D.int .i64 a1, D.int .i64 a2, D.con (.ints .i64 a3), D.sl (.ints .i32 a4)] k = textOf_B3 (fun a0 a1 a2 a3 a4 => aloop textOf_C (textOf_G R) (textOf_Lam0 R) textOf_S3 textOf_X3 textOf_body3 n [D.sl (.ints .i32 a0), D.int .i64 a1, D.int .i64 a2, D.con (.ints .i64 a3), D.sl (.ints .i32 a4)] k) a0 a1 a2 a3 a4 (fun y0 y1 => k (.exit 0) (mkSt textOf_S3e0 [D.con (.ints .i64 y0), D.sl (.ints .i32 y1)])) := by kernel_rfl
    rw [s, h]; rfl
noncomputable def textOf_A3 (R : Type) (ds : List D) (k : AExit → St → Option R) : Option R :=
  match ds with
  | [D.sl (.ints .i32 a0), D.int .i64 a1, D.int .i64 a2, D.con (.ints .i64 a3), D.sl (.ints .i32 a4)] => textOf_M3 a0 a1 a2 a3 a4 (fun y0 y1 => k (.exit 0) (mkSt textOf_S3e0 [D.con (.ints .i64 y0), D.sl (.ints .i32 y1)]))
  | _ => none
noncomputable def textOf_Lam1 (R : Type) : Lam R := fun key st k => bif Nat.beq key 3 then (match readSt textOf_S3 st with | some ds => textOf_A3 R ds k | none => none) else textOf_Lam0 R key st k
theorem textOf_A3_ok {R : Type} : ∀ ds k r, textOf_A3 R ds k = some r → ∃ e st', k e st' = some r ∧ QA.Reach textOf_C (.loop textOf_body3) (mkSt textOf_S3 ds) e st' := by
  intro ds k r h
  unfold textOf_A3 at h
  split at h
  · rw [textOf_M3_eq, ← textOf_L3_eq] at h
    refine aloop_ok (C := textOf_C) qOk (textOf_Gok R) ?_ _ _ _ _ h
    rw [show loopsIn textOf_body3 = [] from by kernel_rfl]
    intro b hb
    cases hb
  · cases h
noncomputable def textOf_T {R : Type} (s0 : Str) (k : List Int → List Int → Option R) : Option R :=
  textOf_M3 (Go.QA.runesOf s0) ((↑(List.length (Go.QA.runesOf s0)) : Int)) ((0 : Int)) ([(0 : Int)]) (Go.QA.runesOf s0)
  (fun l6 l7 =>
  k l7 l6)
noncomputable def textOf_F {R : Type} : Str → (List Int → List Int → Option R) → Option R := lock textOf_T
theorem textOf_F_T {R : Type} : @textOf_F R = textOf_T := lock_eq _
theorem textOf_F_eq {R : Type} (s0 : Str) (k : D → Option R) : afun qP [8] (textOf_G R) (textOf_Lam1 R) Tryd.f52 [D.str s0] k = textOf_T s0 (fun y0 y1 => k (D.ptr [D.sl (.ints .i32 y0), D.sl (.ints .i64 y1)])) := by kernel_rfl
noncomputable def textOf_abs (R : Type) (ds : List D) (k : D → Option R) : Option R :=
  match ds with
  | [D.str s0] => textOf_F s0 (fun y0 y1 => k (D.ptr [D.sl (.ints .i32 y0), D.sl (.ints .i64 y1)]))
  | _ => none
theorem textOf_ok : FnOk qP 52 textOf_abs := by
  intro R ds k r h
  unfold textOf_abs at h
  split at h
  · rw [textOf_F_T, ← textOf_F_eq] at h
    refine afun_ok (P := qP) (c := textOf_code) qOk (textOf_Gok R) Tryd.func52 (by kernel_rfl) (by kernel_rfl) ?_ ?_ (by kernel_rfl) h
    rotate_left
    · exact Nat.le_of_ble_eq_true (by kernel_rfl)
    rw [show loopsIn textOf_code = [textOf_body3] from by kernel_rfl]
    intro b hb
    simp only [List.mem_cons, List.not_mem_nil, or_false] at hb
    subst hb
    exact lam_of (key := 3) (S := textOf_S3) (L := textOf_A3 R) (fun st k => by kernel_rfl) (by kernel_rfl) textOf_A3_ok
  · cases h

/-! ### textWhole: function 80 -/

noncomputable def textWhole_C : Cfg := ⟨qP, Tryd.f80.ntmps, []⟩
noncomputable def textWhole_code : Code := Tryd.f80.body.getD .skip
noncomputable def textWhole_G (R : Type) : Orc R := fun f args k => bif Nat.beq f 45 then libValidString_abs R args k else (fun f args k => bif Nat.beq f 103 then libIndexByte_abs R args k else (fun _ _ _ => none) f args k) f args k
theorem textWhole_Gok (R : Type) : OrcOk qP (textWhole_G R) := (orc_cons libValidString_ok (orc_cons libIndexByte_ok orc_nil))
noncomputable def textWhole_Lam0 (R : Type) : Lam R := fun _ _ _ => none
noncomputable def textWhole_T {R : Type} (s0 : Str) (k : Bool → Option R) : Option R :=
  libValidString_F s0 (fun b1 =>
  (bif b1 then
   libIndexByte_F s0 ((0 : Int)) (fun x2 =>
    k (Decidable.decide (x2 < (0 : Int))))
  else
   k Bool.false))
noncomputable def textWhole_F {R : Type} : Str → (Bool → Option R) → Option R := lock textWhole_T
theorem textWhole_F_T {R : Type} : @textWhole_F R = textWhole_T := lock_eq _
theorem textWhole_F_eq {R : Type} (s0 : Str) (k : D → Option R) : afun qP [] (textWhole_G R) (textWhole_Lam0 R) Tryd.f80 [D.str s0] k = textWhole_T s0 (fun y0 => k (D.bool y0)) := by kernel_rfl
noncomputable def textWhole_abs (R : Type) (ds : List D) (k : D → Option R) : Option R :=
  match ds with
  | [D.str s0] => textWhole_F s0 (fun y0 => k (D.bool y0))
  | _ => none
theorem textWhole_ok : FnOk qP 80 textWhole_abs := by
  intro R ds k r h
  unfold textWhole_abs at h
  split at h
  · rw [textWhole_F_T, ← textWhole_F_eq] at h
    refine afun_ok (P := qP) (c := textWhole_code) qOk (textWhole_Gok R) Tryd.func80 (by kernel_rfl) (by kernel_rfl) ?_ ?_ (by kernel_rfl) h
    rotate_left
    · exact Nat.le_of_ble_eq_true (by kernel_rfl)
    rw [show loopsIn textWhole_code = [] from by kernel_rfl]
    intro b hb
    cases hb
  · cases h

/-! ### MapCol: function 90 -/

noncomputable def MapCol_C : Cfg := ⟨qP, Tryd.f90.ntmps, []⟩
noncomputable def MapCol_code : Code := Tryd.f90.body.getD .skip
noncomputable def MapCol_G (R : Type) : Orc R := fun f args k => bif Nat.beq f 72 then MapEnd_abs R args k else (fun _ _ _ => none) f args k
theorem MapCol_Gok (R : Type) : OrcOk qP (MapCol_G R) := (orc_cons MapEnd_ok orc_nil)
noncomputable def MapCol_Lam0 (R : Type) : Lam R := fun _ _ _ => none
noncomputable def MapCol_T {R : Type} (l0 : List Int) (l1 : List Int) (x2 : Int) (x3 : Int) (k : Int → Option R) : Option R :=
  (bif (Decidable.decide ((0 : Int) ≤ x2) && Decidable.decide (x2 < (↑(List.length l1) : Int))) then
  MapEnd_F l0 l1 x2 (fun x4 =>
   k (Go.QA.mm Bool.false (Go.IntKind.wrap Go.IntKind.i64 (List.getD l1 (Int.toNat x2) (0 : Int) + x3)) x4))
 else
  none)
noncomputable def MapCol_F {R : Type} : List Int → List Int → Int → Int → (Int → Option R) → Option R := lock MapCol_T
theorem MapCol_F_T {R : Type} : @MapCol_F R = MapCol_T := lock_eq _
theorem MapCol_F_eq {R : Type} (l0 : List Int) (l1 : List Int) (x2 : Int) (x3 : Int) (k : D → Option R) : afun qP [] (MapCol_G R) (MapCol_Lam0 R) Tryd.f90 [D.ptr [D.sl (.ints .i32 l0), D.sl (.ints .i64 l1)], D.int .i64 x2, D.int .i64 x3] k = MapCol_T l0 l1 x2 x3 (fun y0 => k (D.int .i64 y0)) := by kernel_rfl
noncomputable def MapCol_abs (R : Type) (ds : List D) (k : D → Option R) : Option R :=
  match ds with
  | [D.ptr [D.sl (.ints .i32 l0), D.sl (.ints .i64 l1)], D.int .i64 x2, D.int .i64 x3] => MapCol_F l0 l1 x2 x3 (fun y0 => k (D.int .i64 y0))
  | _ => none
theorem MapCol_ok : FnOk qP 90 MapCol_abs := by
  intro R ds k r h
  unfold MapCol_abs at h
  split at h
  · rw [MapCol_F_T, ← MapCol_F_eq] at h
    refine afun_ok (P := qP) (c := MapCol_code) qOk (MapCol_Gok R) Tryd.func90 (by kernel_rfl) (by kernel_rfl) ?_ ?_ (by kernel_rfl) h
    rotate_left
    · exact Nat.le_of_ble_eq_true (by kernel_rfl)
    rw [show loopsIn MapCol_code = [] from by kernel_rfl]
    intro b hb
    cases hb
  · cases h

/-! ### MapRest: function 82 -/

noncomputable def MapRest_C : Cfg := ⟨qP, Tryd.f82.ntmps, []⟩
noncomputable def MapRest_code : Code := Tryd.f82.body.getD .skip
noncomputable def MapRest_G (R : Type) : Orc R := fun f args k => bif Nat.beq f 71 then MapRow_abs R args k else (fun f args k => bif Nat.beq f 72 then MapEnd_abs R args k else (fun _ _ _ => none) f args k) f args k
theorem MapRest_Gok (R : Type) : OrcOk qP (MapRest_G R) := (orc_cons MapRow_ok (orc_cons MapEnd_ok orc_nil))
noncomputable def MapRest_Lam0 (R : Type) : Lam R := fun _ _ _ => none
noncomputable def MapRest_T {R : Type} (l0 : List Int) (l1 : List Int) (x2 : Int) (k : Int → Option R) : Option R :=
  MapRow_F l0 l1 x2 (fun x3 =>
  MapEnd_F l0 l1 x3 (fun x4 =>
   (bif (x2 == x4) then
    (bif (Decidable.decide ((0 : Int) ≤ x3) && Decidable.decide (x3 < (↑(List.length l1) : Int))) then
     (bif (Decidable.decide (x2 > List.getD l1 (Int.toNat x3) (0 : Int))) then
      k (Go.IntKind.wrap Go.IntKind.i64 (x2 - (1 : Int)))
     else
      k x2)
    else
     none)
   else
    k x2)))
noncomputable def MapRest_F {R : Type} : List Int → List Int → Int → (Int → Option R) → Option R := lock MapRest_T
theorem MapRest_F_T {R : Type} : @MapRest_F R = MapRest_T := lock_eq _
theorem MapRest_F_eq {R : Type} (l0 : List Int) (l1 : List Int) (x2 : Int) (k : D → Option R) : afun qP [] (MapRest_G R) (MapRest_Lam0 R) Tryd.f82 [D.ptr [D.sl (.ints .i32 l0), D.sl (.ints .i64 l1)], D.int .i64 x2] k = MapRest_T l0 l1 x2 (fun y0 => k (D.int .i64 y0)) := by kernel_rfl
noncomputable def MapRest_abs (R : Type) (ds : List D) (k : D → Option R) : Option R :=
  match ds with
  | [D.ptr [D.sl (.ints .i32 l0), D.sl (.ints .i64 l1)], D.int .i64 x2] => MapRest_F l0 l1 x2 (fun y0 => k (D.int .i64 y0))
  | _ => none
theorem MapRest_ok : FnOk qP 82 MapRest_abs := by
  intro R ds k r h
  unfold MapRest_abs at h
  split at h
  · rw [MapRest_F_T, ← MapRest_F_eq] at h
    refine afun_ok (P := qP) (c := MapRest_code) qOk (MapRest_Gok R) Tryd.func82 (by kernel_rfl) (by kernel_rfl) ?_ ?_ (by kernel_rfl) h
    rotate_left
    · exact Nat.le_of_ble_eq_true (by kernel_rfl)
    rw [show loopsIn MapRest_code = [] from by kernel_rfl]
    intro b hb
    cases hb
  · cases h

/-! ### MaySmall: function 69 -/

noncomputable def MaySmall_C : Cfg := ⟨qP, Tryd.f69.ntmps, []⟩
noncomputable def MaySmall_code : Code := Tryd.f69.body.getD .skip
noncomputable def MaySmall_G (R : Type) : Orc R := fun f args k => bif Nat.beq f 56 then refNum_abs R args k else (fun f args k => bif Nat.beq f 86 then refIn_abs R args k else (fun f args k => bif Nat.beq f 59 then refBetween0_abs R args k else (fun f args k => bif Nat.beq f 98 then refRune_abs R args k else (fun _ _ _ => none) f args k) f args k) f args k) f args k
theorem MaySmall_Gok (R : Type) : OrcOk qP (MaySmall_G R) := (orc_cons refNum_ok (orc_cons refIn_ok (orc_cons refBetween0_ok (orc_cons refRune_ok orc_nil))))
noncomputable def MaySmall_Lam0 (R : Type) : Lam R := fun _ _ _ => none
noncomputable def MaySmall_T {R : Type} (l0 : List Int) (x1 : Int) (x2 : Int) (x3 : Int) (x4 : Int) (k : Bool → Option R) : Option R :=
  refNum_F x1 ((↑(List.length l0) : Int)) (fun b5 =>
  (bif !b5 then
   k Bool.false
  else
   refIn_F ([(120 : Int), (88 : Int), (114 : Int), (126 : Int), (74 : Int)]) x2 (fun x6 =>
    (bif (Decidable.decide (x6 < (0 : Int))) then
     k Bool.false
    else
     refBetween0_F x4 ((1 : Int)) ((999 : Int)) (fun b7 =>
      (bif !b7 then
       k Bool.false
      else
       (bif (x2 != (114 : Int)) then
        k Bool.true
       else
        (bif (Decidable.decide (x3 ≥ (32 : Int))) then
         refRune_F x3 (fun b8 =>
          k b8)
        else
         k Bool.false))))))))
noncomputable def MaySmall_F {R : Type} : List Int → Int → Int → Int → Int → (Bool → Option R) → Option R := lock MaySmall_T
theorem MaySmall_F_T {R : Type} : @MaySmall_F R = MaySmall_T := lock_eq _
theorem MaySmall_F_eq {R : Type} (l0 : List Int) (x1 : Int) (x2 : Int) (x3 : Int) (x4 : Int) (k : D → Option R) : afun qP [] (MaySmall_G R) (MaySmall_Lam0 R) Tryd.f69 [D.sl (.ints .i32 l0), D.int .i64 x1, D.int .i64 x2, D.int .i64 x3, D.int .i64 x4] k = MaySmall_T l0 x1 x2 x3 x4 (fun y0 => k (D.bool y0)) := by kernel_rfl
noncomputable def MaySmall_abs (R : Type) (ds : List D) (k : D → Option R) : Option R :=
  match ds with
  | [D.sl (.ints .i32 l0), D.int .i64 x1, D.int .i64 x2, D.int .i64 x3, D.int .i64 x4] => MaySmall_F l0 x1 x2 x3 x4 (fun y0 => k (D.bool y0))
  | _ => none
theorem MaySmall_ok : FnOk qP 69 MaySmall_abs := by
  intro R ds k r h
  unfold MaySmall_abs at h
  split at h
  · rw [MaySmall_F_T, ← MaySmall_F_eq] at h
    refine afun_ok (P := qP) (c := MaySmall_code) qOk (MaySmall_Gok R) Tryd.func69 (by kernel_rfl) (by kernel_rfl) ?_ ?_ (by kernel_rfl) h
    rotate_left
    · exact Nat.le_of_ble_eq_true (by kernel_rfl)
    rw [show loopsIn MaySmall_code = [] from by kernel_rfl]
    intro b hb
    cases hb
  · cases h

/-! ### changeMay: function 61 -/

noncomputable def changeMay_C : Cfg := ⟨qP, Tryd.f61.ntmps, []⟩
noncomputable def changeMay_code : Code := Tryd.f61.body.getD .skip
noncomputable def changeMay_G (R : Type) : Orc R := fun f args k => bif Nat.beq f 53 then MapIs_abs R args k else (fun f args k => bif Nat.beq f 71 then MapRow_abs R args k else (fun f args k => bif Nat.beq f 72 then MapEnd_abs R args k else (fun _ _ _ => none) f args k) f args k) f args k
theorem changeMay_Gok (R : Type) : OrcOk qP (changeMay_G R) := (orc_cons MapIs_ok (orc_cons MapRow_ok (orc_cons MapEnd_ok orc_nil)))
noncomputable def changeMay_Lam0 (R : Type) : Lam R := fun _ _ _ => none
noncomputable def changeMay_T {R : Type} (l0 : List Int) (l1 : List Int) (x2 : Int) (x3 : Int) (b4 : Bool) (k : Bool → Option R) : Option R :=
  MapIs_F l0 l1 x2 (fun b5 =>
  (bif !b5 then
   k Bool.false
  else
   MapIs_F l0 l1 x3 (fun b6 =>
    (bif !b6 then
     k Bool.false
    else
     (bif (Decidable.decide (x2 > x3)) then
      k Bool.false
     else
      (bif !b4 then
       k Bool.true
      else
       MapRow_F l0 l1 x2 (fun x7 =>
        (bif (Decidable.decide ((0 : Int) ≤ x7) && Decidable.decide (x7 < (↑(List.length l1) : Int))) then
         (bif (x2 == List.getD l1 (Int.toNat x7) (0 : Int)) then
          MapRow_F l0 l1 x3 (fun x8 =>
           MapEnd_F l0 l1 x8 (fun x9 =>
            k (x3 == x9)))
         else
          k Bool.false)
        else
         none))))))))
noncomputable def changeMay_F {R : Type} : List Int → List Int → Int → Int → Bool → (Bool → Option R) → Option R := lock changeMay_T
theorem changeMay_F_T {R : Type} : @changeMay_F R = changeMay_T := lock_eq _
theorem changeMay_F_eq {R : Type} (l0 : List Int) (l1 : List Int) (x2 : Int) (x3 : Int) (b4 : Bool) (k : D → Option R) : afun qP [] (changeMay_G R) (changeMay_Lam0 R) Tryd.f61 [D.ptr [D.sl (.ints .i32 l0), D.sl (.ints .i64 l1)], D.agg [D.int .i64 x2, D.int .i64 x3, D.bool b4]] k = changeMay_T l0 l1 x2 x3 b4 (fun y0 => k (D.bool y0)) := by kernel_rfl
noncomputable def changeMay_abs (R : Type) (ds : List D) (k : D → Option R) : Option R :=
  match ds with
  | [D.ptr [D.sl (.ints .i32 l0), D.sl (.ints .i64 l1)], D.agg [D.int .i64 x2, D.int .i64 x3, D.bool b4]] => changeMay_F l0 l1 x2 x3 b4 (fun y0 => k (D.bool y0))
  | _ => none
theorem changeMay_ok : FnOk qP 61 changeMay_abs := by
  intro R ds k r h
  unfold changeMay_abs at h
  split at h
  · rw [changeMay_F_T, ← changeMay_F_eq] at h
    refine afun_ok (P := qP) (c := changeMay_code) qOk (changeMay_Gok R) Tryd.func61 (by kernel_rfl) (by kernel_rfl) ?_ ?_ (by kernel_rfl) h
    rotate_left
    · exact Nat.le_of_ble_eq_true (by kernel_rfl)
    rw [show loopsIn changeMay_code = [] from by kernel_rfl]
    intro b hb
    cases hb
  · cases h

/-! ### lawHeavy1: function 44 -/

noncomputable def lawHeavy1_C : Cfg := ⟨qP, Tryd.f44.ntmps, []⟩
noncomputable def lawHeavy1_code : Code := Tryd.f44.body.getD .skip
noncomputable def lawHeavy1_G (R : Type) : Orc R := fun f args k => bif Nat.beq f 77 then lawTexts_abs R args k else (fun _ _ _ => none) f args k
theorem lawHeavy1_Gok (R : Type) : OrcOk qP (lawHeavy1_G R) := (orc_cons lawTexts_ok orc_nil)
noncomputable def lawHeavy1_Lam0 (R : Type) : Lam R := fun _ _ _ => none
noncomputable def lawHeavy1_T {R : Type} (q0 : List Str) (x1 : Int) (x2 : Int) (x3 : Int) (x4 : Int) (k : Bool → Option R) : Option R :=
  lawTexts_F q0 (fun x5 =>
  k (Decidable.decide (x5 > (6000 : Int))))
noncomputable def lawHeavy1_F {R : Type} : List Str → Int → Int → Int → Int → (Bool → Option R) → Option R := lock lawHeavy1_T
theorem lawHeavy1_F_T {R : Type} : @lawHeavy1_F R = lawHeavy1_T := lock_eq _
theorem lawHeavy1_F_eq {R : Type} (q0 : List Str) (x1 : Int) (x2 : Int) (x3 : Int) (x4 : Int) (k : D → Option R) : afun qP [] (lawHeavy1_G R) (lawHeavy1_Lam0 R) Tryd.f44 [D.agg [D.sl (.strs q0), D.int .i64 x1, D.int .i64 x2, D.int .i64 x3, D.int .i64 x4]] k = lawHeavy1_T q0 x1 x2 x3 x4 (fun y0 => k (D.bool y0)) := by kernel_rfl
noncomputable def lawHeavy1_abs (R : Type) (ds : List D) (k : D → Option R) : Option R :=
  match ds with
  | [D.agg [D.sl (.strs q0), D.int .i64 x1, D.int .i64 x2, D.int .i64 x3, D.int .i64 x4]] => lawHeavy1_F q0 x1 x2 x3 x4 (fun y0 => k (D.bool y0))
  | _ => none
theorem lawHeavy1_ok : FnOk qP 44 lawHeavy1_abs := by
  intro R ds k r h
  unfold lawHeavy1_abs at h
  split at h
  · rw [lawHeavy1_F_T, ← lawHeavy1_F_eq] at h
    refine afun_ok (P := qP) (c := lawHeavy1_code) qOk (lawHeavy1_Gok R) Tryd.func44 (by kernel_rfl) (by kernel_rfl) ?_ ?_ (by kernel_rfl) h
    rotate_left
    · exact Nat.le_of_ble_eq_true (by kernel_rfl)
    rw [show loopsIn lawHeavy1_code = [] from by kernel_rfl]
    intro b hb
    cases hb
  · cases h

/-! ### lawOffsets: function 68 -/

noncomputable def lawOffsets_C : Cfg := ⟨qP, Tryd.f68.ntmps, [13]⟩
noncomputable def lawOffsets_code : Code := Tryd.f68.body.getD .skip
noncomputable def lawOffsets_G (R : Type) : Orc R := fun f args k => bif Nat.beq f 29 then lawWithin_abs R args k else (fun _ _ _ => none) f args k
theorem lawOffsets_Gok (R : Type) : OrcOk qP (lawOffsets_G R) := (orc_cons lawWithin_ok orc_nil)
noncomputable def lawOffsets_B3 {R : Type} (rec : List Int → List Int → Int → Int → Int → Int → Int → Int → Int → Int → List Str → Option R) (l9 : List Int) (l10 : List Int) (x11 : Int) (x12 : Int) (x13 : Int) (x14 : Int) (x15 : Int) (x16 : Int) (x17 : Int) (x18 : Int) (q19 : List Str) (ke0 : List Int → Option R) : Option R :=
  (bif (Decidable.decide (x11 ≤ (↑(List.length l9) : Int))) then
  (bif (Decidable.decide (x11 < (12 : Int))) then
   lawWithin_F (Go.IntKind.wrap Go.IntKind.i64 (x18 + Go.IntKind.wrap Go.IntKind.i64 (x11 * Go.IntKind.wrap Go.IntKind.i64 ((1 : Int) + Go.IntKind.wrap Go.IntKind.i64 (Int.tdiv (↑(List.length l9) : Int) (12 : Int)))))) (Go.IntKind.wrap Go.IntKind.i64 ((↑(List.length l9) : Int) + (1 : Int))) (fun x20 =>
    (bif (Decidable.decide (List.length (l10 ++ [x20]) * (8 : Nat) ≤ (140737488355328 : Nat)) && Decidable.decide (List.length (l10 ++ [x20]) ≤ (9223372036854775807 : Nat))) then
     rec l9 (l10 ++ [x20]) (Go.IntKind.wrap Go.IntKind.i64 (x11 + (1 : Int))) x12 x13 x14 x15 x16 x17 x18 q19
    else
     none))
  else
   ke0 l10)
 else
  ke0 l10)
noncomputable def lawOffsets_L3 {R : Type} : Nat → List Int → List Int → Int → Int → Int → Int → Int → Int → Int → Int → List Str → (List Int → Option R) → Option R
  | 0, _, _, _, _, _, _, _, _, _, _, _, _ => none
  | n + 1, l9, l10, x11, x12, x13, x14, x15, x16, x17, x18, q19, ke0 => lawOffsets_B3 (fun l9 l10 x11 x12 x13 x14 x15 x16 x17 x18 q19 => lawOffsets_L3 n l9 l10 x11 x12 x13 x14 x15 x16 x17 x18 q19 ke0) l9 l10 x11 x12 x13 x14 x15 x16 x17 x18 q19 ke0
noncomputable def lawOffsets_M3 {R : Type} : List Int → List Int → Int → Int → Int → Int → Int → Int → Int → Int → List Str → (List Int → Option R) → Option R := lock (lawOffsets_L3 4611686018427387904)
theorem lawOffsets_M3_eq {R : Type} : @lawOffsets_M3 R = lawOffsets_L3 4611686018427387904 := lock_eq _
noncomputable def lawOffsets_Lam0 (R : Type) : Lam R := fun _ _ _ => none
noncomputable def lawOffsets_body3 : Code := (findLoop 3 lawOffsets_code).getD .skip
def lawOffsets_S3 : QA.Spec := (⟨[.t 1, .t 5, .t 6, .c 2 7, .c 2 6, .c 2 5, .c 2 4, .c 2 3, .c 2 2, .c 2 1, .c 2 0], [2], [], [(.t 2, 2, 0)], []⟩ : QA.Spec)
def lawOffsets_S3e0 : QA.Spec := (⟨[.t 5], [], [], [], []⟩ : QA.Spec)
def lawOffsets_X3 : AExit → Option QA.Spec
  | .normal => none
  | .exit j => bif Nat.beq j 0 then some lawOffsets_S3e0 else none
  | .ret => none
theorem lawOffsets_L3_eq {R : Type} (k : AExit → St → Option R) : ∀ (n : Nat) (a0 : List Int) (a1 : List Int) (a2 : Int) (a3 : Int) (a4 : Int) (a5 : Int) (a6 : Int) (a7 : Int) (a8 : Int) (a9 : Int) (a10 : List Str), aloop lawOffsets_C (lawOffsets_G R) (lawOffsets_Lam0 R) lawOffsets_S3 lawOffsets_X3 lawOffsets_body3 n [D.sl (.ints .i32 a0), D.con (.ints .i64 a1), D.int .i64 a2, D.int .i64 a3, D.int .i64 a4, D.int .i64 a5, D.int .i64 a6, D.int .i64 a7, D.int .i64 a8, D.int .i64 a9, D.sl (.strs a10)] k = lawOffsets_L3 n a0 a1 a2 a3 a4 a5 a6 a7 a8 a9 a10 (fun y0 => k (.exit 0) (mkSt lawOffsets_S3e0 [D.con (.ints .i64 y0)]))
  | 0, _, _, _, _, _, _, _, _, _, _, _ => rfl
  | n + 1, a0, a1, a2, a3, a4, a5, a6, a7, a8, a9, a10 => by
    have h : (fun a0 a1 a2 a3 a4 a5 a6 a7 a8 a9 a10 => aloop lawOffsets_C (lawOffsets_G R) (lawOffsets_Lam0 R) lawOffsets_S3 lawOffsets_X3 lawOffsets_body3 n [D.sl (.ints .i32 a0), D.con (.ints .i64 a1), D.int .i64 a2, D.int .i64 a3, D.int .i64 a4, D.int .i64 a5, D.int .i64 a6, D.int .i64 a7, D.int .i64 a8, D.int .i64 a9, D.sl (.strs a10)] k) = (fun a0 a1 a2 a3 a4 a5 a6 a7 a8 a9 a10 => lawOffsets_L3 n a0 a1 a2 a3 a4 a5 a6 a7 a8 a9 a10 (fun y0 => k (.exit 0) (mkSt lawOffsets_S3e0 [D.con (.ints .i64 y0)]))) := by
      funext a0 a1 a2 a3 a4 a5 a6 a7 a8 a9 a10; exact lawOffsets_L3_eq k n a0 a1 a2 a3 a4 a5 a6 a7 a8 a9 a10
    have s : aloop lawOffsets_C (lawOffsets_G R) (lawOffsets_Lam0 R) lawOffsets_S3 lawOffsets_X3 lawOffsets_body3 (n + 1) [D.sl (.ints .i32 a0), D.con (.ints .i64 a1), D.int .i64 a2, D.int .i64 a3, D.int .i64 a4, D.int .i64 a5, D.int .i64 a6, D.int .i64 a7, D.int .i64 a8, D.int .i64 a9, D.sl (.strs a10)] k = lawOffsets_B3 (fun a0 a1 a2 a3 a4 a5 a6 a7 a8 a9 a10 => aloop lawOffsets_C (lawOffsets_G R) (lawOffsets_Lam0 R) lawOffsets_S3 lawOffsets_X3 lawOffsets_body3 n [D.sl (.ints .i32 a0), D.con (.ints .i64 a1), D.int .i64 a2, D.int .i64 a3, D.int .i64 a4, D.int .i64 a5, D.int .i64 a6, D.int .i64 a7, D.int .i64 a8, D.int .i64 a9, D.sl (.strs a10)] k) a0 a1 a2 a3 a4 a5 a6 a7 a8 a9 a10 (fun y0 => k (.exit 0) (mkSt lawOffsets_S3e0 [D.con (.ints .i64 y0)])) := by kernel_rfl
    rw [s, h]; rfl
noncomputable def lawOffsets_A3 (R : Type) (ds : List D) (k : AExit → St → Option R) : Option R :=
  match ds with
  | [D.sl (.ints .i32 a0), D.con (.ints .i64 a1), D.int .i64 a2, D.int .i64 a3, D.int .i64 a4, D.int .i64 a5, D.int .i64 a6, D.int .i64 a7, D.int .i64 a8, D.int .i64 a9, D.sl (.strs a10)] => lawOffsets_M3 a0 a1 a2 a3 a4 a5 a6 a7 a8 a9 a10 (fun y0 => k (.exit 0) (mkSt lawOffsets_S3e0 [D.con (.ints .i64 y0)]))
  | _ => none
noncomputable def lawOffsets_Lam1 (R : Type) : Lam R := fun key st k => bif Nat.beq key 3 then (match readSt lawOffsets_S3 st with | some ds => lawOffsets_A3 R ds k | none => none) else lawOffsets_Lam0 R key st k
theorem lawOffsets_A3_ok {R : Type} : ∀ ds k r, lawOffsets_A3 R ds k = some r → ∃ e st', k e st' = some r ∧ QA.Reach lawOffsets_C (.loop lawOffsets_body3) (mkSt lawOffsets_S3 ds) e st' := by
  intro ds k r h
  unfold lawOffsets_A3 at h
  split at h
  · rw [lawOffsets_M3_eq, ← lawOffsets_L3_eq] at h
    refine aloop_ok (C := lawOffsets_C) qOk (lawOffsets_Gok R) ?_ _ _ _ _ h
    rw [show loopsIn lawOffsets_body3 = [] from by kernel_rfl]
    intro b hb
    cases hb
  · cases h
noncomputable def lawOffsets_T {R : Type} (q0 : List Str) (x1 : Int) (x2 : Int) (x3 : Int) (x4 : Int) (x5 : Int) (x6 : Int) (x7 : Int) (l8 : List Int) (k : List Int → Option R) : Option R :=
  lawOffsets_M3 l8 ([x1, (-1 : Int), Go.IntKind.wrap Go.IntKind.i64 ((↑(List.length l8) : Int) + (1 : Int))]) ((0 : Int)) x7 x6 x5 x4 x3 x2 x1 q0
  (fun l21 =>
  k l21)
noncomputable def lawOffsets_F {R : Type} : List Str → Int → Int → Int → Int → Int → Int → Int → List Int → (List Int → Option R) → Option R := lock lawOffsets_T
theorem lawOffsets_F_T {R : Type} : @lawOffsets_F R = lawOffsets_T := lock_eq _
theorem lawOffsets_F_eq {R : Type} (q0 : List Str) (x1 : Int) (x2 : Int) (x3 : Int) (x4 : Int) (x5 : Int) (x6 : Int) (x7 : Int) (l8 : List Int) (k : D → Option R) : afun qP [13] (lawOffsets_G R) (lawOffsets_Lam1 R) Tryd.f68 [D.agg [D.sl (.strs q0), D.int .i64 x1, D.int .i64 x2, D.int .i64 x3, D.int .i64 x4, D.int .i64 x5, D.int .i64 x6, D.int .i64 x7], D.sl (.ints .i32 l8)] k = lawOffsets_T q0 x1 x2 x3 x4 x5 x6 x7 l8 (fun y0 => k (D.sl (.ints .i64 y0))) := by kernel_rfl
noncomputable def lawOffsets_abs (R : Type) (ds : List D) (k : D → Option R) : Option R :=
  match ds with
  | [D.agg [D.sl (.strs q0), D.int .i64 x1, D.int .i64 x2, D.int .i64 x3, D.int .i64 x4, D.int .i64 x5, D.int .i64 x6, D.int .i64 x7], D.sl (.ints .i32 l8)] => lawOffsets_F q0 x1 x2 x3 x4 x5 x6 x7 l8 (fun y0 => k (D.sl (.ints .i64 y0)))
  | _ => none
theorem lawOffsets_ok : FnOk qP 68 lawOffsets_abs := by
  intro R ds k r h
  unfold lawOffsets_abs at h
  split at h
  · rw [lawOffsets_F_T, ← lawOffsets_F_eq] at h
    refine afun_ok (P := qP) (c := lawOffsets_code) qOk (lawOffsets_Gok R) Tryd.func68 (by kernel_rfl) (by kernel_rfl) ?_ ?_ (by kernel_rfl) h
    rotate_left
    · exact Nat.le_of_ble_eq_true (by kernel_rfl)
    rw [show loopsIn lawOffsets_code = [lawOffsets_body3] from by kernel_rfl]
    intro b hb
    simp only [List.mem_cons, List.not_mem_nil, or_false] at hb
    subst hb
    exact lam_of (key := 3) (S := lawOffsets_S3) (L := lawOffsets_A3 R) (fun st k => by kernel_rfl) (by kernel_rfl) lawOffsets_A3_ok
  · cases h

/-! ### made18: function 48 -/

noncomputable def made18_C : Cfg := ⟨qP, Tryd.f48.ntmps, []⟩
noncomputable def made18_code : Code := Tryd.f48.body.getD .skip
noncomputable def made18_G (R : Type) : Orc R := fun f args k => bif Nat.beq f 22 then refMay1_abs R args k else (fun f args k => bif Nat.beq f 79 then refBetween4_abs R args k else (fun _ _ _ => none) f args k) f args k
theorem made18_Gok (R : Type) : OrcOk qP (made18_G R) := (orc_cons refMay1_ok (orc_cons refBetween4_ok orc_nil))
noncomputable def made18_Lam0 (R : Type) : Lam R := fun _ _ _ => none
noncomputable def made18_T {R : Type} (s0 : Str) (s1 : Str) (x2 : Int) (k : Int → Int → Str → Int → Str → Bool → Int → Option R) : Option R :=
  refMay1_F s1 (fun b3 =>
  (bif !b3 then
   k ((0 : Int)) ((0 : Int)) [] ((0 : Int)) [] Bool.false ((4 : Int))
  else
   refBetween4_F s0 s1 (fun x4 x5 s6 =>
    k x4 x5 s6 x2 [] Bool.false ((0 : Int)))))
noncomputable def made18_F {R : Type} : Str → Str → Int → (Int → Int → Str → Int → Str → Bool → Int → Option R) → Option R := lock made18_T
theorem made18_F_T {R : Type} : @made18_F R = made18_T := lock_eq _
theorem made18_F_eq {R : Type} (s0 : Str) (s1 : Str) (x2 : Int) (k : D → Option R) : afun qP [] (made18_G R) (made18_Lam0 R) Tryd.f48 [D.str s0, D.str s1, D.int .i64 x2] k = made18_T s0 s1 x2 (fun y0 y1 y2 y3 y4 y5 y6 => k (D.tup [D.agg [D.int .i64 y0, D.int .i64 y1, D.str y2, D.int .i64 y3, D.str y4, D.bool y5], D.int .i64 y6])) := by kernel_rfl
noncomputable def made18_abs (R : Type) (ds : List D) (k : D → Option R) : Option R :=
  match ds with
  | [D.str s0, D.str s1, D.int .i64 x2] => made18_F s0 s1 x2 (fun y0 y1 y2 y3 y4 y5 y6 => k (D.tup [D.agg [D.int .i64 y0, D.int .i64 y1, D.str y2, D.int .i64 y3, D.str y4, D.bool y5], D.int .i64 y6]))
  | _ => none
theorem made18_ok : FnOk qP 48 made18_abs := by
  intro R ds k r h
  unfold made18_abs at h
  split at h
  · rw [made18_F_T, ← made18_F_eq] at h
    refine afun_ok (P := qP) (c := made18_code) qOk (made18_Gok R) Tryd.func48 (by kernel_rfl) (by kernel_rfl) ?_ ?_ (by kernel_rfl) h
    rotate_left
    · exact Nat.le_of_ble_eq_true (by kernel_rfl)
    rw [show loopsIn made18_code = [] from by kernel_rfl]
    intro b hb
    cases hb
  · cases h

/-! ### refBetween15: function 36 -/

noncomputable def refBetween15_C : Cfg := ⟨qP, Tryd.f36.ntmps, []⟩
noncomputable def refBetween15_code : Code := Tryd.f36.body.getD .skip
noncomputable def refBetween15_G (R : Type) : Orc R := fun f args k => bif Nat.beq f 46 then refBegin_abs R args k else (fun f args k => bif Nat.beq f 37 then refEnd_abs R args k else (fun _ _ _ => none) f args k) f args k
theorem refBetween15_Gok (R : Type) : OrcOk qP (refBetween15_G R) := (orc_cons refBegin_ok (orc_cons refEnd_ok orc_nil))
noncomputable def refBetween15_Lam0 (R : Type) : Lam R := fun _ _ _ => none
noncomputable def refBetween15_T {R : Type} (l0 : List Int) (x1 : Int) (x2 : Int) (x3 : Int) (k : Int → Int → Bool → Option R) : Option R :=
  (bif (x3 == (1 : Int)) then
  (bif (Decidable.decide (Go.QA.mm Bool.true x1 x2 < (↑(List.length l0) : Int))) then
   (bif (Decidable.decide ((0 : Int) ≤ Go.QA.mm Bool.true x1 x2) && Decidable.decide (Go.QA.mm Bool.true x1 x2 < (↑(List.length l0) : Int))) then
    (bif (List.getD l0 (Int.toNat (Go.QA.mm Bool.true x1 x2)) (0 : Int) != (10 : Int)) then
     k (Go.QA.mm Bool.false x1 x2) (Go.IntKind.wrap Go.IntKind.i64 (Go.QA.mm Bool.true x1 x2 + (1 : Int))) Bool.false
    else
     k (Go.QA.mm Bool.false x1 x2) (Go.QA.mm Bool.true x1 x2) Bool.false)
   else
    none)
  else
   k (Go.QA.mm Bool.false x1 x2) (Go.QA.mm Bool.true x1 x2) Bool.false)
 else
  (bif (x3 == (2 : Int)) then
   refBegin_F l0 (Go.QA.mm Bool.false x1 x2) (fun x4 =>
    refEnd_F l0 (Go.QA.mm Bool.true x1 x2) (fun x5 =>
     k x4 x5 Bool.true))
  else
   k (Go.QA.mm Bool.false x1 x2) (Go.QA.mm Bool.true x1 x2) Bool.false))
noncomputable def refBetween15_F {R : Type} : List Int → Int → Int → Int → (Int → Int → Bool → Option R) → Option R := lock refBetween15_T
theorem refBetween15_F_T {R : Type} : @refBetween15_F R = refBetween15_T := lock_eq _
theorem refBetween15_F_eq {R : Type} (l0 : List Int) (x1 : Int) (x2 : Int) (x3 : Int) (k : D → Option R) : afun qP [] (refBetween15_G R) (refBetween15_Lam0 R) Tryd.f36 [D.sl (.ints .i32 l0), D.int .i64 x1, D.int .i64 x2, D.int .i64 x3] k = refBetween15_T l0 x1 x2 x3 (fun y0 y1 y2 => k (D.agg [D.int .i64 y0, D.int .i64 y1, D.bool y2])) := by kernel_rfl
noncomputable def refBetween15_abs (R : Type) (ds : List D) (k : D → Option R) : Option R :=
  match ds with
  | [D.sl (.ints .i32 l0), D.int .i64 x1, D.int .i64 x2, D.int .i64 x3] => refBetween15_F l0 x1 x2 x3 (fun y0 y1 y2 => k (D.agg [D.int .i64 y0, D.int .i64 y1, D.bool y2]))
  | _ => none
theorem refBetween15_ok : FnOk qP 36 refBetween15_abs := by
  intro R ds k r h
  unfold refBetween15_abs at h
  split at h
  · rw [refBetween15_F_T, ← refBetween15_F_eq] at h
    refine afun_ok (P := qP) (c := refBetween15_code) qOk (refBetween15_Gok R) Tryd.func36 (by kernel_rfl) (by kernel_rfl) ?_ ?_ (by kernel_rfl) h
    rotate_left
    · exact Nat.le_of_ble_eq_true (by kernel_rfl)
    rw [show loopsIn refBetween15_code = [] from by kernel_rfl]
    intro b hb
    cases hb
  · cases h

/-! ### refFirst: function 125 -/

noncomputable def refFirst_C : Cfg := ⟨qP, Tryd.f125.ntmps, []⟩
noncomputable def refFirst_code : Code := Tryd.f125.body.getD .skip
noncomputable def refFirst_G (R : Type) : Orc R := fun f args k => bif Nat.beq f 46 then refBegin_abs R args k else (fun f args k => bif Nat.beq f 50 then refClass_abs R args k else (fun _ _ _ => none) f args k) f args k
theorem refFirst_Gok (R : Type) : OrcOk qP (refFirst_G R) := (orc_cons refBegin_ok (orc_cons refClass_ok orc_nil))
noncomputable def refFirst_B2 {R : Type} (rec : List Int → Int → Option R) (l3 : List Int) (x4 : Int) (ke0 : Int → Option R) : Option R :=
  (bif (Decidable.decide (x4 < (↑(List.length l3) : Int))) then
  (bif (Decidable.decide ((0 : Int) ≤ x4) && Decidable.decide (x4 < (↑(List.length l3) : Int))) then
   (bif (List.getD l3 (Int.toNat x4) (0 : Int) != (10 : Int)) then
    (bif (Decidable.decide ((0 : Int) ≤ x4) && Decidable.decide (x4 < (↑(List.length l3) : Int))) then
     refClass_F (Go.IntKind.wrap Go.IntKind.i64 (List.getD l3 (Int.toNat x4) (0 : Int))) (fun x5 =>
      (bif (x5 == (0 : Int)) then
       rec l3 (Go.IntKind.wrap Go.IntKind.i64 (x4 + (1 : Int)))
      else
       ke0 x4))
    else
     none)
   else
    ke0 x4)
  else
   none)
 else
  ke0 x4)
noncomputable def refFirst_L2 {R : Type} : Nat → List Int → Int → (Int → Option R) → Option R
  | 0, _, _, _ => none
  | n + 1, l3, x4, ke0 => refFirst_B2 (fun l3 x4 => refFirst_L2 n l3 x4 ke0) l3 x4 ke0
noncomputable def refFirst_M2 {R : Type} : List Int → Int → (Int → Option R) → Option R := lock (refFirst_L2 4611686018427387904)
theorem refFirst_M2_eq {R : Type} : @refFirst_M2 R = refFirst_L2 4611686018427387904 := lock_eq _
noncomputable def refFirst_Lam0 (R : Type) : Lam R := fun _ _ _ => none
noncomputable def refFirst_body2 : Code := (findLoop 2 refFirst_code).getD .skip
def refFirst_S2 : QA.Spec := (⟨[.t 0, .t 1], [], [], [], []⟩ : QA.Spec)
def refFirst_S2e0 : QA.Spec := (⟨[.t 1], [], [], [], []⟩ : QA.Spec)
def refFirst_X2 : AExit → Option QA.Spec
  | .normal => none
  | .exit j => bif Nat.beq j 0 then some refFirst_S2e0 else none
  | .ret => none
theorem refFirst_L2_eq {R : Type} (k : AExit → St → Option R) : ∀ (n : Nat) (a0 : List Int) (a1 : Int), aloop refFirst_C (refFirst_G R) (refFirst_Lam0 R) refFirst_S2 refFirst_X2 refFirst_body2 n [D.sl (.ints .i32 a0), D.int .i64 a1] k = refFirst_L2 n a0 a1 (fun y0 => k (.exit 0) (mkSt refFirst_S2e0 [D.int .i64 y0]))
  | 0, _, _ => rfl
  | n + 1, a0, a1 => by
    have h : (fun a0 a1 => aloop refFirst_C (refFirst_G R) (refFirst_Lam0 R) refFirst_S2 refFirst_X2 refFirst_body2 n [D.sl (.ints .i32 a0), D.int .i64 a1] k) = (fun a0 a1 => refFirst_L2 n a0 a1 (fun y0 => k (.exit 0) (mkSt refFirst_S2e0 [D.int .i64 y0]))) := by
      funext a0 a1; exact refFirst_L2_eq k n a0 a1
    have s : aloop refFirst_C (refFirst_G R) (refFirst_Lam0 R) refFirst_S2 refFirst_X2 refFirst_body2 (n + 1) [D.sl (.ints .i32 a0), D.int .i64 a1] k = refFirst_B2 (fun a0 a1 => aloop refFirst_C (refFirst_G R) (refFirst_Lam0 R) refFirst_S2 refFirst_X2 refFirst_body2 n [D.sl (.ints .i32 a0), D.int .i64 a1] k) a0 a1 (fun y0 => k (.exit 0) (mkSt refFirst_S2e0 [D.int .i64 y0])) := by kernel_rfl
    rw [s, h]; rfl
noncomputable def refFirst_A2 (R : Type) (ds : List D) (k : AExit → St → Option R) : Option R :=
  match ds with
  | [D.sl (.ints .i32 a0), D.int .i64 a1] => refFirst_M2 a0 a1 (fun y0 => k (.exit 0) (mkSt refFirst_S2e0 [D.int .i64 y0]))
  | _ => none
noncomputable def refFirst_Lam1 (R : Type) : Lam R := fun key st k => bif Nat.beq key 2 then (match readSt refFirst_S2 st with | some ds => refFirst_A2 R ds k | none => none) else refFirst_Lam0 R key st k
theorem refFirst_A2_ok {R : Type} : ∀ ds k r, refFirst_A2 R ds k = some r → ∃ e st', k e st' = some r ∧ QA.Reach refFirst_C (.loop refFirst_body2) (mkSt refFirst_S2 ds) e st' := by
  intro ds k r h
  unfold refFirst_A2 at h
  split at h
  · rw [refFirst_M2_eq, ← refFirst_L2_eq] at h
    refine aloop_ok (C := refFirst_C) qOk (refFirst_Gok R) ?_ _ _ _ _ h
    rw [show loopsIn refFirst_body2 = [] from by kernel_rfl]
    intro b hb
    cases hb
  · cases h
noncomputable def refFirst_T {R : Type} (l0 : List Int) (x1 : Int) (k : Int → Option R) : Option R :=
  refBegin_F l0 x1 (fun x2 =>
  refFirst_M2 l0 x2
   (fun x6 =>
   k x6))
noncomputable def refFirst_F {R : Type} : List Int → Int → (Int → Option R) → Option R := lock refFirst_T
theorem refFirst_F_T {R : Type} : @refFirst_F R = refFirst_T := lock_eq _
theorem refFirst_F_eq {R : Type} (l0 : List Int) (x1 : Int) (k : D → Option R) : afun qP [] (refFirst_G R) (refFirst_Lam1 R) Tryd.f125 [D.sl (.ints .i32 l0), D.int .i64 x1] k = refFirst_T l0 x1 (fun y0 => k (D.int .i64 y0)) := by kernel_rfl
noncomputable def refFirst_abs (R : Type) (ds : List D) (k : D → Option R) : Option R :=
  match ds with
  | [D.sl (.ints .i32 l0), D.int .i64 x1] => refFirst_F l0 x1 (fun y0 => k (D.int .i64 y0))
  | _ => none
theorem refFirst_ok : FnOk qP 125 refFirst_abs := by
  intro R ds k r h
  unfold refFirst_abs at h
  split at h
  · rw [refFirst_F_T, ← refFirst_F_eq] at h
    refine afun_ok (P := qP) (c := refFirst_code) qOk (refFirst_Gok R) Tryd.func125 (by kernel_rfl) (by kernel_rfl) ?_ ?_ (by kernel_rfl) h
    rotate_left
    · exact Nat.le_of_ble_eq_true (by kernel_rfl)
    rw [show loopsIn refFirst_code = [refFirst_body2] from by kernel_rfl]
    intro b hb
    simp only [List.mem_cons, List.not_mem_nil, or_false] at hb
    subst hb
    exact lam_of (key := 2) (S := refFirst_S2) (L := refFirst_A2 R) (fun st k => by kernel_rfl) (by kernel_rfl) refFirst_A2_ok
  · cases h

/-! ### refKey: function 57 -/

noncomputable def refKey_C : Cfg := ⟨qP, Tryd.f57.ntmps, []⟩
noncomputable def refKey_code : Code := Tryd.f57.body.getD .skip
noncomputable def refKey_G (R : Type) : Orc R := fun f args k => bif Nat.beq f 86 then refIn_abs R args k else (fun _ _ _ => none) f args k
theorem refKey_Gok (R : Type) : OrcOk qP (refKey_G R) := (orc_cons refIn_ok orc_nil)
noncomputable def refKey_Lam0 (R : Type) : Lam R := fun _ _ _ => none
noncomputable def refKey_T {R : Type} (x0 : Int) (k : Bool → Option R) : Option R :=
  refIn_F ([(100 : Int), (99 : Int), (121 : Int), (62 : Int), (60 : Int), (16777333 : Int), (16777301 : Int), (16777342 : Int)]) x0 (fun x1 =>
  k (Decidable.decide (x1 ≥ (0 : Int))))
noncomputable def refKey_F {R : Type} : Int → (Bool → Option R) → Option R := lock refKey_T
theorem refKey_F_T {R : Type} : @refKey_F R = refKey_T := lock_eq _
theorem refKey_F_eq {R : Type} (x0 : Int) (k : D → Option R) : afun qP [] (refKey_G R) (refKey_Lam0 R) Tryd.f57 [D.int .i64 x0] k = refKey_T x0 (fun y0 => k (D.bool y0)) := by kernel_rfl
noncomputable def refKey_abs (R : Type) (ds : List D) (k : D → Option R) : Option R :=
  match ds with
  | [D.int .i64 x0] => refKey_F x0 (fun y0 => k (D.bool y0))
  | _ => none
theorem refKey_ok : FnOk qP 57 refKey_abs := by
  intro R ds k r h
  unfold refKey_abs at h
  split at h
  · rw [refKey_F_T, ← refKey_F_eq] at h
    refine afun_ok (P := qP) (c := refKey_code) qOk (refKey_Gok R) Tryd.func57 (by kernel_rfl) (by kernel_rfl) ?_ ?_ (by kernel_rfl) h
    rotate_left
    · exact Nat.le_of_ble_eq_true (by kernel_rfl)
    rw [show loopsIn refKey_code = [] from by kernel_rfl]
    intro b hb
    cases hb
  · cases h

/-! ### refMay4: function 27 -/

noncomputable def refMay4_C : Cfg := ⟨qP, Tryd.f27.ntmps, []⟩
noncomputable def refMay4_code : Code := Tryd.f27.body.getD .skip
noncomputable def refMay4_G (R : Type) : Orc R := fun f args k => bif Nat.beq f 42 then refLen_abs R args k else (fun f args k => bif Nat.beq f 22 then refMay1_abs R args k else (fun f args k => bif Nat.beq f 56 then refNum_abs R args k else (fun f args k => bif Nat.beq f 45 then libValidString_abs R args k else (fun _ _ _ => none) f args k) f args k) f args k) f args k
theorem refMay4_Gok (R : Type) : OrcOk qP (refMay4_G R) := (orc_cons refLen_ok (orc_cons refMay1_ok (orc_cons refNum_ok (orc_cons libValidString_ok orc_nil))))
noncomputable def refMay4_B5 {R : Type} (rec : Int → Str → Int → Int → Option R) (x9 : Int) (s10 : Str) (x11 : Int) (x12 : Int) (ke0 : Bool → Option R) (ke1 : Option R) : Option R :=
  (bif (Decidable.decide (x9 < (↑(List.length s10) : Int))) then
  (bif (Decidable.decide ((0 : Int) ≤ x9) && Decidable.decide (x9 < (↑(List.length s10) : Int))) then
   (bif ((↑(UInt8.toNat (List.getD s10 (Int.toNat x9) (0 : UInt8))) : Int) == (0 : Int)) then
    ke0 Bool.false
   else
    rec (Go.IntKind.wrap Go.IntKind.i64 (x9 + (1 : Int))) s10 x11 x12)
  else
   none)
 else
  ke1)
noncomputable def refMay4_L5 {R : Type} : Nat → Int → Str → Int → Int → (Bool → Option R) → (Option R) → Option R
  | 0, _, _, _, _, _, _ => none
  | n + 1, x9, s10, x11, x12, ke0, ke1 => refMay4_B5 (fun x9 s10 x11 x12 => refMay4_L5 n x9 s10 x11 x12 ke0 ke1) x9 s10 x11 x12 ke0 ke1
noncomputable def refMay4_M5 {R : Type} : Int → Str → Int → Int → (Bool → Option R) → (Option R) → Option R := lock (refMay4_L5 4611686018427387904)
theorem refMay4_M5_eq {R : Type} : @refMay4_M5 R = refMay4_L5 4611686018427387904 := lock_eq _
noncomputable def refMay4_Lam0 (R : Type) : Lam R := fun _ _ _ => none
noncomputable def refMay4_body5 : Code := (findLoop 5 refMay4_code).getD .skip
def refMay4_S5 : QA.Spec := (⟨[.t 6, .c 3 2, .c 3 1, .c 3 0], [3], [], [(.t 3, 3, 0)], []⟩ : QA.Spec)
def refMay4_S5r : QA.Spec := (⟨[.t 4], [], [], [], []⟩ : QA.Spec)
def refMay4_S5e0 : QA.Spec := (⟨[], [], [], [], []⟩ : QA.Spec)
def refMay4_X5 : AExit → Option QA.Spec
  | .normal => none
  | .exit j => bif Nat.beq j 0 then some refMay4_S5e0 else none
  | .ret => some refMay4_S5r
theorem refMay4_L5_eq {R : Type} (k : AExit → St → Option R) : ∀ (n : Nat) (a0 : Int) (a1 : Str) (a2 : Int) (a3 : Int), aloop refMay4_C (refMay4_G R) (refMay4_Lam0 R) refMay4_S5 refMay4_X5 refMay4_body5 n [D.int .i64 a0, D.str a1, D.int .i64 a2, D.int .i64 a3] k = refMay4_L5 n a0 a1 a2 a3 (fun y0 => k .ret (mkSt refMay4_S5r [D.bool y0])) (k (.exit 0) (mkSt refMay4_S5e0 []))
  | 0, _, _, _, _ => rfl
  | n + 1, a0, a1, a2, a3 => by
    have h : (fun a0 a1 a2 a3 => aloop refMay4_C (refMay4_G R) (refMay4_Lam0 R) refMay4_S5 refMay4_X5 refMay4_body5 n [D.int .i64 a0, D.str a1, D.int .i64 a2, D.int .i64 a3] k) = (fun a0 a1 a2 a3 => refMay4_L5 n a0 a1 a2 a3 (fun y0 => k .ret (mkSt refMay4_S5r [D.bool y0])) (k (.exit 0) (mkSt refMay4_S5e0 []))) := by
      funext a0 a1 a2 a3; exact refMay4_L5_eq k n a0 a1 a2 a3
    have s : aloop refMay4_C (refMay4_G R) (refMay4_Lam0 R) refMay4_S5 refMay4_X5 refMay4_body5 (n + 1) [D.int .i64 a0, D.str a1, D.int .i64 a2, D.int .i64 a3] k = refMay4_B5 (fun a0 a1 a2 a3 => aloop refMay4_C (refMay4_G R) (refMay4_Lam0 R) refMay4_S5 refMay4_X5 refMay4_body5 n [D.int .i64 a0, D.str a1, D.int .i64 a2, D.int .i64 a3] k) a0 a1 a2 a3 (fun y0 => k .ret (mkSt refMay4_S5r [D.bool y0])) (k (.exit 0) (mkSt refMay4_S5e0 [])) := by kernel_rfl
    rw [s, h]; rfl
noncomputable def refMay4_A5 (R : Type) (ds : List D) (k : AExit → St → Option R) : Option R :=
  match ds with
  | [D.int .i64 a0, D.str a1, D.int .i64 a2, D.int .i64 a3] => refMay4_M5 a0 a1 a2 a3 (fun y0 => k .ret (mkSt refMay4_S5r [D.bool y0])) (k (.exit 0) (mkSt refMay4_S5e0 []))
  | _ => none
noncomputable def refMay4_Lam1 (R : Type) : Lam R := fun key st k => bif Nat.beq key 5 then (match readSt refMay4_S5 st with | some ds => refMay4_A5 R ds k | none => none) else refMay4_Lam0 R key st k
theorem refMay4_A5_ok {R : Type} : ∀ ds k r, refMay4_A5 R ds k = some r → ∃ e st', k e st' = some r ∧ QA.Reach refMay4_C (.loop refMay4_body5) (mkSt refMay4_S5 ds) e st' := by
  intro ds k r h
  unfold refMay4_A5 at h
  split at h
  · rw [refMay4_M5_eq, ← refMay4_L5_eq] at h
    refine aloop_ok (C := refMay4_C) qOk (refMay4_Gok R) ?_ _ _ _ _ h
    rw [show loopsIn refMay4_body5 = [] from by kernel_rfl]
    intro b hb
    cases hb
  · cases h
noncomputable def refMay4_T {R : Type} (s0 : Str) (x1 : Int) (x2 : Int) (s3 : Str) (k : Bool → Option R) : Option R :=
  refLen_F s0 (fun x4 =>
  refMay1_F s0 (fun b5 =>
   (bif !b5 then
    k Bool.false
   else
    refNum_F x1 x4 (fun b6 =>
     (bif !b6 then
      k Bool.false
     else
      refNum_F x2 (Go.IntKind.wrap Go.IntKind.i64 (x4 - x1)) (fun b7 =>
       (bif !b7 then
        k Bool.false
       else
        libValidString_F s3 (fun b8 =>
         (bif !b8 then
          k Bool.false
         else
          refMay4_M5 ((0 : Int)) s3 x2 x1
           (fun b13 =>
           k b13)
           (
           k Bool.true))))))))))
noncomputable def refMay4_F {R : Type} : Str → Int → Int → Str → (Bool → Option R) → Option R := lock refMay4_T
theorem refMay4_F_T {R : Type} : @refMay4_F R = refMay4_T := lock_eq _
theorem refMay4_F_eq {R : Type} (s0 : Str) (x1 : Int) (x2 : Int) (s3 : Str) (k : D → Option R) : afun qP [] (refMay4_G R) (refMay4_Lam1 R) Tryd.f27 [D.str s0, D.agg [D.int .i64 x1, D.int .i64 x2, D.str s3]] k = refMay4_T s0 x1 x2 s3 (fun y0 => k (D.bool y0)) := by kernel_rfl
noncomputable def refMay4_abs (R : Type) (ds : List D) (k : D → Option R) : Option R :=
  match ds with
  | [D.str s0, D.agg [D.int .i64 x1, D.int .i64 x2, D.str s3]] => refMay4_F s0 x1 x2 s3 (fun y0 => k (D.bool y0))
  | _ => none
theorem refMay4_ok : FnOk qP 27 refMay4_abs := by
  intro R ds k r h
  unfold refMay4_abs at h
  split at h
  · rw [refMay4_F_T, ← refMay4_F_eq] at h
    refine afun_ok (P := qP) (c := refMay4_code) qOk (refMay4_Gok R) Tryd.func27 (by kernel_rfl) (by kernel_rfl) ?_ ?_ (by kernel_rfl) h
    rotate_left
    · exact Nat.le_of_ble_eq_true (by kernel_rfl)
    rw [show loopsIn refMay4_code = [refMay4_body5] from by kernel_rfl]
    intro b hb
    simp only [List.mem_cons, List.not_mem_nil, or_false] at hb
    subst hb
    exact lam_of (key := 5) (S := refMay4_S5) (L := refMay4_A5 R) (fun st k => by kernel_rfl) (by kernel_rfl) refMay4_A5_ok
  · cases h

/-! ### refRange: function 33 -/

noncomputable def refRange_C : Cfg := ⟨qP, Tryd.f33.ntmps, []⟩
noncomputable def refRange_code : Code := Tryd.f33.body.getD .skip
noncomputable def refRange_G (R : Type) : Orc R := fun f args k => bif Nat.beq f 56 then refNum_abs R args k else (fun f args k => bif Nat.beq f 59 then refBetween0_abs R args k else (fun f args k => bif Nat.beq f 46 then refBegin_abs R args k else (fun f args k => bif Nat.beq f 37 then refEnd_abs R args k else (fun _ _ _ => none) f args k) f args k) f args k) f args k
theorem refRange_Gok (R : Type) : OrcOk qP (refRange_G R) := (orc_cons refNum_ok (orc_cons refBetween0_ok (orc_cons refBegin_ok (orc_cons refEnd_ok orc_nil))))
noncomputable def refRange_Lam0 (R : Type) : Lam R := fun _ _ _ => none
noncomputable def refRange_T {R : Type} (l0 : List Int) (x1 : Int) (x2 : Int) (b3 : Bool) (k : Bool → Option R) : Option R :=
  refNum_F x1 ((↑(List.length l0) : Int)) (fun b4 =>
  (bif !b4 then
   k Bool.false
  else
   refBetween0_F x2 x1 ((↑(List.length l0) : Int)) (fun b5 =>
    (bif !b5 then
     k Bool.false
    else
     (bif !b3 then
      k Bool.true
     else
      refBegin_F l0 x1 (fun x6 =>
       (bif (x6 == x1) then
        refEnd_F l0 x2 (fun x7 =>
         k (x7 == x2))
       else
        k Bool.false)))))))
noncomputable def refRange_F {R : Type} : List Int → Int → Int → Bool → (Bool → Option R) → Option R := lock refRange_T
theorem refRange_F_T {R : Type} : @refRange_F R = refRange_T := lock_eq _
theorem refRange_F_eq {R : Type} (l0 : List Int) (x1 : Int) (x2 : Int) (b3 : Bool) (k : D → Option R) : afun qP [] (refRange_G R) (refRange_Lam0 R) Tryd.f33 [D.sl (.ints .i32 l0), D.agg [D.int .i64 x1, D.int .i64 x2, D.bool b3]] k = refRange_T l0 x1 x2 b3 (fun y0 => k (D.bool y0)) := by kernel_rfl
noncomputable def refRange_abs (R : Type) (ds : List D) (k : D → Option R) : Option R :=
  match ds with
  | [D.sl (.ints .i32 l0), D.agg [D.int .i64 x1, D.int .i64 x2, D.bool b3]] => refRange_F l0 x1 x2 b3 (fun y0 => k (D.bool y0))
  | _ => none
theorem refRange_ok : FnOk qP 33 refRange_abs := by
  intro R ds k r h
  unfold refRange_abs at h
  split at h
  · rw [refRange_F_T, ← refRange_F_eq] at h
    refine afun_ok (P := qP) (c := refRange_code) qOk (refRange_Gok R) Tryd.func33 (by kernel_rfl) (by kernel_rfl) ?_ ?_ (by kernel_rfl) h
    rotate_left
    · exact Nat.le_of_ble_eq_true (by kernel_rfl)
    rw [show loopsIn refRange_code = [] from by kernel_rfl]
    intro b hb
    cases hb
  · cases h

/-! ### refRest: function 47 -/

noncomputable def refRest_C : Cfg := ⟨qP, Tryd.f47.ntmps, []⟩
noncomputable def refRest_code : Code := Tryd.f47.body.getD .skip
noncomputable def refRest_G (R : Type) : Orc R := fun f args k => bif Nat.beq f 37 then refEnd_abs R args k else (fun f args k => bif Nat.beq f 46 then refBegin_abs R args k else (fun _ _ _ => none) f args k) f args k
theorem refRest_Gok (R : Type) : OrcOk qP (refRest_G R) := (orc_cons refEnd_ok (orc_cons refBegin_ok orc_nil))
noncomputable def refRest_Lam0 (R : Type) : Lam R := fun _ _ _ => none
noncomputable def refRest_T {R : Type} (l0 : List Int) (x1 : Int) (k : Int → Option R) : Option R :=
  refEnd_F l0 x1 (fun x2 =>
  (bif (x1 == x2) then
   refBegin_F l0 x1 (fun x3 =>
    (bif (Decidable.decide (x1 > x3)) then
     k (Go.IntKind.wrap Go.IntKind.i64 (x1 - (1 : Int)))
    else
     k x1))
  else
   k x1))
noncomputable def refRest_F {R : Type} : List Int → Int → (Int → Option R) → Option R := lock refRest_T
theorem refRest_F_T {R : Type} : @refRest_F R = refRest_T := lock_eq _
theorem refRest_F_eq {R : Type} (l0 : List Int) (x1 : Int) (k : D → Option R) : afun qP [] (refRest_G R) (refRest_Lam0 R) Tryd.f47 [D.sl (.ints .i32 l0), D.int .i64 x1] k = refRest_T l0 x1 (fun y0 => k (D.int .i64 y0)) := by kernel_rfl
noncomputable def refRest_abs (R : Type) (ds : List D) (k : D → Option R) : Option R :=
  match ds with
  | [D.sl (.ints .i32 l0), D.int .i64 x1] => refRest_F l0 x1 (fun y0 => k (D.int .i64 y0))
  | _ => none
theorem refRest_ok : FnOk qP 47 refRest_abs := by
  intro R ds k r h
  unfold refRest_abs at h
  split at h
  · rw [refRest_F_T, ← refRest_F_eq] at h
    refine afun_ok (P := qP) (c := refRest_code) qOk (refRest_Gok R) Tryd.func47 (by kernel_rfl) (by kernel_rfl) ?_ ?_ (by kernel_rfl) h
    rotate_left
    · exact Nat.le_of_ble_eq_true (by kernel_rfl)
    rw [show loopsIn refRest_code = [] from by kernel_rfl]
    intro b hb
    cases hb
  · cases h

/-! ### textClass: function 95 -/

noncomputable def textClass_C : Cfg := ⟨qP, Tryd.f95.ntmps, []⟩
noncomputable def textClass_code : Code := Tryd.f95.body.getD .skip
noncomputable def textClass_G (R : Type) : Orc R := fun f args k => bif Nat.beq f 113 then textMade_abs R args k else (fun _ _ _ => none) f args k
theorem textClass_Gok (R : Type) : OrcOk qP (textClass_G R) := (orc_cons textMade_ok orc_nil)
noncomputable def textClass_Lam0 (R : Type) : Lam R := fun _ _ _ => none
noncomputable def textClass_T {R : Type} (x0 : Int) (k : Int → Option R) : Option R :=
  (bif (Decidable.decide (x0 < (0 : Int))) then
  k ((2 : Int))
 else
  (bif (Decidable.decide (x0 ≥ (128 : Int))) then
   k ((1 : Int))
  else
   textMade_F x0 (fun x1 =>
    k x1)))
noncomputable def textClass_F {R : Type} : Int → (Int → Option R) → Option R := lock textClass_T
theorem textClass_F_T {R : Type} : @textClass_F R = textClass_T := lock_eq _
theorem textClass_F_eq {R : Type} (x0 : Int) (k : D → Option R) : afun qP [] (textClass_G R) (textClass_Lam0 R) Tryd.f95 [D.int .i64 x0] k = textClass_T x0 (fun y0 => k (D.int .i64 y0)) := by kernel_rfl
noncomputable def textClass_abs (R : Type) (ds : List D) (k : D → Option R) : Option R :=
  match ds with
  | [D.int .i64 x0] => textClass_F x0 (fun y0 => k (D.int .i64 y0))
  | _ => none
theorem textClass_ok : FnOk qP 95 textClass_abs := by
  intro R ds k r h
  unfold textClass_abs at h
  split at h
  · rw [textClass_F_T, ← textClass_F_eq] at h
    refine afun_ok (P := qP) (c := textClass_code) qOk (textClass_Gok R) Tryd.func95 (by kernel_rfl) (by kernel_rfl) ?_ ?_ (by kernel_rfl) h
    rotate_left
    · exact Nat.le_of_ble_eq_true (by kernel_rfl)
    rw [show loopsIn textClass_code = [] from by kernel_rfl]
    intro b hb
    cases hb
  · cases h

/-! ### textMay: function 51 -/

noncomputable def textMay_C : Cfg := ⟨qP, Tryd.f51.ntmps, []⟩
noncomputable def textMay_code : Code := Tryd.f51.body.getD .skip
noncomputable def textMay_G (R : Type) : Orc R := fun f args k => bif Nat.beq f 80 then textWhole_abs R args k else (fun _ _ _ => none) f args k
theorem textMay_Gok (R : Type) : OrcOk qP (textMay_G R) := (orc_cons textWhole_ok orc_nil)
noncomputable def textMay_Lam0 (R : Type) : Lam R := fun _ _ _ => none
noncomputable def textMay_T {R : Type} (s0 : Str) (k : Bool → Option R) : Option R :=
  (bif (Decidable.decide ((↑(List.length s0) : Int) ≤ (4000 : Int))) then
  textWhole_F s0 (fun b1 =>
   k b1)
 else
  k Bool.false)
noncomputable def textMay_F {R : Type} : Str → (Bool → Option R) → Option R := lock textMay_T
theorem textMay_F_T {R : Type} : @textMay_F R = textMay_T := lock_eq _
theorem textMay_F_eq {R : Type} (s0 : Str) (k : D → Option R) : afun qP [] (textMay_G R) (textMay_Lam0 R) Tryd.f51 [D.str s0] k = textMay_T s0 (fun y0 => k (D.bool y0)) := by kernel_rfl
noncomputable def textMay_abs (R : Type) (ds : List D) (k : D → Option R) : Option R :=
  match ds with
  | [D.str s0] => textMay_F s0 (fun y0 => k (D.bool y0))
  | _ => none
theorem textMay_ok : FnOk qP 51 textMay_abs := by
  intro R ds k r h
  unfold textMay_abs at h
  split at h
  · rw [textMay_F_T, ← textMay_F_eq] at h
    refine afun_ok (P := qP) (c := textMay_code) qOk (textMay_Gok R) Tryd.func51 (by kernel_rfl) (by kernel_rfl) ?_ ?_ (by kernel_rfl) h
    rotate_left
    · exact Nat.le_of_ble_eq_true (by kernel_rfl)
    rw [show loopsIn textMay_code = [] from by kernel_rfl]
    intro b hb
    cases hb
  · cases h

end Go.Proofs.YtleoffdjdgbanaaDoor

set_option linter.unusedVariables false
set_option linter.unusedSimpArgs false
set_option maxRecDepth 1000000
namespace Go.Proofs.YtleoffdjdgbanaaDoor
open Go Go.QA Go.Proofs

/-! ### MapFirst: function 83 -/

noncomputable def MapFirst_C : Cfg := ⟨qP, Tryd.f83.ntmps, []⟩
noncomputable def MapFirst_code : Code := Tryd.f83.body.getD .skip
noncomputable def MapFirst_G (R : Type) : Orc R := fun f args k => bif Nat.beq f 72 then MapEnd_abs R args k else (fun f args k => bif Nat.beq f 95 then textClass_abs R args k else (fun _ _ _ => none) f args k) f args k
theorem MapFirst_Gok (R : Type) : OrcOk qP (MapFirst_G R) := (orc_cons MapEnd_ok (orc_cons textClass_ok orc_nil))
noncomputable def MapFirst_B2 {R : Type} (rec : List Int → List Int → Int → Int → Option R) (l3 : List Int) (l4 : List Int) (x5 : Int) (x6 : Int) (ke0 : Int → Option R) : Option R :=
  MapEnd_F l3 l4 x5 (fun x7 =>
  (bif (Decidable.decide (x6 < x7)) then
   (bif (Decidable.decide ((0 : Int) ≤ x6) && Decidable.decide (x6 < (↑(List.length l3) : Int))) then
    textClass_F (Go.IntKind.wrap Go.IntKind.i64 (List.getD l3 (Int.toNat x6) (0 : Int))) (fun x8 =>
     (bif (x8 == (0 : Int)) then
      rec l3 l4 x5 (Go.IntKind.wrap Go.IntKind.i64 (x6 + (1 : Int)))
     else
      ke0 x6))
   else
    none)
  else
   ke0 x6))
noncomputable def MapFirst_L2 {R : Type} : Nat → List Int → List Int → Int → Int → (Int → Option R) → Option R
  | 0, _, _, _, _, _ => none
  | n + 1, l3, l4, x5, x6, ke0 => MapFirst_B2 (fun l3 l4 x5 x6 => MapFirst_L2 n l3 l4 x5 x6 ke0) l3 l4 x5 x6 ke0
noncomputable def MapFirst_M2 {R : Type} : List Int → List Int → Int → Int → (Int → Option R) → Option R := lock (MapFirst_L2 4611686018427387904)
theorem MapFirst_M2_eq {R : Type} : @MapFirst_M2 R = MapFirst_L2 4611686018427387904 := lock_eq _
noncomputable def MapFirst_Lam0 (R : Type) : Lam R := fun _ _ _ => none
noncomputable def MapFirst_body2 : Code := (findLoop 2 MapFirst_code).getD .skip
def MapFirst_S2 : QA.Spec := (⟨[.t 0, .t 1, .t 5], [], [], [], []⟩ : QA.Spec)
def MapFirst_S2e0 : QA.Spec := (⟨[.t 5], [], [], [], []⟩ : QA.Spec)
def MapFirst_X2 : AExit → Option QA.Spec
  | .normal => none
  | .exit j => bif Nat.beq j 0 then some MapFirst_S2e0 else none
  | .ret => none
theorem MapFirst_L2_eq {R : Type} (k : AExit → St → Option R) : ∀ (n : Nat) (a0 : List Int) (a1 : List Int) (a2 : Int) (a3 : Int), aloop MapFirst_C (MapFirst_G R) (MapFirst_Lam0 R) MapFirst_S2 MapFirst_X2 MapFirst_body2 n [D.ptr [D.sl (.ints .i32 a0), D.sl (.ints .i64 a1)], D.int .i64 a2, D.int .i64 a3] k = MapFirst_L2 n a0 a1 a2 a3 (fun y0 => k (.exit 0) (mkSt MapFirst_S2e0 [D.int .i64 y0]))
  | 0, _, _, _, _ => rfl
  | n + 1, a0, a1, a2, a3 => by
    have h : (fun a0 a1 a2 a3 => aloop MapFirst_C (MapFirst_G R) (MapFirst_Lam0 R) MapFirst_S2 MapFirst_X2 MapFirst_body2 n [D.ptr [D.sl (.ints .i32 a0), D.sl (.ints .i64 a1)], D.int .i64 a2, D.int .i64 a3] k) = (fun a0 a1 a2 a3 => MapFirst_L2 n a0 a1 a2 a3 (fun y0 => k (.exit 0) (mkSt MapFirst_S2e0 [D.int .i64 y0]))) := by
      funext a0 a1 a2 a3; exact MapFirst_L2_eq k n a0 a1 a2 a3
    have s : aloop MapFirst_C (MapFirst_G R) (MapFirst_Lam0 R) MapFirst_S2 MapFirst_X2 MapFirst_body2 (n + 1) [D.ptr [D.sl (.ints .i32 a0), D.sl (.ints .i64 a1)], D.int .i64 a2, D.int .i64 a3] k = MapFirst_B2 (fun a0 a1 a2 a3 => aloop MapFirst_C (MapFirst_G R) (MapFirst_Lam0 R) MapFirst_S2 MapFirst_X2 MapFirst_body2 n [D.ptr [D.sl (.ints .i32 a0), D.sl (.ints .i64 a1)], D.int .i64 a2, D.int .i64 a3] k) a0 a1 a2 a3 (fun y0 => k (.exit 0) (mkSt MapFirst_S2e0 [D.int .i64 y0])) := by kernel_rfl
    rw [s, h]; rfl
noncomputable def MapFirst_A2 (R : Type) (ds : List D) (k : AExit → St → Option R) : Option R :=
  match ds with
  | [D.ptr [D.sl (.ints .i32 a0), D.sl (.ints .i64 a1)], D.int .i64 a2, D.int .i64 a3] => MapFirst_M2 a0 a1 a2 a3 (fun y0 => k (.exit 0) (mkSt MapFirst_S2e0 [D.int .i64 y0]))
  | _ => none
noncomputable def MapFirst_Lam1 (R : Type) : Lam R := fun key st k => bif Nat.beq key 2 then (match readSt MapFirst_S2 st with | some ds => MapFirst_A2 R ds k | none => none) else MapFirst_Lam0 R key st k
theorem MapFirst_A2_ok {R : Type} : ∀ ds k r, MapFirst_A2 R ds k = some r → ∃ e st', k e st' = some r ∧ QA.Reach MapFirst_C (.loop MapFirst_body2) (mkSt MapFirst_S2 ds) e st' := by
  intro ds k r h
  unfold MapFirst_A2 at h
  split at h
  · rw [MapFirst_M2_eq, ← MapFirst_L2_eq] at h
    refine aloop_ok (C := MapFirst_C) qOk (MapFirst_Gok R) ?_ _ _ _ _ h
    rw [show loopsIn MapFirst_body2 = [] from by kernel_rfl]
    intro b hb
    cases hb
  · cases h
noncomputable def MapFirst_T {R : Type} (l0 : List Int) (l1 : List Int) (x2 : Int) (k : Int → Option R) : Option R :=
  (bif (Decidable.decide ((0 : Int) ≤ x2) && Decidable.decide (x2 < (↑(List.length l1) : Int))) then
  MapFirst_M2 l0 l1 x2 (List.getD l1 (Int.toNat x2) (0 : Int))
   (fun x9 =>
   k x9)
 else
  none)
noncomputable def MapFirst_F {R : Type} : List Int → List Int → Int → (Int → Option R) → Option R := lock MapFirst_T
theorem MapFirst_F_T {R : Type} : @MapFirst_F R = MapFirst_T := lock_eq _
theorem MapFirst_F_eq {R : Type} (l0 : List Int) (l1 : List Int) (x2 : Int) (k : D → Option R) : afun qP [] (MapFirst_G R) (MapFirst_Lam1 R) Tryd.f83 [D.ptr [D.sl (.ints .i32 l0), D.sl (.ints .i64 l1)], D.int .i64 x2] k = MapFirst_T l0 l1 x2 (fun y0 => k (D.int .i64 y0)) := by kernel_rfl
noncomputable def MapFirst_abs (R : Type) (ds : List D) (k : D → Option R) : Option R :=
  match ds with
  | [D.ptr [D.sl (.ints .i32 l0), D.sl (.ints .i64 l1)], D.int .i64 x2] => MapFirst_F l0 l1 x2 (fun y0 => k (D.int .i64 y0))
  | _ => none
theorem MapFirst_ok : FnOk qP 83 MapFirst_abs := by
  intro R ds k r h
  unfold MapFirst_abs at h
  split at h
  · rw [MapFirst_F_T, ← MapFirst_F_eq] at h
    refine afun_ok (P := qP) (c := MapFirst_code) qOk (MapFirst_Gok R) Tryd.func83 (by kernel_rfl) (by kernel_rfl) ?_ ?_ (by kernel_rfl) h
    rotate_left
    · exact Nat.le_of_ble_eq_true (by kernel_rfl)
    rw [show loopsIn MapFirst_code = [MapFirst_body2] from by kernel_rfl]
    intro b hb
    simp only [List.mem_cons, List.not_mem_nil, or_false] at hb
    subst hb
    exact lam_of (key := 2) (S := MapFirst_S2) (L := MapFirst_A2 R) (fun st k => by kernel_rfl) (by kernel_rfl) MapFirst_A2_ok
  · cases h

/-! ### Ranges18: function 32 -/

noncomputable def Ranges18_C : Cfg := ⟨qP, Tryd.f32.ntmps, [21]⟩
noncomputable def Ranges18_code : Code := Tryd.f32.body.getD .skip
noncomputable def Ranges18_G (R : Type) : Orc R := fun f args k => bif Nat.beq f 29 then lawWithin_abs R args k else (fun f args k => bif Nat.beq f 36 then refBetween15_abs R args k else (fun _ _ _ => none) f args k) f args k
theorem Ranges18_Gok (R : Type) : OrcOk qP (Ranges18_G R) := (orc_cons lawWithin_ok (orc_cons refBetween15_ok orc_nil))
noncomputable def Ranges18_B3 {R : Type} (rec : List Int → List Rec → Int → Int → Int → Int → Int → Int → Int → Int → List Str → Option R) (l9 : List Int) (r10 : List Rec) (x11 : Int) (x12 : Int) (x13 : Int) (x14 : Int) (x15 : Int) (x16 : Int) (x17 : Int) (x18 : Int) (q19 : List Str) (ke0 : List Rec → Option R) : Option R :=
  (bif (Decidable.decide (x11 < (5 : Int))) then
  lawWithin_F (Go.IntKind.wrap Go.IntKind.i64 (x18 + Go.IntKind.wrap Go.IntKind.i64 ((7 : Int) * x11))) (Go.IntKind.wrap Go.IntKind.i64 ((↑(List.length l9) : Int) + (1 : Int))) (fun x20 =>
   lawWithin_F (Go.IntKind.wrap Go.IntKind.i64 (x17 + Go.IntKind.wrap Go.IntKind.i64 ((3 : Int) * x11))) (Go.IntKind.wrap Go.IntKind.i64 ((↑(List.length l9) : Int) + (1 : Int))) (fun x21 =>
    refBetween15_F l9 x20 x21 (Int.tmod x11 (3 : Int)) (fun x22 x23 b24 =>
     (bif (Decidable.decide (List.length (r10 ++ [{ i := [] ++ [x22] ++ [x23], b := [] ++ [b24], s := [] }, { i := [] ++ [Go.QA.mm Bool.false x20 x21] ++ [Go.QA.mm Bool.true x20 x21], b := [] ++ [Int.tmod x11 (2 : Int) == (0 : Int)], s := [] }]) * (24 : Nat) ≤ (140737488355328 : Nat)) && Decidable.decide (List.length (r10 ++ [{ i := [] ++ [x22] ++ [x23], b := [] ++ [b24], s := [] }, { i := [] ++ [Go.QA.mm Bool.false x20 x21] ++ [Go.QA.mm Bool.true x20 x21], b := [] ++ [Int.tmod x11 (2 : Int) == (0 : Int)], s := [] }]) ≤ (9223372036854775807 : Nat))) then
      rec l9 (r10 ++ [{ i := [] ++ [x22] ++ [x23], b := [] ++ [b24], s := [] }, { i := [] ++ [Go.QA.mm Bool.false x20 x21] ++ [Go.QA.mm Bool.true x20 x21], b := [] ++ [Int.tmod x11 (2 : Int) == (0 : Int)], s := [] }]) (Go.IntKind.wrap Go.IntKind.i64 (x11 + (1 : Int))) x12 x13 x14 x15 x16 x17 x18 q19
     else
      none))))
 else
  ke0 r10)
noncomputable def Ranges18_L3 {R : Type} : Nat → List Int → List Rec → Int → Int → Int → Int → Int → Int → Int → Int → List Str → (List Rec → Option R) → Option R
  | 0, _, _, _, _, _, _, _, _, _, _, _, _ => none
  | n + 1, l9, r10, x11, x12, x13, x14, x15, x16, x17, x18, q19, ke0 => Ranges18_B3 (fun l9 r10 x11 x12 x13 x14 x15 x16 x17 x18 q19 => Ranges18_L3 n l9 r10 x11 x12 x13 x14 x15 x16 x17 x18 q19 ke0) l9 r10 x11 x12 x13 x14 x15 x16 x17 x18 q19 ke0
noncomputable def Ranges18_M3 {R : Type} : List Int → List Rec → Int → Int → Int → Int → Int → Int → Int → Int → List Str → (List Rec → Option R) → Option R := lock (Ranges18_L3 4611686018427387904)
theorem Ranges18_M3_eq {R : Type} : @Ranges18_M3 R = Ranges18_L3 4611686018427387904 := lock_eq _
noncomputable def Ranges18_Lam0 (R : Type) : Lam R := fun _ _ _ => none
noncomputable def Ranges18_body3 : Code := (findLoop 3 Ranges18_code).getD .skip
def Ranges18_S3 : QA.Spec := (⟨[.t 1, .t 5, .t 6, .c 2 7, .c 2 6, .c 2 5, .c 2 4, .c 2 3, .c 2 2, .c 2 1, .c 2 0], [2], [], [(.t 2, 2, 0)], []⟩ : QA.Spec)
def Ranges18_S3e0 : QA.Spec := (⟨[.t 5], [], [], [], []⟩ : QA.Spec)
def Ranges18_X3 : AExit → Option QA.Spec
  | .normal => none
  | .exit j => bif Nat.beq j 0 then some Ranges18_S3e0 else none
  | .ret => none
theorem Ranges18_L3_eq {R : Type} (k : AExit → St → Option R) : ∀ (n : Nat) (a0 : List Int) (a1 : List Rec) (a2 : Int) (a3 : Int) (a4 : Int) (a5 : Int) (a6 : Int) (a7 : Int) (a8 : Int) (a9 : Int) (a10 : List Str), aloop Ranges18_C (Ranges18_G R) (Ranges18_Lam0 R) Ranges18_S3 Ranges18_X3 Ranges18_body3 n [D.sl (.ints .i32 a0), D.con (.recs [.int .i64, .int .i64, .bool] a1), D.int .i64 a2, D.int .i64 a3, D.int .i64 a4, D.int .i64 a5, D.int .i64 a6, D.int .i64 a7, D.int .i64 a8, D.int .i64 a9, D.sl (.strs a10)] k = Ranges18_L3 n a0 a1 a2 a3 a4 a5 a6 a7 a8 a9 a10 (fun y0 => k (.exit 0) (mkSt Ranges18_S3e0 [D.con (.recs [.int .i64, .int .i64, .bool] y0)]))
  | 0, _, _, _, _, _, _, _, _, _, _, _ => rfl
  | n + 1, a0, a1, a2, a3, a4, a5, a6, a7, a8, a9, a10 => by
    have h : (fun a0 a1 a2 a3 a4 a5 a6 a7 a8 a9 a10 => aloop Ranges18_C (Ranges18_G R) (Ranges18_Lam0 R) Ranges18_S3 Ranges18_X3 Ranges18_body3 n [D.sl (.ints .i32 a0), D.con (.recs [.int .i64, .int .i64, .bool] a1), D.int .i64 a2, D.int .i64 a3, D.int .i64 a4, D.int .i64 a5, D.int .i64 a6, D.int .i64 a7, D.int .i64 a8, D.int .i64 a9, D.sl (.strs a10)] k) = (fun a0 a1 a2 a3 a4 a5 a6 a7 a8 a9 a10 => Ranges18_L3 n a0 a1 a2 a3 a4 a5 a6 a7 a8 a9 a10 (fun y0 => k (.exit 0) (mkSt Ranges18_S3e0 [D.con (.recs [.int .i64, .int .i64, .bool] y0)]))) := by
      funext a0 a1 a2 a3 a4 a5 a6 a7 a8 a9 a10; exact Ranges18_L3_eq k n a0 a1 a2 a3 a4 a5 a6 a7 a8 a9 a10
    have s : aloop Ranges18_C (Ranges18_G R) (Ranges18_Lam0 R) Ranges18_S3 Ranges18_X3 Ranges18_body3 (n + 1) [D.sl (.ints .i32 a0), D.con (.recs [.int .i64, .int .i64, .bool] a1), D.int .i64 a2, D.int .i64 a3, D.int .i64 a4, D.int .i64 a5, D.int .i64 a6, D.int .i64 a7, D.int .i64 a8, D.int .i64 a9, D.sl (.strs a10)] k = Ranges18_B3 (fun a0 a1 a2 a3 a4 a5 a6 a7 a8 a9 a10 => aloop Ranges18_C (Ranges18_G R) (Ranges18_Lam0 R) Ranges18_S3 Ranges18_X3 Ranges18_body3 n [D.sl (.ints .i32 a0), D.con (.recs [.int .i64, .int .i64, .bool] a1), D.int .i64 a2, D.int .i64 a3, D.int .i64 a4, D.int .i64 a5, D.int .i64 a6, D.int .i64 a7, D.int .i64 a8, D.int .i64 a9, D.sl (.strs a10)] k) a0 a1 a2 a3 a4 a5 a6 a7 a8 a9 a10 (fun y0 => k (.exit 0) (mkSt Ranges18_S3e0 [D.con (.recs [.int .i64, .int .i64, .bool] y0)])) := by kernel_rfl
    rw [s, h]; rfl
noncomputable def Ranges18_A3 (R : Type) (ds : List D) (k : AExit → St → Option R) : Option R :=
  match ds with
  | [D.sl (.ints .i32 a0), D.con (.recs [.int .i64, .int .i64, .bool] a1), D.int .i64 a2, D.int .i64 a3, D.int .i64 a4, D.int .i64 a5, D.int .i64 a6, D.int .i64 a7, D.int .i64 a8, D.int .i64 a9, D.sl (.strs a10)] => Ranges18_M3 a0 a1 a2 a3 a4 a5 a6 a7 a8 a9 a10 (fun y0 => k (.exit 0) (mkSt Ranges18_S3e0 [D.con (.recs [.int .i64, .int .i64, .bool] y0)]))
  | _ => none
noncomputable def Ranges18_Lam1 (R : Type) : Lam R := fun key st k => bif Nat.beq key 3 then (match readSt Ranges18_S3 st with | some ds => Ranges18_A3 R ds k | none => none) else Ranges18_Lam0 R key st k
theorem Ranges18_A3_ok {R : Type} : ∀ ds k r, Ranges18_A3 R ds k = some r → ∃ e st', k e st' = some r ∧ QA.Reach Ranges18_C (.loop Ranges18_body3) (mkSt Ranges18_S3 ds) e st' := by
  intro ds k r h
  unfold Ranges18_A3 at h
  split at h
  · rw [Ranges18_M3_eq, ← Ranges18_L3_eq] at h
    refine aloop_ok (C := Ranges18_C) qOk (Ranges18_Gok R) ?_ _ _ _ _ h
    rw [show loopsIn Ranges18_body3 = [] from by kernel_rfl]
    intro b hb
    cases hb
  · cases h
noncomputable def Ranges18_T {R : Type} (q0 : List Str) (x1 : Int) (x2 : Int) (x3 : Int) (x4 : Int) (x5 : Int) (x6 : Int) (x7 : Int) (l8 : List Int) (k : List Rec → Option R) : Option R :=
  Ranges18_M3 l8 ([{ i := [] ++ [(-1 : Int)] ++ [(0 : Int)], b := [] ++ [Bool.false], s := [] }, { i := [] ++ [(0 : Int)] ++ [Go.IntKind.wrap Go.IntKind.i64 ((↑(List.length l8) : Int) + (1 : Int))], b := [] ++ [Bool.false], s := [] }, { i := [] ++ [(2 : Int)] ++ [(1 : Int)], b := [] ++ [Bool.false], s := [] }, { i := [] ++ [(0 : Int)] ++ [(↑(List.length l8) : Int)], b := [] ++ [Bool.false], s := [] }, { i := [] ++ [(0 : Int)] ++ [(↑(List.length l8) : Int)], b := [] ++ [Bool.true], s := [] }]) ((0 : Int)) x7 x6 x5 x4 x3 x2 x1 q0
  (fun r25 =>
  k r25)
noncomputable def Ranges18_F {R : Type} : List Str → Int → Int → Int → Int → Int → Int → Int → List Int → (List Rec → Option R) → Option R := lock Ranges18_T
theorem Ranges18_F_T {R : Type} : @Ranges18_F R = Ranges18_T := lock_eq _
theorem Ranges18_F_eq {R : Type} (q0 : List Str) (x1 : Int) (x2 : Int) (x3 : Int) (x4 : Int) (x5 : Int) (x6 : Int) (x7 : Int) (l8 : List Int) (k : D → Option R) : afun qP [21] (Ranges18_G R) (Ranges18_Lam1 R) Tryd.f32 [D.agg [D.sl (.strs q0), D.int .i64 x1, D.int .i64 x2, D.int .i64 x3, D.int .i64 x4, D.int .i64 x5, D.int .i64 x6, D.int .i64 x7], D.sl (.ints .i32 l8)] k = Ranges18_T q0 x1 x2 x3 x4 x5 x6 x7 l8 (fun y0 => k (D.sl (.recs [.int .i64, .int .i64, .bool] y0))) := by kernel_rfl
noncomputable def Ranges18_abs (R : Type) (ds : List D) (k : D → Option R) : Option R :=
  match ds with
  | [D.agg [D.sl (.strs q0), D.int .i64 x1, D.int .i64 x2, D.int .i64 x3, D.int .i64 x4, D.int .i64 x5, D.int .i64 x6, D.int .i64 x7], D.sl (.ints .i32 l8)] => Ranges18_F q0 x1 x2 x3 x4 x5 x6 x7 l8 (fun y0 => k (D.sl (.recs [.int .i64, .int .i64, .bool] y0)))
  | _ => none
theorem Ranges18_ok : FnOk qP 32 Ranges18_abs := by
  intro R ds k r h
  unfold Ranges18_abs at h
  split at h
  · rw [Ranges18_F_T, ← Ranges18_F_eq] at h
    refine afun_ok (P := qP) (c := Ranges18_code) qOk (Ranges18_Gok R) Tryd.func32 (by kernel_rfl) (by kernel_rfl) ?_ ?_ (by kernel_rfl) h
    rotate_left
    · exact Nat.le_of_ble_eq_true (by kernel_rfl)
    rw [show loopsIn Ranges18_code = [Ranges18_body3] from by kernel_rfl]
    intro b hb
    simp only [List.mem_cons, List.not_mem_nil, or_false] at hb
    subst hb
    exact lam_of (key := 3) (S := Ranges18_S3) (L := Ranges18_A3 R) (fun st k => by kernel_rfl) (by kernel_rfl) Ranges18_A3_ok
  · cases h

/-! ### changeMade: function 65 -/

noncomputable def changeMade_C : Cfg := ⟨qP, Tryd.f65.ntmps, []⟩
noncomputable def changeMade_code : Code := Tryd.f65.body.getD .skip
noncomputable def changeMade_G (R : Type) : Orc R := fun f args k => bif Nat.beq f 51 then textMay_abs R args k else (fun f args k => bif Nat.beq f 93 then patchOf_abs R args k else (fun _ _ _ => none) f args k) f args k
theorem changeMade_Gok (R : Type) : OrcOk qP (changeMade_G R) := (orc_cons textMay_ok (orc_cons patchOf_ok orc_nil))
noncomputable def changeMade_Lam0 (R : Type) : Lam R := fun _ _ _ => none
noncomputable def changeMade_T {R : Type} (s0 : Str) (s1 : Str) (x2 : Int) (k : Int → Int → Str → Int → Str → Bool → Int → Option R) : Option R :=
  textMay_F s1 (fun b3 =>
  (bif !b3 then
   k ((0 : Int)) ((0 : Int)) [] ((0 : Int)) [] Bool.false ((4 : Int))
  else
   patchOf_F s0 s1 (fun x4 x5 s6 =>
    k x4 x5 s6 x2 [] Bool.false ((0 : Int)))))
noncomputable def changeMade_F {R : Type} : Str → Str → Int → (Int → Int → Str → Int → Str → Bool → Int → Option R) → Option R := lock changeMade_T
theorem changeMade_F_T {R : Type} : @changeMade_F R = changeMade_T := lock_eq _
theorem changeMade_F_eq {R : Type} (s0 : Str) (s1 : Str) (x2 : Int) (k : D → Option R) : afun qP [] (changeMade_G R) (changeMade_Lam0 R) Tryd.f65 [D.str s0, D.str s1, D.int .i64 x2] k = changeMade_T s0 s1 x2 (fun y0 y1 y2 y3 y4 y5 y6 => k (D.tup [D.agg [D.int .i64 y0, D.int .i64 y1, D.str y2, D.int .i64 y3, D.str y4, D.bool y5], D.int .i64 y6])) := by kernel_rfl
noncomputable def changeMade_abs (R : Type) (ds : List D) (k : D → Option R) : Option R :=
  match ds with
  | [D.str s0, D.str s1, D.int .i64 x2] => changeMade_F s0 s1 x2 (fun y0 y1 y2 y3 y4 y5 y6 => k (D.tup [D.agg [D.int .i64 y0, D.int .i64 y1, D.str y2, D.int .i64 y3, D.str y4, D.bool y5], D.int .i64 y6]))
  | _ => none
theorem changeMade_ok : FnOk qP 65 changeMade_abs := by
  intro R ds k r h
  unfold changeMade_abs at h
  split at h
  · rw [changeMade_F_T, ← changeMade_F_eq] at h
    refine afun_ok (P := qP) (c := changeMade_code) qOk (changeMade_Gok R) Tryd.func65 (by kernel_rfl) (by kernel_rfl) ?_ ?_ (by kernel_rfl) h
    rotate_left
    · exact Nat.le_of_ble_eq_true (by kernel_rfl)
    rw [show loopsIn changeMade_code = [] from by kernel_rfl]
    intro b hb
    cases hb
  · cases h

/-! ### changeStands: function 63 -/

noncomputable def changeStands_C : Cfg := ⟨qP, Tryd.f63.ntmps, []⟩
noncomputable def changeStands_code : Code := Tryd.f63.body.getD .skip
noncomputable def changeStands_G (R : Type) : Orc R := fun f args k => bif Nat.beq f 82 then MapRest_abs R args k else (fun f args k => bif Nat.beq f 71 then MapRow_abs R args k else (fun f args k => bif Nat.beq f 90 then MapCol_abs R args k else (fun _ _ _ => none) f args k) f args k) f args k
theorem changeStands_Gok (R : Type) : OrcOk qP (changeStands_G R) := (orc_cons MapRest_ok (orc_cons MapRow_ok (orc_cons MapCol_ok orc_nil)))
noncomputable def changeStands_Lam0 (R : Type) : Lam R := fun _ _ _ => none
noncomputable def changeStands_T {R : Type} (l0 : List Int) (l1 : List Int) (x2 : Int) (x3 : Int) (b4 : Bool) (x5 : Int) (k : Int → Option R) : Option R :=
  (bif !b4 then
  MapRest_F l0 l1 x2 (fun x6 =>
   k x6)
 else
  MapRow_F l0 l1 x2 (fun x7 =>
   MapRow_F l0 l1 x5 (fun x8 =>
    (bif (Decidable.decide ((0 : Int) ≤ x8) && Decidable.decide (x8 < (↑(List.length l1) : Int))) then
     MapCol_F l0 l1 x7 (Go.IntKind.wrap Go.IntKind.i64 (x5 - List.getD l1 (Int.toNat x8) (0 : Int))) (fun x9 =>
      MapRest_F l0 l1 x9 (fun x10 =>
       k x10))
    else
     none))))
noncomputable def changeStands_F {R : Type} : List Int → List Int → Int → Int → Bool → Int → (Int → Option R) → Option R := lock changeStands_T
theorem changeStands_F_T {R : Type} : @changeStands_F R = changeStands_T := lock_eq _
theorem changeStands_F_eq {R : Type} (l0 : List Int) (l1 : List Int) (x2 : Int) (x3 : Int) (b4 : Bool) (x5 : Int) (k : D → Option R) : afun qP [] (changeStands_G R) (changeStands_Lam0 R) Tryd.f63 [D.ptr [D.sl (.ints .i32 l0), D.sl (.ints .i64 l1)], D.agg [D.int .i64 x2, D.int .i64 x3, D.bool b4], D.int .i64 x5] k = changeStands_T l0 l1 x2 x3 b4 x5 (fun y0 => k (D.int .i64 y0)) := by kernel_rfl
noncomputable def changeStands_abs (R : Type) (ds : List D) (k : D → Option R) : Option R :=
  match ds with
  | [D.ptr [D.sl (.ints .i32 l0), D.sl (.ints .i64 l1)], D.agg [D.int .i64 x2, D.int .i64 x3, D.bool b4], D.int .i64 x5] => changeStands_F l0 l1 x2 x3 b4 x5 (fun y0 => k (D.int .i64 y0))
  | _ => none
theorem changeStands_ok : FnOk qP 63 changeStands_abs := by
  intro R ds k r h
  unfold changeStands_abs at h
  split at h
  · rw [changeStands_F_T, ← changeStands_F_eq] at h
    refine afun_ok (P := qP) (c := changeStands_code) qOk (changeStands_Gok R) Tryd.func63 (by kernel_rfl) (by kernel_rfl) ?_ ?_ (by kernel_rfl) h
    rotate_left
    · exact Nat.le_of_ble_eq_true (by kernel_rfl)
    rw [show loopsIn changeStands_code = [] from by kernel_rfl]
    intro b hb
    cases hb
  · cases h

/-! ### lawHeavy10: function 21 -/

noncomputable def lawHeavy10_C : Cfg := ⟨qP, Tryd.f21.ntmps, []⟩
noncomputable def lawHeavy10_code : Code := Tryd.f21.body.getD .skip
noncomputable def lawHeavy10_G (R : Type) : Orc R := fun f args k => bif Nat.beq f 44 then lawHeavy1_abs R args k else (fun _ _ _ => none) f args k
theorem lawHeavy10_Gok (R : Type) : OrcOk qP (lawHeavy10_G R) := (orc_cons lawHeavy1_ok orc_nil)
noncomputable def lawHeavy10_Lam0 (R : Type) : Lam R := fun _ _ _ => none
noncomputable def lawHeavy10_T {R : Type} (q0 : List Str) (x1 : Int) (x2 : Int) (x3 : Int) (x4 : Int) (x5 : Int) (x6 : Int) (x7 : Int) (k : Bool → Option R) : Option R :=
  lawHeavy1_F q0 x1 x2 x3 x4 (fun b8 =>
  k b8)
noncomputable def lawHeavy10_F {R : Type} : List Str → Int → Int → Int → Int → Int → Int → Int → (Bool → Option R) → Option R := lock lawHeavy10_T
theorem lawHeavy10_F_T {R : Type} : @lawHeavy10_F R = lawHeavy10_T := lock_eq _
theorem lawHeavy10_F_eq {R : Type} (q0 : List Str) (x1 : Int) (x2 : Int) (x3 : Int) (x4 : Int) (x5 : Int) (x6 : Int) (x7 : Int) (k : D → Option R) : afun qP [] (lawHeavy10_G R) (lawHeavy10_Lam0 R) Tryd.f21 [D.agg [D.sl (.strs q0), D.int .i64 x1, D.int .i64 x2, D.int .i64 x3, D.int .i64 x4, D.int .i64 x5, D.int .i64 x6, D.int .i64 x7]] k = lawHeavy10_T q0 x1 x2 x3 x4 x5 x6 x7 (fun y0 => k (D.bool y0)) := by kernel_rfl
noncomputable def lawHeavy10_abs (R : Type) (ds : List D) (k : D → Option R) : Option R :=
  match ds with
  | [D.agg [D.sl (.strs q0), D.int .i64 x1, D.int .i64 x2, D.int .i64 x3, D.int .i64 x4, D.int .i64 x5, D.int .i64 x6, D.int .i64 x7]] => lawHeavy10_F q0 x1 x2 x3 x4 x5 x6 x7 (fun y0 => k (D.bool y0))
  | _ => none
theorem lawHeavy10_ok : FnOk qP 21 lawHeavy10_abs := by
  intro R ds k r h
  unfold lawHeavy10_abs at h
  split at h
  · rw [lawHeavy10_F_T, ← lawHeavy10_F_eq] at h
    refine afun_ok (P := qP) (c := lawHeavy10_code) qOk (lawHeavy10_Gok R) Tryd.func21 (by kernel_rfl) (by kernel_rfl) ?_ ?_ (by kernel_rfl) h
    rotate_left
    · exact Nat.le_of_ble_eq_true (by kernel_rfl)
    rw [show loopsIn lawHeavy10_code = [] from by kernel_rfl]
    intro b hb
    cases hb
  · cases h

/-! ### refColumn: function 87 -/

noncomputable def refColumn_C : Cfg := ⟨qP, Tryd.f87.ntmps, []⟩
noncomputable def refColumn_code : Code := Tryd.f87.body.getD .skip
noncomputable def refColumn_G (R : Type) : Orc R := fun f args k => bif Nat.beq f 37 then refEnd_abs R args k else (fun f args k => bif Nat.beq f 46 then refBegin_abs R args k else (fun f args k => bif Nat.beq f 47 then refRest_abs R args k else (fun _ _ _ => none) f args k) f args k) f args k
theorem refColumn_Gok (R : Type) : OrcOk qP (refColumn_G R) := (orc_cons refEnd_ok (orc_cons refBegin_ok (orc_cons refRest_ok orc_nil)))
noncomputable def refColumn_Lam0 (R : Type) : Lam R := fun _ _ _ => none
noncomputable def refColumn_T {R : Type} (l0 : List Int) (x1 : Int) (x2 : Int) (k : Int → Option R) : Option R :=
  refEnd_F l0 x1 (fun x3 =>
  refBegin_F l0 x2 (fun x4 =>
   refRest_F l0 (Go.QA.mm Bool.false x3 (Go.IntKind.wrap Go.IntKind.i64 (Go.IntKind.wrap Go.IntKind.i64 (x1 + x2) - x4))) (fun x5 =>
    k x5)))
noncomputable def refColumn_F {R : Type} : List Int → Int → Int → (Int → Option R) → Option R := lock refColumn_T
theorem refColumn_F_T {R : Type} : @refColumn_F R = refColumn_T := lock_eq _
theorem refColumn_F_eq {R : Type} (l0 : List Int) (x1 : Int) (x2 : Int) (k : D → Option R) : afun qP [] (refColumn_G R) (refColumn_Lam0 R) Tryd.f87 [D.sl (.ints .i32 l0), D.int .i64 x1, D.int .i64 x2] k = refColumn_T l0 x1 x2 (fun y0 => k (D.int .i64 y0)) := by kernel_rfl
noncomputable def refColumn_abs (R : Type) (ds : List D) (k : D → Option R) : Option R :=
  match ds with
  | [D.sl (.ints .i32 l0), D.int .i64 x1, D.int .i64 x2] => refColumn_F l0 x1 x2 (fun y0 => k (D.int .i64 y0))
  | _ => none
theorem refColumn_ok : FnOk qP 87 refColumn_abs := by
  intro R ds k r h
  unfold refColumn_abs at h
  split at h
  · rw [refColumn_F_T, ← refColumn_F_eq] at h
    refine afun_ok (P := qP) (c := refColumn_code) qOk (refColumn_Gok R) Tryd.func87 (by kernel_rfl) (by kernel_rfl) ?_ ?_ (by kernel_rfl) h
    rotate_left
    · exact Nat.le_of_ble_eq_true (by kernel_rfl)
    rw [show loopsIn refColumn_code = [] from by kernel_rfl]
    intro b hb
    cases hb
  · cases h

end Go.Proofs.YtleoffdjdgbanaaDoor
