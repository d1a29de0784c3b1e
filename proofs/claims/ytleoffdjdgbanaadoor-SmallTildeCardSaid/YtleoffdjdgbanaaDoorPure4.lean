/- Plain laws: the laws of small changes say true; no program in sight but the printed functions. -/
import Derived.Test.YtleoffdjdgbanaaDoorPure3
import Derived.Test.YtleoffdjdgbanaaDoorPure2
set_option linter.unusedVariables false
set_option linter.unusedSimpArgs false
set_option linter.unusedVariables false
set_option linter.unusedSimpArgs false
set_option maxRecDepth 100000
namespace Go.Proofs.YtleoffdjdgbanaaDoor
open Go Go.QA Go.Proofs

theorem lawOffsets_L {R : Type} (l : List Int) (hl : l.length < 1000000000) (x12 x13 x14 x15 x16 x17 x18 : Int) (q : List Str) (ke0 : List Int → Option R) : ∀ (n i : Nat) (r : List Int), i ≤ 12 → 12 < n + i → r.length ≤ 3 + i →
    ∃ rs : List Int, lawOffsets_L3 n l r (i : Int) x12 x13 x14 x15 x16 x17 x18 q ke0 = ke0 rs ∧ rs.length ≤ 15 := by
  intro n
  induction n with
  | zero => intro i r h0; omega
  | succ n ih =>
    intro i r h1 h2 h3
    simp only [lawOffsets_L3, lawOffsets_B3]
    by_cases h : i ≤ l.length
    · rw [decide_eq_true (by omega : (i : Int) ≤ (l.length : Int)), cond_true]
      by_cases h4 : i < 12
      · rw [decide_eq_true (by omega : (i : Int) < 12), cond_true, lawWithin_eq _ _ (by omega)]
        rw [decide_eq_true (by simp only [List.length_append, List.length_cons, List.length_nil]; omega), decide_eq_true (by simp only [List.length_append, List.length_cons, List.length_nil]; omega)]
        simp only [Bool.and_true, cond_true]
        rw [wrap64 (x := (i : Int) + 1) (by omega) (by omega)]
        exact ih (i + 1) _ (by omega) (by omega) (by simp only [List.length_append, List.length_cons, List.length_nil]; omega)
      · rw [decide_eq_false (by omega : ¬ (i : Int) < 12)]
        exact ⟨r, rfl, by omega⟩
    · rw [decide_eq_false (by omega : ¬ (i : Int) ≤ (l.length : Int))]
      exact ⟨r, rfl, by omega⟩

theorem lawOffsets_tells {R : Type} (q : List Str) (x1 x2 x3 x4 x5 x6 x7 : Int) (l : List Int) (hl : l.length < 1000000000) (k : List Int → Option R) : ∃ rs : List Int, lawOffsets_F q x1 x2 x3 x4 x5 x6 x7 l k = k rs ∧ rs.length ≤ 15 := by
  rw [lawOffsets_F_T]; unfold lawOffsets_T
  rw [lawOffsets_M3_eq]
  exact lawOffsets_L l hl _ _ _ _ _ _ _ _ _ 4611686018427387904 0 _ (by omega) (by omega) (by simp)

theorem smalls20_step {R : Type} (rec : List Int → Int → Str → List Int → List Int → Int → Int → List Int → Int → Int → Int → Int → Int → Int → Int → Int → List Str → Option R)
    (l50 : List Int) (x51 : Int) (s : Str) (hs : s.length ≤ 1000000) (l54 : List Int) (j kk : Nat) (hj : j < l54.length) (hjb : j < 1000000) (hk : kk < l50.length) (hA : AgreeSmall (l50.getD kk 0)) (l57 : List Int) (h57 : l57.length = 3) (i : Nat) (hi : i < 3)
    (x59 x60 x61 x62 x63 x64 x65 : Int) (q66 : List Str) (ke0 : Bool → Option R) (ke1 : List Int → Int → Str → List Int → List Int → Int → Int → Int → Int → Int → Int → Int → Int → Int → List Str → Option R) :
    smalls20_B17 rec l50 x51 s (runesOf s) l54 (j : Int) (kk : Int) l57 (i : Int) x59 x60 x61 x62 x63 x64 x65 q66 ke0 ke1 =
      rec l50 x51 s (runesOf s) l54 (j : Int) (kk : Int) l57 ((i + 1 : Nat) : Int) x59 x60 x61 x62 x63 x64 x65 q66 := by
  have hle := runesOf_length_le s
  have hmod : Int.tmod (IntKind.wrap .i64 ((j : Int) + (i : Int))) 4 = (((j + i) % 4 : Nat) : Int) := by
    rw [wrap64 (by omega) (by omega), Int.tmod_eq_emod_of_nonneg (by omega)]; omega
  unfold smalls20_B17
  simp only [num20_eq, Int.toNat_natCast, hmod]
  rw [decide_eq_true (by omega : (i : Int) < 3), decide_eq_true (by omega : (0 : Int) ≤ (((j + i) % 4 : Nat) : Int)), decide_eq_true (by simp only [List.length_cons, List.length_nil]; omega : (((j + i) % 4 : Nat) : Int) < (([(122 : Int), x59, (8364 : Int), (10 : Int)].length : Nat) : Int)),
    decide_eq_true (by omega : (0 : Int) ≤ (j : Int)), decide_eq_true (by omega : (j : Int) < (l54.length : Int)), decide_eq_true (by omega : (0 : Int) ≤ (kk : Int)), decide_eq_true (by omega : (kk : Int) < (l50.length : Int)),
    decide_eq_true (by omega : (0 : Int) ≤ (i : Int)), decide_eq_true (by omega : (i : Int) < (l57.length : Int)), wrap64 (x := (i : Int) + 1) (by omega) (by omega), show ((i : Int) + 1) = ((i + 1 : Nat) : Int) from by omega]
  simp only [Bool.and_true, cond_true]
  generalize [(122 : Int), x59, (8364 : Int), (10 : Int)].getD ((j + i) % 4) 0 = r
  generalize l54.getD j 0 = at'
  generalize l57.getD i 0 = count
  generalize l50.getD kk 0 = key at hA
  by_cases hall : mayOf s = true ∧ smallB (runesOf s) at' key r count = true
  · obtain ⟨h1, h2⟩ := hall
    obtain ⟨c, hc1, hc2⟩ := hA s at' r count h1 h2
    rw [hc2]
    unfold Chg.ap
    dsimp only
    rw [refMay1_eq, h1, cond_true, MaySmall_eq, h2, cond_true, hc1]
    unfold Chg.ap
    dsimp only
    unfold fixC
    by_cases he : c.err = 0
    · simp [he]
    · have h5 : (c.err == 0) = false := by simpa using he
      have h6 : (c.err != 0) = true := by simpa using he
      rw [h5, h6]
      simp
  · rw [smallOf_form s at' key r count hall]
    unfold Chg.ap formC
    dsimp only
    rw [refMay1_eq]
    cases h1 : mayOf s with
    | false => simp
    | true =>
      rw [cond_true, MaySmall_eq]
      cases h2 : smallB (runesOf s) at' key r count with
      | false => simp
      | true => exact absurd ⟨h1, h2⟩ hall

theorem smalls20_17 {R : Type} (l50 : List Int) (x51 : Int) (s : Str) (hs : s.length ≤ 1000000) (l54 : List Int) (j kk : Nat) (hj : j < l54.length) (hjb : j < 1000000) (hk : kk < l50.length) (hA : AgreeSmall (l50.getD kk 0)) (l57 : List Int) (h57 : l57.length = 3)
    (x59 x60 x61 x62 x63 x64 x65 : Int) (q66 : List Str) (ke0 : Bool → Option R) (ke1 : List Int → Int → Str → List Int → List Int → Int → Int → Int → Int → Int → Int → Int → Int → Int → List Str → Option R) : ∀ (n i : Nat), i ≤ 3 → 3 < n + i →
    smalls20_L17 n l50 x51 s (runesOf s) l54 (j : Int) (kk : Int) l57 (i : Int) x59 x60 x61 x62 x63 x64 x65 q66 ke0 ke1 = ke1 l50 x51 s (runesOf s) l54 (j : Int) (kk : Int) x59 x60 x61 x62 x63 x64 x65 q66 := by
  intro n
  induction n with
  | zero => intro i h0; omega
  | succ n ih =>
    intro i h1 h2
    simp only [smalls20_L17]
    by_cases h : i < 3
    · rw [smalls20_step _ l50 x51 s hs l54 j kk hj hjb hk hA l57 h57 i h]
      exact ih (i + 1) (by omega) (by omega)
    · unfold smalls20_B17
      rw [decide_eq_false (by omega : ¬ (i : Int) < 3)]; rfl

theorem smalls20_13 {R : Type} (l35 : List Int) (h35 : l35.length ≤ 100) (hA : ∀ kk, kk < l35.length → AgreeSmall (l35.getD kk 0)) (x36 : Int) (s : Str) (hs : s.length ≤ 1000000) (l39 : List Int) (j : Nat) (hj : j < l39.length) (hjb : j < 1000000)
    (x42 x43 x44 x45 x46 x47 x48 : Int) (q49 : List Str) (ke0 : Bool → Option R) (ke1 : List Int → Int → Str → List Int → List Int → Int → Int → Int → Int → Int → Int → Int → Int → List Str → Option R) : ∀ (n kk : Nat), kk ≤ l35.length → l35.length < n + kk →
    smalls20_L13 n l35 x36 s (runesOf s) l39 (j : Int) (kk : Int) x42 x43 x44 x45 x46 x47 x48 q49 ke0 ke1 = ke1 l35 x36 s (runesOf s) l39 (j : Int) x42 x43 x44 x45 x46 x47 x48 q49 := by
  intro n
  induction n with
  | zero => intro i h0; omega
  | succ n ih =>
    intro kk h1 h2
    simp only [smalls20_L13, smalls20_B13]
    by_cases h : kk < l35.length
    · rw [decide_eq_true (by omega : (kk : Int) < (l35.length : Int)), cond_true, smalls20_M17_eq]
      refine (smalls20_17 l35 x36 s hs l39 j kk hj hjb h (hA kk h) _ rfl _ _ _ _ _ _ _ _ _ _ 4611686018427387904 0 (by omega) (by omega)).trans ?_
      rw [wrap64 (by omega) (by omega)]
      exact ih (kk + 1) (by omega) (by omega)
    · rw [decide_eq_false (by omega : ¬ (kk : Int) < (l35.length : Int))]; rfl

theorem smalls20_10 {R : Type} (l21 : List Int) (h21 : l21.length ≤ 100) (hA : ∀ kk, kk < l21.length → AgreeSmall (l21.getD kk 0)) (x22 : Int) (s : Str) (hs : s.length ≤ 1000000) (l25 : List Int) (hr : l25.length ≤ 15)
    (x27 x28 x29 x30 x31 x32 x33 : Int) (q34 : List Str) (ke0 : Bool → Option R) (ke1 : List Int → Int → Int → Int → Int → Int → Int → Int → Int → List Str → Option R) : ∀ (n j : Nat), j ≤ l25.length → l25.length < n + j →
    smalls20_L10 n l21 x22 s (runesOf s) l25 (j : Int) x27 x28 x29 x30 x31 x32 x33 q34 ke0 ke1 = ke1 l21 x22 x27 x28 x29 x30 x31 x32 x33 q34 := by
  intro n
  induction n with
  | zero => intro i h0; omega
  | succ n ih =>
    intro j h1 h2
    simp only [smalls20_L10, smalls20_B10]
    by_cases h : j < l25.length
    · rw [decide_eq_true (by omega : (j : Int) < (l25.length : Int)), cond_true, smalls20_M13_eq]
      refine (smalls20_13 l21 h21 hA x22 s hs l25 j h (by omega) _ _ _ _ _ _ _ _ _ _ 4611686018427387904 0 (by omega) (by omega)).trans ?_
      rw [wrap64 (by omega) (by omega)]
      exact ih (j + 1) (by omega) (by omega)
    · rw [decide_eq_false (by omega : ¬ (j : Int) < (l25.length : Int))]; rfl

theorem smalls20_4 {R : Type} (l10 : List Int) (h10 : l10.length ≤ 100) (hA : ∀ kk, kk < l10.length → AgreeSmall (l10.getD kk 0)) (x12 x13 x14 x15 x16 x17 x18 : Int) (q : List Str) (hq : q.length ≤ 6000) (hq2 : ∀ s ∈ q, s.length ≤ 6000) (ke0 : Bool → Option R) (ke1 : Option R) :
    ∀ (n i : Nat), i ≤ 3 → 3 < n + i → smalls20_L4 n l10 (i : Int) x12 x13 x14 x15 x16 x17 x18 q ke0 ke1 = ke1 := by
  intro n
  induction n with
  | zero => intro i h0; omega
  | succ n ih =>
    intro i h1 h2
    simp only [smalls20_L4, smalls20_B4]
    by_cases h : i < q.length
    · rw [decide_eq_true (by omega : (i : Int) < (q.length : Int)), cond_true]
      by_cases h3 : i < 3
      · rw [decide_eq_true (by omega : (i : Int) < 3), decide_eq_true (by omega : (0 : Int) ≤ (i : Int))]
        simp only [Bool.and_true, cond_true, Int.toNat_natCast]
        have hs := hq2 _ (getD_mem h)
        have hle := runesOf_length_le (q.getD i [])
        obtain ⟨rs, hrs, hl⟩ := lawOffsets_tells q x18 x17 x16 x15 x14 x13 x12 (runesOf (q.getD i [])) (by omega) (fun l20 => smalls20_M10 l10 (i : Int) (q.getD i []) (runesOf (q.getD i [])) l20 ((0 : Int)) x12 x13 x14 x15 x16 x17 x18 q
          (fun b118 => ke0 b118) (fun l119 x120 x121 x122 x123 x124 x125 x126 x127 q128 => smalls20_L4 n l119 (IntKind.wrap .i64 (x120 + (1 : Int))) x121 x122 x123 x124 x125 x126 x127 q128 ke0 ke1))
        refine hrs.trans ?_
        rw [smalls20_M10_eq]
        refine (smalls20_10 l10 h10 hA (i : Int) _ (by omega) rs hl _ _ _ _ _ _ _ _ _ _ 4611686018427387904 0 (by omega) (by omega)).trans ?_
        rw [wrap64 (by omega) (by omega)]
        exact ih (i + 1) (by omega) (by omega)
      · rw [decide_eq_false (by omega : ¬ (i : Int) < 3)]; rfl
    · rw [decide_eq_false (by omega : ¬ (i : Int) < (q.length : Int))]; rfl

theorem wakes20_eq {R : Type} (k : Bool → Option R) : wakes20_F k = k true := by
  rw [wakes20_F_T]; unfold wakes20_T
  have h := smallOf_head (R := R) [97, 98] (by kernel_rfl) 0 120 0 1 (by kernel_rfl)
  rw [show (((0 : Nat) : Int)) = (0 : Int) from rfl, show (((1 : Nat) : Int)) = (1 : Int) from rfl] at h
  rw [h, show ((120 : Int) == 120) = true from rfl, cond_true]
  have hm : min (0 + 1) (endOf (runesOf [97, 98]) 0) = 1 := by kernel_rfl
  have hl : (runesOf [97, 98]).length = 2 := by kernel_rfl
  have h2 := smallCut_eq (R := R) [97, 98] (by simp) (runesOf [97, 98]) (by rw [hl]; omega) (runesOf_scal _) 0 1 (by omega) (by rw [hl]; omega)
  rw [show (((0 : Nat) : Int)) = (0 : Int) from rfl] at h2
  rw [hm, h2]
  unfold Chg.ap
  simp only [num20_eq]
  rw [refApply_F_T]; unfold refApply_T
  refine Eq.trans ?_ (rfl : k true = k true)
  kernel_rfl

theorem smalls20_true {R : Type} (q : List Str) (hq : Sized q) (x1 x2 x3 x4 x5 x6 x7 : Int) (keys : List Int) (hl : keys.length ≤ 100) (hA : ∀ key ∈ keys, AgreeSmall key) (k : Bool → Option R) : smalls20_F q x1 x2 x3 x4 x5 x6 x7 keys k = k true := by
  rw [smalls20_F_T]; unfold smalls20_T
  rcases lawHeavy10_eq q hq x1 x2 x3 x4 x5 x6 x7 (fun b9 => bif b9 then k true else smalls20_M4 keys 0 x7 x6 x5 x4 x3 x2 x1 q (fun b129 => k b129) (wakes20_F (fun b130 => k b130))) with h | ⟨h, h1, h2⟩
  · exact h
  · refine h.trans ?_
    rw [cond_false, smalls20_M4_eq]
    refine (smalls20_4 keys hl (fun kk hk => hA _ ?_) x7 x6 x5 x4 x3 x2 x1 q h1 h2 _ _ 4611686018427387904 0 (by omega) (by omega)).trans ?_
    · rw [getD_at hk]; exact List.getElem_mem hk
    · exact wakes20_eq _

theorem SmallX_true {R : Type} (q : List Str) (hq : Sized q) (x1 x2 x3 x4 x5 x6 x7 : Int) (k : Bool → Option R) : SmallX_F q x1 x2 x3 x4 x5 x6 x7 k = k true := by
  rw [SmallX_F_T]; unfold SmallX_T
  exact smalls20_true q hq _ _ _ _ _ _ _ _ (by simp) (by intro key h; simp at h; subst h; exact agreeSmall_plain _ (by omega)) _

theorem SmallR_true {R : Type} (q : List Str) (hq : Sized q) (x1 x2 x3 x4 x5 x6 x7 : Int) (k : Bool → Option R) : SmallR_F q x1 x2 x3 x4 x5 x6 x7 k = k true := by
  rw [SmallR_F_T]; unfold SmallR_T
  exact smalls20_true q hq _ _ _ _ _ _ _ _ (by simp) (by intro key h; simp at h; subst h; exact agreeSmall_plain _ (by omega)) _

theorem SmallTilde_true {R : Type} (q : List Str) (hq : Sized q) (x1 x2 x3 x4 x5 x6 x7 : Int) (k : Bool → Option R) : SmallTilde_F q x1 x2 x3 x4 x5 x6 x7 k = k true := by
  rw [SmallTilde_F_T]; unfold SmallTilde_T
  exact smalls20_true q hq _ _ _ _ _ _ _ _ (by simp) (by intro key h; simp at h; subst h; exact agreeSmall_plain _ (by omega)) _

end Go.Proofs.YtleoffdjdgbanaaDoor
