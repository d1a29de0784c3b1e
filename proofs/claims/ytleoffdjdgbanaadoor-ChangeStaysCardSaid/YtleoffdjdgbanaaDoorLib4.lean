/- The contract of slices.Clone at lists of runes as an oracle: its own text is walked; no theorem of the program is proved here. -/
import Derived.Test.YtleoffdjdgbanaaDoorGround
import Derived.Shelf.RegionOpenPlain
import Derived.WalkKit
import Derived.Deep.LoopGhost
import Derived.Lib.Walk
import Derived.Lib.SliceRun
set_option linter.unusedVariables false
set_option linter.unusedSimpArgs false
set_option linter.unusedVariables false
set_option linter.unusedSimpArgs false
namespace Go.Proofs.YtleoffdjdgbanaaDoor
open Go Go.QA Go.Proofs Go.RowKit Go.Lib

set_option maxHeartbeats 2000000 in
set_option maxRecDepth 100000 in
theorem clone_some (b off n c : Nat) (zs : List Int) (w : World) (hz : n ≤ zs.length) (hbig : n * 4 ≤ 140737488355328) (hc : ∀ j, j < zs.length → w.cell? ⟨b, off + j, none⟩ = some (.int .i32 (zs.getD j 0))) :
    Calls Tryd.prog 100 #[.slice (some ⟨b, off, none⟩) n c] w fun e w' => ∃ v', e = .returned v' ∧ w'.ownsRow w.heap.size 21 1 v' n ((zs.take n).map (Value.int .i32)) ∧ v' ≠ .slice none 0 0 ∧ Below w.heap.size w w' := by
  obtain ⟨i0, hi, hz0, hz1, hz2⟩ := info_parts (show (Tryd.prog.info? 21).map (fun i => (i.zero, i.size, i.bytes)) = some (some (.int .i32 0), 1, 4) by kernel_rfl)
  have q22 : ∀ (w : World) (a : Option Addr) (n c n' c' : Nat), (binOp .eql 30 (.slice a n c) (.slice none n' c')).run Tryd.prog w = .ok (.bool a.isNone) w := fun w a n c n' c' => Lib.run_eql_slice_nil w _ _ a n c n' c' Tryd.underlying30
  have A : Aside (∀ j, j < zs.length → w.cell? ⟨b, off + j, none⟩ = some (.int .i32 (zs.getD j 0))) := hc
  clear hc
  go_enter Tryd.func100, Tryd.ntmps100
  go_wp2_with (at_builtin; refine wpList_append_own _ rfl _ _ 30 rfl w.heap.size 21 i0 (.int .i32 0) 1 4 Tryd.underlying30 hi hz0 hz1 hz2 rfl (by decide) _ _ _ rfl (World.ownsRow_made w #[] 0 (Nat.le_refl _) (Nat.zero_le _) rfl) ⟨b, off, none⟩ n c ((zs.take n).map (Value.int .i32)) rfl ?qc1 ?qc2 ?qc3 ?qc4 ?qc5 ?qc6 ?_)
  case qc1 => simp; omega
  case qc2 =>
    intro j u hj
    have hjn : j < n ∧ j < zs.length := by
      have := (List.getElem?_eq_some_iff.1 hj).1
      simp at this
      omega
    rw [Addr.add_lit]
    refine Lib.cell?_alloc_some _ ?_
    rw [A.out j hjn.2]
    have e : ((zs.take n).map (Value.int .i32))[j]? = some (Value.int .i32 (zs.getD j 0)) := by simp [List.getD, hjn.1, List.getElem?_eq_getElem hjn.2]
    rw [e] at hj
    exact hj
  case qc3 => intro u hu; obtain ⟨x, _, rfl⟩ := List.mem_map.1 hu; rfl
  case qc4 => unfold maxLen; omega
  case qc5 => omega
  case qc6 => simp
  intro v' w1 hown hgrow hnil
  go_wp2
  go_ret
  refine ⟨v', rfl, by simpa using hown, ?_, ?_⟩
  · exact hnil
  · exact ((Below.refl _ w).alloc (Nat.le_refl _) _).grown hgrow (by simp) (by intro k hk; simp [Value.ownBlock] at hk; omega)

set_option maxHeartbeats 1000000 in
set_option maxRecDepth 100000 in
theorem clone_nil (n c : Nat) (w : World) : Calls Tryd.prog 100 #[.slice none n c] w fun e w' => e = .returned (.slice none 0 0) ∧ w' = w := by
  have q22 : ∀ (w : World) (a : Option Addr) (n c n' c' : Nat), (binOp .eql 30 (.slice a n c) (.slice none n' c')).run Tryd.prog w = .ok (.bool a.isNone) w := fun w a n c n' c' => Lib.run_eql_slice_nil w _ _ a n c n' c' Tryd.underlying30
  go_enter Tryd.func100, Tryd.ntmps100
  go_wp2
  go_ret
  exact ⟨rfl, rfl⟩

noncomputable def libClone_F {R : Type} (l : List Int) (k : List Int → Option R) : Option R := bif decide (l.length * 4 ≤ 140737488355328) then k l else none
noncomputable def libClone_abs (R : Type) (ds : List D) (k : D → Option R) : Option R :=
  match ds with
  | [D.sl (.ints .i32 l)] => libClone_F l fun b => k (.sl (.ints .i32 b))
  | _ => none
theorem libClone_ok : FnOk qP 100 libClone_abs := by
  intro R ds k r h
  unfold libClone_abs at h
  split at h
  · rename_i l
    unfold libClone_F at h
    cases hx : decide (l.length * 4 ≤ 140737488355328) with
    | false => rw [hx] at h; cases h
    | true =>
      rw [hx] at h
      rw [decide_eq_true_eq] at hx
      refine ⟨_, h, ⟨_, Tryd.func100, by kernel_rfl, by kernel_rfl⟩, ?_⟩
      intro X w vals hX hI hr
      obtain ⟨v, rfl, hv⟩ := rep1 hr
      simp only [Rep] at hv
      obtain ⟨a, cap, rfl, hcap, hcase⟩ := hv
      simp only [Con.len] at hcap hcase ⊢
      rcases hcase with ⟨rfl, hz⟩ | ⟨ad, rfl, hsp, hblk, _, c, el, fr, hc, hvals⟩
      · have hl : l = [] := List.length_eq_zero_iff.1 hz
        subst hl
        refine (clone_nil _ cap w).mono ?_
        rintro e w' ⟨rfl, rfl⟩
        refine ⟨_, rfl, Below.refl _ _, ?_, fun _ c hc => ?_⟩
        · simp only [Rep]; exact ⟨none, 0, rfl, Nat.le_refl _, .inl ⟨rfl, rfl⟩⟩
        · cases hc; exact .inl ⟨rfl, rfl⟩
      · obtain ⟨bk, off, sp⟩ := ad
        simp only at hsp hblk hc hvals
        subst hsp
        refine (clone_some bk off l.length cap l w (Nat.le_refl _) hx ?_).mono ?_
        · intro j hj
          have h2 := hvals j (by simpa [Con.vals] using hj)
          simp only [iv] at hc
          simp only [World.cell?, hc]
          rw [h2]
          simp [Con.vals, List.getD, hj]
        · rintro e w' ⟨v', rfl, hown, hnn, hb⟩
          obtain ⟨_, hcase⟩ := hown
          rcases hcase with ⟨e1, _⟩ | ⟨g, cap', cur, rfl, hg, hheap, hle, _, hsz, htake⟩
          · exact absurd e1 hnn
          · have hget : ∀ i, i < (Con.ints .i32 l).vals.length → cur[i]? = (Con.ints .i32 l).vals[i]? := by
              intro i hi
              simp only [Con.vals, List.length_map] at hi
              have h3 := congrArg (fun z => z[i]?) htake
              simp only [Nat.mul_one, List.take_length, List.getElem?_take] at h3
              rw [if_pos hi] at h3
              simpa [Con.vals] using h3
            refine ⟨_, rfl, hb, ?_, fun _ c hc => ?_⟩
            · simp only [Rep]
              refine ⟨_, cap', rfl, hle, .inr ⟨_, rfl, rfl, ?_, ?_, cur, 21, (0, 0), hheap, ?_⟩⟩
              · simp only [iv]
                rcases Nat.lt_or_ge g w'.heap.size with h | h
                · exact h
                · rw [Array.getElem?_eq_none h] at hheap; cases hheap
              · simp only [iv]; intro hb2; have := hX _ hb2; omega
              · intro i hi; rw [Nat.zero_add]; exact hget i hi
            · cases hc
              exact .inr ⟨g, cap', cur, 21, rfl, hle, hg, hheap, hget, by simp only [Con.esz]; omega⟩
  · cases h

end Go.Proofs.YtleoffdjdgbanaaDoor
