/- From a row's reading of what came in to what the walks ask: the argument, the library's tables; no theorem of the program is proved here. -/
import Derived.Test.YtleoffdjdgbanaaDoorGround
import Derived.Test.YtleoffdjdgbanaaDoorRows
import Derived.ProofKit
import Derived.LaidMore
import Derived.OpenShut
import Derived.Lay
import Derived.HandedShaped
import Derived.Lib.LaidU8
import Derived.PinnedBridge
import Derived.SliceStrings
import Derived.Shelf.Vars
import Derived.Stop.Joined
set_option linter.unusedVariables false
set_option linter.unusedSimpArgs false
set_option linter.unusedVariables false
set_option linter.unusedSimpArgs false
set_option maxRecDepth 100000
namespace Go.Proofs.YtleoffdjdgbanaaDoor
open Go Go.QA Go.Proofs Go.RowKit Go.ChangeShapes Go.WideShapes Go.ChangeAt

/-! ### the library's tables -/

theorem rowOwn : ownKnob Tryd.prog.godebug = none := by kernel_rfl
theorem rowLaidOut : laidOutB Tryd.prog = true := by kernel_rfl

theorem u8x : U8Extra Tryd.prog Tryd.lays260_ren := ⟨by kernel_rfl, by kernel_rfl, by kernel_rfl, by kernel_rfl, by kernel_rfl, by kernel_rfl, by kernel_rfl⟩

theorem rowUtf8 {W : World} {l : List (String × DataW Unit)} (h : laidMet Tryd.prog l W) (h1 : ("unicode/utf8.first", (Rows.laid_unicode_utf8_first : DataW Unit)) ∈ l) (h2 : ("unicode/utf8.acceptRanges", (Rows.laid_unicode_utf8_acceptRanges : DataW Unit)) ∈ l) : Lib.Utf8Tabs 0 1 W := by
  have a := Lib.laidMet.reads h h1
  have b := Lib.laidMet.reads h h2
  rw [show (Rows.laid_unicode_utf8_first : DataW Unit) = Lib.firstData from by rw [← Pinned.utf8First_eq]; rfl] at a
  rw [show (Rows.laid_unicode_utf8_acceptRanges : DataW Unit) = Lib.acceptData from by kernel_rfl] at b
  exact utf8Tabs_of_reads Tryd.lays260 u8x a b

theorem rowProps {W : World} {l : List (String × DataW Unit)} (h : laidMet Tryd.prog l W) (h1 : ("unicode.properties", (Rows.laid_unicode_properties : DataW Unit)) ∈ l) : Lib.TabIs Tryd.prog W "unicode.properties" .u8 Lib.propertiesTab := by
  obtain ⟨g, t, cs, fuel, p, hg, hty, hvar, hd⟩ := Lib.laidMet.reads h h1
  rw [show (Rows.laid_unicode_properties : DataW Unit) = Lib.tabData .u8 Lib.propertiesTab from by kernel_rfl] at hd
  have e1 : Tryd.prog.globalNamed "unicode.properties" = some ((Tryd.prog.globalNamed "unicode.properties").getD 0) := by kernel_rfl
  obtain rfl := Option.some.inj (e1.symm.trans hg)
  have e2 : ((Tryd.prog.globals[(Tryd.prog.globalNamed "unicode.properties").getD 0]?).map (·.type)) = some (((Tryd.prog.globals[(Tryd.prog.globalNamed "unicode.properties").getD 0]?).map (·.type)).getD 0) := by kernel_rfl
  obtain rfl := Option.some.inj (e2.symm.trans hty)
  have e3 : Tryd.prog.underlying (((Tryd.prog.globals[(Tryd.prog.globalNamed "unicode.properties").getD 0]?).map (·.type)).getD 0) = some (.array 256 5) := by kernel_rfl
  unfold Lib.TabIs
  rw [hvar, ← Lib.cells_of_tab e3 Tryd.underlying5 (by kernel_rfl) (by kernel_rfl) hd]

theorem rowMaxLen {W : World} (h : W.ShapedOpen Tryd.prog) : ∃ m, W.cell? ⟨4, 0, none⟩ = some (.int .i64 m) :=
  cell_of_shapedOpen_int (t := 3) (zero := #[.int .i64 0]) h (of_decide_eq_true (by kernel_rfl)) (by kernel_rfl) rfl (by kernel_rfl) (by kernel_rfl) Tryd.underlying3

/-! ### what came in -/

theorem intOf {H : Type} {enc : TypeId × Value → H} {W : World} {base : Nat} {spare : Nat → Bool} {held : Bool} {m : Nat} {l : List Value} {x : DataW H × List MemPlace} (h : DataW.trod enc Tryd.prog W base spare held m 3 l = some x) : ∃ n, l = [.int .i64 n] := by
  obtain ⟨n, h, _⟩ := DataW.trod_int Tryd.underlying3 h
  exact ⟨n, h⟩

/-- What came in is no longer than memory lets it be. -/
def FitsQ (q : List Str) : Prop := q.length ≤ 140737488355328 ∧ ∀ s ∈ q, s.length ≤ 140737488355328

theorem reads28 {H : Type} {enc : TypeId × Value → H} {W : World} {base : Nat} {v : Value} {d : DataW H} {p : List MemPlace} (hval : Value.okWide Tryd.prog W .any base 28 v) (hd : DataW.Trod enc Tryd.prog W 0 (fun _ => true) true 28 v d p)
    (hw : (DataW.weights Tryd.prog 28 d).all (· ≤ reachBytes) = true) :
    ∃ (q : List Str) (x1 x2 x3 x4 x5 x6 x7 : Int), FitsQ q ∧ Rep (iv (fun _ => False) W) (D.agg [D.sl (.strs q), D.int .i64 x1, D.int .i64 x2, D.int .i64 x3, D.int .i64 x4, D.int .i64 x5, D.int .i64 x6, D.int .i64 x7]) v := by
  have c3 : Tryd.prog.cellsOf 3 = 1 := by kernel_rfl
  have c9 : Tryd.prog.cellsOf 9 = 1 := by kernel_rfl
  have c22 : Tryd.prog.cellsOf 22 = 1 := by kernel_rfl
  have c24 : Tryd.prog.cellsOf 24 = 2 := by kernel_rfl
  have c26 : Tryd.prog.cellsOf 26 = 5 := by kernel_rfl
  have c28 : Tryd.prog.cellsOf 28 = 8 := by kernel_rfl
  simp only [Value.okWide, Tryd.underlying28] at hval
  obtain ⟨⟨cs⟩, rfl, hsz, ts, hts, _, hall⟩ := hval
  rw [show Tryd.prog.cellTypes Tryd.prog.depth 28 = some [22, 3, 3, 3, 3, 3, 3, 3] from by kernel_rfl] at hts
  obtain rfl := Option.some.inj hts
  rw [c28] at hsz
  obtain ⟨fuel, hd⟩ := hd
  obtain ⟨xs, n, rfl, hx, hl, hxl, hf⟩ := DataW.trod_struct Tryd.underlying28 hd
  obtain ⟨rfl, rfl⟩ := Prod.mk.inj hx
  have f0 := hf 0 ⟨ "T", 26, 0, false, "", "", 0⟩ rfl
  have f1 := hf 1 ⟨ "Key", 3, 5, false, "", "", 56⟩ rfl
  have f2 := hf 2 ⟨ "Count", 3, 6, false, "", "", 64⟩ rfl
  have f3 := hf 3 ⟨ "R", 3, 7, false, "", "", 72⟩ rfl
  simp only [c3, c26, Value.cells] at f0 f1 f2 f3
  obtain ⟨y0, y1, y2, y3, rfl⟩ : ∃ y0 y1 y2 y3, xs = [y0, y1, y2, y3] := by
    match xs, hxl with
    | [y0, y1, y2, y3], _ => exact ⟨y0, y1, y2, y3, rfl⟩
  (try simp only [List.getElem?_cons_zero, List.getElem?_cons_succ] at f0 f1 f2 f3)
  obtain ⟨a5, g1⟩ := intOf f1
  obtain ⟨a6, g2⟩ := intOf f2
  obtain ⟨a7, g3⟩ := intOf f3
  obtain ⟨zs, n0, rfl, rfl, _, hzl, he⟩ := DataW.trod_struct Tryd.underlying26 f0
  have k0 := he 0 ⟨ "S", 22, 0, false, "", "", 0⟩ rfl
  have k1 := he 1 ⟨ "A", 3, 1, false, "", "", 24⟩ rfl
  have k2 := he 2 ⟨ "B", 3, 2, false, "", "", 32⟩ rfl
  have k3 := he 3 ⟨ "P", 24, 3, false, "", "", 40⟩ rfl
  simp only [c3, c22, c24] at k0 k1 k2 k3
  obtain ⟨z0, z1, z2, z3, rfl⟩ : ∃ z0 z1 z2 z3, zs = [z0, z1, z2, z3] := by
    match zs, hzl with
    | [z0, z1, z2, z3], _ => exact ⟨z0, z1, z2, z3, rfl⟩
  (try simp only [List.getElem?_cons_zero, List.getElem?_cons_succ] at k0 k1 k2 k3)
  obtain ⟨a1, g4⟩ := intOf k1
  obtain ⟨a2, g5⟩ := intOf k2
  obtain ⟨us, n1, rfl, rfl, _, hul, hu⟩ := DataW.trod_struct Tryd.underlying24 k3
  have m0 := hu 0 ⟨ "Row", 3, 0, false, "", "", 0⟩ rfl
  have m1 := hu 1 ⟨ "Col", 3, 1, false, "", "", 8⟩ rfl
  simp only [c3] at m0 m1
  obtain ⟨u0, u1, rfl⟩ : ∃ u0 u1, us = [u0, u1] := by
    match us, hul with
    | [u0, u1], _ => exact ⟨u0, u1, rfl⟩
  (try simp only [List.getElem?_cons_zero, List.getElem?_cons_succ] at m0 m1)
  obtain ⟨a3, g6⟩ := intOf m0
  obtain ⟨a4, g7⟩ := intOf m1
  obtain ⟨v0, v1, v2, v3, v4, v5, v6, v7, rfl⟩ : ∃ v0 v1 v2 v3 v4 v5 v6 v7, cs = [v0, v1, v2, v3, v4, v5, v6, v7] := by
    match cs, hsz with
    | [v0, v1, v2, v3, v4, v5, v6, v7], _ => exact ⟨v0, v1, v2, v3, v4, v5, v6, v7, rfl⟩
  simp only [List.drop_succ_cons, List.drop_zero, List.take_succ_cons, List.take_zero, List.cons.injEq, and_true] at g1 g2 g3 g4 g5 g6 g7 k0
  subst g1 g2 g3 g4 g5 g6 g7
  have hv0 := hall 0 v0 rfl
  obtain ⟨u, hu0, hok⟩ := hv0
  obtain rfl : 22 = u := by simpa using hu0
  have hslice : ∃ (q : List Str), FitsQ q ∧ Rep (iv (fun _ => False) W) (D.sl (.strs q)) v0 := by
    rcases open_strings Tryd.underlying22 Tryd.underlying9 c9 k0 with ⟨e1, e2⟩ | ⟨a, len, cap, ss, e1, _, hle, hcap, hlen, e2, hcell, hmax⟩
    · simp only [List.cons.injEq, and_true] at e1
      subst e1
      refine ⟨[], ⟨by simp, by simp⟩, ?_⟩
      simp only [Rep]
      exact ⟨none, 0, rfl, Nat.le_refl _, .inl ⟨rfl, rfl⟩⟩
    · simp only [List.cons.injEq, and_true] at e1
      subst e1
      rw [if_pos rfl] at hlen
      simp only [Cell.okWide, Tryd.underlying22, Cell.ok] at hok
      obtain ⟨_, _, _, hspot, row, cells, hshape, _⟩ := hok
      obtain ⟨b, off, sp⟩ := a
      simp only at hspot
      subst hspot
      have hheap : ∃ c e fr, W.heap[b]? = some (.cells c e fr) := by
        unfold World.shape? at hshape
        cases hh : W.heap[b]? with
        | none => rw [hh] at hshape; simp at hshape
        | some o =>
          rw [hh] at hshape
          cases o <;> simp [Obj.row?] at hshape
          exact ⟨_, _, _, rfl⟩
      obtain ⟨c, e, fr, hc⟩ := hheap
      refine ⟨(ss.take len).map (·.data.toList), ⟨?_, ?_⟩, ?_⟩
      · have := hw
        subst e2
        simp only [List.map_cons, List.map_nil, DataW.weights, Tryd.underlying28, Tryd.underlying26, Tryd.underlying22, DataW.weightsEach, List.all_append, List.all_cons, Bool.and_eq_true, decide_eq_true_eq] at this
        have h1 := this.1.1.1
        simp only [strs, List.length_map] at h1
        have hb : Tryd.prog.bytesOf 9 = 16 := by kernel_rfl
        rw [hb] at h1
        unfold reachBytes at h1
        rw [List.length_map, List.length_take]
        rw [List.length_take, List.length_drop] at h1
        omega
      · intro s hs
        obtain ⟨t, ht, rfl⟩ := List.mem_map.1 hs
        have := hw
        subst e2
        simp only [List.map_cons, List.map_nil, DataW.weights, Tryd.underlying28, Tryd.underlying26, Tryd.underlying22, DataW.weightsEach, List.all_append, List.all_cons, Bool.and_eq_true, decide_eq_true_eq] at this
        have h1 := this.1.1.2.1
        have hall2 : ∀ (l : List ByteArray), (DataW.weightsAll Tryd.prog 9 (strs (H := H) l)).all (· ≤ reachBytes) = true → ∀ t ∈ l, t.data.toList.length ≤ reachBytes := by
          intro l
          induction l with
          | nil => intro _ t ht; cases ht
          | cons x r ih =>
            intro h t ht
            simp only [strs, List.map_cons, DataW.weightsAll, DataW.weights, List.all_append, List.all_cons, List.all_nil, Bool.and_eq_true, decide_eq_true_eq, Bool.and_true] at h
            rcases List.mem_cons.1 ht with rfl | ht
            · exact h.1
            · exact ih (by simpa [strs] using h.2) t ht
        have h2 := hall2 _ h1 t ht
        unfold reachBytes at h2
        omega
      · simp only [Rep]
        have hcl : (Con.strs ((ss.take len).map (·.data.toList))).len = len := by
          simp only [Con.len, List.length_map, List.length_take]; omega
        refine ⟨some ⟨b, off, none⟩, cap, by rw [hcl], by rw [hcl]; exact hle, .inr ⟨_, rfl, rfl, ?_, id, c, e, fr, hc, ?_⟩⟩
        · rcases Nat.lt_or_ge b W.heap.size with h | h
          · exact h
          · rw [Array.getElem?_eq_none h] at hc; cases hc
        · intro i hi
          simp only [Con.vals, List.length_map, List.length_take] at hi
          have h1 := hcell i (by omega)
          rw [add_plain] at h1
          simp only [World.cell?, hc] at h1
          simp only [Con.vals, List.getElem?_map, List.getElem?_take]
          rw [if_pos (by omega), List.getElem?_eq_getElem (by omega)]
          simp only [Option.map_some]
          have e3 : ss.getD i ByteArray.empty = ss[i] := by simp [List.getD, show i < ss.length from by omega]
          rw [e3] at h1
          simpa [strV] using h1
  obtain ⟨q, hq, hr⟩ := hslice
  refine ⟨q, a1, a2, a3, a4, a5, a6, a7, hq, ?_⟩
  simp only [Rep, RepL]
  exact ⟨_, rfl, _, _, rfl, hr, _, _, rfl, rfl, _, _, rfl, rfl, _, _, rfl, rfl, _, _, rfl, rfl, _, _, rfl, rfl, _, _, rfl, rfl, _, _, rfl, rfl, rfl⟩

end Go.Proofs.YtleoffdjdgbanaaDoor

set_option linter.unusedVariables false
set_option linter.unusedSimpArgs false
set_option maxRecDepth 100000
namespace Go.Proofs.YtleoffdjdgbanaaDoor
open Go Go.QA Go.Proofs Go.RowKit Go.ChangeShapes Go.WideShapes Go.ChangeAt

theorem wrapShaped {H : Type} {enc : TypeId × Value → H} {a : Assume} {C : Checked} {os : Os} {f : FuncId} {fn : Func} {s : ChangeSpec} {conds : List PathCond} {apart fresh handsOn again : Bool} {X : World → Array Value → Prop}
    (hX : ∀ (w w' : World) (args : Array Value), w.heap = w'.heap → X w args → X w' args)
    (own : ownKnob C.prog.godebug = none) (started : os.Started) (noInit : C.prog.inits.idxOf? f = none) (hfn : C.prog.funcs[f]? = some fn)
    (witness : ∃ (w : World) (tape : Tape) (i : Input), w.os = os ∧ (w.forCall tape i).Shaped C.prog ∧ i.vars = [] ∧ Input.okWide C.prog (w.forCall tape i) .any w.heap.size f i ∧
      ((s.pre enc C.prog fn conds apart (w.forCall tape i).memory i.args ∧ X (w.forCall tape i).memory i.args) ∧ sizedMet enc C.prog fn (OpenSpec.ofChange s) apart (w.forCall tape i).memory i.args) ∧ a.holds C.prog (lone (Frame.enter C.prog f i.args .normal) [] (w.forCall tape i)))
    (contract : ∀ (W : World) (base : Nat) (args : Array Value) (ds gs : List (DataW H)) (before : List MemPlace),
      (∀ (j : Nat) t v, fn.params[j]? = some t → args[j]? = some v → Value.okWide C.prog W .any base t v) →
      DataW.Whole enc C.prog fn.params.toList s.vars apart W args.toList ds gs before →
      (DataW.weightsEach C.prog (fn.params.toList ++ s.plain.varTypes C.prog) (ds ++ gs)).all (· ≤ reachBytes) = true → X W args → W.ShapedOpen C.prog →
      Calls C.prog f args W fun e W' => ∃ v, e = .returned v ∧ s.post enc C.prog fn apart fresh handsOn again W args v W') :
    ReturnsInHanded a C os f .any (fun w args => (s.pre enc C.prog fn conds apart w args ∧ X w args) ∧ sizedMet enc C.prog fn (OpenSpec.ofChange s) apart w args) (s.post enc C.prog fn apart fresh handsOn again) := by
  refine returnsInHanded_of_calls own started noInit witness ?_
  intro w tape i _ hsh _ hok hpre hholds
  obtain ⟨_, _, _, fn', hfn', _, _, _, _, hval⟩ := hok
  have e : fn' = fn := Option.some.inj (hfn'.symm.trans hfn)
  subst e
  obtain ⟨⟨⟨ds, gs, before, hw, hc⟩, hx⟩, hz⟩ := hpre
  have hw' := DataW.Whole.of_heap (w' := w.forCall tape i) (by rfl) hw
  refine (contract (w.forCall tape i) w.heap.size i.args ds gs before hval hw' (hz.weights hw) (hX _ _ _ (by rfl) hx) hsh).mono fun e W' ⟨v, he, hp⟩ => ?_
  subst he
  exact ChangeSpec.post_blind hp

theorem law28 {n : FuncId} {fn : Func} {spec : ChangeSpec} {laid : List (String × DataW Unit)}
    (hvars : spec.vars = []) (hspec : ∀ (H : Type) (d : DataW H), spec.fn H [d] = { results := [.lit (.bool true)], args := [d] })
    (hfn : Tryd.prog.funcs[n]? = some fn) (hp : fn.params = #[28]) (hr : fn.resultTypes = #[4]) (noInit : Tryd.prog.inits.idxOf? n = none)
    (hplain : (laid.all fun x => x.2.handleName?.isNone) = true) (hI : ∀ W : World, laidMet Tryd.prog laid W → W.ShapedOpen Tryd.prog → LaidW W)
    {F : ∀ R : Type, List D → (D → Option R) → Option R} (hok : FnOk qP n F)
    (ht : ∀ (q : List Str), FitsQ q → ∀ (x1 x2 x3 x4 x5 x6 x7 : Int) (k : D → Option Bool),
      F Bool [D.agg [D.sl (.strs q), D.int .i64 x1, D.int .i64 x2, D.int .i64 x3, D.int .i64 x4, D.int .i64 x5, D.int .i64 x6, D.int .i64 x7]] k = k (.bool true))
    (os : Os) (started : os.Started) {H : Type} {enc : TypeId × Value → H}
    (witness : ∃ (w : World) (tape : Tape) (i : Input), w.os = os ∧ (w.forCall tape i).Shaped Tryd.checked.prog ∧ i.vars = [] ∧ Input.okWide Tryd.checked.prog (w.forCall tape i) .any w.heap.size n i ∧
      ((spec.pre enc Tryd.checked.prog fn [] false (w.forCall tape i).memory i.args ∧ laidMetH Tryd.prog laid (w.forCall tape i).memory) ∧ sizedMet enc Tryd.checked.prog fn (OpenSpec.ofChange spec) false (w.forCall tape i).memory i.args) ∧ ({} : Assume).holds Tryd.checked.prog (lone (Frame.enter Tryd.checked.prog n i.args .normal) [] (w.forCall tape i))) :
    ReturnsInHanded {} Tryd.checked os n .any (fun w args => (spec.pre enc Tryd.prog fn [] false w args ∧ laidMetH Tryd.prog laid w) ∧ sizedMet enc Tryd.prog fn (OpenSpec.ofChange spec) false w args)
      (spec.post enc Tryd.prog fn false true false false) := by
  refine wrapShaped (C := Tryd.checked) (X := fun w _ => laidMetH Tryd.prog laid w) (fun _ _ _ hh h => laidMetH.of_heap hh h) rowOwn started noInit hfn witness ?_
  intro W base args ds gs before hval0 hW hsz0 hL hsh
  have hval : ∀ (j : Nat) t v, fn.params[j]? = some t → args[j]? = some v → Value.okWide Tryd.prog W .any base t v := hval0
  have hW' := hW
  obtain ⟨p, q, hA0, hV0, rfl, hfz, hnd⟩ := hW
  have hA : DataW.TrodAll enc Tryd.prog W 0 (fun _ => true) true fn.params.toList args.toList ds p := hA0
  have hV : DataW.TrodVars enc Tryd.prog W (fun _ => true) spec.vars gs q := hV0
  have hsz : (DataW.weightsEach Tryd.prog (fn.params.toList ++ spec.plain.varTypes Tryd.prog) (ds ++ gs)).all (· ≤ reachBytes) = true := hsz0
  rw [hp] at hA hval hsz
  rw [hvars] at hV
  obtain ⟨v0, d0, rfl, rfl, h0⟩ := trodAll_one hA
  obtain ⟨rfl, rfl⟩ : gs = [] ∧ q = [] := by
    cases gs with
    | nil => exact ⟨rfl, hV⟩
    | cons g r => exact absurd hV (by intro h; cases h)
  have hw : (DataW.weights Tryd.prog 28 d0).all (· ≤ reachBytes) = true := by
    rw [List.all_eq_true] at hsz ⊢
    intro x hx
    exact hsz x (by
      show x ∈ DataW.weightsEach Tryd.prog (28 :: spec.plain.varTypes Tryd.prog) (d0 :: [])
      simp only [DataW.weightsEach, List.mem_append]
      exact .inl hx)
  obtain ⟨qs, x1, x2, x3, x4, x5, x6, x7, hq, hrep⟩ := reads28 (hval 0 28 v0 rfl rfl) h0 hw
  rw [MakeChecks.laidMetH_plain _ _ _ hplain] at hL
  have hI' : LaidI W.heap.size W := ⟨W, hI W hL hsh, Nat.le_refl _, Below.refl _ _⟩
  obtain ⟨d, hd1, _, hd2⟩ := hok Bool [D.agg [D.sl (.strs qs), D.int .i64 x1, D.int .i64 x2, D.int .i64 x3, D.int .i64 x4, D.int .i64 x5, D.int .i64 x6, D.int .i64 x7]]
    (fun d => match d with | .bool b => some b | _ => none) true (ht qs hq x1 x2 x3 x4 x5 x6 x7 _)
  obtain rfl : d = .bool true := by
    cases d <;> simp at hd1
    subst hd1; rfl
  have hcall := hd2 (fun _ => False) W [v0] (fun _ h => h.elim) hI' ⟨v0, [], rfl, hrep, rfl⟩
  refine hcall.mono fun e W' ⟨v, he, hb, hv, _⟩ => ?_
  simp only [Rep] at hv
  subst hv
  subst he
  simp only [List.append_nil] at hW'
  have hlt : ∀ x ∈ p, x.block < W.heap.size := fun x hx => hW'.lt x (by simpa using hx)
  refine ⟨_, rfl, [d0], [], p, [], p, [], hW', ?_, ?_, ?_, hb.frame _, fun h => by cases h⟩
  · rw [hr, List.append_nil, hspec]
    exact trodAll_mk1 (shut_bool Tryd.underlying4 _)
  · rw [hp, List.append_nil, hspec]
    exact trodAll_mk1 (Below.trod rowLaidOut (by kernel_rfl) (of_decide_eq_true (by kernel_rfl)) h0 hb hlt)
  · rw [hvars, List.append_nil, hspec]; rfl

end Go.Proofs.YtleoffdjdgbanaaDoor
