/- Operations that compute or read: what the machine does is what the data's do; no theorem of the program is proved here. -/
import Derived.Test.YtleoffdjdgbanaaDoorQa1
import Derived.Laws.Concat
import Derived.Laws.Slices
set_option linter.unusedVariables false
set_option linter.unusedSimpArgs false
namespace Go.QA
open Go Go.RowKit

def OpOk (C : Cfg) (AC : FuncId → List D → D → Prop) (o : Oper) : Prop :=
  ∀ (B : Nat) (S0 : Nat → Prop) (g : Var → D) (μ : Nat → Option Nat) (a : Act) (w : World) (up : Up), Leads AC g (aop C o) up → Sim B S0 C.n g μ a w →
    ∀ (next : Act → World → Prop) (Q : Exit → Act → World → Prop),
      (∀ a' w' μ', Sim B S0 C.n (updF g up) μ' a' w' → Below B w w' → next a' w') → o.wp C.P a w next Q

def OpOkI (C : Cfg) (AC : FuncId → List D → D → Prop) (o : Oper) : Prop :=
  ∀ (B : Nat) (S0 : Nat → Prop) (g : Var → D) (μ : Nat → Option Nat) (a : Act) (w : World) (up : Up), Leads AC g (aop C o) up → Sim B S0 C.n g μ a w → C.I B w →
    ∀ (next : Act → World → Prop) (Q : Exit → Act → World → Prop),
      (∀ a' w' μ', Sim B S0 C.n (updF g up) μ' a' w' → Below B w w' → next a' w') → o.wp C.P a w next Q

theorem OpOk.i {C : Cfg} {AC : FuncId → List D → D → Prop} {o : Oper} (h : OpOk C AC o) : OpOkI C AC o := fun B S0 g μ a w up hl hs _ => h B S0 g μ a w up hl hs

theorem updF_append (g : Var → D) : ∀ u v : Up, updF g (u ++ v) = updF (updF g u) v := by
  intro u
  induction u generalizing g with
  | nil => intro v; rfl
  | cons p r ih => intro v; exact ih _ v

section
variable {C : Cfg} {AC : FuncId → List D → D → Prop} {o : Oper} {B : Nat} {S0 : Nat → Prop} {g : Var → D} {μ : Nat → Option Nat} {a : Act} {w : World} {up : Up}
  {next : Act → World → Prop} {Q : Exit → Act → World → Prop}

theorem leads_pfin {dst : Option Tmp} {d : D} {us : Up} : Leads AC g (pfin C dst d us) up ↔
    (∃ t, dst = some t ∧ t < C.n ∧ up = us ++ [(.t t, d)]) ∨ (dst = none ∧ up = us) := by
  cases dst with
  | none => simp [pfin, leads_ret]
  | some t => simp [pfin, leads_ret, leads_cond, leads_fail, Nat.blt_eq]

theorem wp_value {x : Value} {w' : World} (hrun : (execOp a.eval o).run C.P w = .ok (.value x) w') (h : next (a.put o.dst x) w') : o.wp C.P a w next Q := by
  unfold Oper.wp; rw [hrun]; exact h

theorem wp_unit {w' : World} (hrun : (execOp a.eval o).run C.P w = .ok .skip w') (hd : o.dst = none) (h : next a w') : o.wp C.P a w next Q := by
  unfold Oper.wp; rw [hrun]; simp only [Oper.upon, hd, Act.put]; exact h

theorem ok_value {d : D} {x : Value} {w' : World} (hrun : (execOp a.eval o).run C.P w = .ok (.value x) w') (hs : Sim B S0 C.n g μ a w') (hb : Below B w w')
    (hd : Rep (vw g μ S0 w') d x) (hl : Leads AC g (pfin C o.dst d []) up)
    (hn : ∀ a' w' μ', Sim B S0 C.n (updF g up) μ' a' w' → Below B w w' → next a' w') : o.wp C.P a w next Q := by
  refine wp_value hrun ?_
  rcases leads_pfin.1 hl with ⟨t, e, ht, rfl⟩ | ⟨e, rfl⟩
  · rw [e]; exact hn _ _ μ (hs.put ht hd) hb
  · rw [e]; exact hn _ _ μ hs hb

/-- The same where nothing is made. -/
theorem ok_pure {d : D} {x : Value} (hrun : (execOp a.eval o).run C.P w = .ok (.value x) w) (hs : Sim B S0 C.n g μ a w)
    (hd : Rep (vw g μ S0 w) d x) (hl : Leads AC g (pfin C o.dst d []) up)
    (hn : ∀ a' w' μ', Sim B S0 C.n (updF g up) μ' a' w' → Below B w w' → next a' w') : o.wp C.P a w next Q :=
  ok_value hrun hs (Below.refl _ _) hd hl hn

theorem op_move {x : Operand} (ho : o.op = .move x) : OpOk C AC o := by
  intro B S0 g μ a w up hl hs next Q hn
  simp only [aop, ho, leads_pget] at hl
  obtain ⟨d, hd, hl⟩ := hl
  exact ok_pure (x := a.eval x) (by simp [execOp, ho]) hs (hs.ev hd) hl hn

theorem op_assign {x : Operand} (ho : o.op = .assign x) : OpOk C AC o := by
  intro B S0 g μ a w up hl hs next Q hn
  simp only [aop, ho, leads_pget] at hl
  obtain ⟨d, hd, hl⟩ := hl
  exact ok_pure (x := a.eval x) (by simp [execOp, ho]) hs (hs.ev hd) hl hn

theorem op_pick {c x y : Operand} (ho : o.op = .pick c x y) : OpOk C AC o := by
  intro B S0 g μ a w up hl hs next Q hn
  simp only [aop, ho, leads_pget] at hl
  obtain ⟨dc, hc, hl⟩ := hl
  have hc' := hs.ev hc
  cases dc with
  | bool b =>
    simp only [leads_br, leads_pget] at hl
    simp only [Rep] at hc'
    rcases hl with ⟨rfl, d, hd, hl⟩ | ⟨rfl, d, hd, hl⟩
    · exact ok_pure (x := a.eval x) (by simp [execOp, ho, hc', asBool]) hs (hs.ev hd) hl hn
    · exact ok_pure (x := a.eval y) (by simp [execOp, ho, hc', asBool]) hs (hs.ev hd) hl hn
  | _ => simp only [leads_fail] at hl

theorem op_extract {x : Operand} {i : Nat} (ho : o.op = .extract x i) : OpOk C AC o := by
  intro B S0 g μ a w up hl hs next Q hn
  simp only [aop, ho, leads_pget] at hl
  obtain ⟨d, hd, hl⟩ := hl
  have hr := hs.ev hd
  cases d with
  | tup cs =>
    simp only [pext] at hl
    simp only [Rep] at hr
    obtain ⟨vs, hv, hr⟩ := hr
    cases hi : cs[i]? with
    | none => simp only [hi, leads_fail] at hl
    | some e =>
      simp only [hi] at hl
      obtain ⟨v, h1, h2⟩ := hr.at hi
      exact ok_pure (x := v) (by simp [execOp, ho, hv, Instr.extract, h1]) hs h2 hl hn
  | _ => simp only [pext, leads_fail] at hl

theorem op_nilCheck {x : Operand} (ho : o.op = .nilCheck x) : OpOk C AC o := by
  intro B S0 g μ a w up hl hs next Q hn
  simp only [aop, ho, leads_pget] at hl
  obtain ⟨d, hd, hl⟩ := hl
  have hr := hs.ev hd
  cases d with
  | own key off =>
    simp only [pnil] at hl
    have hr' := hr
    simp only [Rep] at hr
    obtain ⟨_, b, _, hx⟩ := hr
    exact ok_pure (x := a.eval x) (by simp [execOp, ho, hx]) hs hr' hl hn
  | ptr cs =>
    simp only [pnil] at hl
    have hr' := hr
    simp only [Rep] at hr
    obtain ⟨ad, vs, hx, _⟩ := hr
    exact ok_pure (x := a.eval x) (by simp [execOp, ho, hx]) hs hr' hl hn
  | oel key i e =>
    simp only [pnil] at hl
    have hr' := hr
    simp only [Rep] at hr
    obtain ⟨_, _, b, _, hx⟩ := hr
    exact ok_pure (x := a.eval x) (by simp [execOp, ho, hx]) hs hr' hl hn
  | _ => simp only [pnil, leads_fail] at hl

theorem op_un {op : UnOp} {t : TypeId} {x : Operand} (ho : o.op = .unOp op t x) : OpOk C AC o := by
  intro B S0 g μ a w up hl hs next Q hn
  simp only [aop, ho, leads_pget] at hl
  obtain ⟨d, hd, hl⟩ := hl
  have hr := hs.ev hd
  cases op with
  | neg =>
    cases d with
    | int k m =>
      simp only [pun] at hl
      simp only [Rep] at hr
      exact ok_pure (x := .int k (k.wrap (0 - m))) (by simp [execOp, ho, hr, Op.unary, Op.intArith]) hs (by simp [Rep]) hl hn
    | _ => simp only [pun, leads_fail] at hl
  | not =>
    cases d with
    | bool m =>
      simp only [pun] at hl
      simp only [Rep] at hr
      exact ok_pure (x := .bool (!m)) (by simp [execOp, ho, hr, Op.unary]) hs (by simp [Rep]) hl hn
    | _ => simp only [pun, leads_fail] at hl
  | _ => cases d <;> simp only [pun, leads_fail] at hl

/-! ### loads -/

theorem cellsAt.load {w : World} {b off : Nat} {vs : List Value} (h : cellsAt w b off vs) (j : Nat) (v : Value) (hj : vs[j]? = some v) : w.cell? ((⟨b, off, none⟩ : Addr).add j) = some v := by
  obtain ⟨c, e, fr, h1, h2⟩ := h
  have hlt : j < vs.length := by
    rcases Nat.lt_or_ge j vs.length with h' | h'
    · exact h'
    · rw [List.getElem?_eq_none h'] at hj; cases hj
  rw [Addr.add_lit]
  simp [World.cell?, h1, h2 j hlt, hj]

theorem cellsAt.take {w : World} {b off : Nat} {vs : List Value} (h : cellsAt w b off vs) (n : Nat) : cellsAt w b off (vs.take n) := by
  obtain ⟨c, e, fr, h1, h2⟩ := h
  refine ⟨c, e, fr, h1, fun i hi => ?_⟩
  have h3 : i < vs.length := by simp at hi; omega
  have h4 : i < n := by simp at hi; omega
  rw [h2 i h3, List.getElem?_take, if_pos h4]

theorem cellsAt.drop {w : World} {b off : Nat} {vs : List Value} (h : cellsAt w b off vs) (n : Nat) : cellsAt w b (off + n) (vs.drop n) := by
  obtain ⟨c, e, fr, h1, h2⟩ := h
  refine ⟨c, e, fr, h1, fun i hi => ?_⟩
  have h3 : n + i < vs.length := by simp at hi; omega
  rw [List.getElem?_drop, ← h2 (n + i) h3, Nat.add_assoc]

theorem sizeD_eq {t : TypeId} {n : Nat} (h : sizeD C t = some n) : ∃ i, C.P.info? t = some i ∧ i.size = n := by
  unfold sizeD at h
  cases hi : C.P.info? t with
  | none => simp [hi] at h
  | some i => simp [hi] at h; exact ⟨i, rfl, h⟩

theorem run_size {t : TypeId} {n : Nat} (h : sizeD C t = some n) (w : World) : (sizeOf t).run C.P w = .ok n w := by
  obtain ⟨i, h1, h2⟩ := sizeD_eq h
  simp [sizeOf, typeInfo, h1, h2]

theorem run_agg {t : TypeId} {b : Bool} (h : aggD C t = some b) (w : World) : (isAgg t).run C.P w = .ok b w := by
  unfold aggD at h
  cases hu : C.P.underlying t with
  | none => simp [hu] at h
  | some d =>
    simp only [isAgg, Sem.run_bind, run_underlying hu, Result.andThen_ok]
    cases d <;> simp [hu] at h <;> subst h <;> rfl

/-- Loading what lies at an address. -/
theorem run_view {t : TypeId} {cs : List D} {vs : List Value} {b off : Nat} {r : D} {β : Type} {f : D → PT β} {x : β} (hl : Leads AC g (pview C t cs f) x)
    (hc : cellsAt w b off vs) {V : Vw} (hr : RepL V cs vs) :
    ∃ d v, Leads AC g (f d) x ∧ Rep V d v ∧ (loadVar t ⟨b, off, none⟩).run C.P w = .ok v w := by
  have _ := r
  unfold pview at hl
  cases ha : aggD C t with
  | none => simp only [ha, leads_fail] at hl
  | some ag =>
    cases hz : sizeD C t with
    | none => cases ag <;> simp only [ha, hz, leads_fail] at hl
    | some n =>
      cases ag with
      | true =>
        simp only [ha, hz, leads_cond, leads_fail, and_false, or_false] at hl
        obtain ⟨hn, hl⟩ := hl
        rw [Nat.ble_eq] at hn
        have hlen := hr.len
        refine ⟨_, .agg ⟨vs.take n⟩, hl, by simp only [Rep]; exact ⟨_, rfl, hr.take n⟩, ?_⟩
        simp only [loadVar, Sem.run_bind, run_agg ha, Result.andThen_ok, if_true, run_size hz]
        have := run_loadCells_list (P := C.P) w ⟨b, off, none⟩ (vs.take n) (fun j v hj => (hc.take n).load j v hj)
        have h5 : (vs.take n).length = n := by simp; omega
        rw [h5] at this
        simp [this]
      | false =>
        simp only [ha, hz] at hl
        cases cs with
        | nil => simp only [leads_fail] at hl
        | cons d ds =>
          simp only [RepL] at hr
          obtain ⟨v, q, rfl, h1, _⟩ := hr
          refine ⟨d, v, hl, h1, ?_⟩
          have := hc.load 0 v rfl
          rw [Addr.add_lit] at this
          simp only [loadVar, Sem.run_bind, run_agg ha, Result.andThen_ok, Bool.false_eq_true, if_false, run_load]
          rw [Nat.add_zero] at this
          rw [this]

/-- Cells of one's own, read one by one. -/
theorem leads_pcells {key : Nat} {β : Type} {x : β} : ∀ {n off : Nat} {f : List D → PT β}, Leads AC g (pcells key off n f) x →
    ∃ ds, Leads AC g (f ds) x ∧ ds.length = n ∧ ∀ i, i < n → g (.c key (off + i)) = ds.getD i .top ∧ (ds.getD i .top).isCell = true
  | 0, off, f, h => ⟨[], h, rfl, fun i hi => by omega⟩
  | n + 1, off, f, h => by
    simp only [pcells, leads_get, leads_cond, leads_fail, and_false, or_false] at h
    obtain ⟨hc, h⟩ := h
    obtain ⟨ds, h1, h2, h3⟩ := leads_pcells h
    refine ⟨g (.c key off) :: ds, h1, by simp [h2], fun i hi => ?_⟩
    cases i with
    | zero => exact ⟨rfl, hc⟩
    | succ i =>
      have := h3 i (by omega)
      simp only [List.getD_cons_succ]
      rw [show off + (i + 1) = off + 1 + i from by omega]
      exact this

theorem isCell_ne {d : D} (h : d.isCell = true) : d ≠ .top ∧ ∀ c, d ≠ .con c := by
  cases d <;> simp [D.isCell] at h <;> simp

/-- .. and what stands there. -/
theorem Sim.cells (h : Sim B S0 C.n g μ a w) {key b : Nat} (hb : μ key = some b) : ∀ {n off : Nat} {ds : List D}, ds.length = n →
    (∀ i, i < n → g (.c key (off + i)) = ds.getD i .top ∧ (ds.getD i .top).isCell = true) → 0 < n →
    ∃ vs, cellsAt w b off vs ∧ RepL (vw g μ S0 w) ds vs := by
  intro n off ds hn hd hpos
  have h0 := hd 0 hpos
  obtain ⟨h01, h02⟩ := isCell_ne h0.2
  obtain ⟨b', v, el, x0, e1, e2, _, _⟩ := h.celOk key (off + 0) (by rw [h0.1]; exact h01) (by rw [h0.1]; exact h02)
  rw [hb] at e1; cases e1
  have key' : ∀ i, i < n → ∃ x, v[off + i]? = some x ∧ Rep (vw g μ S0 w) (ds.getD i .top) x := by
    intro i hi
    have hi' := hd i hi
    obtain ⟨f1, f2⟩ := isCell_ne hi'.2
    obtain ⟨b2, v2, el2, x, e3, e4, e5, e6⟩ := h.celOk key (off + i) (by rw [hi'.1]; exact f1) (by rw [hi'.1]; exact f2)
    rw [hb] at e3; cases e3
    have e7 : Obj.cells v el (0, 0) = Obj.cells v2 el2 (0, 0) := Option.some.inj (e2.symm.trans e4)
    cases e7
    rw [hi'.1] at e6
    exact ⟨x, e5, e6⟩
  have build : ∀ (m k : Nat) (es : List D), es.length = m → k + m = n → (∀ i, i < m → es.getD i .top = ds.getD (k + i) .top) →
      ∃ vs, vs.length = m ∧ (∀ i, i < m → v[off + (k + i)]? = vs[i]?) ∧ RepL (vw g μ S0 w) es vs := by
    intro m
    induction m with
    | zero =>
      intro k es he _ _
      have : es = [] := List.eq_nil_of_length_eq_zero he
      subst this
      exact ⟨[], rfl, fun i hi => by omega, by simp [RepL]⟩
    | succ m ih =>
      intro k es he hk heq
      cases es with
      | nil => simp at he
      | cons e es =>
        obtain ⟨x, hx1, hx2⟩ := key' k (by omega)
        have he0 := heq 0 (by omega)
        simp at he0
        obtain ⟨vs, g1, g2, g3⟩ := ih (k + 1) es (by simpa using he) (by omega) (fun i hi => by
          have := heq (i + 1) (by omega)
          simp only [List.getD_cons_succ] at this
          rw [this]; congr 1; omega)
        refine ⟨x :: vs, by simp [g1], fun i hi => ?_, ?_⟩
        · cases i with
          | zero => simpa using hx1
          | succ i =>
            rw [List.getElem?_cons_succ, ← g2 i (by omega)]
            congr 1; omega
        · simp only [RepL]
          refine ⟨x, vs, rfl, ?_, g3⟩
          simp only [List.getD_eq_getElem?_getD] at hx2 ⊢
          rw [he0]; exact hx2
  obtain ⟨vs, g1, g2, g3⟩ := build n 0 ds hn (by omega) (fun i _ => by simp)
  exact ⟨vs, ⟨v, el, (0, 0), e2, fun i hi => by rw [g1] at hi; have := g2 i hi; simpa using this⟩, g3⟩

end
end Go.QA

namespace Go.QA
open Go Go.RowKit

theorem recD_length (r : Rec) : ∀ (sch : List Sc) (a b c : Nat), (recD r sch a b c).length = sch.length
  | [], _, _, _ => rfl
  | .int _ :: t, a, b, c => by simp [recD, recD_length r t]
  | .bool :: t, a, b, c => by simp [recD, recD_length r t]
  | .str :: t, a, b, c => by simp [recD, recD_length r t]

theorem recD_rep (V : Vw) (r : Rec) : ∀ (sch : List Sc) (a b c : Nat), RepL V (recD r sch a b c) ((recD r sch a b c).map scV)
  | [], _, _, _ => by simp [recD, RepL]
  | .int _ :: t, a, b, c => by simp only [recD, List.map_cons, RepL]; exact ⟨_, _, rfl, by simp [Rep, scV], recD_rep V r t _ _ _⟩
  | .bool :: t, a, b, c => by simp only [recD, List.map_cons, RepL]; exact ⟨_, _, rfl, by simp [Rep, scV], recD_rep V r t _ _ _⟩
  | .str :: t, a, b, c => by simp only [recD, List.map_cons, RepL]; exact ⟨_, _, rfl, by simp [Rep, scV], recD_rep V r t _ _ _⟩

theorem flatMap_at {α β : Type} (f : α → List β) (e : Nat) (hf : ∀ x, (f x).length = e) : ∀ (l : List α) (i j : Nat), j < e → i < l.length →
    (l.flatMap f)[i * e + j]? = (l[i]?).bind fun x => (f x)[j]?
  | [], i, j, _, h => by simp at h
  | x :: l, 0, j, hj, _ => by
    simp only [List.flatMap_cons, Nat.zero_mul, Nat.zero_add, List.getElem?_cons_zero, Option.bind_some]
    rw [List.getElem?_append_left (by rw [hf]; exact hj)]
  | x :: l, i + 1, j, hj, h => by
    simp only [List.flatMap_cons, List.getElem?_cons_succ]
    rw [List.getElem?_append_right (by rw [hf, Nat.succ_mul]; omega), hf, ← flatMap_at f e hf l i j hj (by simpa using h)]
    congr 1
    rw [Nat.succ_mul]; omega

theorem flatMap_length {α β : Type} (f : α → List β) (e : Nat) (hf : ∀ x, (f x).length = e) : ∀ (l : List α), (l.flatMap f).length = l.length * e
  | [] => by simp
  | x :: l => by rw [List.flatMap_cons, List.length_append, hf, flatMap_length f e hf l, List.length_cons, Nat.succ_mul]; omega

theorem Con.vals_length (c : Con) : c.vals.length = c.len * c.esz := by
  cases c with
  | ints k l => simp [Con.vals, Con.len, Con.esz]
  | strs l => simp [Con.vals, Con.len, Con.esz]
  | recs sch l => simp only [Con.vals, Con.len, Con.esz]; exact flatMap_length _ _ (fun r => by simp [recD_length]) l

theorem Con.at_length (c : Con) (i : Nat) : (c.at i).length = c.esz := by
  cases c <;> simp [Con.at, Con.esz, recD_length]

theorem Con.at_rep (V : Vw) (c : Con) (i : Nat) : RepL V (c.at i) ((c.at i).map scV) := by
  cases c with
  | ints k l => simp [Con.at, RepL, Rep, scV]
  | strs l => simp [Con.at, RepL, Rep, scV]
  | recs sch l => exact recD_rep V _ _ _ _ _

theorem Con.vals_at (c : Con) (i j : Nat) (hi : i < c.len) (hj : j < c.esz) : c.vals[i * c.esz + j]? = ((c.at i).map scV)[j]? := by
  cases c with
  | ints k l =>
    simp only [Con.len, Con.esz] at hi hj
    have : j = 0 := by omega
    subst this
    simp [Con.vals, Con.esz, Con.at, scV, hi, List.getD_eq_getElem?_getD]
  | strs l =>
    simp only [Con.len, Con.esz] at hi hj
    have : j = 0 := by omega
    subst this
    simp [Con.vals, Con.esz, Con.at, scV, hi, List.getD_eq_getElem?_getD]
  | recs sch l =>
    simp only [Con.len, Con.esz] at hi hj
    simp only [Con.vals, Con.esz, Con.at]
    rw [flatMap_at _ sch.length (fun r => by simp [recD_length]) l i j hj hi]
    simp [hi, List.getD_eq_getElem?_getD]

theorem cellsAt.elem {w : World} {b off : Nat} {c : Con} (h : cellsAt w b off c.vals) {i : Nat} (hi : i < c.len) : cellsAt w b (off + i * c.esz) ((c.at i).map scV) := by
  obtain ⟨v, e, fr, h1, h2⟩ := h
  refine ⟨v, e, fr, h1, fun j hj => ?_⟩
  have hj' : j < c.esz := by simpa [Con.at_length] using hj
  have hlt : i * c.esz + j < c.vals.length := by
    rw [Con.vals_length]
    have : (i + 1) * c.esz ≤ c.len * c.esz := Nat.mul_le_mul_right _ hi
    rw [Nat.succ_mul] at this; omega
  rw [← Con.vals_at c i j hi hj', ← h2 _ hlt, Nat.add_assoc]

section
variable {C : Cfg} {AC : FuncId → List D → D → Prop} {o : Oper} {B : Nat} {S0 : Nat → Prop} {g : Var → D} {μ : Nat → Option Nat} {a : Act} {w : World} {up : Up}
  {next : Act → World → Prop} {Q : Exit → Act → World → Prop}

theorem addr_eta (ad : Addr) (h : ad.spot = none) : ad = ⟨ad.block, ad.off, none⟩ := by cases ad; simp_all

/-- A load, whatever it reads. -/
theorem run_pload {t : TypeId} {d : D} {x : Value} {β : Type} {f : D → PT β} {r : β} (hs : Sim B S0 C.n g μ a w) (hx : Rep (vw g μ S0 w) d x) (hl : Leads AC g (pload C t d f) r) :
    ∃ d' v, Leads AC g (f d') r ∧ Rep (vw g μ S0 w) d' v ∧ (Instr.loadAt t x).run C.P w = .ok v w := by
  cases d with
  | ptr cs =>
    simp only [pload] at hl
    simp only [Rep] at hx
    obtain ⟨ad, vs, rfl, h2, h3, h4, h5, h6⟩ := hx
    obtain ⟨d', v, h7, h8, h9⟩ := run_view (r := .top) hl h5 h6
    have h9' : (loadVar t ⟨ad.block, ad.off, none⟩).run C.P w = .ok v w := h9
    rw [addr_eta ad h2]
    exact ⟨d', v, h7, h8, by simp [Instr.loadAt, Instr.sureAddr, h9']⟩
  | own key off =>
    simp only [pload] at hl
    simp only [Rep] at hx
    obtain ⟨_, b, hb, rfl⟩ := hx
    cases hz : sizeD C t with
    | none => simp only [hz, leads_fail] at hl
    | some m =>
      cases m with
      | zero => simp only [hz, leads_fail] at hl
      | succ m =>
        simp only [hz] at hl
        obtain ⟨ds, h1, h2, h3⟩ := leads_pcells hl
        obtain ⟨vs, h4, h5⟩ := hs.cells hb h2 h3 (by omega)
        obtain ⟨d', v, h7, h8, h9⟩ := run_view (r := .top) h1 h4 h5
        exact ⟨d', v, h7, h8, by simp [Instr.loadAt, Instr.sureAddr, h9]⟩
  | oel key i e =>
    simp only [pload, leads_get] at hl
    simp only [Rep] at hx
    obtain ⟨hk, hcon, b, hb, rfl⟩ := hx
    cases hc : g (.c key 0) with
    | con c =>
      simp only [hc, leads_cond, leads_fail, and_false, or_false] at hl
      obtain ⟨he, hl⟩ := hl
      rw [Nat.beq_eq] at he
      obtain ⟨hi, he'⟩ := hcon c hc
      obtain ⟨_, _, h2⟩ := hs.conOk key 0 c hc
      rcases h2 with ⟨h2, _⟩ | ⟨b', v, el, h3, h4, h5⟩
      · simp only [vw] at hb; rw [hb] at h2; cases h2
      · simp only [vw] at hb
        rw [hb] at h3; cases h3
        have hca : cellsAt w b 0 c.vals := ⟨v, el, (0, 0), h4, fun i hi => by rw [Nat.zero_add]; exact h5 i hi⟩
        have := hca.elem hi
        rw [Nat.zero_add] at this
        obtain ⟨d', v', h7, h8, h9⟩ := run_view (r := .top) hl this (Con.at_rep (vw g μ S0 w) c i)
        subst he
        exact ⟨d', v', h7, h8, by simp [Instr.loadAt, Instr.sureAddr, h9]⟩
    | _ => simp only [hc, leads_fail] at hl
  | _ => simp only [pload, leads_fail] at hl

theorem op_load {t : TypeId} {x : Operand} (ho : o.op = .load t x) : OpOk C AC o := by
  intro B S0 g μ a w up hl hs next Q hn
  simp only [aop, ho, leads_pget] at hl
  obtain ⟨d, hd, hl⟩ := hl
  obtain ⟨d', v, h1, h2, h3⟩ := run_pload hs (hs.ev hd) hl
  exact ok_pure (x := v) (by simp [execOp, ho, h3]) hs h2 h1 hn

/-! ### addresses -/

theorem getElem?_toList {α : Type} (a : Array α) (i : Nat) : a.toList[i]? = a[i]? := by simp

theorem op_fieldAddr {s : TypeId} {x : Operand} {i : Nat} (ho : o.op = .fieldAddr s x i) : OpOk C AC o := by
  intro B S0 g μ a w up hl hs next Q hn
  simp only [aop, ho, leads_pget] at hl
  obtain ⟨d, hd, hl⟩ := hl
  have hr := hs.ev hd
  unfold pfieldAddr at hl
  cases hu : C.P.underlying s with
  | none => simp only [hu, leads_fail] at hl
  | some td =>
    cases td with
    | struct fs =>
      simp only [hu, getElem?_toList] at hl
      cases hf : fs[i]? with
      | none => simp only [hf, leads_fail] at hl
      | some f =>
        simp only [hf] at hl
        cases hz : sizeD C f.type with
        | none => simp only [hz, leads_fail] at hl
        | some m =>
          cases m with
          | zero => simp only [hz, leads_fail] at hl
          | succ m =>
            simp only [hz] at hl
            cases d with
            | own key off =>
              simp only at hl
              simp only [Rep] at hr
              obtain ⟨hk, b, hb, hx⟩ := hr
              refine ok_pure (x := .pointer (some ⟨b, off + f.offset, none⟩)) ?_ hs (by simp only [Rep]; exact ⟨hk, b, hb, rfl⟩) hl hn
              simp [execOp, ho, hx, Instr.fieldAt, run_underlying hu, hf, Instr.sureAddr, fieldPlace, run_size hz, Addr.add_lit]
            | ptr cs =>
              simp only at hl
              simp only [Rep] at hr
              obtain ⟨ad, vs, hx, h2, h3, h4, h5, h6⟩ := hr
              rw [addr_eta ad h2] at hx
              refine ok_pure (x := .pointer (some ⟨ad.block, ad.off + f.offset, none⟩)) ?_ hs ?_ hl hn
              · simp [execOp, ho, hx, Instr.fieldAt, run_underlying hu, hf, Instr.sureAddr, fieldPlace, run_size hz, Addr.add_lit]
              · simp only [Rep]
                exact ⟨_, vs.drop f.offset, rfl, rfl, h3, h4, h5.drop _, h6.drop _⟩
            | _ => simp only [leads_fail] at hl
    | _ => simp only [hu, leads_fail] at hl

theorem strsL_at : ∀ {cs : List D} {ls : List (List Str)} {i : Nat}, strsL cs = some ls → i < cs.length → cs[i]? = some (.sl (.strs (ls.getD i [])))
  | [], _, _, _, h => by simp at h
  | d :: r, ls, i, e, h => by
    cases d with
    | sl c =>
      cases c with
      | strs l =>
        simp only [strsL, Option.map_eq_some_iff] at e
        obtain ⟨q, e, rfl⟩ := e
        cases i with
        | zero => simp
        | succ i =>
          simp only [List.getElem?_cons_succ]
          rw [strsL_at e (by simpa using h)]
          simp
      | _ => simp [strsL] at e
    | _ => simp [strsL] at e

theorem op_indexAddr {t : TypeId} {x i : Operand} (ho : o.op = .indexAddr t x i) : OpOk C AC o := by
  intro B S0 g μ a w up hl hs next Q hn
  simp only [aop, ho, leads_pget] at hl
  obtain ⟨d, hd, di, hdi, hl⟩ := hl
  have hr := hs.ev hd
  have hri := hs.ev hdi
  unfold pindexAddr at hl
  cases hu : C.P.underlying t with
  | none => simp only [hu, leads_fail] at hl
  | some td =>
    cases td with
    | slice elem =>
      cases di with
      | int k m =>
        simp only [hu] at hl
        simp only [Rep] at hri
        cases hz : sizeD C elem with
        | none => cases d <;> simp only [hz, leads_fail] at hl
        | some e =>
          cases d with
          | sl c =>
            simp only [hz, leads_cond, leads_br, leads_fail, and_false, or_false, Bool.and_eq_true, decide_eq_true_eq] at hl
            obtain ⟨he, ⟨h0, h1⟩, hl⟩ := hl
            rw [Nat.beq_eq] at he; subst he
            simp only [Rep] at hr
            obtain ⟨ao, cap, hx, hcap, hr⟩ := hr
            rcases hr with ⟨_, hr⟩ | ⟨ad, rfl, h2, h3, h4, h5⟩
            · omega
            · rw [addr_eta ad h2] at hx
              have hi : m.toNat < c.len := by omega
              refine ok_pure (x := .pointer (some ⟨ad.block, ad.off + m.toNat * c.esz, none⟩)) ?_ hs ?_ hl hn
              · simp [execOp, ho, hx, hri, Instr.indexAt, asIntOf, run_underlying hu, h0, h1, run_size hz, Addr.add_lit]
              · simp only [Rep]
                exact ⟨_, _, rfl, rfl, h3, h4, h5.elem hi, Con.at_rep _ _ _⟩
          | osl key l e' =>
            simp only [hz, leads_cond, leads_br, leads_fail, and_false, or_false, Bool.and_eq_true, decide_eq_true_eq] at hl
            obtain ⟨he, ⟨h0, h1⟩, hl⟩ := hl
            rw [Nat.beq_eq] at he; subst he
            simp only [Rep] at hr
            obtain ⟨hk, hcon, hr⟩ := hr
            rcases hr with ⟨hz0, _⟩ | ⟨b, cap, hb, hx, hcap, _⟩
            · omega
            · refine ok_pure (x := .pointer (some ⟨b, m.toNat * e, none⟩)) ?_ hs ?_ hl hn
              · simp [execOp, ho, hx, hri, Instr.indexAt, asIntOf, run_underlying hu, h0, h1, run_size hz, Addr.add_lit]
              · simp only [Rep]
                refine ⟨hk, fun c hc => ?_, b, hb, rfl⟩
                have := hcon c hc
                exact ⟨by omega, this.2⟩
          | sls cs =>
            simp only [hz, leads_cond, leads_fail, and_false, or_false] at hl
            obtain ⟨he, hl⟩ := hl
            rw [Nat.beq_eq] at he; subst he
            cases hsl : strsL cs with
            | none => simp only [hsl, leads_fail] at hl
            | some ls =>
              simp only [hsl, leads_br, leads_fail, and_false, or_false, Bool.and_eq_true, decide_eq_true_eq] at hl
              obtain ⟨⟨h0, h1⟩, hl⟩ := hl
              simp only [Rep] at hr
              obtain ⟨ad, cap, vs, hx, hcap, h2, h3, h4, h5, h6⟩ := hr
              rw [addr_eta ad h2] at hx
              have hi : m.toNat < cs.length := by omega
              obtain ⟨v, h7, h8⟩ := h6.at (strsL_at hsl hi)
              refine ok_pure (x := .pointer (some ⟨ad.block, ad.off + m.toNat * 1, none⟩)) ?_ hs ?_ hl hn
              · simp [execOp, ho, hx, hri, Instr.indexAt, asIntOf, run_underlying hu, h0, h1, run_size hz, Addr.add_lit]
              · simp only [Rep]
                refine ⟨_, [v], rfl, rfl, h3, h4, ?_, ?_⟩
                · obtain ⟨c, el, fr, h9, h10⟩ := h5
                  refine ⟨c, el, fr, h9, fun j hj => ?_⟩
                  have hj0 : j = 0 := by simpa using hj
                  subst hj0
                  have hlt : m.toNat < vs.length := (List.getElem?_eq_some_iff.1 h7).1
                  have := h10 m.toNat hlt
                  simp only [Nat.mul_one, Nat.add_zero]
                  rw [this, h7]; rfl
                · simp only [RepL]
                  exact ⟨v, [], rfl, by simpa only [Rep] using h8, rfl⟩
          | _ => simp only [hz, leads_fail] at hl
      | _ => simp only [hu, leads_fail] at hl
    | _ => simp only [hu, leads_fail] at hl

theorem op_index {t : TypeId} {x i : Operand} (ho : o.op = .index t x i) : OpOk C AC o := by
  intro B S0 g μ a w up hl hs next Q hn
  simp only [aop, ho, leads_pget] at hl
  obtain ⟨d, hd, di, hdi, hl⟩ := hl
  have hr := hs.ev hd
  have hri := hs.ev hdi
  unfold pindex at hl
  cases hu : C.P.underlying t with
  | none => simp only [hu, leads_fail] at hl
  | some td =>
    cases td with
    | string =>
      cases d with
      | str s =>
        cases di with
        | int k m =>
          simp only [hu, leads_br, leads_fail, and_false, or_false, Bool.and_eq_true, decide_eq_true_eq] at hl
          obtain ⟨⟨h0, h1⟩, hl⟩ := hl
          simp only [Rep] at hr hri
          have hi : m.toNat < s.length := by omega
          refine ok_pure (x := .int .u8 ((s.getD m.toNat 0).toNat : Int)) ?_ hs (by simp [Rep]) hl hn
          have hget : (ByteArray.mk ⟨s⟩)[m.toNat]? = some (s.getD m.toNat 0) := by
            have hsz : (ByteArray.mk ⟨s⟩).size = s.length := rfl
            rw [getElem?_pos (ByteArray.mk ⟨s⟩) m.toNat (by rw [hsz]; exact hi)]
            congr 1
            show (Array.mk s)[m.toNat] = _
            simp [List.getD_eq_getElem?_getD, hi]
          simp [execOp, ho, hr, hri, Instr.index, asIntOf, run_underlying hu, strV, h0, hget]
        | _ => simp only [hu, leads_fail] at hl
      | _ => simp only [hu, leads_fail] at hl
    | _ => cases d <;> simp only [hu, leads_fail] at hl

theorem op_field {t : TypeId} {x : Operand} {i : Nat} (ho : o.op = .field t x i) : OpOk C AC o := by
  intro B S0 g μ a w up hl hs next Q hn
  simp only [aop, ho, leads_pget] at hl
  obtain ⟨d, hd, hl⟩ := hl
  have hr := hs.ev hd
  unfold pfield at hl
  cases hu : C.P.underlying t with
  | none => simp only [hu, leads_fail] at hl
  | some td =>
    cases td with
    | struct fs =>
      cases d with
      | agg cs =>
        simp only [hu, getElem?_toList] at hl
        cases hf : fs[i]? with
        | none => simp only [hf, leads_fail] at hl
        | some f =>
          simp only [hf] at hl
          cases hz : sizeD C f.type with
          | none => simp only [hz, leads_fail] at hl
          | some m =>
            simp only [hz, leads_cond, leads_fail, and_false, or_false] at hl
            obtain ⟨hle, hl⟩ := hl
            rw [Nat.ble_eq] at hle
            simp only [Rep] at hr
            obtain ⟨vs, hx, hr⟩ := hr
            have hlen := hr.len
            unfold pview at hl
            cases ha : aggD C f.type with
            | none => simp only [ha, leads_fail] at hl
            | some ag =>
              cases ag with
              | true =>
                simp only [ha, hz, leads_cond, leads_fail, and_false, or_false] at hl
                refine ok_pure (x := .agg ⟨(vs.drop f.offset).take m⟩) ?_ hs (by simp only [Rep]; exact ⟨_, rfl, (hr.drop _).take _⟩) hl.2 hn
                simp [execOp, ho, hx, Instr.field, run_underlying hu, hf, asAgg, part, run_agg ha, run_size hz]
              | false =>
                simp only [ha, hz] at hl
                cases hcs : cs.drop f.offset with
                | nil => simp only [hcs, leads_fail] at hl
                | cons d0 ds =>
                  simp only [hcs] at hl
                  have h0 : (cs.drop f.offset)[0]? = some d0 := by rw [hcs]; rfl
                  obtain ⟨v, h1, h2⟩ := (hr.drop f.offset).at h0
                  refine ok_pure (x := v) ?_ hs h2 hl hn
                  have h3 : vs[f.offset]? = some v := by simpa using h1
                  simp [execOp, ho, hx, Instr.field, run_underlying hu, hf, asAgg, part, run_agg ha, h3]
      | _ => simp only [hu, leads_fail] at hl
    | _ => simp only [hu, leads_fail] at hl

end
end Go.QA

namespace Go.QA
open Go Go.RowKit

/-- A value that may lie in a cell is one cell. -/
theorem rep_oneCell {V : Vw} {d : D} {x : Value} (h : Rep V d x) (hc : d.isCell = true) : x.oneCell' = true := by
  cases d <;> simp [D.isCell] at hc <;> simp only [Rep] at h
  · subst h; rfl
  · subst h; rfl
  · subst h; rfl
  · subst h; rfl
  · subst h; rfl
  · obtain ⟨a, cap, rfl, _⟩ := h; rfl
  · obtain ⟨a, vs, rfl, _⟩ := h; rfl
  · obtain ⟨_, b, _, rfl⟩ := h; rfl
  · obtain ⟨_, _, ⟨_, rfl⟩ | ⟨b, cap, _, rfl, _⟩⟩ := h <;> rfl
  · subst h; rfl

/-- A value's cells, as data and in the machine. -/
theorem rep_cells {V : Vw} {d : D} {x : Value} (h : Rep V d x) (hc : d.cells.all D.isCell = true) :
    RepL V d.cells x.cells.toList := by
  cases d with
  | agg cs => simp only [Rep] at h; obtain ⟨vs, rfl, h⟩ := h; exact h
  | _ =>
    simp only [D.cells, List.all_cons, List.all_nil, Bool.and_true] at hc
    have h1 := rep_oneCell h hc
    have : x.cells = #[x] := by cases x <;> simp [Value.oneCell'] at h1 <;> rfl
    rw [this]
    simp only [D.cells, RepL]
    exact ⟨_, _, rfl, h, rfl⟩

theorem repL_oneCell {V : Vw} : ∀ {ds : List D} {vs : List Value}, RepL V ds vs → ds.all D.isCell = true → ∀ v ∈ vs, v.oneCell' = true
  | [], _, h, _ => by simp only [RepL] at h; subst h; simp
  | d :: ds, _, h, hc => by
    simp only [RepL] at h
    obtain ⟨v, r, rfl, h1, h2⟩ := h
    simp only [List.all_cons, Bool.and_eq_true] at hc
    intro u hu
    cases hu with
    | head => exact rep_oneCell h1 hc.1
    | tail _ hu => exact repL_oneCell h2 hc.2 u hu

section
variable {C : Cfg} {AC : FuncId → List D → D → Prop} {o : Oper} {B : Nat} {S0 : Nat → Prop} {g : Var → D} {μ : Nat → Option Nat} {a : Act} {w : World} {up : Up}
  {next : Act → World → Prop} {Q : Exit → Act → World → Prop}

theorem below_setCell {b off : Nat} {x : Value} (hb : B ≤ b) : Below B w (w.setCell ⟨b, off, none⟩ x) := (Below.refl B w).setCell hb x

/-- Many cells of one's own are written. -/
theorem Sim.stores : ∀ {ds : List D} {vs : List Value} {g : Var → D} {w : World} {key off i b : Nat}, Sim B S0 C.n g μ a w → g (.m key) = .bool true → μ key = some b →
    (∀ j, j < ds.length → (g (.c key (off + i + j))).isCell = true) → RepL (vw g μ S0 w) ds vs → ds.all D.isCell = true →
    ∃ w', (storeCells ⟨b, off, none⟩ vs i).run C.P w = .ok () w' ∧ Sim B S0 C.n (updF g (cellUps key (off + i) ds)) μ a w' ∧ Below B w w'
  | [], _, g, w, key, off, i, b, hs, _, _, _, hr, _ => by
    simp only [RepL] at hr; subst hr
    exact ⟨w, by simp [storeCells], hs, Below.refl _ _⟩
  | d :: ds, _, g, w, key, off, i, b, hs, hm, hb, hold, hr, hc => by
    simp only [RepL] at hr
    obtain ⟨v, r, rfl, h1, h2⟩ := hr
    simp only [List.all_cons, Bool.and_eq_true] at hc
    have h0 := hold 0 (by simp)
    rw [Nat.add_zero] at h0
    obtain ⟨f1, f2⟩ := isCell_ne h0
    obtain ⟨b', e1, e2, ⟨y, e3⟩, e4, e5, e6⟩ := hs.store hm f1 f2 h1 hc.1
    rw [hb] at e1; cases e1
    obtain ⟨w', e7, e8, e9⟩ := Sim.stores (key := key) (off := off) (i := i + 1) (b := b) e5 (by rw [upd_ne _ _ (by simp)]; exact hm) hb (fun j hj => by
      have := hold (j + 1) (by simpa using hj)
      by_cases e : Var.c key (off + i) = Var.c key (off + (i + 1) + j)
      · rw [← e, upd_same]; exact hc.1
      · rw [upd_ne _ _ e, show off + (i + 1) + j = off + i + (j + 1) from by omega]; exact this) (RepL.trans e6 _ _ h2) hc.2
    refine ⟨w', ?_, ?_, (below_setCell e2).trans e9⟩
    · simp only [storeCells, Addr.add_lit, Sem.run_bind, run_store _ _ _ _ _ (rep_oneCell h1 hc.1), e3, e4]
      simpa using e7
    · rw [show off + (i + 1) = off + i + 1 from by omega] at e8
      exact e8

theorem op_store {t : TypeId} {x y : Operand} (ho : o.op = .store t x y) : OpOk C AC o := by
  intro B S0 g μ a w up hl hs next Q hn
  simp only [aop, ho, leads_pget] at hl
  obtain ⟨d, hd, dv, hdv, hl⟩ := hl
  have hr := hs.ev hd
  have hrv := hs.ev hdv
  cases hdst : o.dst with
  | some t' =>
    exfalso
    simp only [hdst] at hl
    cases d with
    | own key off =>
      simp only [pstore] at hl
      cases hz : sizeD C t with
      | none => simp only [hz, leads_fail] at hl
      | some n =>
        simp only [hz, leads_cond, leads_get, leads_fail, and_false, or_false] at hl
        obtain ⟨_, hl⟩ := hl
        cases hm : g (.m key) with
        | bool bb =>
          cases bb with
          | true => simp only [hm] at hl; obtain ⟨_, h, _⟩ := leads_pcells hl; exact leads_fail.1 h
          | false => simp only [hm, leads_fail] at hl
        | _ => simp only [hm, leads_fail] at hl
    | oel key i e =>
      simp only [pstore] at hl
      cases hz : sizeD C t with
      | none => simp only [hz, leads_fail] at hl
      | some n =>
        match n with
        | 0 => simp only [hz, leads_fail] at hl
        | n + 2 => simp only [hz, leads_fail] at hl
        | 1 =>
          simp only [hz, leads_get] at hl
          cases hm : g (.m key) with
          | bool bb =>
            cases bb with
            | true =>
              simp only [hm, leads_get] at hl
              cases hc : g (.c key 0) with
              | con c =>
                simp only [hc, leads_cond, leads_fail, and_false, or_false] at hl
                obtain ⟨_, hl⟩ := hl
                cases c <;> cases dv <;> simp only [Con.setAt, leads_cond, leads_fail, and_false, or_false] at hl
              | _ => simp only [hc, leads_fail] at hl
            | false => simp only [hm, leads_fail] at hl
          | _ => simp only [hm, leads_fail] at hl
    | _ => simp only [pstore, leads_fail] at hl
  | none =>
    simp only [hdst] at hl
    cases d with
    | own key off =>
      simp only [pstore] at hl
      cases hz : sizeD C t with
      | none => simp only [hz, leads_fail] at hl
      | some n =>
        simp only [hz, leads_cond, leads_get, leads_fail, and_false, or_false, Bool.and_eq_true] at hl
        obtain ⟨⟨hsz, hcell⟩, hl⟩ := hl
        rw [Nat.beq_eq] at hsz
        cases hm : g (.m key) with
        | bool bb =>
          cases bb with
          | true =>
            simp only [hm] at hl
            obtain ⟨ds, h1, h2, h3⟩ := leads_pcells hl
            rw [leads_ret] at h1
            subst h1
            simp only [Rep] at hr
            obtain ⟨_, b, hb, hx⟩ := hr
            simp only [vw] at hb
            have hcl := rep_cells hrv hcell
            obtain ⟨w', e1, e2, e3⟩ := Sim.stores (C := C) (key := key) (off := off) (i := 0) (b := b) hs hm hb (fun j hj => by
              have := h3 j (by omega)
              rw [Nat.add_zero, this.1]; exact this.2) hcl hcell
            refine wp_unit (w' := w') ?_ hdst (hn _ _ μ ?_ e3)
            · have hlen : (a.eval y).cells.size = n := by rw [← Array.length_toList, ← hcl.len, hsz]
              simp [execOp, ho, hx, Instr.storeAt, Instr.sureAddr, storeVar, run_size hz, hlen, e1]
            · exact e2
          | false => simp only [hm, leads_fail] at hl
        | _ => simp only [hm, leads_fail] at hl
    | oel key i e =>
      simp only [pstore] at hl
      cases hz : sizeD C t with
      | none => simp only [hz, leads_fail] at hl
      | some n =>
        match n, hz with
        | 0, hz => simp only [hz, leads_fail] at hl
        | n + 2, hz => simp only [hz, leads_fail] at hl
        | 1, hz =>
          simp only [hz, leads_get] at hl
          cases hm : g (.m key) with
          | bool bb =>
            cases bb with
            | true =>
              simp only [hm, leads_get] at hl
              cases hc : g (.c key 0) with
              | con c =>
                simp only [hc, leads_cond, leads_fail, and_false, or_false] at hl
                obtain ⟨he, hl⟩ := hl
                rw [Nat.beq_eq] at he; subst he
                simp only [Rep] at hr
                obtain ⟨_, hcon, b, hb, hx⟩ := hr
                simp only [vw] at hb hcon
                obtain ⟨hi, hesz⟩ := hcon c hc
                rw [Nat.mul_one] at hx
                have fin : ∀ (c' : Con), up = [(.c key 0, .con c')] → c.len = c'.len → c.esz = c'.esz → (a.eval y).oneCell' = true → i < c.vals.length →
                    (∀ (v : Array Value), (∀ j, j < c.vals.length → v[j]? = c.vals[j]?) → c'.vals.length = c.vals.length ∧ ∀ j, j < c'.vals.length → (v.setIfInBounds i (a.eval y))[j]? = c'.vals[j]?) →
                    o.wp C.P a w next Q := by
                  intro c' e1 e2 e3 e4 e5 e6
                  obtain ⟨b', f1, f2, ⟨z, f3⟩, f4, f5, f6⟩ := hs.setCon hm hc e5 e2 e3 (by omega) e6
                  rw [hb] at f1; cases f1
                  subst e1
                  refine wp_unit (w' := w.setCell ⟨b, i, none⟩ (a.eval y)) ?_ hdst (hn _ _ μ f5 (below_setCell f2))
                  have hcs : (a.eval y).cells = #[a.eval y] := by
                    cases hy : a.eval y <;> rw [hy] at e4 <;> first | rfl | simp [Value.oneCell'] at e4
                  have hst := run_store C.P w ⟨b, i, none⟩ (a.eval y) .plain e4
                  rw [f3] at hst
                  simp only [f4] at hst
                  simp [execOp, ho, hx, Instr.storeAt, Instr.sureAddr, storeVar, run_size hz, hcs, storeCells, Addr.add_lit, hst]
                cases c with
                | ints k l =>
                  cases dv with
                  | int k' m =>
                    simp only [Con.setAt, leads_cond, leads_fail, and_false, or_false, decide_eq_true_eq, leads_ret] at hl
                    obtain ⟨rfl, hl⟩ := hl
                    simp only [Rep] at hrv
                    simp only [Con.len] at hi
                    refine fin _ hl (by simp [Con.len]) rfl (by rw [hrv]; rfl) (by simpa [Con.vals] using hi) (fun v hv => ⟨by simp [Con.vals], fun j hj => ?_⟩)
                    have hj' : j < l.length := by simpa [Con.vals] using hj
                    have hvj := hv j (by simpa [Con.vals] using hj')
                    rw [Array.getElem?_setIfInBounds, hrv]
                    by_cases e : i = j
                    · subst e
                      have : i < v.size := by
                        refine getElem?_lt (x := .int k l[i]) ?_
                        rw [hvj]; simp [Con.vals, hi]
                      simp [this, Con.vals, hi]
                    · rw [if_neg e, hvj]; simp [Con.vals, e]
                  | _ => simp only [Con.setAt, leads_fail] at hl
                | strs l =>
                  cases dv with
                  | str s =>
                    simp only [Con.setAt, leads_ret] at hl
                    simp only [Rep] at hrv
                    simp only [Con.len] at hi
                    refine fin _ hl (by simp [Con.len]) rfl (by rw [hrv]; rfl) (by simpa [Con.vals] using hi) (fun v hv => ⟨by simp [Con.vals], fun j hj => ?_⟩)
                    have hj' : j < l.length := by simpa [Con.vals] using hj
                    have hvj := hv j (by simpa [Con.vals] using hj')
                    rw [Array.getElem?_setIfInBounds, hrv]
                    by_cases e : i = j
                    · subst e
                      have : i < v.size := by
                        refine getElem?_lt (x := strV l[i]) ?_
                        rw [hvj]; simp [Con.vals, hi]
                      simp [this, Con.vals, hi]
                    · rw [if_neg e, hvj]; simp [Con.vals, e]
                  | _ => simp only [Con.setAt, leads_fail] at hl
                | recs sch l => cases dv <;> simp only [Con.setAt, leads_fail] at hl
              | _ => simp only [hc, leads_fail] at hl
            | false => simp only [hm, leads_fail] at hl
          | _ => simp only [hm, leads_fail] at hl
    | _ => simp only [pstore, leads_fail] at hl

/-! ### new variables -/

theorem cellUps_c : ∀ (cs : List D) (g : Var → D) (key off k i : Nat), updF g (cellUps key off cs) (.c k i) = if k = key ∧ off ≤ i ∧ i < off + cs.length then cs.getD (i - off) .top else g (.c k i)
  | [], g, key, off, k, i => by
    simp only [cellUps, updF, List.length_nil, Nat.add_zero]
    rw [if_neg (by omega)]
  | d :: cs, g, key, off, k, i => by
    simp only [cellUps, updF]
    rw [cellUps_c cs]
    by_cases e : k = key ∧ off + 1 ≤ i ∧ i < off + 1 + cs.length
    · rw [if_pos e, if_pos (by simp only [List.length_cons]; omega), show i - off = (i - (off + 1)) + 1 from by omega, List.getD_cons_succ]
    · rw [if_neg e]
      by_cases e' : Var.c key off = Var.c k i
      · cases e'; rw [upd_same, if_pos (by simp)]; simp
      · rw [upd_ne _ _ e', if_neg]
        simp only [List.length_cons]
        rintro ⟨rfl, h1, h2⟩
        by_cases e2 : off = i
        · subst e2; exact e' rfl
        · exact e ⟨rfl, by omega, by omega⟩

theorem cellUps_other : ∀ (cs : List D) (g : Var → D) (key off : Nat) (v : Var), (∀ k i, v ≠ .c k i) → updF g (cellUps key off cs) v = g v
  | [], _, _, _, _, _ => rfl
  | d :: cs, g, key, off, v, h => by
    simp only [cellUps, updF]
    rw [cellUps_other cs _ _ _ v h, upd_ne _ _ (Ne.symm (h key off))]

theorem ok_new {t : TypeId} {cs : List D} {vs : List Value} (hs : Sim B S0 C.n g μ a w) (hl : Leads AC g (pnew C o.dst cs) up)
    (hr : RepL (vw g μ S0 w) cs vs) (hrun : (execOp a.eval o).run C.P w = .ok (.value (.pointer (some ⟨w.heap.size, 0, none⟩))) (w.alloc (.cells ⟨vs⟩ t)))
    (hn : ∀ a' w' μ', Sim B S0 C.n (updF g up) μ' a' w' → Below B w w' → next a' w') : o.wp C.P a w next Q := by
  cases hdst : o.dst with
  | none => simp only [hdst, pnew, leads_fail] at hl
  | some tt =>
    simp only [hdst, pnew, leads_cond, leads_get, leads_fail, and_false, or_false, Nat.blt_eq] at hl
    obtain ⟨ht, hcell, hl⟩ := hl
    cases hm : g (.m tt) with
    | top =>
      simp only [hm, leads_ret] at hl
      subst hl
      have hval : ∀ i, i < cs.length → (cs.getD i .top).isCell = true := by
        intro i hi
        rw [List.getD_eq_getElem?_getD, List.getElem?_eq_getElem hi, Option.getD_some]
        exact List.all_eq_true.1 hcell _ (List.getElem_mem hi)
      have hlen := hr.len
      let g' := updF g ((.m tt, .bool true) :: cellUps tt 0 cs)
      have gm : ∀ k, g' (.m k) = if k = tt then .bool true else g (.m k) := by
        intro k
        show updF (upd g (.m tt) (.bool true)) (cellUps tt 0 cs) (.m k) = _
        rw [cellUps_other _ _ _ _ _ (by simp)]
        by_cases e : k = tt
        · subst e; rw [upd_same, if_pos rfl]
        · rw [upd_ne _ _ (by simpa using Ne.symm e), if_neg e]
      have gt : ∀ k, g' (.t k) = g (.t k) := by
        intro k
        show updF (upd g (.m tt) (.bool true)) (cellUps tt 0 cs) (.t k) = _
        rw [cellUps_other _ _ _ _ _ (by simp), upd_ne _ _ (by simp)]
      have gi : ∀ k, g' (.i k) = g (.i k) := by
        intro k
        show updF (upd g (.m tt) (.bool true)) (cellUps tt 0 cs) (.i k) = _
        rw [cellUps_other _ _ _ _ _ (by simp), upd_ne _ _ (by simp)]
      have gc : ∀ k i, g' (.c k i) = if k = tt ∧ 0 ≤ i ∧ i < 0 + cs.length then cs.getD (i - 0) .top else g (.c k i) := by
        intro k i
        show updF (upd g (.m tt) (.bool true)) (cellUps tt 0 cs) (.c k i) = _
        rw [cellUps_c, upd_ne _ _ (by simp)]
      have gct : ∀ i, g' (.c tt i) = if i < cs.length then cs.getD i .top else .top := by
        intro i; rw [gc, hs.cTop hm]
        by_cases e : i < cs.length
        · rw [if_pos (by simp [e]), if_pos e, Nat.sub_zero]
        · rw [if_neg (by simp [e]), if_neg e]
      have hnew := hs.new hm (.cells ⟨vs⟩ t) g' (by rw [gm, if_pos rfl]) (fun k hk => by rw [gm, if_neg hk]) gt (fun k off hk => by rw [gc, if_neg (by simp [hk])]) (fun k _ => gi k)
        (fun off c e => by
          exfalso
          rw [gct] at e
          by_cases e' : off < cs.length
          · rw [if_pos e'] at e
            exact (isCell_ne (hval off e')).2 c e
          · rw [if_neg e'] at e; cases e)
        (fun off e1 _ => by
          rw [gct] at e1 ⊢
          by_cases e' : off < cs.length
          · rw [if_pos e'] at e1 ⊢
            have h0 : cs[off]? = some (cs.getD off .top) := by rw [List.getD_eq_getElem?_getD, List.getElem?_eq_getElem e']; rfl
            obtain ⟨v, h1, h2⟩ := hr.at h0
            exact ⟨⟨vs⟩, t, v, rfl, by simpa using h1, h2⟩
          · rw [if_neg e'] at e1; exact absurd rfl e1)
        (fun e => by rw [gi, hs.iTop hm] at e; exact absurd rfl e)
      refine wp_value hrun ?_
      rw [hdst]
      refine hn _ _ (fun k => if k = tt then some w.heap.size else μ k) ?_ ((Below.refl B w).alloc hs.base _)
      rw [updF_append]
      refine hnew.1.put ht ?_
      simp only [Rep, vw]
      exact ⟨by rw [gm, if_pos rfl]; simp, w.heap.size, by simp, rfl⟩
    | _ => simp only [hm, leads_fail] at hl

theorem op_alloc {t : TypeId} (ho : o.op = .alloc t) : OpOk C AC o := by
  intro B S0 g μ a w up hl hs next Q hn
  simp only [aop, ho] at hl
  cases hz : zeroD C t with
  | none => simp only [hz, leads_fail] at hl
  | some z =>
    simp only [hz] at hl
    unfold zeroD at hz
    cases hi : C.P.info? t with
    | none => simp [hi] at hz
    | some i =>
      cases hv : i.zero with
      | none => simp [hi, hv] at hz
      | some v =>
        simp [hi, hv] at hz
        subst hz
        have hcell : (ofV v).cells.all D.isCell = true := by
          cases hdst : o.dst with
          | none => simp only [hdst, pnew, leads_fail] at hl
          | some tt =>
            simp only [hdst, pnew, leads_cond, leads_fail, and_false, or_false] at hl
            exact hl.2.1
        refine ok_new (t := t) hs hl (rep_cells (ofV_rep _ v) hcell) ?_ hn
        simp [execOp, ho, Instr.alloc, zeroValue, typeInfo, hi, hv, newVar, newRow]

theorem op_box {t : TypeId} {x : Operand} (ho : o.op = .box t x) : OpOk C AC o := by
  intro B S0 g μ a w up hl hs next Q hn
  simp only [aop, ho, leads_pget] at hl
  obtain ⟨d, hd, hl⟩ := hl
  have hcell : d.cells.all D.isCell = true := by
    cases hdst : o.dst with
    | none => simp only [hdst, pnew, leads_fail] at hl
    | some tt =>
      simp only [hdst, pnew, leads_cond, leads_fail, and_false, or_false] at hl
      exact hl.2.1
  refine ok_new (t := t) hs hl (rep_cells (hs.ev hd) hcell) ?_ hn
  simp [execOp, ho, Instr.box, newVar, newRow]

end
end Go.QA

namespace Go.QA
open Go Go.RowKit

theorem run_mapM {α β : Type} (P : Program) (w : World) (f : α → Sem β) (h : α → β) : ∀ (l : List α), (∀ x ∈ l, (f x).run P w = .ok (h x) w) → (l.mapM f).run P w = .ok (l.map h) w
  | [], _ => by simp
  | x :: l, hx => by
    simp only [List.mapM_cons, Sem.run_bind, hx x (by simp), Result.andThen_ok, run_mapM P w f h l (fun y hy => hx y (by simp [hy]))]
    simp

theorem run_amapM {α β : Type} (P : Program) (w : World) (f : α → Sem β) (h : α → β) (l : Array α) (hx : ∀ x ∈ l.toList, (f x).run P w = .ok (h x) w) : (l.mapM f).run P w = .ok (l.map h) w := by
  rw [Array.mapM_eq_mapM_toList, Sem.run_map, run_mapM P w f h _ hx]
  show Result.ok (List.map h l.toList).toArray w = _
  rw [← Array.toList_map, Array.toArray_toList]

theorem fold_set (off : Nat) : ∀ (l : List Value) (k : Nat) (cs : Array Value), off + k + l.length ≤ cs.size →
    ((l.zipIdx k).foldl (fun cs (x : Value × Nat) => cs.setIfInBounds (off + x.2) x.1) cs).toList = cs.toList.take (off + k) ++ l ++ cs.toList.drop (off + k + l.length)
  | [], k, cs, _ => by simp
  | v :: l, k, cs, h => by
    simp only [List.zipIdx_cons, List.foldl_cons]
    simp only [List.length_cons] at h
    rw [fold_set off l (k + 1) _ (by simp; omega)]
    have hlt : off + k < cs.size := by omega
    simp only [Array.toList_setIfInBounds, List.length_cons]
    have hlt' : off + k < cs.toList.length := by simpa using hlt
    have e1 : (cs.toList.set (off + k) v).take (off + (k + 1)) = cs.toList.take (off + k) ++ [v] := by
      rw [show off + (k + 1) = off + k + 1 from by omega, List.take_succ_eq_append_getElem (by simpa using hlt)]
      simp [List.take_set_of_le]
    have e2 : (cs.toList.set (off + k) v).drop (off + (k + 1) + l.length) = cs.toList.drop (off + k + (l.length + 1)) := by
      rw [List.drop_set_of_lt (by omega)]
      congr 1; omega
    rw [e1, e2]
    simp

section
variable {C : Cfg} {AC : FuncId → List D → D → Prop} {o : Oper} {B : Nat} {S0 : Nat → Prop} {g : Var → D} {μ : Nat → Option Nat} {a : Act} {w : World} {up : Up}
  {next : Act → World → Prop} {Q : Exit → Act → World → Prop}

theorem fill_ok {V : Vw} (fs : Array Field) (sz : Field → Nat) (hsz : ∀ f ∈ fs.toList, ∀ n, sizeD C f.type = some n → sz f = n) : ∀ (ps : List (Nat × D)) (is : List Nat) (ds : List D) (vs : List Value) (cs : List D) (us : Array Value) (r : List D),
    ps = is.zip ds → is.length = ds.length → fillD fs.toList ps C cs = some r → RepL V ds vs → RepL V cs us.toList →
    ∃ us', Instr.fill ((fs.map fun f => (f.offset, sz f))[·]?) us (is.zip vs) = some us' ∧ RepL V r us'.toList
  | [], is, ds, vs, cs, us, r, hp, hl, h, hd, hc => by
    simp only [fillD] at h
    cases h
    cases is with
    | nil => exact ⟨us, by simp [Instr.fill], hc⟩
    | cons i is => cases ds <;> simp at hl hp
  | (i, v) :: ps, is, ds, vs, cs, us, r, hp, hl, h, hd, hc => by
    cases is with
    | nil => simp at hp
    | cons i' is =>
      cases ds with
      | nil => simp at hp
      | cons d ds =>
        simp only [List.zip_cons_cons, List.cons.injEq, Prod.mk.injEq] at hp
        obtain ⟨⟨rfl, rfl⟩, hp⟩ := hp
        simp only [RepL] at hd
        obtain ⟨x, vr, rfl, h1, h2⟩ := hd
        simp only [fillD] at h
        cases hf : fs[i]? with
        | none => simp [hf] at h
        | some f =>
          cases hz : sizeD C f.type with
          | none => simp [hf, hz] at h
          | some n =>
            simp only [getElem?_toList, hf, hz, Option.bind_some, Option.map_some] at h
            cases hcnd : (Nat.beq n v.cells.length && Nat.ble (f.offset + n) cs.length && v.cells.all D.isCell) with
            | false => rw [hcnd] at h; simp at h
            | true =>
              rw [hcnd] at h
              simp only [cond_true] at h
              simp only [Bool.and_eq_true, Nat.beq_eq, Nat.ble_eq] at hcnd
              obtain ⟨⟨g1, g2⟩, g3⟩ := hcnd
              have hvc := rep_cells h1 g3
              have hlv := hvc.len
              have hlc := hc.len
              have hfs : f ∈ fs.toList := by
                rw [← getElem?_toList] at hf
                exact List.mem_of_getElem? hf
              have hszf := hsz f hfs n hz
              obtain ⟨us', e1, e2⟩ := fill_ok fs sz hsz ps is ds vr _ (us := (x.cells.toList.zipIdx.foldl (fun cs (y : Value × Nat) => cs.setIfInBounds (f.offset + y.2) y.1) us)) r hp (by simpa using hl) h h2 (by
                rw [fold_set f.offset x.cells.toList 0 us (by simp at hlc hlv ⊢; omega)]
                have := ((hc.take f.offset).append hvc).append (hc.drop (f.offset + n))
                simp only [Nat.add_zero]
                rw [show x.cells.toList.length = n from by omega]
                exact this)
              refine ⟨us', ?_, e2⟩
              simp only [List.zip_cons_cons, Instr.fill]
              have hsize : x.cells.size = n := by rw [← Array.length_toList]; omega
              have hus : us.size = cs.length := by rw [← Array.length_toList]; omega
              have hpl : (fs.map fun f => (f.offset, sz f))[i]? = some (f.offset, n) := by simp [hf, hszf]
              rw [hpl]
              simp only [hsize, ne_eq, not_true_eq_false, decide_false, Bool.false_or, decide_eq_true_eq]
              rw [if_neg (by omega)]
              rw [← e1]
              congr 1
              rw [← Array.foldl_toList, Array.toList_zipIdx]

theorem evL_map {g : Var → D} {μ : Nat → Option Nat} {a : Act} {w : World} (hs : Sim B S0 C.n g μ a w) {ps : List (Nat × Operand)} {ds : List D} (h : EvL g (ps.map (·.2)) ds) :
    RepL (vw g μ S0 w) ds (ps.map fun x => a.eval x.2) := by
  have := hs.evL h
  simpa [List.map_map, Function.comp_def] using this

theorem op_build {t : TypeId} {ps : Array (Nat × Operand)} (ho : o.op = .build t ps) : OpOk C AC o := by
  intro B S0 g μ a w up hl hs next Q hn
  simp only [aop, ho, leads_pparts] at hl
  obtain ⟨ds, hd, hl⟩ := hl
  have hr := evL_map hs hd
  unfold pbuild at hl
  cases hz : zeroD C t with
  | none => simp only [hz, leads_fail] at hl
  | some z =>
    cases z with
    | agg zc =>
      cases hu : C.P.underlying t with
      | none => simp only [hz, hu, leads_fail] at hl
      | some td =>
        cases td with
        | struct fs =>
          simp only [hz, hu, leads_cond, leads_fail, and_false, or_false] at hl
          obtain ⟨hall, hl⟩ := hl
          cases hfd : fillD fs.toList ((ps.toList.map (·.1)).zip ds) C zc with
          | none => simp only [hfd, leads_fail] at hl
          | some r =>
            simp only [hfd] at hl
            unfold zeroD at hz
            cases hi : C.P.info? t with
            | none => simp [hi] at hz
            | some i =>
              cases hv : i.zero with
              | none => simp [hi, hv] at hz
              | some zv =>
                simp [hi, hv] at hz
                have hzr := ofV_rep (vw g μ S0 w) zv
                rw [hz] at hzr
                simp only [Rep] at hzr
                obtain ⟨zvs, rfl, hzr⟩ := hzr
                have hlen : (ps.toList.map (·.1)).length = ds.length := by
                  have := hr.len
                  simp at this ⊢; omega
                obtain ⟨us', e1, e2⟩ := fill_ok (C := C) fs (fun f => (sizeD C f.type).getD 0) (fun f _ n hn => by simp [hn]) _ (ps.toList.map (·.1)) ds _ zc ⟨zvs⟩ r rfl hlen hfd hr hzr
                refine ok_pure (x := .agg us') ?_ hs (by simp only [Rep]; exact ⟨us'.toList, rfl, e2⟩) hl hn
                have hm : (fs.mapM (m := Sem) fun f => do pure (f.offset, ← sizeOf f.type)).run C.P w = .ok (fs.map fun f => (f.offset, (sizeD C f.type).getD 0)) w := by
                  refine run_amapM C.P w _ _ fs (fun f hf => ?_)
                  have := List.all_eq_true.1 hall f hf
                  cases hsz : sizeD C f.type with
                  | none => simp [hsz] at this
                  | some n => simp [run_size hsz]
                have hzip : (ps.map fun x => (x.1, a.eval x.2)).toList = (ps.toList.map (·.1)).zip (ps.toList.map fun x => a.eval x.2) := by
                  rw [Array.toList_map]
                  induction ps.toList with
                  | nil => rfl
                  | cons p r ih => simp [ih]
                simp only [execOp, ho, Instr.build, Sem.run_bind, zeroValue, typeInfo, run_program, hi, Result.andThen_ok, Sem.run_pure, hv, run_underlying hu, hm, Value.cells]
                rw [hzip, e1]
                rfl
        | _ => simp only [hz, hu, leads_fail] at hl
    | _ => simp only [hz, leads_fail] at hl

end
end Go.QA

namespace Go.QA
open Go Go.RowKit

section
variable {C : Cfg} {AC : FuncId → List D → D → Prop} {o : Oper} {B : Nat} {S0 : Nat → Prop} {g : Var → D} {μ : Nat → Option Nat} {a : Act} {w : World} {up : Up}
  {next : Act → World → Prop} {Q : Exit → Act → World → Prop}

/-! ### a list's content out of its elements -/

theorem leads_mkRec {β : Type} {x : β} : ∀ (sch : List Sc) (ds : List D) (a : List Int) (b : List Bool) (c : List Str) (f : Rec → PT β), Leads AC g (mkRec sch ds a b c f) x →
    ∃ r i' b' s', Leads AC g (f r) x ∧ r = ⟨a ++ i', b ++ b', c ++ s'⟩ ∧ recD r sch a.length b.length c.length = ds
  | [], [], a, b, c, f, h => ⟨⟨a, b, c⟩, [], [], [], h, by simp, rfl⟩
  | [], _ :: _, _, _, _, _, h => by simp only [mkRec, leads_fail] at h
  | .int k' :: t, ds, a, b, c, f, h => by
    cases ds with
    | nil => simp only [mkRec, leads_fail] at h
    | cons d ds =>
      cases d with
      | int k n =>
        simp only [mkRec, leads_cond, leads_fail, and_false, or_false, decide_eq_true_eq] at h
        obtain ⟨rfl, h⟩ := h
        obtain ⟨r, i', b', s', h1, h2, h3⟩ := leads_mkRec t ds (a ++ [n]) b c f h
        refine ⟨r, n :: i', b', s', h1, by simpa using h2, ?_⟩
        simp only [recD]
        rw [List.length_append] at h3
        rw [show a.length + [n].length = a.length + 1 from rfl] at h3
        rw [h3]
        have : r.gi a.length = n := by subst h2; simp [Rec.gi, List.getD_eq_getElem?_getD]
        rw [this]
      | _ => simp only [mkRec, leads_fail] at h
  | .bool :: t, ds, a, b, c, f, h => by
    cases ds with
    | nil => simp only [mkRec, leads_fail] at h
    | cons d ds =>
      cases d with
      | bool n =>
        simp only [mkRec] at h
        obtain ⟨r, i', b', s', h1, h2, h3⟩ := leads_mkRec t ds a (b ++ [n]) c f h
        refine ⟨r, i', n :: b', s', h1, by simpa using h2, ?_⟩
        simp only [recD]
        rw [List.length_append] at h3
        rw [show b.length + [n].length = b.length + 1 from rfl] at h3
        rw [h3]
        have : r.gb b.length = n := by subst h2; simp [Rec.gb, List.getD_eq_getElem?_getD]
        rw [this]
      | _ => simp only [mkRec, leads_fail] at h
  | .str :: t, ds, a, b, c, f, h => by
    cases ds with
    | nil => simp only [mkRec, leads_fail] at h
    | cons d ds =>
      cases d with
      | str n =>
        simp only [mkRec] at h
        obtain ⟨r, i', b', s', h1, h2, h3⟩ := leads_mkRec t ds a b (c ++ [n]) f h
        refine ⟨r, i', b', n :: s', h1, by simpa using h2, ?_⟩
        simp only [recD]
        rw [List.length_append] at h3
        rw [show c.length + [n].length = c.length + 1 from rfl] at h3
        rw [h3]
        have : r.gs c.length = n := by subst h2; simp [Rec.gs, List.getD_eq_getElem?_getD]
        rw [this]
      | _ => simp only [mkRec, leads_fail] at h

theorem leads_pints {k : IntKind} {β : Type} {x : β} : ∀ (ds : List D) (f : List Int → PT β), Leads AC g (pints k ds f) x → ∃ l, Leads AC g (f l) x ∧ ds = l.map (.int k)
  | [], f, h => ⟨[], h, rfl⟩
  | d :: ds, f, h => by
    cases d with
    | int k' n =>
      simp only [pints, leads_cond, leads_fail, and_false, or_false, decide_eq_true_eq] at h
      obtain ⟨rfl, h⟩ := h
      obtain ⟨l, h1, h2⟩ := leads_pints ds _ h
      exact ⟨n :: l, h1, by simp [h2]⟩
    | _ => simp only [pints, leads_fail] at h

theorem leads_pstrs {β : Type} {x : β} : ∀ (ds : List D) (f : List Str → PT β), Leads AC g (pstrs ds f) x → ∃ l, Leads AC g (f l) x ∧ ds = l.map .str
  | [], f, h => ⟨[], h, rfl⟩
  | d :: ds, f, h => by
    cases d with
    | str s =>
      simp only [pstrs] at h
      obtain ⟨l, h1, h2⟩ := leads_pstrs ds _ h
      exact ⟨s :: l, h1, by simp [h2]⟩
    | _ => simp only [pstrs, leads_fail] at h

theorem leads_precs {sch : List Sc} {β : Type} {x : β} : ∀ (ds : List D) (f : List Rec → PT β), Leads AC g (precs sch ds f) x → ∃ l : List Rec, Leads AC g (f l) x ∧ ds.map D.cells = l.map fun r => recD r sch 0 0 0
  | [], f, h => ⟨[], h, rfl⟩
  | d :: ds, f, h => by
    simp only [precs] at h
    obtain ⟨r, i', b', s', h1, _, h3⟩ := leads_mkRec sch d.cells [] [] [] _ h
    obtain ⟨l, h4, h5⟩ := leads_precs ds _ h1
    exact ⟨r :: l, h4, by simp only [List.map_cons, h5, ← h3]; rfl⟩

theorem recD_cells (r : Rec) : ∀ (sch : List Sc) (a b c : Nat), (recD r sch a b c).all D.isCell = true
  | [], _, _, _ => rfl
  | .int _ :: t, a, b, c => by simp [recD, D.isCell, recD_cells r t]
  | .bool :: t, a, b, c => by simp [recD, D.isCell, recD_cells r t]
  | .str :: t, a, b, c => by simp [recD, D.isCell, recD_cells r t]

theorem recD_vals {V : Vw} (r : Rec) : ∀ (sch : List Sc) (a b c : Nat) (vs : List Value), RepL V (recD r sch a b c) vs → vs = (recD r sch a b c).map scV
  | [], _, _, _, vs, h => by simpa [recD, RepL] using h
  | .int _ :: t, a, b, c, vs, h => by
    simp only [recD, RepL, Rep] at h
    obtain ⟨v, q, rfl, rfl, h⟩ := h
    simp only [recD, List.map_cons, scV]; rw [recD_vals r t _ _ _ q h]
  | .bool :: t, a, b, c, vs, h => by
    simp only [recD, RepL, Rep] at h
    obtain ⟨v, q, rfl, rfl, h⟩ := h
    simp only [recD, List.map_cons, scV]; rw [recD_vals r t _ _ _ q h]
  | .str :: t, a, b, c, vs, h => by
    simp only [recD, RepL, Rep] at h
    obtain ⟨v, q, rfl, rfl, h⟩ := h
    simp only [recD, List.map_cons, scV]; rw [recD_vals r t _ _ _ q h]

/-- The cells of what a list is made of. -/
def flatV (vs : List Value) : List Value := vs.flatMap fun v => v.cells.toList

theorem leads_pcon {elem : TypeId} {ds : List D} {f : Con → PT Up} (h : Leads AC g (pcon C elem ds f) up) :
    ∃ c, Leads AC g (f c) up ∧ c.len = ds.length ∧ ∀ {V : Vw} {vs : List Value}, RepL V ds vs → flatV vs = c.vals ∧ ∀ v ∈ vs, v.cells.size = c.esz := by
  unfold pcon at h
  cases hu : C.P.underlying elem with
  | none => simp only [hu, leads_fail] at h
  | some td =>
    cases td with
    | int k =>
      simp only [hu] at h
      obtain ⟨l, h1, rfl⟩ := leads_pints _ _ h
      refine ⟨_, h1, by simp [Con.len], ?_⟩
      clear h h1
      intro V vs hr
      induction l generalizing vs with
      | nil => simp only [List.map_nil, RepL] at hr; subst hr; simp [flatV, Con.vals]
      | cons n l ih =>
        simp only [List.map_cons, RepL, Rep] at hr
        obtain ⟨v, q, rfl, rfl, hr⟩ := hr
        obtain ⟨e1, e2⟩ := ih hr
        refine ⟨by simp only [flatV, List.flatMap_cons, Con.vals, List.map_cons] at e1 ⊢; rw [e1]; rfl, ?_⟩
        intro v hv
        cases hv with
        | head => rfl
        | tail _ hv => exact e2 v hv
    | string =>
      simp only [hu] at h
      obtain ⟨l, h1, rfl⟩ := leads_pstrs _ _ h
      refine ⟨_, h1, by simp [Con.len], ?_⟩
      clear h h1
      intro V vs hr
      induction l generalizing vs with
      | nil => simp only [List.map_nil, RepL] at hr; subst hr; simp [flatV, Con.vals]
      | cons n l ih =>
        simp only [List.map_cons, RepL, Rep] at hr
        obtain ⟨v, q, rfl, rfl, hr⟩ := hr
        obtain ⟨e1, e2⟩ := ih hr
        refine ⟨by simp only [flatV, List.flatMap_cons, Con.vals, List.map_cons] at e1 ⊢; rw [e1]; rfl, ?_⟩
        intro v hv
        cases hv with
        | head => rfl
        | tail _ hv => exact e2 v hv
    | struct fs =>
      simp only [hu] at h
      cases hsch : schOf C elem with
      | none => simp only [hsch, leads_fail] at h
      | some sch =>
        simp only [hsch] at h
        obtain ⟨l, h1, h2⟩ := leads_precs _ _ h
        refine ⟨_, h1, by have := congrArg List.length h2; simpa [Con.len] using this.symm, ?_⟩
        clear h h1
        intro V vs hr
        induction l generalizing ds vs with
        | nil =>
          have : ds = [] := by simpa using h2
          subst this
          simp only [RepL] at hr; subst hr; simp [flatV, Con.vals]
        | cons r l ih =>
          cases ds with
          | nil => simp at h2
          | cons d ds =>
            simp only [List.map_cons, List.cons.injEq] at h2
            simp only [RepL] at hr
            obtain ⟨v, q, rfl, hr1, hr2⟩ := hr
            obtain ⟨e1, e2⟩ := ih h2.2 hr2
            have hc := rep_cells hr1 (by rw [h2.1]; exact recD_cells _ _ _ _ _)
            rw [h2.1] at hc
            have hv := recD_vals _ _ _ _ _ _ hc
            refine ⟨by simp only [flatV, List.flatMap_cons, Con.vals] at e1 ⊢; rw [e1, hv], ?_⟩
            intro u hu
            cases hu with
            | head => rw [← Array.length_toList, hv]; simp [recD_length, Con.esz]
            | tail _ hu => exact e2 u hu
    | _ => simp only [hu, leads_fail] at h

/-- Filling a row, element by element. -/
theorem fill_seq (e : Nat) : ∀ (vs : List Value) (k : Nat) (cs : Array Value), (∀ v ∈ vs, v.cells.size = e) → (k + vs.length) * e ≤ cs.size →
    ∃ us, Instr.fill (fun i => some (i * e, e)) cs ((List.range' k vs.length).zip vs) = some us ∧ us.toList = cs.toList.take (k * e) ++ flatV vs ++ cs.toList.drop ((k + vs.length) * e)
  | [], k, cs, _, _ => ⟨cs, by simp [Instr.fill], by simp [flatV]⟩
  | v :: vs, k, cs, hv, hsz => by
    have h0 := hv v (by simp)
    simp only [List.length_cons] at hsz
    have hk : (k + 1) * e ≤ cs.size := by
      refine Nat.le_trans (Nat.mul_le_mul_right e ?_) hsz
      omega
    have hk' : k * e + e ≤ cs.size := by rw [Nat.succ_mul] at hk; exact hk
    have hfs := fold_set (k * e) v.cells.toList 0 cs (by simp; omega)
    simp only [Nat.add_zero, Array.length_toList, h0] at hfs
    obtain ⟨us, e1, e2⟩ := fill_seq e vs (k + 1) (v.cells.toList.zipIdx.foldl (fun cs (x : Value × Nat) => cs.setIfInBounds (k * e + x.2) x.1) cs) (fun u hu => hv u (by simp [hu])) (by
      have hlen' : (v.cells.toList.zipIdx.foldl (fun cs (x : Value × Nat) => cs.setIfInBounds (k * e + x.2) x.1) cs).size = cs.size := by
        rw [← Array.length_toList, hfs]
        simp only [List.length_append, List.length_take, List.length_drop, Array.length_toList, h0]
        omega
      rw [hlen', show k + 1 + vs.length = k + (vs.length + 1) from by omega]
      exact hsz)
    refine ⟨us, ?_, ?_⟩
    · simp only [List.length_cons, List.range'_succ, List.zip_cons_cons, Instr.fill, h0, ne_eq, not_true_eq_false, decide_false, Bool.false_or, decide_eq_true_eq]
      rw [if_neg (by omega), ← e1]
      congr 1
      rw [← Array.foldl_toList, Array.toList_zipIdx]
    · rw [e2, hfs]
      have l1 : (cs.toList.take (k * e)).length = k * e := by simp; omega
      have l2 : v.cells.toList.length = e := by simpa using h0
      have l3 : (cs.toList.take (k * e) ++ v.cells.toList).length = (k + 1) * e := by rw [List.length_append, l1, l2, Nat.succ_mul]
      rw [List.take_left' l3]
      have q1 : (k + 1 + vs.length) * e = k * e + e + vs.length * e := by rw [Nat.add_mul, Nat.succ_mul]
      have q2 : (k + (vs.length + 1)) * e = k * e + e + vs.length * e := by rw [Nat.add_mul, Nat.succ_mul]; omega
      have q3 : (k + 1) * e = k * e + e := Nat.succ_mul _ _
      have hA : (cs.toList.take (k * e) ++ v.cells.toList ++ cs.toList.drop (k * e + e)).drop ((k + 1 + vs.length) * e) = cs.toList.drop ((k + (vs.length + 1)) * e) := by
        rw [List.drop_append, List.drop_eq_nil_of_le (by rw [l3, q1, q3]; omega), List.nil_append, List.drop_drop, l3, q1, q2, q3]
        congr 1; omega
      rw [hA]
      simp [flatV]

theorem inOrder_range : ∀ (ps : List (Nat × Operand)) (k : Nat), inOrder k ps = true → ps.map (·.1) = List.range' k ps.length
  | [], k, _ => rfl
  | (i, x) :: ps, k, h => by
    simp only [inOrder, Bool.and_eq_true, Nat.beq_eq] at h
    simp only [List.map_cons, List.length_cons, List.range'_succ]
    rw [inOrder_range ps (k + 1) h.2, h.1]

/-- A new list, one's own or not. -/
theorem ok_newList {c : Con} {w' : World} {ty : TypeId} {cap : Nat} {v : Array Value} (hs : Sim B S0 C.n g μ a w) (hl : Leads AC g (pnewList C o.dst c) up) (hG : Grow w w') (hB : Below B w w')
    (hrun : (execOp a.eval o).run C.P w = .ok (.value (.slice (some ⟨w'.heap.size, 0, none⟩) c.len cap)) (w'.alloc (.cells v ty)))
    (hcap : c.len ≤ cap) (hsz : cap * c.esz ≤ v.size) (hv : ∀ i, i < c.vals.length → v[i]? = c.vals[i]?)
    (hn : ∀ a' w' μ', Sim B S0 C.n (updF g up) μ' a' w' → Below B w w' → next a' w') : o.wp C.P a w next Q := by
  have hs' := hs.grow hG
  cases hdst : o.dst with
  | none => simp only [hdst, pnewList, leads_fail] at hl
  | some t =>
    simp only [hdst, pnewList, leads_cond, leads_get, leads_fail, and_false, or_false, Nat.blt_eq, leads_ret] at hl
    obtain ⟨ht, hl⟩ := hl
    have hB' : Below B w (w'.alloc (.cells v ty)) := hB.alloc hs'.base _
    rcases hl with ⟨_, hl⟩ | ⟨_, rfl⟩
    · cases hm : g (.m t) with
      | top =>
        simp only [hm, leads_ret] at hl
        subst hl
        have hnew := hs'.new hm (.cells v ty) (updF g [(.m t, .bool true), (.c t 0, .con c)]) (by simp only [updF]; rw [upd_ne _ _ (by simp), upd_same])
          (fun k hk => by simp only [updF]; rw [upd_ne _ _ (by simp), upd_ne _ _ (by simpa using Ne.symm hk)])
          (fun i => by simp only [updF]; rw [upd_ne _ _ (by simp), upd_ne _ _ (by simp)])
          (fun k off hk => by simp only [updF]; rw [upd_ne _ _ (by rintro ⟨⟩; exact hk rfl), upd_ne _ _ (by simp)])
          (fun k _ => by simp only [updF]; rw [upd_ne _ _ (by simp), upd_ne _ _ (by simp)])
          (fun off c' e => by
            simp only [updF] at e
            by_cases e' : off = 0
            · subst e'; rw [upd_same] at e; cases e
              refine ⟨rfl, fun o ho => ?_, v, ty, rfl, hv⟩
              simp only [updF]
              rw [upd_ne _ _ (by rintro ⟨⟩; exact ho rfl), upd_ne _ _ (by simp)]; exact hs'.cTop hm o
            · rw [upd_ne _ _ (by rintro ⟨⟩; exact e' rfl), upd_ne _ _ (by simp), hs'.cTop hm] at e; cases e)
          (fun off e1 e2 => by
            simp only [updF] at e1 e2
            by_cases e' : off = 0
            · subst e'; rw [upd_same] at e2; exact absurd rfl (e2 c)
            · rw [upd_ne _ _ (by rintro ⟨⟩; exact e' rfl), upd_ne _ _ (by simp), hs'.cTop hm] at e1; exact absurd rfl e1)
          (fun e => by
            simp only [updF] at e
            rw [upd_ne _ _ (by simp), upd_ne _ _ (by simp), hs'.iTop hm] at e; exact absurd rfl e)
        refine wp_value hrun ?_
        rw [hdst]
        refine hn _ _ (fun k => if k = t then some w'.heap.size else μ k) ?_ hB'
        show Sim B S0 C.n (updF g ([(.m t, .bool true), (.c t 0, .con c)] ++ [(.t t, .osl t c.len c.esz)])) _ _ _
        rw [updF_append]
        refine hnew.1.put ht ?_
        simp only [Rep, vw, updF]
        refine ⟨by rw [upd_ne _ _ (by simp), upd_same]; simp, fun c' e => by rw [upd_same] at e; cases e; exact ⟨rfl, rfl⟩, .inr ⟨w'.heap.size, cap, by simp, rfl, hcap, v, ty, (0, 0), heap_alloc_new w' _, hsz⟩⟩
      | _ => simp only [hm, leads_fail] at hl
    · refine wp_value hrun ?_
      rw [hdst]
      refine hn _ _ μ ?_ hB'
      refine (hs'.grow (grow_alloc w' _)).put ht ?_
      simp only [Rep]
      refine ⟨_, cap, rfl, hcap, .inr ⟨_, rfl, rfl, by simp [vw], ?_, v, ty, (0, 0), heap_alloc_new w' _, fun i hi => by rw [Nat.zero_add]; exact hv i hi⟩⟩
      simp only [vw, Xof]
      rintro (h1 | ⟨k, h1, h2⟩)
      · have := hs'.s0 _ h1; have := hs'.base; omega
      · have := (hs'.pres k _ (by rw [h1]; simp) h2).2; omega

theorem sls_cells {V : Vw} : ∀ {ds : List D} {vs : List Value}, RepL V ds vs → ds.all D.isSl = true → (∀ v, v ∈ vs → v.cells.size = 1) ∧ flatV vs = vs
  | [], _, h, _ => by simp only [RepL] at h; subst h; exact ⟨by simp, rfl⟩
  | d :: ds, _, h, k => by
    simp only [RepL] at h
    obtain ⟨v, r, rfl, h1, h2⟩ := h
    simp only [List.all_cons, Bool.and_eq_true] at k
    obtain ⟨i1, i2⟩ := sls_cells h2 k.2
    cases d <;> simp only [D.isSl, Bool.false_eq_true, false_and] at k
    simp only [Rep] at h1
    obtain ⟨a, cap, rfl, _⟩ := h1
    refine ⟨?_, ?_⟩
    · intro v hv
      rcases List.mem_cons.1 hv with rfl | hv
      · rfl
      · exact i1 v hv
    · simp only [flatV, List.flatMap_cons] at i2 ⊢
      rw [i2]; rfl

theorem op_buildSlice {t : TypeId} {n : Nat} {ps : Array (Nat × Operand)} (ho : o.op = .buildSlice t n ps) : OpOk C AC o := by
  intro B S0 g μ a w up hl hs next Q hn
  simp only [aop, ho, leads_cond, leads_fail, and_false, or_false, Bool.and_eq_true, Nat.beq_eq] at hl
  obtain ⟨⟨hlen, hord⟩, hl⟩ := hl
  obtain rfl : n = ps.size := by simpa using hlen
  cases hu : C.P.underlying t with
  | none => simp only [hu, leads_fail] at hl
  | some td =>
    cases td with
    | slice elem =>
      simp only [hu] at hl
      cases hi : C.P.info? elem with
      | none => simp only [hi, leads_fail] at hl
      | some i =>
        simp only [hi, leads_cond, leads_fail, and_false, or_false, Bool.and_eq_true, Nat.ble_eq, leads_pgets] at hl
        obtain ⟨⟨hz, hle⟩, hl⟩ := hl
        rcases hl with ⟨⟨_, hone⟩, ds, hd, hl⟩ | ⟨_, ds, hd, hl⟩
        · have hone : i.size = 1 := by simpa using hone
          cases hdst : o.dst with
          | none => simp only [hdst, pnewSls, leads_fail] at hl
          | some q =>
            simp only [hdst, pnewSls, leads_cond, leads_fail, and_false, or_false, Bool.and_eq_true, Nat.blt_eq, leads_ret] at hl
            obtain ⟨⟨hq, hall⟩, rfl⟩ := hl
            have hr := evL_map hs hd
            have hdl := hr.len
            simp only [List.length_map, Array.length_toList] at hdl
            have hsl := sls_cells hr hall
            obtain ⟨z, hzz⟩ := Option.isSome_iff_exists.1 hz
            obtain ⟨us, e1, e2⟩ := fill_seq i.size (ps.toList.map fun x => a.eval x.2) 0 ((Array.range (ps.size * i.size)).map ((if ps.size * i.size = 0 then #[] else z.cells)[· % (if ps.size * i.size = 0 then #[] else z.cells).size]!)) (fun v hv => by rw [hone]; exact (hsl.1 v hv)) (by simp)
            have hzip : (ps.map fun x => (x.1, a.eval x.2)).toList = (List.range' 0 (ps.toList.map fun x => a.eval x.2).length).zip (ps.toList.map fun x => a.eval x.2) := by
              rw [List.length_map, ← inOrder_range ps.toList 0 hord, Array.toList_map]
              generalize ps.toList = l
              induction l with
              | nil => rfl
              | cons p r ih => rw [List.map_cons, ih]; rfl
            have hus : us.toList = ps.toList.map fun x => a.eval x.2 := by
              rw [e2, hsl.2]
              simp only [Nat.zero_mul, List.take_zero, List.nil_append, Nat.zero_add, List.length_map]
              rw [List.drop_eq_nil_of_le (by simp), List.append_nil]
            refine wp_value (x := .slice (some ⟨w.heap.size, 0, none⟩) ps.size ps.size) (w' := w.alloc (.cells us elem)) ?_ ?_
            · simp only [execOp, ho, Instr.buildSlice, Sem.run_bind, run_underlying hu, Result.andThen_ok, sizeOf, typeInfo, run_program, hi, Sem.run_pure]
              rw [if_neg (by omega)]
              by_cases h0 : ps.size * i.size = 0
              · simp only [if_pos h0, Sem.run_bind, Sem.run_pure, Result.andThen_ok] at e1 ⊢
                rw [hzip, e1]
                simp [newRow]
              · simp only [if_neg h0, Sem.run_bind, Sem.run_pure, Result.andThen_ok, zeroValue, typeInfo, run_program, hi, hzz] at e1 ⊢
                rw [hzip, e1]
                simp [newRow]
            · rw [hdst]
              refine hn _ _ μ ?_ ((Below.refl B w).alloc hs.base _)
              refine (hs.grow (grow_alloc w _)).put hq ?_
              simp only [Rep]
              refine ⟨⟨w.heap.size, 0, none⟩, ps.size, ps.toList.map fun x => a.eval x.2, by rw [hdl], by omega, rfl, by simp [vw], ?_, ⟨us, elem, (0, 0), heap_alloc_new w _, fun j hj => by rw [Nat.zero_add, ← hus]; simp⟩, RepL.trans (trans_grow (grow_alloc w _)) _ _ hr⟩
              simp only [vw, Xof]
              rintro (h1 | ⟨k, h1, h2⟩)
              · have := hs.s0 _ h1; have := hs.base; omega
              · have := (hs.pres k _ (by rw [h1]; simp) h2).2; omega
        obtain ⟨c, h1, h2, h3⟩ := leads_pcon hl
        simp only [leads_cond, leads_fail, and_false, or_false, Nat.beq_eq] at h1
        obtain ⟨he, h1⟩ := h1
        have hr := evL_map hs hd
        obtain ⟨h4, h5⟩ := h3 hr
        have hdl := hr.len
        simp only [List.length_map] at hdl
        have hcl : c.len = ps.size := by rw [h2, hdl]; simp
        obtain ⟨z, hzz⟩ := Option.isSome_iff_exists.1 hz
        obtain ⟨us, e1, e2⟩ := fill_seq i.size (ps.toList.map fun x => a.eval x.2) 0 ((Array.range (ps.size * i.size)).map ((if ps.size * i.size = 0 then #[] else z.cells)[· % (if ps.size * i.size = 0 then #[] else z.cells).size]!)) (fun v hv => by rw [he]; exact h5 v hv) (by simp)
        have hzip : (ps.map fun x => (x.1, a.eval x.2)).toList = (List.range' 0 (ps.toList.map fun x => a.eval x.2).length).zip (ps.toList.map fun x => a.eval x.2) := by
          rw [List.length_map, ← inOrder_range ps.toList 0 hord, Array.toList_map]
          generalize ps.toList = l
          induction l with
          | nil => rfl
          | cons p r ih => rw [List.map_cons, ih]; rfl
        have hus : us.toList = c.vals := by
          rw [e2, h4]
          simp only [Nat.zero_mul, List.take_zero, List.nil_append, Nat.zero_add, List.length_map]
          rw [List.drop_eq_nil_of_le (by simp), List.append_nil]
        have hsz : us.size = c.len * c.esz := by rw [← Array.length_toList, hus, Con.vals_length]
        refine ok_newList (w' := w) (ty := elem) (cap := c.len) (v := us) hs h1 (Grow.refl w) (Below.refl _ _) ?_ (Nat.le_refl _) (by omega) (fun j hj => ?_) hn
        · simp only [execOp, ho, Instr.buildSlice, Sem.run_bind, run_underlying hu, Result.andThen_ok, sizeOf, typeInfo, run_program, hi, Sem.run_pure]
          rw [if_neg (by omega)]
          by_cases h0 : ps.size * i.size = 0
          · simp only [if_pos h0, Sem.run_bind, Sem.run_pure, Result.andThen_ok] at e1 ⊢
            rw [hzip, e1]
            simp [newRow, hcl]
          · simp only [if_neg h0, Sem.run_bind, Sem.run_pure, Result.andThen_ok, zeroValue, typeInfo, run_program, hi, hzz] at e1 ⊢
            rw [hzip, e1]
            simp [newRow, hcl]
        · rw [← hus]; simp
    | _ => simp only [hu, leads_fail] at hl

end
end Go.QA
