/- Conversions, pieces, sums and comparisons: what the machine does is what the data's do; no theorem of the program is proved here. -/
import Derived.Test.YtleoffdjdgbanaaDoorQa2
import Derived.Laws.Cover4
import Derived.Laws.IdiomStrings
import Derived.Laws.Strings
import Derived.Laws.RangeString
set_option linter.unusedVariables false
set_option linter.unusedSimpArgs false
namespace Go.QA
open Go Go.RowKit

theorem runesFrom_ints (s : ByteArray) : ∀ (bound i : Nat) (acc : Array Value), (∀ v ∈ acc.toList, ∃ n, v = .int .i32 n) → ∀ v ∈ (Conv.runesFrom s bound i acc).toList, ∃ n, v = .int .i32 n
  | 0, _, acc, h => by simpa [Conv.runesFrom] using h
  | bound + 1, i, acc, h => by
    unfold Conv.runesFrom
    split
    · refine runesFrom_ints s bound _ _ ?_
      intro v hv
      simp at hv
      rcases hv with hv | rfl
      · exact h v (by simpa using hv)
      · exact ⟨_, rfl⟩
    · exact h

theorem runesOf_vals (s : Str) : (runesOf s).map (Value.int .i32) = (Conv.runesFrom ⟨⟨s⟩⟩ s.length 0 #[]).toList := by
  unfold runesOf
  rw [List.map_map]
  have h := runesFrom_ints ⟨⟨s⟩⟩ s.length 0 #[] (by simp)
  generalize (Conv.runesFrom ⟨⟨s⟩⟩ s.length 0 #[]).toList = l at h
  induction l with
  | nil => rfl
  | cons v r ih =>
    obtain ⟨n, rfl⟩ := h v (by simp)
    simp only [List.map_cons, Function.comp, unInt]
    rw [ih (fun u hu => h u (by simp [hu]))]

theorem runesBytes_list (ns : List Int) : (runesBytes ns).data.toList = strOf ns := by
  have key : ∀ (ns : List Int) (s : ByteArray), (ns.foldl (fun r n => r ++ Utf8.encode n) s).data.toList = s.data.toList ++ strOf ns := by
    intro ns
    induction ns with
    | nil => intro s; simp [strOf]
    | cons n ns ih => intro s; rw [List.foldl_cons, ih]; simp [strOf]
  simpa [runesBytes] using key ns ByteArray.empty

theorem byteArray_eta (s : ByteArray) : (⟨⟨s.data.toList⟩⟩ : ByteArray) = s := rfl

theorem strV_runes (ns : List Int) : Value.string (runesBytes ns) = strV (strOf ns) := by
  unfold strV; rw [← runesBytes_list]

section
variable {C : Cfg} {AC : FuncId → List D → D → Prop} {o : Oper} {B : Nat} {S0 : Nat → Prop} {g : Var → D} {μ : Nat → Option Nat} {a : Act} {w : World} {up : Up}
  {next : Act → World → Prop} {Q : Exit → Act → World → Prop}

theorem run_runes_str {w : World} {b off : Nat} {l : List Int} {n cap : Nat} (hc : cellsAt w b off ((Con.ints .i32 l).vals)) (hn : l.length = n) :
    (Conv.runesToString (.slice (some ⟨b, off, none⟩) n cap)).run C.P w = .ok (strV (strOf l)) w := by
  rw [← strV_runes]
  refine run_runesToString w _ n cap l ?_
  have := run_loadCells_list (P := C.P) w ⟨b, off, none⟩ (l.map (.int .i32)) (fun j v hj => hc.load j v hj)
  rw [List.length_map, hn] at this
  rw [this]

theorem op_convert {s t : TypeId} {x : Operand} (ho : o.op = .convert s t x) : OpOk C AC o := by
  intro B S0 g μ a w up hl hs next Q hn
  simp only [aop, ho, leads_pget] at hl
  obtain ⟨d, hd, hl⟩ := hl
  have hr := hs.ev hd
  unfold pconvert at hl
  cases hu : C.P.underlying s with
  | none => simp only [hu, leads_fail] at hl
  | some ts =>
    cases hv : C.P.underlying t with
    | none => cases ts <;> simp only [hu, hv, leads_fail] at hl
    | some tt =>
      cases d with
      | int k n =>
        cases tt with
        | int k' =>
          simp only [hu, hv] at hl
          simp only [Rep] at hr
          refine ok_pure (x := .int k' (k'.wrap n)) ?_ hs (by simp [Rep]) hl hn
          simp [execOp, ho, hr, convert, run_underlying hu, run_underlying hv, Conv.intToInt]
        | string =>
          simp only [hu, hv] at hl
          simp only [Rep] at hr
          refine ok_pure (x := .string (Utf8.encode n)) ?_ hs (by simp [Rep, strV]) hl hn
          simp [execOp, ho, hr, convert, run_underlying hu, run_underlying hv, Conv.intToString]
        | _ => cases ts <;> simp only [hu, hv, leads_fail] at hl
      | str l =>
        cases tt with
        | string =>
          simp only [hu, hv] at hl
          simp only [Rep] at hr
          refine ok_pure (x := strV l) ?_ hs (by simp [Rep]) hl hn
          simp [execOp, ho, hr, convert, run_underlying hu, run_underlying hv, strV]
        | slice e =>
          cases he : C.P.underlying e with
          | none => simp only [hu, hv, he, leads_fail] at hl
          | some te =>
            cases te with
            | int k =>
              cases k with
              | i32 =>
                simp only [hu, hv, he] at hl
                simp only [Rep] at hr
                have hsz : (Conv.runesFrom ⟨⟨l⟩⟩ l.length 0 #[]).size = (runesOf l).length := by simp [runesOf]
                have hge : (runesOf l).length ≤ grownCap w (runesOf l).length 0 e := grownCap_ge _ _ _ _
                refine ok_newList (w' := w.drew) (ty := e) (cap := grownCap w (runesOf l).length 0 e) (v := Conv.runesFrom ⟨⟨l⟩⟩ l.length 0 #[] ++ Array.replicate (grownCap w (runesOf l).length 0 e - (runesOf l).length) (.int .i32 0)) hs hl (grow_drew w) ((Below.refl B w).drew) ?_ hge ?_ ?_ hn
                · have hsl : (ByteArray.mk ⟨l⟩).size = l.length := rfl
                  simp [execOp, ho, hr, convert, run_underlying hu, run_underlying hv, run_underlying he, strV, Conv.stringToRunes, Question.forced, newRow, grownCap, hsl, hsz, Con.len]
                · simp only [Con.esz, Nat.mul_one, Array.size_append, Array.size_replicate, hsz]; omega
                · intro i hi
                  simp only [Con.vals, List.length_map] at hi
                  have : (Con.ints IntKind.i32 (runesOf l)).vals = (Conv.runesFrom ⟨⟨l⟩⟩ l.length 0 #[]).toList := runesOf_vals l
                  rw [this, Array.getElem?_append_left (by rw [hsz]; exact hi)]; simp
              | _ => simp only [hu, hv, he, leads_fail] at hl
            | _ => simp only [hu, hv, he, leads_fail] at hl
        | _ => cases ts <;> simp only [hu, hv, leads_fail] at hl
      | nils =>
        cases ts with
        | slice e =>
          cases tt with
          | string =>
            cases he : C.P.underlying e with
            | none => simp only [hu, hv, he, leads_fail] at hl
            | some te =>
              cases te with
              | int k =>
                cases k with
                | i32 =>
                  simp only [hu, hv, he] at hl
                  simp only [Rep] at hr
                  refine ok_pure (x := strV []) ?_ hs (by simp [Rep]) hl hn
                  simp [execOp, ho, hr, convert, run_underlying hu, run_underlying hv, run_underlying he, strV, Conv.runesToString]
                  rfl
                | _ => simp only [hu, hv, he, leads_fail] at hl
              | _ => simp only [hu, hv, he, leads_fail] at hl
          | _ => simp only [hu, hv, leads_fail] at hl
        | _ => simp only [hu, hv, leads_fail] at hl
      | sl c =>
        cases ts with
        | slice e =>
          cases tt with
          | string =>
            cases c with
            | ints kc l =>
              cases kc with
              | i32 =>
                cases he : C.P.underlying e with
                | none => simp only [hu, hv, he, leads_fail] at hl
                | some te =>
                  cases te with
                  | int k =>
                    cases k with
                    | i32 =>
                      simp only [hu, hv, he] at hl
                      simp only [Rep] at hr
                      obtain ⟨ao, cap, hx, hcap, hr⟩ := hr
                      refine ok_pure (x := strV (strOf l)) ?_ hs (by simp [Rep]) hl hn
                      rcases hr with ⟨rfl, h0⟩ | ⟨ad, rfl, h2, h3, h4, h5⟩
                      · simp only [Con.len, List.length_eq_zero_iff] at h0
                        subst h0
                        simp [execOp, ho, hx, convert, run_underlying hu, run_underlying hv, run_underlying he, strV, Conv.runesToString, strOf]
                        rfl
                      · rw [addr_eta ad h2] at hx
                        have := run_runes_str (C := C) (cap := cap) h5 (n := (Con.ints .i32 l).len) rfl
                        simp only [vw] at this
                        simp [execOp, ho, hx, convert, run_underlying hu, run_underlying hv, run_underlying he, this]
                    | _ => simp only [hu, hv, he, leads_fail] at hl
                  | _ => simp only [hu, hv, he, leads_fail] at hl
              | _ => simp only [hu, hv, leads_fail] at hl
            | _ => simp only [hu, hv, leads_fail] at hl
          | _ => simp only [hu, hv, leads_fail] at hl
        | _ => simp only [hu, hv, leads_fail] at hl
      | osl key n e' =>
        cases ts with
        | slice e =>
          cases tt with
          | string =>
            cases he : C.P.underlying e with
            | none => simp only [hu, hv, he, leads_fail] at hl
            | some te =>
              cases te with
              | int k =>
                cases k with
                | i32 =>
                  simp only [hu, hv, he, leads_get] at hl
                  cases hc : g (.c key 0) with
                  | con c =>
                    cases c with
                    | ints kc l =>
                      cases kc with
                      | i32 =>
                        simp only [hc] at hl
                        simp only [Rep] at hr
                        obtain ⟨hk, hcon, hr⟩ := hr
                        simp only [vw] at hcon
                        have hlen := (hcon _ hc).1
                        refine ok_pure (x := strV (strOf l)) ?_ hs (by simp [Rep]) hl hn
                        rcases hr with ⟨h0, hx⟩ | ⟨b, cap, hb, hx, _⟩
                        · subst h0
                          simp only [Con.len, List.length_eq_zero_iff] at hlen
                          subst hlen
                          simp [execOp, ho, hx, convert, run_underlying hu, run_underlying hv, run_underlying he, strV, Conv.runesToString, strOf]
                          rfl
                        · obtain ⟨_, _, h2⟩ := hs.conOk key 0 _ hc
                          simp only [vw] at hb
                          rcases h2 with ⟨h2, _⟩ | ⟨b', v, el, h3, h4, h5⟩
                          · rw [hb] at h2; cases h2
                          · rw [hb] at h3; cases h3
                            have hca : cellsAt w b 0 (Con.ints .i32 l).vals := ⟨v, el, (0, 0), h4, fun i hi => by rw [Nat.zero_add]; exact h5 i hi⟩
                            have := run_runes_str (C := C) (cap := cap) hca (n := n) hlen
                            simp [execOp, ho, hx, convert, run_underlying hu, run_underlying hv, run_underlying he, this]
                      | _ => simp only [hc, leads_fail] at hl
                    | _ => simp only [hc, leads_fail] at hl
                  | _ => simp only [hc, leads_fail] at hl
                | _ => simp only [hu, hv, he, leads_fail] at hl
              | _ => simp only [hu, hv, he, leads_fail] at hl
          | _ => simp only [hu, hv, leads_fail] at hl
        | _ => simp only [hu, hv, leads_fail] at hl
      | _ => cases ts <;> cases tt <;> simp only [hu, hv, leads_fail] at hl

/-! ### pieces -/

theorem leads_pbounds {len : Nat} {lo hi : Option D} {β : Type} {f : Nat → Nat → PT β} {x : β} (h : Leads AC g (pbounds len lo hi f) x) :
    ∃ l u : Nat, Leads AC g (f l u) x ∧ l ≤ u ∧ u ≤ len ∧ ((hi = none ∧ u = len) ∨ ∃ k n, hi = some (.int k n) ∧ 0 ≤ n ∧ n.toNat = u) ∧
      ((lo = none ∧ l = 0) ∨ ∃ k n, lo = some (.int k n) ∧ 0 ≤ n ∧ n.toNat = l) := by
  have low : ∀ u, u ≤ len → Leads AC g (match lo with
      | none => f 0 u
      | some (.int _ l) => .br (decide (0 ≤ l) && decide (l ≤ (u : Int))) (f l.toNat u) .fail
      | _ => .fail) x → ∃ l, Leads AC g (f l u) x ∧ l ≤ u ∧ ((lo = none ∧ l = 0) ∨ ∃ k n, lo = some (.int k n) ∧ 0 ≤ n ∧ n.toNat = l) := by
    intro u _ h
    cases lo with
    | none => exact ⟨0, h, Nat.zero_le _, .inl ⟨rfl, rfl⟩⟩
    | some d =>
      cases d with
      | int k n =>
        simp only [leads_br, leads_fail, and_false, or_false, Bool.and_eq_true, decide_eq_true_eq] at h
        exact ⟨n.toNat, h.2, by omega, .inr ⟨k, n, rfl, h.1.1, rfl⟩⟩
      | _ => simp only [leads_fail] at h
  unfold pbounds at h
  cases hi with
  | none =>
    obtain ⟨l, h1, h2, h3⟩ := low len (Nat.le_refl _) h
    exact ⟨l, len, h1, h2, Nat.le_refl _, .inl ⟨rfl, rfl⟩, h3⟩
  | some d =>
    cases d with
    | int k n =>
      simp only [leads_br, leads_fail, and_false, or_false, Bool.and_eq_true, decide_eq_true_eq] at h
      obtain ⟨l, h1, h2, h3⟩ := low n.toNat (by omega) h.2
      exact ⟨l, n.toNat, h1, h2, by omega, .inr ⟨k, n, rfl, h.1.1, rfl⟩, h3⟩
    | _ => simp only [leads_fail] at h

/-- What optional operands hold in the machine. -/
def OptV (d : Option D) (v : Option Value) : Prop :=
  (d = none ∧ v = none) ∨ ∃ k n, d = some (.int k n) ∧ v = some (.int k n)

theorem run_bounds {isS : Bool} {len cap l u : Nat} {lo hi : Option D} {vl vh : Option Value} (P : Program) (w : World) (hl : OptV lo vl ∨ ∀ k n, lo ≠ some (.int k n)) (hh : OptV hi vh ∨ ∀ k n, hi ≠ some (.int k n))
    (hlu : l ≤ u) (hul : u ≤ len) (hcap : len ≤ cap) (h1 : (hi = none ∧ u = len) ∨ ∃ k n, hi = some (.int k n) ∧ 0 ≤ n ∧ n.toNat = u)
    (h2 : (lo = none ∧ l = 0) ∨ ∃ k n, lo = some (.int k n) ∧ 0 ≤ n ∧ n.toNat = l) (hl0 : lo = none → vl = none) (hh0 : hi = none → vh = none) :
    (Instr.sliceBounds isS len cap vl vh none).run P w = .ok (l, u, cap) w := by
  have ev : ∀ (d : Option D) (v : Option Value), (OptV d v ∨ ∀ k n, d ≠ some (.int k n)) → ∀ k n, d = some (.int k n) → v = some (.int k n) := by
    intro d v h k n e
    rcases h with (⟨h, _⟩ | ⟨k', n', h, h'⟩) | h
    · rw [e] at h; cases h
    · rw [e] at h; cases h; exact h'
    · exact absurd e (h k n)
  rcases h1 with ⟨e1, rfl⟩ | ⟨k, n, e1, e2, rfl⟩
  · have := hh0 e1; subst this
    rcases h2 with ⟨e3, rfl⟩ | ⟨k, n, e3, e4, rfl⟩
    · have := hl0 e3; subst this
      simp [Instr.sliceBounds]
    · have := ev _ _ hl k n e3; subst this
      have h5 : n ≤ (u : Int) := by omega
      simp [Instr.sliceBounds, Instr.sliceBound, asIntOf, e4, h5]
  · have := ev _ _ hh k n e1; subst this
    have h6 : n ≤ (cap : Int) := by omega
    rcases h2 with ⟨e3, rfl⟩ | ⟨k', m, e3, e4, rfl⟩
    · have := hl0 e3; subst this
      simp [Instr.sliceBounds, Instr.sliceBound, asIntOf, e2, h6]
    · have := ev _ _ hl k' m e3; subst this
      simp [Instr.sliceBounds, Instr.sliceBound, asIntOf, e2, h6, e4]
      intro h; omega

theorem Con.cut_vals (c : Con) (l u : Nat) (hlu : l ≤ u) (hu : u ≤ c.len) : (c.cut l u).vals = (c.vals.take (u * c.esz)).drop (l * c.esz) ∧ (c.cut l u).len = u - l := by
  cases c with
  | ints k xs => simp [Con.cut, Con.vals, Con.len, Con.esz, List.map_take, List.map_drop] at hu ⊢; omega
  | strs xs => simp [Con.cut, Con.vals, Con.len, Con.esz, List.map_take, List.map_drop] at hu ⊢; omega
  | recs sch xs =>
    simp only [Con.cut, Con.vals, Con.len, Con.esz] at hu ⊢
    refine ⟨?_, by simp; omega⟩
    have ht : ∀ (f : Rec → List Value) (e : Nat), (∀ r, (f r).length = e) → ∀ (xs : List Rec) (n : Nat), (xs.take n).flatMap f = (xs.flatMap f).take (n * e) := by
      intro f e hf xs
      induction xs with
      | nil => intro n; simp
      | cons x xs ih =>
        intro n
        cases n with
        | zero => simp
        | succ n =>
          rw [List.take_succ_cons, List.flatMap_cons, List.flatMap_cons, ih, List.take_append, hf, Nat.succ_mul, List.take_of_length_le (l := f x) (by rw [hf]; omega)]
          congr 2; omega
    have hd : ∀ (f : Rec → List Value) (e : Nat), (∀ r, (f r).length = e) → ∀ (xs : List Rec) (n : Nat), (xs.drop n).flatMap f = (xs.flatMap f).drop (n * e) := by
      intro f e hf xs
      induction xs with
      | nil => intro n; simp
      | cons x xs ih =>
        intro n
        cases n with
        | zero => simp
        | succ n =>
          rw [List.drop_succ_cons, List.flatMap_cons, ih, List.drop_append, hf, Nat.succ_mul, List.drop_eq_nil_of_le (as := f x) (by rw [hf]; omega), List.nil_append]
          congr 1; omega
    rw [hd _ sch.length (fun r => by simp [recD_length]), ht _ sch.length (fun r => by simp [recD_length])]

theorem Con.cut_esz (c : Con) (l u : Nat) : (c.cut l u).esz = c.esz := by cases c <;> rfl

/-- A piece of a list, handed on by value. -/
theorem rep_cut {V : Vw} {c : Con} {b off l u cap : Nat} (hb : b < V.w.heap.size) (hX : ¬ V.X b) (hc : cellsAt V.w b off c.vals) (hlu : l ≤ u) (hu : u ≤ c.len) (hcap : c.len ≤ cap) :
    Rep V (.sl (c.cut l u)) (.slice (if cap = l then some ⟨b, off, none⟩ else some ((⟨b, off, none⟩ : Addr).add (l * c.esz))) (u - l) (cap - l)) := by
  obtain ⟨e1, e2⟩ := c.cut_vals l u hlu hu
  simp only [Rep]
  refine ⟨_, _, by rw [e2], by omega, .inr ?_⟩
  by_cases e : cap = l
  · rw [if_pos e]
    refine ⟨_, rfl, rfl, hb, hX, ?_⟩
    have h0 : (c.cut l u).vals = [] := by
      rw [e1]; refine List.drop_eq_nil_of_le ?_
      rw [List.length_take]
      have : u ≤ l := by omega
      have := Nat.mul_le_mul_right c.esz this
      omega
    rw [h0]
    obtain ⟨v, el, fr, h1, h2⟩ := hc
    exact ⟨v, el, fr, h1, fun i hi => by simp at hi⟩
  · rw [if_neg e]
    rw [Addr.add_lit]
    refine ⟨_, rfl, rfl, hb, hX, ?_⟩
    rw [e1]
    exact (hc.take _).drop _

theorem evOpt (hs : Sim B S0 C.n g μ a w) {x : Option Operand} {d : Option D} (h : (x = none ∧ d = none) ∨ ∃ y e, x = some y ∧ EvD g y e ∧ d = some e) :
    (OptV d (x.map a.eval) ∨ ∀ k n, d ≠ some (.int k n)) ∧ (d = none → x.map a.eval = none) := by
  rcases h with ⟨rfl, rfl⟩ | ⟨y, e, rfl, he, rfl⟩
  · exact ⟨.inl (.inl ⟨rfl, rfl⟩), fun _ => rfl⟩
  · refine ⟨?_, fun h => by cases h⟩
    have hr := hs.ev he
    cases e with
    | int k n => simp only [Rep] at hr; exact .inl (.inr ⟨k, n, rfl, by simp [hr]⟩)
    | _ => right; intro k n h; cases h

theorem op_slice {t : TypeId} {x : Operand} {lo hi : Option Operand} (ho : o.op = .slice t x lo hi none) : OpOk C AC o := by
  intro B S0 g μ a w up hl hs next Q hn
  simp only [aop, ho, leads_pget, leads_popt] at hl
  have hl' : ∃ d, EvD g x d ∧ ∃ dl, ((lo = none ∧ dl = none) ∨ ∃ y e, lo = some y ∧ EvD g y e ∧ dl = some e) ∧ ∃ dh, ((hi = none ∧ dh = none) ∨ ∃ y e, hi = some y ∧ EvD g y e ∧ dh = some e) ∧
      Leads AC g (pslice C o.dst t d dl dh) up := by
    obtain ⟨d, hd, hl⟩ := hl
    refine ⟨d, hd, ?_⟩
    rcases hl with ⟨e1, hl⟩ | ⟨y, e, e1, e2, hl⟩
    · refine ⟨none, .inl ⟨e1, rfl⟩, ?_⟩
      rcases hl with ⟨e3, hl⟩ | ⟨y, e, e3, e4, hl⟩
      · exact ⟨none, .inl ⟨e3, rfl⟩, hl⟩
      · exact ⟨_, .inr ⟨y, e, e3, e4, rfl⟩, hl⟩
    · refine ⟨_, .inr ⟨y, e, e1, e2, rfl⟩, ?_⟩
      rcases hl with ⟨e3, hl⟩ | ⟨y, e, e3, e4, hl⟩
      · exact ⟨none, .inl ⟨e3, rfl⟩, hl⟩
      · exact ⟨_, .inr ⟨y, e, e3, e4, rfl⟩, hl⟩
  clear hl
  obtain ⟨d, hd, dl, hdl, dh, hdh, hl⟩ := hl'
  have hr := hs.ev hd
  obtain ⟨ol1, ol2⟩ := evOpt hs hdl
  obtain ⟨oh1, oh2⟩ := evOpt hs hdh
  unfold pslice at hl
  cases hu : C.P.underlying t with
  | none => cases d <;> simp only [hu, leads_fail] at hl
  | some td =>
    cases td with
    | string =>
      cases d with
      | str s =>
        simp only [hu] at hl
        obtain ⟨l, u, h1, h2, h3, h4, h5⟩ := leads_pbounds hl
        simp only [Rep] at hr
        have hsl : (ByteArray.mk ⟨s⟩).size = s.length := rfl
        have hb := run_bounds (isS := false) (cap := s.length) C.P w ol1 oh1 h2 h3 (Nat.le_refl _) h4 h5 ol2 oh2
        refine ok_pure (x := strV ((s.take u).drop l)) ?_ hs (by simp [Rep]) h1 hn
        have hex : (ByteArray.mk ⟨s⟩).extract l u = ⟨⟨(s.take u).drop l⟩⟩ := by
          apply ByteArray.ext
          simp [List.drop_take]
        simp [execOp, ho, hr, strV, Instr.sliceAt, Instr.slice, run_underlying hu, hsl, hb, hex]
      | _ => simp only [hu, leads_fail] at hl
    | slice elem =>
      cases d with
      | sl c =>
        simp only [hu] at hl
        cases hz : sizeD C elem with
        | none => simp only [hz, leads_fail] at hl
        | some e =>
          simp only [hz, leads_cond, leads_fail, and_false, or_false, Nat.beq_eq] at hl
          obtain ⟨he, hl⟩ := hl
          subst he
          obtain ⟨l, u, h1, h2, h3, h4, h5⟩ := leads_pbounds hl
          simp only [Rep] at hr
          obtain ⟨ao, cap, hx, hcap, hr⟩ := hr
          have hb := run_bounds (isS := true) (cap := cap) C.P w ol1 oh1 h2 h3 hcap h4 h5 ol2 oh2
          rcases hr with ⟨rfl, h0⟩ | ⟨ad, rfl, g2, g3, g4, g5⟩
          · refine ok_pure (x := .slice none (u - l) (cap - l)) ?_ hs ?_ h1 hn
            · simp [execOp, ho, hx, Instr.sliceAt, Instr.slice, run_underlying hu, hb, run_size hz]
            · simp only [Rep]
              obtain ⟨_, e2⟩ := c.cut_vals l u h2 h3
              exact ⟨none, cap - l, by rw [e2], by omega, .inl ⟨rfl, by omega⟩⟩
          · rw [addr_eta ad g2] at hx
            refine ok_pure (x := .slice (if cap = l then some ⟨ad.block, ad.off, none⟩ else some ((⟨ad.block, ad.off, none⟩ : Addr).add (l * c.esz))) (u - l) (cap - l)) ?_ hs (rep_cut g3 g4 g5 h2 h3 hcap) h1 hn
            simp [execOp, ho, hx, Instr.sliceAt, Instr.slice, run_underlying hu, hb, run_size hz]
      | osl key n e =>
        simp only [hu] at hl
        cases hz : sizeD C elem with
        | none => simp only [hz, leads_fail] at hl
        | some e' =>
          simp only [hz, leads_cond, leads_get, leads_fail, and_false, or_false, Nat.beq_eq] at hl
          obtain ⟨he, hl⟩ := hl
          subst he
          cases hc : g (.c key 0) with
          | con c =>
            simp only [hc] at hl
            obtain ⟨l, u, h1, h2, h3, h4, h5⟩ := leads_pbounds hl
            simp only [Rep] at hr
            obtain ⟨hk, hcon, hr⟩ := hr
            simp only [vw] at hcon hk
            obtain ⟨hlen, hesz⟩ := hcon c hc
            obtain ⟨bb, hbb⟩ := hs.here key 0 (by rw [hc]; simp)
            have hfz := hs.freeze (key := key) (bb := bb) hbb (by
              cases hi : g (.i key) with
              | top => rfl
              | _ =>
                obtain ⟨s1, p1, b1, _, _, f3, f4⟩ := hs.itr key (by rw [hi]; simp)
                obtain ⟨_, _, h6⟩ := hs.conOk key 0 c hc
                rcases h6 with ⟨h6, _⟩ | ⟨b', v, el, h7, h8, _⟩
                · rw [f3] at h6; cases h6
                · rw [f3] at h7; cases h7; rw [f4] at h8; cases h8)
            have fin : ∀ x, (execOp a.eval o).run C.P w = .ok (.value x) w → Rep (vw (upd g (.m key) (.bool false)) μ S0 w) (.sl (c.cut l u)) x → o.wp C.P a w next Q := by
              intro x hrun hx
              refine wp_value hrun ?_
              rcases leads_pfin.1 h1 with ⟨t', e1, ht, rfl⟩ | ⟨e1, rfl⟩
              · rw [e1]; refine hn _ _ μ ?_ (Below.refl _ _)
                rw [updF_append]; exact hfz.put ht hx
              · rw [e1]; exact hn _ _ μ hfz (Below.refl _ _)
            rcases hr with ⟨h0, hx⟩ | ⟨b, cap, hb, hx, hcap, _⟩
            · have hb := run_bounds (isS := true) (cap := 0) C.P w ol1 oh1 h2 h3 (by omega) h4 h5 ol2 oh2
              subst h0
              refine fin (.slice none (u - l) (0 - l)) ?_ ?_
              · simp [execOp, ho, hx, Instr.sliceAt, Instr.slice, run_underlying hu, hb, run_size hz]
              · simp only [Rep]
                obtain ⟨_, e2⟩ := c.cut_vals l u h2 (by omega)
                exact ⟨none, 0 - l, by rw [e2], by omega, .inl ⟨rfl, by omega⟩⟩
            · simp only [vw] at hb
              have hbd := run_bounds (isS := true) (cap := cap) C.P w ol1 oh1 h2 h3 hcap h4 h5 ol2 oh2
              obtain ⟨_, _, h6⟩ := hs.conOk key 0 c hc
              rcases h6 with ⟨h6, _⟩ | ⟨b', v, el, h7, h8, h9⟩
              · rw [hb] at h6; cases h6
              · rw [hb] at h7; cases h7
                refine fin (.slice (if cap = l then some ⟨b, 0, none⟩ else some ((⟨b, 0, none⟩ : Addr).add (l * c.esz))) (u - l) (cap - l)) ?_ ?_
                · simp [execOp, ho, hx, Instr.sliceAt, Instr.slice, run_underlying hu, hbd, run_size hz, hesz]
                · refine rep_cut (getElem?_lt h8) ?_ ⟨v, el, (0, 0), h8, fun i hi => by rw [Nat.zero_add]; exact h9 i hi⟩ h2 (by omega) (by omega)
                  simp only [vw, Xof]
                  rintro (h10 | ⟨k, h10, h11⟩)
                  · have := hs.s0 _ h10
                    have := (hs.pres key b (by rw [hbb]; simp) hb).1
                    omega
                  · by_cases e : key = k
                    · subst e; rw [upd_same] at h10; cases h10
                    · rw [upd_ne _ _ (by simpa using e)] at h10
                      exact e (hs.inj key k b ⟨bb, hbb⟩ ⟨true, h10⟩ hb h11)
          | _ => simp only [hc, leads_fail] at hl
      | _ => simp only [hu, leads_fail] at hl
    | _ => cases d <;> simp only [hu, leads_fail] at hl

end
end Go.QA

namespace Go.QA
open Go Go.RowKit

/-- '==' of such structs does what the data's does. -/
def EqRun (P : Program) (t : TypeId) (sch : List Sc) : Prop :=
  ∀ (w : World) (xs ys : List D) (b : Bool) (op : BinOp) (x y : Operand), schFits sch xs = true → schFits sch ys = true → eqL xs ys = some b →
    (eqGuard op t x y (.agg ⟨xs.map scV⟩) (.agg ⟨ys.map scV⟩)).run P w = .ok () w ∧ (Op.equal t (.agg ⟨xs.map scV⟩) (.agg ⟨ys.map scV⟩)).run P w = .ok b w

structure PrgOk (P : Prg) : Prop where
  mixed : P.P.follows .mixedOrders = true
  eq : ∀ t sch, findSch t P.eqs = some sch → EqRun P.P t sch
  stab : ∀ {B : Nat} {w w' : World}, P.I B w → Below B w w' → P.I B w'
  mono : ∀ {B B' : Nat} {w : World}, P.I B w → B ≤ B' → P.I B' w

theorem schFits_vals {V : Vw} : ∀ (sch : List Sc) (xs : List D) (vs : List Value), schFits sch xs = true → RepL V xs vs → vs = xs.map scV
  | [], [], vs, _, h => by simpa [RepL] using h
  | [], _ :: _, _, h, _ => by simp [schFits] at h
  | .int k :: t, [], _, h, _ => by simp [schFits] at h
  | .bool :: t, [], _, h, _ => by simp [schFits] at h
  | .str :: t, [], _, h, _ => by simp [schFits] at h
  | .int k :: t, d :: ds, vs, hf, h => by
    cases d <;> simp [schFits] at hf
    simp only [RepL, Rep] at h
    obtain ⟨v, r, rfl, rfl, h⟩ := h
    rw [schFits_vals t ds r hf.2 h]; rfl
  | .bool :: t, d :: ds, vs, hf, h => by
    cases d <;> simp [schFits] at hf
    simp only [RepL, Rep] at h
    obtain ⟨v, r, rfl, rfl, h⟩ := h
    rw [schFits_vals t ds r hf h]; rfl
  | .str :: t, d :: ds, vs, hf, h => by
    cases d <;> simp [schFits] at hf
    simp only [RepL, Rep] at h
    obtain ⟨v, r, rfl, rfl, h⟩ := h
    rw [schFits_vals t ds r hf h]; rfl

section
variable {C : Cfg} {AC : FuncId → List D → D → Prop} {o : Oper} {B : Nat} {S0 : Nat → Prop} {g : Var → D} {μ : Nat → Option Nat} {a : Act} {w : World} {up : Up}
  {next : Act → World → Prop} {Q : Exit → Act → World → Prop}

theorem peq_some {t : TypeId} {xs ys : List D} {b : Bool} (h : peq C t xs ys = some b) : ∃ sch, findSch t C.eqs = some sch ∧ schFits sch xs = true ∧ schFits sch ys = true ∧ eqL xs ys = some b := by
  unfold peq at h
  cases hf : findSch t C.eqs with
  | none => simp [hf] at h
  | some sch =>
    simp only [hf] at h
    cases hc : (schFits sch xs && schFits sch ys) with
    | false => rw [hc] at h; simp at h
    | true =>
      rw [hc] at h
      rw [Bool.and_eq_true] at hc
      exact ⟨sch, rfl, hc.1, hc.2, h⟩

theorem run_eq_nil {t e : TypeId} {ad : Addr} (hu : C.P.underlying t = some (.pointer e)) : (Op.equal t (.pointer (some ad)) (.pointer none)).run C.P w = .ok false w := by
  unfold Op.equal Op.maxDepth
  rw [show (10000 : Nat) = 9999 + 1 from rfl]
  generalize (9999 : Nat) = dd
  simp [Op.equalIn, run_underlying hu]

theorem run_eq_bool {t : TypeId} {x y : Bool} (hu : C.P.underlying t = some .bool) : (Op.equal t (.bool x) (.bool y)).run C.P w = .ok (x == y) w := by
  unfold Op.equal Op.maxDepth
  rw [show (10000 : Nat) = 9999 + 1 from rfl]
  generalize (9999 : Nat) = dd
  simp [Op.equalIn, run_underlying hu]

theorem op_bin (hP : PrgOk C.toPrg) {op : BinOp} {t ty : TypeId} {x y : Operand} (ho : o.op = .binOp op t x y ty) : OpOk C AC o := by
  intro B S0 g μ a w up hl hs next Q hn
  simp only [aop, ho, leads_pget] at hl
  obtain ⟨d, hd, e, he, hl⟩ := hl
  have hr := hs.ev hd
  have hr' := hs.ev he
  cases d with
  | int k m =>
    cases e with
    | int k' n =>
      simp only [Rep] at hr hr'
      cases op <;> simp only [pbin, leads_cond, leads_br, leads_fail, and_false, or_false, false_or, decide_eq_true_eq] at hl <;> obtain ⟨rfl, hl⟩ := hl
      case add => exact ok_pure (x := .int k (k.wrap (m + n))) (by simp [execOp, ho, hr, hr', eqGuard, binOp, Op.intArith]) hs (by simp [Rep]) hl hn
      case sub => exact ok_pure (x := .int k (k.wrap (m - n))) (by simp [execOp, ho, hr, hr', eqGuard, binOp, Op.intArith]) hs (by simp [Rep]) hl hn
      case mul => exact ok_pure (x := .int k (k.wrap (m * n))) (by simp [execOp, ho, hr, hr', eqGuard, binOp, Op.intArith]) hs (by simp [Rep]) hl hn
      case quo =>
        obtain ⟨h0, hl⟩ := hl
        have h0' : n ≠ 0 := by simpa using h0
        exact ok_pure (x := .int k (k.wrap (m.tdiv n))) (by simp [execOp, ho, hr, hr', eqGuard, binOp, Op.intDiv, h0']) hs (by simp [Rep]) hl hn
      case rem =>
        obtain ⟨h0, hl⟩ := hl
        have h0' : n ≠ 0 := by simpa using h0
        exact ok_pure (x := .int k (m.tmod n)) (by simp [execOp, ho, hr, hr', eqGuard, binOp, Op.intDiv, h0']) hs (by simp [Rep]) hl hn
      case eql => exact ok_pure (x := .bool (m == n)) (by simp [execOp, ho, hr, hr', eqGuard, binOp, Op.intCmp]) hs (by simp [Rep]) hl hn
      case neq => exact ok_pure (x := .bool (m != n)) (by simp [execOp, ho, hr, hr', eqGuard, binOp, Op.intCmp]) hs (by simp [Rep]) hl hn
      case lss => exact ok_pure (x := .bool (decide (m < n))) (by simp [execOp, ho, hr, hr', eqGuard, binOp, Op.intCmp]) hs (by simp [Rep]) hl hn
      case leq => exact ok_pure (x := .bool (decide (m ≤ n))) (by simp [execOp, ho, hr, hr', eqGuard, binOp, Op.intCmp]) hs (by simp [Rep]) hl hn
      case gtr => exact ok_pure (x := .bool (decide (m > n))) (by simp [execOp, ho, hr, hr', eqGuard, binOp, Op.intCmp]) hs (by simp [Rep]) hl hn
      case geq => exact ok_pure (x := .bool (decide (m ≥ n))) (by simp [execOp, ho, hr, hr', eqGuard, binOp, Op.intCmp]) hs (by simp [Rep]) hl hn
    | _ => cases op <;> simp only [pbin, leads_fail] at hl
  | str m =>
    cases e with
    | str n =>
      simp only [Rep] at hr hr'
      have hbl : (ByteArray.mk ⟨m⟩).toList = m := Go.ByteArray.toList_mk m
      have hbl' : (ByteArray.mk ⟨n⟩).toList = n := Go.ByteArray.toList_mk n
      have hsz : (ByteArray.mk ⟨m⟩).size = m.length := rfl
      have hsz' : (ByteArray.mk ⟨n⟩).size = n.length := rfl
      cases op <;> simp only [pbin, leads_br, leads_fail, and_false, or_false, decide_eq_true_eq] at hl
      case add =>
        obtain ⟨hle, hl⟩ := hl
        refine ok_pure (x := strV (m ++ n)) ?_ hs (by simp [Rep]) hl hn
        have happ : (ByteArray.mk ⟨m⟩) ++ (ByteArray.mk ⟨n⟩) = ByteArray.mk ⟨m ++ n⟩ := Go.ByteArray.mk_append_mk m n
        have h9 : ¬ ((9223372036854775807 : Int) < (m.length : Int) + (n.length : Int)) := by omega
        have hmax : IntKind.i64.max = 9223372036854775807 := rfl
        simp [execOp, ho, hr, hr', eqGuard, binOp, Op.stringOp, strV, hsz, hsz', happ, hmax, h9]
      case eql => exact ok_pure (x := .bool (m == n)) (by simp [execOp, ho, hr, hr', eqGuard, binOp, Op.stringOp, strV, hbl, hbl']) hs (by simp [Rep]) hl hn
      case neq => exact ok_pure (x := .bool (!(m == n))) (by simp [execOp, ho, hr, hr', eqGuard, binOp, Op.stringOp, strV, hbl, hbl']) hs (by simp [Rep]) hl hn
    | _ => cases op <;> simp only [pbin, leads_fail] at hl
  | bool m =>
    cases e with
    | bool n =>
      simp only [Rep] at hr hr'
      cases op <;> simp only [pbin, leads_fail] at hl
      case eql =>
        cases hu : C.P.underlying t with
        | none => simp only [hu, leads_fail] at hl
        | some td =>
          cases td <;> simp only [hu, leads_fail] at hl
          exact ok_pure (x := .bool (m == n)) (by simp [execOp, ho, hr, hr', eqGuard, binOp, run_eq_bool hu]) hs (by simp [Rep]) hl hn
      case neq =>
        cases hu : C.P.underlying t with
        | none => simp only [hu, leads_fail] at hl
        | some td =>
          cases td <;> simp only [hu, leads_fail] at hl
          exact ok_pure (x := .bool (!(m == n))) (by simp [execOp, ho, hr, hr', eqGuard, binOp, run_eq_bool hu]) hs (by simp [Rep]) hl hn
    | _ => cases op <;> simp only [pbin, leads_fail] at hl
  | ptr cs =>
    cases e with
    | nilp =>
      simp only [Rep] at hr hr'
      obtain ⟨ad, vs, hx, _⟩ := hr
      cases op <;> simp only [pbin, leads_fail] at hl
      case eql =>
        cases hu : C.P.underlying t with
        | none => simp only [hu, leads_fail] at hl
        | some td =>
          cases td <;> simp only [hu, leads_fail] at hl
          exact ok_pure (x := .bool false) (by simp [execOp, ho, hx, hr', eqGuard, binOp, run_eq_nil hu]) hs (by simp [Rep]) hl hn
      case neq =>
        cases hu : C.P.underlying t with
        | none => simp only [hu, leads_fail] at hl
        | some td =>
          cases td <;> simp only [hu, leads_fail] at hl
          exact ok_pure (x := .bool true) (by simp [execOp, ho, hx, hr', eqGuard, binOp, run_eq_nil hu]) hs (by simp [Rep]) hl hn
    | _ => cases op <;> simp only [pbin, leads_fail] at hl
  | agg xs =>
    cases e with
    | agg ys =>
      simp only [Rep] at hr hr'
      obtain ⟨vs, hx, h1⟩ := hr
      obtain ⟨us, hy, h2⟩ := hr'
      cases op <;> simp only [pbin, leads_fail] at hl
      case eql =>
        cases hp : peq C t xs ys with
        | none => simp only [hp, leads_fail] at hl
        | some b =>
          simp only [hp] at hl
          obtain ⟨sch, f1, f2, f3, f4⟩ := peq_some hp
          have e1 := schFits_vals _ _ _ f2 h1
          have e2 := schFits_vals _ _ _ f3 h2
          subst e1; subst e2
          obtain ⟨g1, g2⟩ := hP.eq t sch f1 w xs ys b .eql x y f2 f3 f4
          exact ok_pure (x := .bool b) (by simp [execOp, ho, hx, hy, g1, binOp, g2]) hs (by simp [Rep]) hl hn
      case neq =>
        cases hp : peq C t xs ys with
        | none => simp only [hp, leads_fail] at hl
        | some b =>
          simp only [hp] at hl
          obtain ⟨sch, f1, f2, f3, f4⟩ := peq_some hp
          have e1 := schFits_vals _ _ _ f2 h1
          have e2 := schFits_vals _ _ _ f3 h2
          subst e1; subst e2
          obtain ⟨g1, g2⟩ := hP.eq t sch f1 w xs ys b .neq x y f2 f3 f4
          exact ok_pure (x := .bool (!b)) (by simp [execOp, ho, hx, hy, g1, binOp, g2]) hs (by simp [Rep]) hl hn
    | _ => cases op <;> simp only [pbin, leads_fail] at hl
  | _ => cases op <;> cases e <;> simp only [pbin, leads_fail] at hl

end
end Go.QA

namespace Go.QA
open Go Go.RowKit

section
variable {C : Cfg} {AC : FuncId → List D → D → Prop} {o : Oper} {B : Nat} {S0 : Nat → Prop} {g : Var → D} {μ : Nat → Option Nat} {a : Act} {w : World} {up : Up}
  {next : Act → World → Prop} {Q : Exit → Act → World → Prop}

/-! ### iterators -/

theorem op_range {t : TypeId} {x : Operand} (ho : o.op = .range t x) : OpOk C AC o := by
  intro B S0 g μ a w up hl hs next Q hn
  simp only [aop, ho, leads_pget] at hl
  obtain ⟨d, hd, hl⟩ := hl
  have hr := hs.ev hd
  unfold prange at hl
  cases hu : C.P.underlying t with
  | none => simp only [hu, leads_fail] at hl
  | some td =>
    cases td with
    | string =>
      cases d with
      | str s =>
        cases hdst : o.dst with
        | none => simp only [hu, hdst, leads_fail] at hl
        | some dd =>
          simp only [hu, hdst, leads_cond, leads_get, leads_fail, and_false, or_false, Nat.blt_eq] at hl
          obtain ⟨ht, hl⟩ := hl
          cases hm : g (.m dd) with
          | top =>
            simp only [hm, leads_ret] at hl
            subst hl
            simp only [Rep] at hr
            have hnew := hs.new hm (.stringIter ⟨⟨s⟩⟩ 0) (updF g [(.m dd, .bool true), (.i dd, .its s 0)]) (by simp only [updF]; rw [upd_ne _ _ (by simp), upd_same])
              (fun k hk => by simp only [updF]; rw [upd_ne _ _ (by simp), upd_ne _ _ (by simpa using Ne.symm hk)])
              (fun i => by simp only [updF]; rw [upd_ne _ _ (by simp), upd_ne _ _ (by simp)])
              (fun k off _ => by simp only [updF]; rw [upd_ne _ _ (by simp), upd_ne _ _ (by simp)])
              (fun k hk => by simp only [updF]; rw [upd_ne _ _ (by simpa using Ne.symm hk), upd_ne _ _ (by simp)])
              (fun off c' e => by
                simp only [updF] at e
                rw [upd_ne _ _ (by simp), upd_ne _ _ (by simp), hs.cTop hm] at e; cases e)
              (fun off e1 e2 => by
                simp only [updF] at e1
                rw [upd_ne _ _ (by simp), upd_ne _ _ (by simp), hs.cTop hm] at e1; exact absurd rfl e1)
              (fun _ => ⟨s, 0, by simp only [updF]; rw [upd_same], rfl⟩)
            refine wp_value (x := .pointer (some ⟨w.heap.size, 0, none⟩)) (w' := w.alloc (.stringIter ⟨⟨s⟩⟩ 0)) ?_ ?_
            · simp [execOp, ho, hr, strV, Instr.range, run_underlying hu]
            · rw [hdst]
              refine hn _ _ (fun k => if k = dd then some w.heap.size else μ k) ?_ ((Below.refl B w).alloc hs.base _)
              show Sim B S0 C.n (updF g ([(.m dd, .bool true), (.i dd, .its s 0)] ++ [(.t dd, .oit dd)])) _ _ _
              rw [updF_append]
              refine hnew.1.put ht ?_
              simp only [Rep, vw, updF]
              exact ⟨by rw [upd_ne _ _ (by simp), upd_same]; simp, w.heap.size, by simp, rfl⟩
          | _ => simp only [hm, leads_fail] at hl
      | _ => simp only [hu, leads_fail] at hl
    | _ => simp only [hu, leads_fail] at hl

theorem op_next {x : Operand} (ho : o.op = .next x true) : OpOk C AC o := by
  intro B S0 g μ a w up hl hs next Q hn
  simp only [aop, ho, leads_pget] at hl
  obtain ⟨d, hd, hl⟩ := hl
  have hr := hs.ev hd
  cases d with
  | oit key =>
    simp only [pnext, leads_get] at hl
    simp only [Rep, vw] at hr
    obtain ⟨_, b, hb, hx⟩ := hr
    cases hi : g (.i key) with
    | its s pos =>
      simp only [hi, leads_br, decide_eq_true_eq, decide_eq_false_iff_not] at hl
      have hsl : (ByteArray.mk ⟨s⟩).size = s.length := rfl
      obtain ⟨b', e1, e2, e3, e4, e5⟩ := hs.step hi (pos + (Utf8.decode ⟨⟨s⟩⟩ pos).2)
      rw [hb] at e1; cases e1
      rcases hl with ⟨hlt, hl⟩ | ⟨hlt, hl⟩
      · have hrun : (execOp a.eval o).run C.P w = .ok (.value (.tuple #[.bool true, .int .i64 (pos : Int), .int .i32 ((Utf8.decode ⟨⟨s⟩⟩ pos).1 : Int)]))
            { w with heap := w.heap.setIfInBounds b (.stringIter ⟨⟨s⟩⟩ (pos + (Utf8.decode ⟨⟨s⟩⟩ pos).2)) } := by
          simp only [execOp, ho, hx, Instr.next]
          simp [getObj, setObj, Sem.run, e3, hsl, hlt, goInt]
        have hB : Below B w { w with heap := w.heap.setIfInBounds b (.stringIter ⟨⟨s⟩⟩ (pos + (Utf8.decode ⟨⟨s⟩⟩ pos).2)) } :=
          ⟨rfl, rfl, rfl, by simp, fun k hk => by simp only []; rw [Array.getElem?_setIfInBounds, if_neg (by omega)]⟩
        refine wp_value hrun ?_
        rcases leads_pfin.1 hl with ⟨t, f1, ht, rfl⟩ | ⟨f1, rfl⟩
        · rw [f1]; refine hn _ _ μ ?_ hB
          rw [updF_append]
          refine e4.put ht ?_
          simp only [Rep, RepL]
          exact ⟨_, rfl, _, _, rfl, rfl, _, _, rfl, rfl, _, _, rfl, rfl, rfl⟩
        · rw [f1]; exact hn _ _ μ e4 hB
      · refine ok_pure (x := .tuple #[.bool false]) ?_ hs (by simp only [Rep, RepL]; exact ⟨_, rfl, _, _, rfl, rfl, rfl⟩) hl hn
        simp only [execOp, ho, hx, Instr.next]
        simp [getObj, Sem.run, e3, hsl, hlt]
    | _ => simp only [hi, leads_fail] at hl
  | _ => simp only [pnext, leads_fail] at hl

/-! ### lengths, the least, the greatest -/

theorem op_len {c : Call} (ho : o.op = .call c) (hc : c.callee = .builtin .len) : OpOk C AC o := by
  intro B S0 g μ a w up hl hs next Q hn
  obtain ⟨callee, ⟨args⟩, ⟨tys⟩⟩ := c
  simp only at hc; subst hc
  simp only [aop, ho, pcall] at hl
  match args, tys, ho, hl with
  | [x], [t], ho, hl =>
    simp only [leads_pget] at hl
    obtain ⟨d, hd, hl⟩ := hl
    have hr := hs.ev hd
    cases hp : plen C t d with
    | none => simp only [hp, leads_fail] at hl
    | some n =>
      simp only [hp] at hl
      refine ok_pure (x := .int .i64 (n : Int)) ?_ hs (by simp [Rep]) hl hn
      unfold plen at hp
      cases hu : C.P.underlying t with
      | none => simp [hu] at hp
      | some td =>
        cases td with
        | string =>
          cases d <;> simp [hu] at hp
          simp only [Rep] at hr
          subst hp
          simp [execOp, ho, resolve, invoke, builtin, Builtin.len_, run_underlying hu, hr, strV, goInt]
          rfl
        | slice e =>
          cases d <;> simp [hu] at hp
          · simp only [Rep] at hr; subst hp
            simp [execOp, ho, resolve, invoke, builtin, Builtin.len_, run_underlying hu, hr, goInt]
          · simp only [Rep] at hr; subst hp
            obtain ⟨ao, cap, hx, _⟩ := hr
            simp [execOp, ho, resolve, invoke, builtin, Builtin.len_, run_underlying hu, hx, goInt]
          · simp only [Rep] at hr; subst hp
            obtain ⟨ad, cap, vs, hx, _⟩ := hr
            simp [execOp, ho, resolve, invoke, builtin, Builtin.len_, run_underlying hu, hx, goInt]
          · simp only [Rep] at hr; subst hp
            obtain ⟨_, _, hx⟩ := hr
            rcases hx with ⟨h0, hx⟩ | ⟨b, cap, _, hx, _⟩
            · subst h0; simp [execOp, ho, resolve, invoke, builtin, Builtin.len_, run_underlying hu, hx, goInt]
            · simp [execOp, ho, resolve, invoke, builtin, Builtin.len_, run_underlying hu, hx, goInt]
        | _ => simp [hu] at hp
  | [], _, _, hl => simp only [leads_fail] at hl
  | [_], [], _, hl => simp only [leads_fail] at hl
  | [_], _ :: _ :: _, _, hl => simp only [leads_fail] at hl
  | _ :: _ :: _, _, _, hl => simp only [leads_fail] at hl

theorem run_minmax {V : Vw} (mx : Bool) {β : Type} {x : β} : ∀ (ds : List D) (vs : List Value) (m : Int) (k : IntKind) (f : Int → PT β), Leads AC g (pminmax mx m ds k f) x → RepL V ds vs →
    ∃ r, Leads AC g (f r) x ∧ (vs.foldlM (if mx then Builtin.max2 else Builtin.min2) (.int k m)).run C.P w = .ok (.int k r) w
  | [], vs, m, k, f, h, hr => by
    simp only [RepL] at hr; subst hr
    simp only [pminmax] at h
    exact ⟨m, h, by simp⟩
  | d :: ds, vs, m, k, f, h, hr => by
    simp only [RepL] at hr
    obtain ⟨v, q, rfl, h1, h2⟩ := hr
    cases d with
    | int k' n =>
      simp only [Rep] at h1; subst h1
      simp only [pminmax, leads_cond, leads_fail, and_false, or_false, decide_eq_true_eq] at h
      obtain ⟨rfl, h⟩ := h
      obtain ⟨r, e1, e2⟩ := run_minmax mx ds q _ _ _ h h2
      refine ⟨r, e1, ?_⟩
      cases mx with
      | true => simp only [List.foldlM_cons, Sem.run_bind, Builtin.max2, if_true, Sem.run_pure, Result.andThen_ok, cond_true] at e2 ⊢; exact e2
      | false => simp only [List.foldlM_cons, Sem.run_bind, Builtin.min2, Bool.false_eq_true, if_false, Sem.run_pure, Result.andThen_ok, cond_false] at e2 ⊢; exact e2
    | _ => simp only [pminmax, leads_fail] at h

theorem op_minmax {c : Call} (mx : Bool) (bi : Builtin) (hb : (mx = true ∧ bi = .max) ∨ (mx = false ∧ bi = .min)) (ho : o.op = .call c) (hc : c.callee = .builtin bi) : OpOk C AC o := by
  intro B S0 g μ a w up hl hs next Q hn
  obtain ⟨callee, ⟨args⟩, tys⟩ := c
  simp only at hc; subst hc
  have hl' : Leads AC g (pgets args fun
      | .int k a :: r => pminmax mx a r k fun n => pfin C o.dst (.int k n) []
      | _ => .fail) up := by
    rcases hb with ⟨rfl, rfl⟩ | ⟨rfl, rfl⟩ <;> (simp only [aop, ho, pcall] at hl; exact hl)
  rw [leads_pgets] at hl'
  obtain ⟨ds, hd, hl'⟩ := hl'
  have hr := hs.evL hd
  cases ds with
  | nil => simp only [leads_fail] at hl'
  | cons d ds =>
    cases d with
    | int k m =>
      simp only at hl'
      simp only [RepL, Rep] at hr
      obtain ⟨v, q, e, rfl, hr⟩ := hr
      obtain ⟨r, e1, e2⟩ := run_minmax (C := C) (w := w) mx ds q m k _ hl' hr
      refine ok_pure (x := .int k r) ?_ hs (by simp [Rep]) e1 hn
      rcases hb with ⟨rfl, rfl⟩ | ⟨rfl, rfl⟩
      · simp only [if_true] at e2
        simp [execOp, ho, resolve, invoke, builtin, Builtin.max_, e, e2]
      · simp only [Bool.false_eq_true, if_false] at e2
        simp [execOp, ho, resolve, invoke, builtin, Builtin.min_, e, e2]
    | _ => simp only [leads_fail] at hl'

/-! ### calls -/

theorem Sim.noIter (hs : Sim B S0 C.n g μ a w) {key off : Nat} (h : g (.c key off) ≠ .top) : g (.i key) = .top := by
  cases hi : g (.i key) with
  | top => rfl
  | _ =>
    obtain ⟨s1, p1, b1, _, _, f3, f4⟩ := hs.itr key (by rw [hi]; simp)
    exfalso
    by_cases hc : ∃ c, g (.c key off) = .con c
    · obtain ⟨c, hc⟩ := hc
      obtain ⟨_, _, h6⟩ := hs.conOk key off c hc
      rcases h6 with ⟨h6, _⟩ | ⟨b', v, el, h7, h8, _⟩
      · rw [f3] at h6; cases h6
      · rw [f3] at h7; cases h7; rw [f4] at h8; cases h8
    · obtain ⟨b', v, el, x, h7, h8, _⟩ := hs.celOk key off h (fun c e => hc ⟨c, e⟩)
      rw [f3] at h7; cases h7; rw [f4] at h8; cases h8

/-- Writes that make keys not to be written any more. -/
def Frz (g : Var → D) (u : Up) : Prop := ∀ p ∈ u, ∃ key off, p = (.m key, .bool false) ∧ g (.c key off) ≠ .top

theorem Frz.append {u v : Up} (h : Frz g u) (k : Frz g v) : Frz g (u ++ v) := by
  intro p hp
  rcases List.mem_append.1 hp with hp | hp
  · exact h p hp
  · exact k p hp

theorem Sim.frz : ∀ {u : Up} {g : Var → D}, Sim B S0 C.n g μ a w → Frz g u → Sim B S0 C.n (updF g u) μ a w ∧ (∀ b, Xof (updF g u) μ S0 b → Xof g μ S0 b) ∧
    (∀ key, updF g u (.m key) = .bool true → g (.m key) = .bool true ∧ (.m key, .bool false) ∉ u)
  | [], g, hs, _ => ⟨hs, fun _ h => h, fun _ h => ⟨h, by simp⟩⟩
  | p :: u, g, hs, hf => by
    obtain ⟨key, off, rfl, hne⟩ := hf p (by simp)
    obtain ⟨bb, hbb⟩ := hs.here key off hne
    have h1 := hs.freeze hbb (hs.noIter hne)
    have hf' : Frz (upd g (.m key) (.bool false)) u := by
      intro q hq
      obtain ⟨k, o', rfl, h2⟩ := hf q (by simp [hq])
      exact ⟨k, o', rfl, by rw [upd_ne _ _ (by simp)]; exact h2⟩
    obtain ⟨h2, h3, h4⟩ := Sim.frz h1 hf'
    have hx : ∀ k, upd g (.m key) (.bool false) (.m k) = .bool true → g (.m k) = .bool true ∧ k ≠ key := by
      intro k hk
      by_cases e : key = k
      · subst e; rw [upd_same] at hk; cases hk
      · rw [upd_ne _ _ (by simpa using e)] at hk; exact ⟨hk, Ne.symm e⟩
    refine ⟨h2, fun b hb => ?_, fun k hk => ?_⟩
    · rcases h3 b hb with h5 | ⟨k, h5, h6⟩
      · exact .inl h5
      · exact .inr ⟨k, (hx k h5).1, h6⟩
    · obtain ⟨h5, h6⟩ := h4 k hk
      obtain ⟨h7, h8⟩ := hx k h5
      refine ⟨h7, ?_⟩
      simp only [List.mem_cons, not_or, Prod.mk.injEq, Var.m.injEq]
      exact ⟨by rintro ⟨rfl, _⟩; exact h8 rfl, h6⟩

/-- A frozen key's block is not to be written any more. -/
theorem Sim.frz_out (hs : Sim B S0 C.n g μ a w) {u : Up} (hf : Frz g u) {key b : Nat} (hk : (.m key, .bool false) ∈ u) (hb : μ key = some b) : ¬ Xof (updF g u) μ S0 b := by
  obtain ⟨k', off, e, hne⟩ := hf _ hk
  cases e
  obtain ⟨bb, hbb⟩ := hs.here key off hne
  obtain ⟨_, _, h3⟩ := hs.frz hf
  rintro (h1 | ⟨k, h1, h2⟩)
  · have := hs.s0 b h1; have := (hs.pres key b (by rw [hbb]; simp) hb).1; omega
  · obtain ⟨h4, h5⟩ := h3 k h1
    have := hs.inj k key b ⟨true, h4⟩ ⟨bb, hbb⟩ h2 hb
    subst this; exact h5 hk

/-- What is handed on, by value. -/
structure Hand (g : Var → D) (d d' : D) (u : Up) : Prop where
  frz : Frz g u
  imm : d'.imm = true
  rep : ∀ {B : Nat} {S0 : Nat → Prop} {n : Nat} {μ : Nat → Option Nat} {a : Act} {w : World} {x : Value} {X : Nat → Prop}, Sim B S0 n g μ a w → Rep (vw g μ S0 w) d x →
    (∀ b, X b → Xof g μ S0 b) → (∀ key b, (.m key, .bool false) ∈ u → μ key = some b → ¬ X b) → Rep (iv X w) d' x

theorem rep_iX {X X' : Nat → Prop} {w : World} {d : D} {x : Value} (h : Rep (iv X w) d x) (hX : ∀ b, X' b → X b) : Rep (iv X' w) d x :=
  Rep.trans (trans_iX (Nat.le_refl _) (fun b _ hb => ⟨rfl, fun hb' => hb (hX b hb')⟩) (fun _ c el fr e => ⟨c, el, fr, e, rfl⟩)) _ _ h

theorem Hand.self {d : D} (h : d.imm = true) : Hand g d d [] :=
  ⟨(by intro p hp; cases hp), h, fun _ hr hX _ => rep_iX (Rep.toI d _ h hr) hX⟩

theorem leads_pimm {d : D} {β : Type} {f : D → Up → PT β} {x : β} (h : Leads AC g (pimm d f) x) : ∃ d' u, Leads AC g (f d' u) x ∧ Hand g d d' u := by
  cases d with
  | osl key n e =>
    simp only [pimm, leads_get] at h
    cases hc : g (.c key 0) with
    | con c =>
      simp only [hc] at h
      refine ⟨_, _, h, ?_, rfl, ?_⟩
      · intro p hp
        simp only [List.mem_singleton] at hp
        exact ⟨key, 0, hp, by rw [hc]; simp⟩
      · intro B S0 n μ a w x X hs hr hX hu
        simp only [Rep, vw] at hr
        obtain ⟨hk, hcon, hr⟩ := hr
        obtain ⟨hlen, hesz⟩ := hcon c hc
        simp only [Rep, iv]
        rcases hr with ⟨h0, rfl⟩ | ⟨b, cap, hb, rfl, hcap, _⟩
        · exact ⟨none, 0, by rw [hlen, h0], by omega, .inl ⟨rfl, by omega⟩⟩
        · obtain ⟨_, _, h6⟩ := hs.conOk key 0 c hc
          rcases h6 with ⟨h6, _⟩ | ⟨b', v, el, h7, h8, h9⟩
          · rw [hb] at h6; cases h6
          · rw [hb] at h7; cases h7
            exact ⟨_, cap, by rw [hlen], by omega, .inr ⟨_, rfl, rfl, getElem?_lt h8, hu key b (by simp) hb, v, el, (0, 0), h8, fun i hi => by simp only [Nat.zero_add]; exact h9 i hi⟩⟩
    | _ => simp only [hc, leads_fail] at h
  | int k n => exact ⟨_, _, h, Hand.self rfl⟩
  | bool b => exact ⟨_, _, h, Hand.self rfl⟩
  | str s => exact ⟨_, _, h, Hand.self rfl⟩
  | nilp => exact ⟨_, _, h, Hand.self rfl⟩
  | nils => exact ⟨_, _, h, Hand.self rfl⟩
  | sl c => exact ⟨_, _, h, Hand.self rfl⟩
  | fn f => exact ⟨_, _, h, Hand.self rfl⟩
  | _ => simp only [pimm, leads_fail] at h

structure HandL (g : Var → D) (ds ds' : List D) (u : Up) : Prop where
  frz : Frz g u
  imm : immL ds' = true
  rep : ∀ {B : Nat} {S0 : Nat → Prop} {n : Nat} {μ : Nat → Option Nat} {a : Act} {w : World} {vs : List Value} {X : Nat → Prop}, Sim B S0 n g μ a w → RepL (vw g μ S0 w) ds vs →
    (∀ b, X b → Xof g μ S0 b) → (∀ key b, (.m key, .bool false) ∈ u → μ key = some b → ¬ X b) → RepL (iv X w) ds' vs

theorem HandL.nil : HandL g [] [] [] := ⟨(by intro p hp; cases hp), rfl, fun _ hr _ _ => hr⟩

theorem HandL.cons {d d' : D} {ds ds' : List D} {u us : Up} (h : Hand g d d' u) (k : HandL g ds ds' us) : HandL g (d :: ds) (d' :: ds') (u ++ us) := by
  refine ⟨h.frz.append k.frz, by simp [immL, h.imm, k.imm], ?_⟩
  intro B S0 n μ a w vs X hs hr hX hu
  simp only [RepL] at hr ⊢
  obtain ⟨v, r, e, h1, h2⟩ := hr
  exact ⟨v, r, e, h.rep hs h1 hX (fun key b hk => hu key b (by simp [hk])), k.rep hs h2 hX (fun key b hk => hu key b (by simp [hk]))⟩

theorem leads_pimms : ∀ {ds : List D} {β : Type} {f : List D → Up → PT β} {x : β}, Leads AC g (pimms ds f) x → ∃ ds' u, Leads AC g (f ds' u) x ∧ HandL g ds ds' u
  | [], _, f, x, h => ⟨[], [], h, HandL.nil⟩
  | d :: ds, _, f, x, h => by
    simp only [pimms] at h
    obtain ⟨d', u, h1, h2⟩ := leads_pimm h
    obtain ⟨ds', us, h3, h4⟩ := leads_pimms h1
    exact ⟨_, _, h3, HandL.cons h2 h4⟩

theorem leads_phand {t : TypeId} {d : D} {β : Type} {f : D → Up → PT β} {x : β} (h : Leads AC g (phand C t d f) x) : ∃ d' u, Leads AC g (f d' u) x ∧ Hand g d d' u := by
  cases d with
  | agg cs =>
    simp only [phand] at h
    obtain ⟨ds', u, h1, h2⟩ := leads_pimms h
    refine ⟨_, _, h1, h2.frz, by simpa [D.imm] using h2.imm, ?_⟩
    intro B S0 n μ a w x X hs hr hX hu
    simp only [Rep] at hr ⊢
    obtain ⟨vs, e, hr⟩ := hr
    exact ⟨vs, e, h2.rep hs hr hX hu⟩
  | nils =>
    simp only [phand] at h
    cases hu : C.P.underlying t with
    | none => simp only [hu, leads_fail] at h
    | some td =>
      cases td with
      | slice elem =>
        simp only [hu] at h
        cases hc : conNil C elem with
        | none => simp only [hc, leads_fail] at h
        | some c =>
          simp only [hc] at h
          refine ⟨_, _, h, by (intro p hp; cases hp), rfl, ?_⟩
          intro B S0 n μ a w x X hs hr hX hu'
          simp only [Rep] at hr ⊢
          have h0 : c.len = 0 := by
            unfold conNil at hc
            cases hv : C.P.underlying elem with
            | none => simp [hv] at hc
            | some te =>
              cases te <;> simp [hv] at hc
              · subst hc; rfl
              · subst hc; rfl
              · obtain ⟨sch, _, rfl⟩ := hc; rfl
          exact ⟨none, 0, by rw [h0]; exact hr, by omega, .inl ⟨rfl, h0⟩⟩
      | _ => simp only [hu, leads_fail] at h
  | ptr cs =>
    simp only [phand, leads_cond, leads_fail, and_false, or_false] at h
    exact ⟨_, _, h.2, Hand.self (by simpa [D.imm] using h.1)⟩
  | sls cs =>
    simp only [phand, leads_cond, leads_fail, and_false, or_false] at h
    exact ⟨_, _, h.2, Hand.self (by simpa [D.imm] using h.1)⟩
  | tup cs => simp only [phand, leads_fail] at h
  | own key off =>
    simp only [phand] at h
    cases hu : C.P.underlying t with
    | none => simp only [hu, leads_fail] at h
    | some td =>
      cases td with
      | pointer elem =>
        simp only [hu] at h
        cases hz : sizeD C elem with
        | none => simp only [hz, leads_fail] at h
        | some m =>
          cases m with
          | zero => simp only [hz, leads_fail] at h
          | succ m =>
            simp only [hz] at h
            obtain ⟨ds, h1, h2, h3⟩ := leads_pcells h
            obtain ⟨ds', u, h4, h5⟩ := leads_pimms h1
            have hne : g (.c key (off + 0)) ≠ .top := by
              have := h3 0 (by omega)
              rw [this.1]; exact (isCell_ne this.2).1
            refine ⟨_, _, h4, h5.frz.append ?_, by simpa [D.imm] using h5.imm, ?_⟩
            · intro p hp
              simp only [List.mem_singleton] at hp
              exact ⟨key, off + 0, hp, hne⟩
            · intro B S0 n μ a w x X hs hr hX hu'
              simp only [Rep] at hr ⊢
              obtain ⟨_, b, hb, rfl⟩ := hr
              simp only [vw] at hb
              have hs' : Sim B S0 ({ P := C.P, eqs := C.eqs, I := C.I, fresh := C.fresh, n := n, own := C.own } : Cfg).n g μ a w := hs
              obtain ⟨vs, h6, h7⟩ := hs'.cells hb h2 h3 (by omega)
              have hbs : b < w.heap.size := by
                obtain ⟨v, el, fr, h8, _⟩ := h6
                exact getElem?_lt h8
              exact ⟨_, vs, rfl, rfl, hbs, hu' key b (by simp) hb, h6, h5.rep hs h7 hX (fun k b hk => hu' k b (by simp [hk]))⟩
      | _ => simp only [hu, leads_fail] at h
  | top => simp only [phand] at h; exact leads_pimm h
  | int k n => simp only [phand] at h; exact leads_pimm h
  | bool b => simp only [phand] at h; exact leads_pimm h
  | str s => simp only [phand] at h; exact leads_pimm h
  | nilp => simp only [phand] at h; exact leads_pimm h
  | sl c => simp only [phand] at h; exact leads_pimm h
  | con c => simp only [phand] at h; exact leads_pimm h
  | osl key n e => simp only [phand] at h; exact leads_pimm h
  | oel key i e => simp only [phand] at h; exact leads_pimm h
  | oit key => simp only [phand] at h; exact leads_pimm h
  | its s p => simp only [phand] at h; exact leads_pimm h
  | fn f => simp only [phand] at h; exact leads_pimm h

theorem leads_phands : ∀ {ts : List TypeId} {ds : List D} {β : Type} {f : List D → Up → PT β} {x : β}, Leads AC g (phands C ts ds f) x → ∃ ds' u, Leads AC g (f ds' u) x ∧ HandL g ds ds' u
  | [], [], _, f, x, h => ⟨[], [], h, HandL.nil⟩
  | [], _ :: _, _, f, x, h => by simp only [phands, leads_fail] at h
  | _ :: _, [], _, f, x, h => by simp only [phands, leads_fail] at h
  | t :: ts, d :: ds, _, f, x, h => by
    simp only [phands] at h
    obtain ⟨d', u, h1, h2⟩ := leads_phand h
    obtain ⟨ds', us, h3, h4⟩ := leads_phands h1
    exact ⟨_, _, h3, HandL.cons h2 h4⟩

mutual
theorem imm_of_flat : ∀ {d : D}, d.flat = true → d.imm = true
  | .int _ _, _ => rfl
  | .bool _, _ => rfl
  | .str _, _ => rfl
  | .nilp, _ => rfl
  | .nils, _ => rfl
  | .fn _, _ => rfl
  | .agg cs, h => by simpa [D.imm] using immL_of_flat (ds := cs) (by simpa [D.flat] using h)
  | .tup cs, h => by simpa [D.imm] using immL_of_flat (ds := cs) (by simpa [D.flat] using h)
theorem immL_of_flat : ∀ {ds : List D}, flatL ds = true → immL ds = true
  | [], _ => rfl
  | d :: r, h => by
    simp only [flatL, Bool.and_eq_true] at h
    simp only [immL, imm_of_flat h.1, immL_of_flat h.2, Bool.and_self]
end

theorem HandL.self : ∀ {ds : List D}, immL ds = true → HandL g ds ds []
  | [], _ => HandL.nil
  | d :: r, h => by
    simp only [immL, Bool.and_eq_true] at h
    exact HandL.cons (Hand.self h.1) (HandL.self h.2)

theorem leads_phandsF {fn : FuncId} {ts : List TypeId} {ds : List D} {β : Type} {f : List D → Up → PT β} {x : β} (h : Leads AC g (phandsF C fn ts ds f) x) : ∃ ds' u, Leads AC g (f ds' u) x ∧ HandL g ds ds' u := by
  unfold phandsF at h
  rw [leads_cond] at h
  rcases h with ⟨hb, h⟩ | ⟨_, h⟩
  · rw [Bool.and_eq_true] at hb
    exact ⟨_, _, h, HandL.self (immL_of_flat hb.2)⟩
  · exact leads_phands h

end
end Go.QA

namespace Go.QA
open Go Go.RowKit

section
variable {C : Cfg} {AC : FuncId → List D → D → Prop} {o : Oper} {B : Nat} {S0 : Nat → Prop} {g : Var → D} {μ : Nat → Option Nat} {a : Act} {w : World} {up : Up}
  {next : Act → World → Prop} {Q : Exit → Act → World → Prop}

theorem leads_app {c c2 : Con} {β : Type} {f : Con → PT β} {x : β} (h : Leads AC g (c.app c2 f) x) :
    ∃ c', Leads AC g (f c') x ∧ c'.vals = c.vals ++ c2.vals ∧ c'.len = c.len + c2.len ∧ c'.esz = c.esz := by
  cases c with
  | ints k l =>
    cases c2 with
    | ints k' l' =>
      simp only [Con.app, leads_cond, leads_fail, and_false, or_false, decide_eq_true_eq] at h
      obtain ⟨rfl, h⟩ := h
      exact ⟨_, h, by simp [Con.vals], by simp [Con.len], rfl⟩
    | _ => simp only [Con.app, leads_fail] at h
  | strs l =>
    cases c2 with
    | strs l' =>
      simp only [Con.app] at h
      exact ⟨_, h, by simp [Con.vals], by simp [Con.len], rfl⟩
    | _ => simp only [Con.app, leads_fail] at h
  | recs sch l =>
    cases c2 with
    | recs sch' l' =>
      simp only [Con.app, leads_cond, leads_fail, and_false, or_false, decide_eq_true_eq] at h
      obtain ⟨rfl, h⟩ := h
      exact ⟨_, h, by simp [Con.vals], by simp [Con.len], rfl⟩
    | _ => simp only [Con.app, leads_fail] at h

theorem Con.vals_one (c : Con) : ∀ v ∈ c.vals, v.oneCell' = true := by
  cases c with
  | ints k l => intro v hv; simp only [Con.vals, List.mem_map] at hv; obtain ⟨n, _, rfl⟩ := hv; rfl
  | strs l => intro v hv; simp only [Con.vals, List.mem_map] at hv; obtain ⟨n, _, rfl⟩ := hv; rfl
  | recs sch l =>
    intro v hv
    simp only [Con.vals, List.mem_flatMap, List.mem_map] at hv
    obtain ⟨r, _, d, hd, rfl⟩ := hv
    have := List.all_eq_true.1 (recD_cells r sch 0 0 0) d hd
    have key : ∀ (sch : List Sc) (a b c : Nat), ∀ d ∈ recD r sch a b c, (scV d).oneCell' = true := by
      intro sch
      induction sch with
      | nil => intro a b c d hd; simp [recD] at hd
      | cons s t ih =>
        intro a b c d hd
        cases s <;> simp only [recD, List.mem_cons] at hd <;> rcases hd with rfl | hd
        · rfl
        · exact ih _ _ _ d hd
        · rfl
        · exact ih _ _ _ d hd
        · rfl
        · exact ih _ _ _ d hd
    exact key sch 0 0 0 d hd

/-- A key without a block: an empty list. -/
theorem Sim.newV (h : Sim B S0 C.n g μ a w) {t : Nat} {c : Con} (hk : g (.m t) = .top) (hc : c.len = 0) :
    Sim B S0 C.n (updF g [(.m t, .bool true), (.c t 0, .con c)]) (fun k => if k = t then none else μ k) a w := by
  have gm : ∀ k, updF g [(.m t, .bool true), (.c t 0, .con c)] (.m k) = if k = t then .bool true else g (.m k) := by
    intro k; simp only [updF]
    rw [upd_ne _ _ (by simp)]
    by_cases e : k = t
    · subst e; rw [upd_same, if_pos rfl]
    · rw [upd_ne _ _ (by simpa using Ne.symm e), if_neg e]
  have gc : ∀ k off, updF g [(.m t, .bool true), (.c t 0, .con c)] (.c k off) = if k = t ∧ off = 0 then .con c else g (.c k off) := by
    intro k off; simp only [updF]
    by_cases e : k = t ∧ off = 0
    · obtain ⟨rfl, rfl⟩ := e; rw [upd_same, if_pos ⟨rfl, rfl⟩]
    · rw [upd_ne _ _ (by rintro ⟨⟩; exact e ⟨rfl, rfl⟩), upd_ne _ _ (by simp), if_neg e]
  have gt : ∀ k, updF g [(.m t, .bool true), (.c t 0, .con c)] (.t k) = g (.t k) := by
    intro k; simp only [updF]; rw [upd_ne _ _ (by simp), upd_ne _ _ (by simp)]
  have gi : ∀ k, updF g [(.m t, .bool true), (.c t 0, .con c)] (.i k) = g (.i k) := by
    intro k; simp only [updF]; rw [upd_ne _ _ (by simp), upd_ne _ _ (by simp)]
  have hT : Trans (vw g μ S0 w) (vw (updF g [(.m t, .bool true), (.c t 0, .con c)]) (fun k => if k = t then none else μ k) S0 w) := by
    refine ⟨Nat.le_refl _, fun b _ hx => ⟨rfl, ?_⟩, fun k hk' => ?_, fun b c el fr e => ⟨c, el, fr, e, rfl⟩, fun k c' hk' e => ?_⟩
    · simp only [vw, Xof] at hx ⊢
      rintro (h1 | ⟨k, h1, h2⟩)
      · exact hx (.inl h1)
      · rw [gm] at h1
        by_cases e : k = t
        · rw [if_pos e] at h2; cases h2
        · rw [if_neg e] at h1 h2; exact hx (.inr ⟨k, h1, h2⟩)
    · simp only [vw] at hk' ⊢
      have e : k ≠ t := by rintro rfl; exact hk' hk
      rw [gm, if_neg e, if_neg e]; exact ⟨hk', rfl⟩
    · simp only [vw] at hk' e ⊢
      have e' : k ≠ t := by rintro rfl; exact hk' hk
      rw [gc, if_neg (by simp [e'])] at e; exact ⟨c', e, rfl, rfl⟩
  have hmb : ∀ k, (∃ bb, updF g [(.m t, .bool true), (.c t 0, .con c)] (.m k) = .bool bb) → k ≠ t → ∃ bb, g (.m k) = .bool bb := by
    rintro k ⟨bb, e⟩ hne; rw [gm, if_neg hne] at e; exact ⟨bb, e⟩
  refine ⟨fun i => ?_, h.sz, h.df, h.base, h.s0, ?_, ?_, ?_, ?_, ?_, ?_⟩
  · rw [gt]; exact Rep.trans hT _ _ (h.tm i)
  · intro k b e1 e2
    by_cases e : k = t
    · rw [if_pos e] at e2; cases e2
    · rw [if_neg e] at e2; rw [gm, if_neg e] at e1; exact h.pres k b e1 e2
  · intro k k' b e1 e2 e3 e4
    by_cases e : k = t
    · rw [if_pos e] at e3; cases e3
    · by_cases e' : k' = t
      · rw [if_pos e'] at e4; cases e4
      · rw [if_neg e] at e3; rw [if_neg e'] at e4
        exact h.inj k k' b (hmb k e1 e) (hmb k' e2 e') e3 e4
  · intro k off e
    rw [gm]
    by_cases e' : k = t
    · rw [if_pos e']; exact ⟨true, rfl⟩
    · rw [gc, if_neg (by simp [e'])] at e; rw [if_neg e']; exact h.here k off e
  · intro k off c' e
    rw [gc] at e
    by_cases e1 : k = t
    · subst e1
      by_cases e2 : off = 0
      · rw [if_pos ⟨rfl, e2⟩] at e; cases e
        refine ⟨e2, fun o ho => by rw [gc, if_neg (by simp [ho])]; exact h.cTop hk o, .inl ⟨by simp, hc⟩⟩
      · rw [if_neg (by simp [e2]), h.cTop hk] at e; cases e
    · rw [if_neg (by simp [e1])] at e
      obtain ⟨f1, f0, f2⟩ := h.conOk k off c' e
      refine ⟨f1, fun o ho => by rw [gc, if_neg (by simp [e1])]; exact f0 o ho, ?_⟩
      rw [if_neg e1]; exact f2
  · intro k off e1 e2
    by_cases e : k = t
    · subst e
      by_cases e3 : off = 0
      · exact absurd (by rw [gc, if_pos ⟨rfl, e3⟩]) (e2 c)
      · exact absurd (by rw [gc, if_neg (by simp [e3])]; exact h.cTop hk off) e1
    · have hv : updF g [(.m t, .bool true), (.c t 0, .con c)] (.c k off) = g (.c k off) := by rw [gc, if_neg (by simp [e])]
      rw [hv] at e1 e2 ⊢
      obtain ⟨b, v, el, x, f1, f2, f3, f4⟩ := h.celOk k off e1 e2
      exact ⟨b, v, el, x, (if_neg e).trans f1, f2, f3, Rep.trans hT _ _ f4⟩
  · intro k e
    rw [gi] at e ⊢
    obtain ⟨s, pos, b, f1, f2, f3, f4⟩ := h.itr k e
    have e1 : k ≠ t := by rintro rfl; rw [hk] at f2; cases f2
    exact ⟨s, pos, b, f1, by rw [gm, if_neg e1]; exact f2, (if_neg e1).trans f3, f4⟩

/-- What is appended, in the machine. -/
theorem more_rep {elem : TypeId} {d : D} {c : Con} {x : Value} {V : Vw} (hm : pmore C elem d = some c) (hr : Rep V d x) :
    ∃ ao cap, x = .slice ao c.len cap ∧ ((c.len = 0 ∧ ao = none) ∨ ∃ b off, ao = some ⟨b, off, none⟩ ∧ cellsAt V.w b off c.vals) := by
  cases d with
  | sl c' =>
    simp only [pmore, Option.some.injEq] at hm; subst hm
    simp only [Rep] at hr
    obtain ⟨ao, cap, hx, _, hr⟩ := hr
    refine ⟨ao, cap, hx, ?_⟩
    rcases hr with ⟨h1, h2⟩ | ⟨ad, rfl, h2, _, _, h5⟩
    · exact .inl ⟨h2, h1⟩
    · exact .inr ⟨ad.block, ad.off, by rw [addr_eta ad h2], h5⟩
  | nils =>
    simp only [pmore] at hm
    simp only [Rep] at hr
    have h0 : c.len = 0 := by
      unfold conNil at hm
      cases hv : C.P.underlying elem with
      | none => simp [hv] at hm
      | some te =>
        cases te <;> simp [hv] at hm
        · subst hm; rfl
        · subst hm; rfl
        · obtain ⟨sch, _, rfl⟩ := hm; rfl
    exact ⟨none, 0, by rw [h0]; exact hr, .inl ⟨h0, rfl⟩⟩
  | _ => simp [pmore] at hm

theorem cells_news {b off : Nat} {c : Con} (h : cellsAt w b off c.vals) : ∀ j u, c.vals[j]? = some u → w.cell? ((⟨b, off, none⟩ : Addr).add j) = some u := fun j u hj => h.load j u hj

theorem vals_len (c : Con) {n : Nat} (h : n = c.esz) : c.vals.length = c.len * n := by rw [Con.vals_length, h]

theorem op_append {c : Call} (ho : o.op = .call c) (hc : c.callee = .builtin .append) : OpOk C AC o := by
  intro B S0 g μ a w up hl hs next Q hn
  obtain ⟨callee, ⟨args⟩, ⟨tys⟩⟩ := c
  simp only at hc; subst hc
  simp only [aop, ho, pcall] at hl
  match args, tys, ho, hl with
  | [], _, _, hl => simp only [leads_fail] at hl
  | [_], _, _, hl => simp only [leads_fail] at hl
  | _ :: _ :: _ :: _, _, _, hl => simp only [leads_fail] at hl
  | [_, _], [], _, hl => simp only [leads_fail] at hl
  | [_, _], [_], _, hl => simp only [leads_fail] at hl
  | [_, _], _ :: _ :: _ :: _, _, hl => simp only [leads_fail] at hl
  | [s, x], [t, t'], ho, hl =>
    simp only [leads_pget] at hl
    obtain ⟨ds, hds, dx, hdx, hl⟩ := hl
    have hrs := hs.ev hds
    have hrx := hs.ev hdx
    unfold pappend at hl
    cases hu : C.P.underlying t with
    | none => simp only [hu, leads_fail] at hl
    | some td =>
      cases td with
      | slice elem =>
        cases hdst : o.dst with
        | none => simp only [hu, hdst, leads_fail] at hl
        | some d =>
          simp only [hu, hdst] at hl
          cases hi : C.P.info? elem with
          | none => simp only [hi, leads_fail] at hl
          | some i =>
            cases hm : pmore C elem dx with
            | none => simp only [hi, hm, leads_fail] at hl
            | some c2 =>
              cases hz : i.zero with
              | none => simp only [hi, hm, hz, leads_fail] at hl
              | some z =>
                simp only [hi, hm, hz, leads_cond, leads_get, leads_fail, and_false, or_false, Bool.and_eq_true, Nat.beq_eq, Nat.blt_eq] at hl
                obtain ⟨⟨⟨⟨⟨rfl, hdn⟩, hesz⟩, hzs⟩, hpos⟩, hl⟩ := hl
                cases hmd : g (.m d) with
                | top =>
                  simp only [hmd] at hl
                  obtain ⟨ao, xcap, hx, hxc⟩ := more_rep hm hrx
                  have happ : ∀ (sv v : Value) (w' : World), a.eval s = sv → (Builtin.append_ #[t, t] o.type #[sv, .slice ao c2.len xcap]).run C.P w = .ok v w' → (execOp a.eval o).run C.P w = .ok (.value v) w' := by
                    intro sv v w' e1 e2
                    simp only [execOp, ho, resolve, invoke, builtin, Sem.run_bind, Sem.run_pure, Result.andThen_ok, List.map_toArray, List.map_cons, List.map_nil, e1, hx, e2]
                  -- onto nothing
                  have onto0 : ∀ (g1 : Var → D) (c' : Con) (ups : Up), a.eval s = .slice none 0 0 → Sim B S0 C.n g1 μ a w → g1 (.m d) = .top → c'.vals = c2.vals → c'.len = c2.len → c'.esz = c2.esz →
                      c2.len * i.bytes ≤ 140737488355328 → c2.len ≤ 9223372036854775807 → updF g up = updF (updF g1 [(.m d, .bool true), (.c d 0, .con c')]) [(.t d, .osl d c'.len c'.esz)] → o.wp C.P a w next Q := by
                    intro g1 c' ups e0 hs1 hm1 e1 e2 e3 e4 e5 e6
                    by_cases h0 : c2.len = 0
                    · have hv := hs1.newV (c := c') hm1 (by rw [e2, h0])
                      have hrun : (Builtin.append_ #[t, t] o.type #[.slice none 0 0, .slice ao c2.len xcap]).run C.P w = .ok (.slice none 0 0) w := by
                        rcases hxc with ⟨_, rfl⟩ | ⟨b, off, rfl, _⟩
                        · simp [Builtin.append_, run_underlying hu, sizeOf, typeInfo, hi, Builtin.lenOf, h0, Builtin.firstCells]
                        · simp [Builtin.append_, run_underlying hu, sizeOf, typeInfo, hi, Builtin.lenOf, h0, Builtin.firstCells, loadCells, loadCellsFrom]
                      refine wp_value (happ _ _ _ e0 hrun) ?_
                      rw [hdst]
                      refine hn _ _ (fun k => if k = d then none else μ k) ?_ (Below.refl _ _)
                      rw [e6]
                      refine hv.put hdn ?_
                      simp only [Rep, vw, updF]
                      exact ⟨by rw [upd_ne _ _ (by simp), upd_same]; simp, fun c3 e => by rw [upd_same] at e; cases e; exact ⟨rfl, rfl⟩, .inl ⟨by rw [e2, h0], trivial⟩⟩
                    · rcases hxc with ⟨h1, _⟩ | ⟨b, off, rfl, hcs⟩
                      · exact absurd h1 h0
                      · have hrun := run_append_nil (P := C.P) w t o.type elem i z hu hi hz ⟨b, off, none⟩ c2.len xcap c2.vals (vals_len c2 hesz) (cells_news hcs) (by omega) (by omega) (by omega)
                        have hge := grownCap_ge w c2.len 0 elem
                        have hnew := (hs1.grow (grow_drew w)).new hm1 (.cells (c2.vals.toArray ++ Builtin.zeroCells z.cells (grownCap w c2.len 0 elem - c2.len)) elem) (updF g1 [(.m d, .bool true), (.c d 0, .con c')])
                          (by simp only [updF]; rw [upd_ne _ _ (by simp), upd_same])
                          (fun k hk => by simp only [updF]; rw [upd_ne _ _ (by simp), upd_ne _ _ (by simpa using Ne.symm hk)])
                          (fun i => by simp only [updF]; rw [upd_ne _ _ (by simp), upd_ne _ _ (by simp)])
                          (fun k off hk => by simp only [updF]; rw [upd_ne _ _ (by rintro ⟨⟩; exact hk rfl), upd_ne _ _ (by simp)])
                          (fun k _ => by simp only [updF]; rw [upd_ne _ _ (by simp), upd_ne _ _ (by simp)])
                          (fun off c3 e => by
                            simp only [updF] at e
                            by_cases e' : off = 0
                            · subst e'; rw [upd_same] at e; cases e
                              refine ⟨rfl, fun o ho => ?_, _, elem, rfl, fun j hj => ?_⟩
                              · simp only [updF]
                                rw [upd_ne _ _ (by rintro ⟨⟩; exact ho rfl), upd_ne _ _ (by simp)]; exact hs1.cTop hm1 o
                              · rw [e1] at hj ⊢
                                rw [Array.getElem?_append_left (by simpa using hj)]; simp
                            · rw [upd_ne _ _ (by rintro ⟨⟩; exact e' rfl), upd_ne _ _ (by simp), hs1.cTop hm1] at e; cases e)
                          (fun off f1 f2 => by
                            simp only [updF] at f1 f2
                            by_cases e' : off = 0
                            · subst e'; rw [upd_same] at f2; exact absurd rfl (f2 c')
                            · rw [upd_ne _ _ (by rintro ⟨⟩; exact e' rfl), upd_ne _ _ (by simp), hs1.cTop hm1] at f1; exact absurd rfl f1)
                          (fun e => by
                            simp only [updF] at e
                            rw [upd_ne _ _ (by simp), upd_ne _ _ (by simp), hs1.iTop hm1] at e; exact absurd rfl e)
                        refine wp_value (happ _ _ _ e0 hrun) ?_
                        rw [hdst]
                        refine hn _ _ (fun k => if k = d then some w.drew.heap.size else μ k) ?_ (((Below.refl B w).drew).alloc hs.base _)
                        rw [e6]
                        refine hnew.1.put hdn ?_
                        simp only [Rep, vw, updF]
                        refine ⟨by rw [upd_ne _ _ (by simp), upd_same]; simp, fun c3 e => by rw [upd_same] at e; cases e; exact ⟨rfl, rfl⟩, .inr ⟨w.drew.heap.size, grownCap w c2.len 0 elem, by simp, (by first | trivial | (rw [e2]; rfl)), by rw [e2]; exact hge, _, elem, (0, 0), heap_alloc_new w.drew _, ?_⟩⟩
                        simp only [Array.size_append, List.size_toArray, size_zeroCells, hzs]
                        rw [vals_len c2 hesz, e3, ← hesz, ← Nat.add_mul]
                        exact Nat.mul_le_mul_right _ (by omega)
                  cases ds with
                  | nils =>
                    simp only [leads_br, leads_fail, and_false, or_false, Bool.and_eq_true, decide_eq_true_eq, leads_ret] at hl
                    obtain ⟨⟨hb1, hb2⟩, rfl⟩ := hl
                    simp only [Rep] at hrs
                    refine onto0 g c2 [] hrs hs hmd rfl rfl rfl hb1 hb2 ?_
                    rw [← updF_append]; rfl
                  | osl K n e =>
                    simp only [leads_get] at hl
                    cases hmK : g (.m K) with
                    | bool bb =>
                      cases bb with
                      | false => simp only [hmK, leads_fail] at hl
                      | true =>
                        simp only [hmK, leads_get] at hl
                        cases hcK : g (.c K 0) with
                        | con c =>
                          simp only [hcK, leads_cond, leads_fail, and_false, or_false, Nat.beq_eq] at hl
                          obtain ⟨he, hl⟩ := hl
                          obtain ⟨c', hl, hv, hlen, hesz'⟩ := leads_app hl
                          simp only [leads_br, leads_fail, and_false, or_false, Bool.and_eq_true, decide_eq_true_eq, leads_ret] at hl
                          obtain ⟨⟨hb1, hb2⟩, rfl⟩ := hl
                          have hKd : K ≠ d := by rintro rfl; rw [hmd] at hmK; cases hmK
                          simp only [Rep, vw] at hrs
                          obtain ⟨_, hcon, hrs⟩ := hrs
                          obtain ⟨hcl, hce⟩ := hcon c hcK
                          have hiK := hs.noIter (key := K) (off := 0) (by rw [hcK]; simp)
                          obtain ⟨hs1, hT1⟩ := hs.drop hmK hcK hiK
                          have hmd1 : dead g K (.m d) = .top := by rw [dead_m, if_neg (Ne.symm hKd)]; exact hmd
                          have hmv : updF g [(.m K, .nilp), (.c K 0, .top), (.m d, .bool true), (.c d 0, .con c'), (.t d, .osl d c'.len c'.esz)] = updF (updF (dead g K) [(.m d, .bool true), (.c d 0, .con c')]) [(.t d, .osl d c'.len c'.esz)] := rfl
                          rcases hrs with ⟨h0, hsv⟩ | ⟨b, cap, hb, hsv, hcap, v0, el0, fr0, hv0, hsz0⟩
                          · have hc0 : c.len = 0 := by omega
                            have hcv : c.vals = [] := List.eq_nil_of_length_eq_zero (by rw [Con.vals_length, hc0]; simp)
                            refine onto0 (dead g K) c' [] hsv hs1 hmd1 (by rw [hv, hcv]; rfl) (by omega) (by rw [hesz', hce, he]) ?_ (by omega) hmv
                            rw [hlen, hc0, Nat.zero_add] at hb1; exact hb1
                          · obtain ⟨_, _, h6⟩ := hs.conOk K 0 c hcK
                            rcases h6 with ⟨h6, _⟩ | ⟨b', v, el, h7, h8, h9⟩
                            · rw [hb] at h6; cases h6
                            rw [hb] at h7; cases h7
                            have e9 : Obj.cells v el (0, 0) = Obj.cells v0 el0 fr0 := Option.some.inj (h8.symm.trans hv0)
                            injection e9 with q1 q2 q3
                            subst q1; subst q2; subst q3
                            have hce' : i.size = c.esz := by omega
                            have hcvl := vals_len c hce'
                            have hc2l := vals_len c2 hesz
                            by_cases hroom : n + c2.len ≤ cap
                            · -- there is room
                              have hfit : n * i.size + c2.vals.length ≤ v.size := by
                                rw [hc2l, ← Nat.add_mul]
                                refine Nat.le_trans (Nat.mul_le_mul_right _ hroom) ?_
                                rw [hce', hce]; exact hsz0
                              have hrun : (Builtin.append_ #[t, t] o.type #[.slice (some ⟨b, 0, none⟩) n cap, .slice ao c2.len xcap]).run C.P w =
                                  .ok (.slice (some ⟨b, 0, none⟩) (n + c2.len) cap) (w.setRow b (v.toList.take (n * i.size) ++ c2.vals ++ v.toList.drop (n * i.size + c2.vals.length)).toArray) := by
                                have hst := run_storeCells_at C.P b (n * i.size) el c2.vals 0 v w h8 (by simpa using hfit) (Con.vals_one c2)
                                simp only [Nat.add_zero] at hst
                                have hf : (Builtin.firstCells i.size c2.len (.slice ao c2.len xcap)).run C.P w = .ok c2.vals.toArray w := by
                                  rcases hxc with ⟨h1, rfl⟩ | ⟨bx, offx, rfl, hcs⟩
                                  · have : c2.vals = [] := List.eq_nil_of_length_eq_zero (by rw [hc2l, h1]; simp)
                                    rw [this]; simp [Builtin.firstCells]
                                  · exact run_firstCells_some (P := C.P) w i.size c2.len ⟨bx, offx, none⟩ c2.len xcap c2.vals hc2l (cells_news hcs)
                                simp [Builtin.append_, run_underlying hu, sizeOf, typeInfo, hi, Builtin.lenOf, hroom, hf, Addr.add_lit, hst]
                              have hnewlen : (v.toList.take (n * i.size) ++ c2.vals ++ v.toList.drop (n * i.size + c2.vals.length)).length = v.size := by
                                simp only [List.length_append, List.length_take, List.length_drop, Array.length_toList]; omega
                              have hmvs := hs.move (c' := c') (v' := (v.toList.take (n * i.size) ++ c2.vals ++ v.toList.drop (n * i.size + c2.vals.length)).toArray) (w' := w.setRow b (v.toList.take (n * i.size) ++ c2.vals ++ v.toList.drop (n * i.size + c2.vals.length)).toArray) hKd hmd hmK hcK hb h8
                                ⟨by simp [World.setRow], fun k hk => setRow_other w b k _ hk⟩ (setRow_heap w b v _ el (0, 0) h8) (by simpa using hnewlen) (fun j hj => by
                                  rw [hv] at hj ⊢
                                  simp only [List.getElem?_toArray]
                                  have htake : v.toList.take (n * i.size) = c.vals := by
                                    apply List.ext_getElem?
                                    intro q
                                    rw [List.getElem?_take]
                                    split
                                    · rename_i hq
                                      have := h9 q (by rw [hcvl, hcl]; exact hq)
                                      rw [← this]; simp
                                    · rename_i hq
                                      rw [List.getElem?_eq_none (by rw [hcvl, hcl]; omega)]
                                  rw [htake, List.getElem?_append_left hj])
                              have hbB := (hs.pres K b (by rw [hmK]; simp) hb).1
                              refine wp_value (happ _ _ _ hsv hrun) ?_
                              rw [hdst]
                              refine hn _ _ (fun k => if k = d then some b else μ k) ?_ ⟨rfl, rfl, rfl, by simp [World.setRow], fun k hk => setRow_other w b k _ (by omega)⟩
                              show Sim B S0 C.n (updF (moved g K d c') [(.t d, .osl d c'.len c'.esz)]) _ _ _
                              refine hmvs.1.put hdn ?_
                              simp only [Rep, vw]
                              refine ⟨by rw [moved_m g c' d hKd, if_pos rfl]; simp, fun c3 e => by rw [moved_c g c' d 0 hKd, if_pos ⟨rfl, rfl⟩] at e; cases e; exact ⟨rfl, rfl⟩, .inr ⟨b, cap, by simp, (by first | trivial | rw [hlen, hcl]), by rw [hlen, hcl]; exact hroom, _, el, (0, 0), setRow_heap w b v _ el (0, 0) h8, ?_⟩⟩
                              rw [hesz', hce]
                              simp only [List.size_toArray, hnewlen]; exact hsz0
                            · -- a new array
                              rcases hxc with ⟨h1, _⟩ | ⟨bx, offx, rfl, hcs⟩
                              · omega
                              have hca : cellsAt w b 0 c.vals := ⟨v, el, (0, 0), h8, fun j hj => by rw [Nat.zero_add]; exact h9 j hj⟩
                              have hrun := run_append_grow (P := C.P) w t o.type elem i z hu hi hz ⟨b, 0, none⟩ n cap c.vals (by rw [hcvl, hcl]) (cells_news hca) ⟨bx, offx, none⟩ c2.len xcap c2.vals hc2l (cells_news hcs) (by omega) (by omega)
                                (growslice_fits (by omega) (by rw [hlen, hcl] at hb1; exact hb1))
                              have hge := grownCap_ge w (n + c2.len) cap elem
                              have hnew := (hs1.grow (grow_drew w)).new hmd1 (.cells (c.vals.toArray ++ c2.vals.toArray ++ Builtin.zeroCells z.cells (grownCap w (n + c2.len) cap elem - (n + c2.len))) elem) (updF (dead g K) [(.m d, .bool true), (.c d 0, .con c')])
                                (by simp only [updF]; rw [upd_ne _ _ (by simp), upd_same])
                                (fun k hk => by simp only [updF]; rw [upd_ne _ _ (by simp), upd_ne _ _ (by simpa using Ne.symm hk)])
                                (fun i => by simp only [updF]; rw [upd_ne _ _ (by simp), upd_ne _ _ (by simp)])
                                (fun k off hk => by simp only [updF]; rw [upd_ne _ _ (by rintro ⟨⟩; exact hk rfl), upd_ne _ _ (by simp)])
                                (fun k _ => by simp only [updF]; rw [upd_ne _ _ (by simp), upd_ne _ _ (by simp)])
                                (fun off c3 e => by
                                  simp only [updF] at e
                                  by_cases e' : off = 0
                                  · subst e'; rw [upd_same] at e; cases e
                                    refine ⟨rfl, fun o ho => ?_, _, elem, rfl, fun j hj => ?_⟩
                                    · simp only [updF]
                                      rw [upd_ne _ _ (by rintro ⟨⟩; exact ho rfl), upd_ne _ _ (by simp)]; exact hs1.cTop hmd1 o
                                    · rw [hv] at hj ⊢
                                      rw [Array.getElem?_append_left (by simpa using hj)]; simp
                                  · rw [upd_ne _ _ (by rintro ⟨⟩; exact e' rfl), upd_ne _ _ (by simp), hs1.cTop hmd1] at e; cases e)
                                (fun off f1 f2 => by
                                  simp only [updF] at f1 f2
                                  by_cases e' : off = 0
                                  · subst e'; rw [upd_same] at f2; exact absurd rfl (f2 c')
                                  · rw [upd_ne _ _ (by rintro ⟨⟩; exact e' rfl), upd_ne _ _ (by simp), hs1.cTop hmd1] at f1; exact absurd rfl f1)
                                (fun e => by
                                  simp only [updF] at e
                                  rw [upd_ne _ _ (by simp), upd_ne _ _ (by simp), hs1.iTop hmd1] at e; exact absurd rfl e)
                              refine wp_value (happ _ _ _ hsv hrun) ?_
                              rw [hdst]
                              refine hn _ _ (fun k => if k = d then some w.drew.heap.size else μ k) ?_ (((Below.refl B w).drew).alloc hs.base _)
                              show Sim B S0 C.n (updF (updF (dead g K) [(.m d, .bool true), (.c d 0, .con c')]) [(.t d, .osl d c'.len c'.esz)]) _ _ _
                              refine hnew.1.put hdn ?_
                              simp only [Rep, vw, updF]
                              refine ⟨by rw [upd_ne _ _ (by simp), upd_same]; simp, fun c3 e => by rw [upd_same] at e; cases e; exact ⟨rfl, rfl⟩, .inr ⟨w.drew.heap.size, grownCap w (n + c2.len) cap elem, by simp, (by first | trivial | (rw [hlen, hcl]; rfl)), by rw [hlen, hcl]; exact hge, _, elem, (0, 0), heap_alloc_new w.drew _, ?_⟩⟩
                              simp only [Array.size_append, List.size_toArray, size_zeroCells, hzs]
                              rw [hcvl, hc2l, hesz', ← hce', hcl, ← Nat.add_mul, ← Nat.add_mul]
                              exact Nat.mul_le_mul_right _ (by omega)
                        | _ => simp only [hcK, leads_fail] at hl
                    | _ => simp only [hmK, leads_fail] at hl
                  | _ => simp only [leads_fail] at hl
                | _ => simp only [hmd, leads_fail] at hl
      | _ => simp only [hu, leads_fail] at hl

theorem op_call (hP : PrgOk C.toPrg) {c : Call} {f : FuncId} (hAC : ∀ f args d, AC f args d → ACalls C.toPrg f args d) (ho : o.op = .call c) (hc : c.callee = .value (.func f)) : OpOkI C AC o := by
  intro B S0 g μ a w up hl hs hI next Q hn
  obtain ⟨callee, ⟨args⟩, ⟨tys⟩⟩ := c
  simp only at hc; subst hc
  simp only [aop, ho, pcall, leads_pgets] at hl
  obtain ⟨ds, hd, hl⟩ := hl
  obtain ⟨ds', u, hl, hh⟩ := leads_phandsF hl
  rw [leads_call] at hl
  obtain ⟨d, hac, hl⟩ := hl
  obtain ⟨⟨fn, hf, hbody, hname⟩, hcall⟩ := hAC _ _ _ hac
  have hr := hs.evL hd
  obtain ⟨hs1, hX1, hX2⟩ := hs.frz hh.frz
  have hXs : ∀ b, Xof (updF g u) μ S0 b → b < w.heap.size := by
    rintro b (h1 | ⟨k, h1, h2⟩)
    · have := hs.s0 b h1; have := hs.base; omega
    · exact (hs1.pres k b (by rw [h1]; simp) h2).2
  have hargs := hh.rep (X := Xof (updF g u) μ S0) hs hr hX1 (fun key b hk hb => hs.frz_out hh.frz hk hb)
  have hcl := hcall _ w _ hXs (hP.mono hI hs.base) hargs
  have hrun : (execOp a.eval o).run C.P w = .ok (.enter f ⟨args.map a.eval⟩) w := by
    have hb' : fn.body ≠ none := by intro e; rw [e] at hbody; cases hbody
    have hn' : fn.name ≠ "runtime.NumGoroutine" := by intro e; rw [e] at hname; simp at hname
    simp [execOp, ho, resolve, Act.eval, Deferred.ofValue, invoke, callFunc, hf, hn', hb']
  unfold Oper.wp
  rw [hrun]
  simp only [Oper.upon]
  refine hcl.mono ?_
  rintro e w' ⟨v, rfl, hbel, hv, hfr⟩
  simp only
  have G : Grow w w' := grow_below hbel (Nat.le_refl _)
  have hB : Below B w w' := hbel.mono hs.base
  cases hfn : adopts C f o.dst with
  | true =>
    rw [hfn] at hl
    simp only [cond_true] at hl
    cases d with
    | sl c =>
      cases hdst : o.dst with
      | none => simp only [padopt, hdst, leads_fail] at hl
      | some t =>
        simp only [padopt, hdst, leads_cond, leads_get, leads_fail, and_false, or_false, Nat.blt_eq] at hl
        obtain ⟨ht, hl⟩ := hl
        cases hm : g (.m t) with
        | top =>
          simp only [hm, leads_ret] at hl
          subst hl
          have hsplit : updF g [(.m t, .bool true), (.c t 0, .con c), (.t t, .osl t c.len c.esz)] = updF (updF g [(.m t, .bool true), (.c t 0, .con c)]) [(.t t, .osl t c.len c.esz)] := rfl
          rcases hfr (by simp only [adopts, Bool.and_eq_true] at hfn; exact hfn.1) c rfl with ⟨h0, rfl⟩ | ⟨nb, cap, vs, el, rfl, hcap, hnb, hblk, hvals, hsz⟩
          · have hs2 := (hs.grow G).newV hm h0
            refine hn _ _ (fun k => if k = t then none else μ k) ?_ hB
            rw [hsplit]
            refine hs2.put ht ?_
            simp only [Rep, vw, updF]
            exact ⟨by rw [upd_ne _ _ (by simp), upd_same]; simp, fun c' e => by rw [upd_same] at e; cases e; exact ⟨rfl, rfl⟩, .inl ⟨h0, trivial⟩⟩
          · have hnew := hs.adopt hm G hnb hblk (updF g [(.m t, .bool true), (.c t 0, .con c)]) (by simp only [updF]; rw [upd_ne _ _ (by simp), upd_same])
              (fun k hk => by simp only [updF]; rw [upd_ne _ _ (by simp), upd_ne _ _ (by simpa using Ne.symm hk)])
              (fun i => by simp only [updF]; rw [upd_ne _ _ (by simp), upd_ne _ _ (by simp)])
              (fun k off hk => by simp only [updF]; rw [upd_ne _ _ (by rintro ⟨⟩; exact hk rfl), upd_ne _ _ (by simp)])
              (fun k _ => by simp only [updF]; rw [upd_ne _ _ (by simp), upd_ne _ _ (by simp)])
              (fun off c' e => by
                simp only [updF] at e
                by_cases e' : off = 0
                · subst e'; rw [upd_same] at e; cases e
                  refine ⟨rfl, fun o ho => ?_, vs, el, rfl, hvals⟩
                  simp only [updF]
                  rw [upd_ne _ _ (by rintro ⟨⟩; exact ho rfl), upd_ne _ _ (by simp)]; exact hs.cTop hm o
                · rw [upd_ne _ _ (by rintro ⟨⟩; exact e' rfl), upd_ne _ _ (by simp), hs.cTop hm] at e; cases e)
              (fun off e1 e2 => by
                simp only [updF] at e1 e2
                by_cases e' : off = 0
                · subst e'; rw [upd_same] at e2; exact absurd rfl (e2 c)
                · rw [upd_ne _ _ (by rintro ⟨⟩; exact e' rfl), upd_ne _ _ (by simp), hs.cTop hm] at e1; exact absurd rfl e1)
              (fun e => by
                simp only [updF] at e
                rw [upd_ne _ _ (by simp), upd_ne _ _ (by simp), hs.iTop hm] at e; exact absurd rfl e)
            refine hn _ _ (fun k => if k = t then some nb else μ k) ?_ hB
            rw [hsplit]
            refine hnew.1.put ht ?_
            simp only [Rep, vw, updF]
            exact ⟨by rw [upd_ne _ _ (by simp), upd_same]; simp, fun c' e => by rw [upd_same] at e; cases e; exact ⟨rfl, rfl⟩, .inr ⟨nb, cap, by simp, rfl, hcap, vs, el, (0, 0), hblk, hsz⟩⟩
        | _ => simp only [hm, leads_fail] at hl
    | _ => simp only [padopt, leads_fail] at hl
  | false =>
  rw [hfn] at hl
  simp only [cond_false] at hl
  cases hfs : (C.fresh.contains f && d.isSl) with
  | true =>
    rw [hfs] at hl
    simp only [cond_true] at hl
    rw [Bool.and_eq_true] at hfs
    have hs2 := hs.grow G
    have hv' : Rep (vw g μ S0 w') d v := by
      cases d <;> simp only [D.isSl, Bool.false_eq_true, and_false] at hfs
      rename_i c
      rcases hfr hfs.1 c rfl with ⟨h0, rfl⟩ | ⟨nb, cap, vs, el, rfl, hcap, hnb, hblk, hvals, hsz⟩
      · simp only [Rep]; exact ⟨none, 0, by rw [h0], by omega, .inl ⟨rfl, h0⟩⟩
      · simp only [Rep]
        refine ⟨_, cap, rfl, hcap, .inr ⟨_, rfl, rfl, by simp only [vw]; exact getElem?_lt hblk, ?_, vs, el, (0, 0), hblk, fun i hi => by simp only [Nat.zero_add]; exact hvals i hi⟩⟩
        simp only [vw, Xof]
        rintro (h1 | ⟨k, h1, h2⟩)
        · have := hs.s0 _ h1; have := hs.base; omega
        · have := (hs.pres k _ (by rw [h1]; simp) h2).2; omega
    rcases leads_pfin.1 hl with ⟨t, e1, ht, rfl⟩ | ⟨e1, rfl⟩
    · rw [e1]; exact hn _ _ μ (hs2.put ht hv') hB
    · rw [e1]; exact hn _ _ μ hs2 hB
  | false =>
  rw [hfs] at hl
  simp only [cond_false] at hl
  cases hfl : d.flat with
  | true =>
    rw [hfl] at hl
    simp only [cond_true] at hl
    have hs2 := hs.grow G
    have hv' : Rep (vw g μ S0 w') d v := Rep.flat d v hfl hv
    rcases leads_pfin.1 hl with ⟨t, e1, ht, rfl⟩ | ⟨e1, rfl⟩
    · rw [e1]; exact hn _ _ μ (hs2.put ht hv') hB
    · rw [e1]; exact hn _ _ μ hs2 hB
  | false =>
    rw [hfl] at hl
    simp only [cond_false] at hl
    have hs2 := hs1.grow G
    have hv' : Rep (vw (updF g u) μ S0 w') d v := Rep.ofI (V := vw (updF g u) μ S0 w') hv
    rcases leads_pfin.1 hl with ⟨t, e1, ht, rfl⟩ | ⟨e1, rfl⟩
    · rw [e1]; refine hn _ _ μ ?_ hB
      rw [updF_append]; exact hs2.put ht hv'
    · rw [e1]; exact hn _ _ μ hs2 hB

end
end Go.QA
