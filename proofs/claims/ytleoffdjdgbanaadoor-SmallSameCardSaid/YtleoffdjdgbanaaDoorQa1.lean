/- The definitions of an abstract interpreter for the code of the model: by-value data, an own memory, continuation-passing; no theorem of the program is proved here. -/
import Derived.Below
import Derived.Orders
import Derived.Tactics
import Derived.Laws.Rows
import Derived.Laws.AppendOwn
import Derived.Laws.Entries
import Derived.Laws.Cells
import Derived.Laws.CopyRow
import Derived.Laws.Append
import Derived.Laws.IdiomCopy
set_option linter.unusedVariables false
set_option linter.unusedSimpArgs false
namespace Go.QA
open Go

abbrev Str := List UInt8

/-- The kinds of the cells of a struct that lies in a list. -/
inductive Sc where
  | int (k : IntKind)
  | bool
  | str
  deriving DecidableEq

/-- A struct that lies in a list: its whole numbers, its bools, its texts, each in their order. -/
structure Rec where
  i : List Int
  b : List Bool
  s : List Str

def Rec.gi (r : Rec) (n : Nat) : Int := r.i.getD n 0
def Rec.gb (r : Rec) (n : Nat) : Bool := r.b.getD n false
def Rec.gs (r : Rec) (n : Nat) : Str := r.s.getD n []

instance : Inhabited Rec := ⟨⟨[], [], []⟩⟩

/-- What a slice holds. -/
inductive Con where
  | ints (k : IntKind) (l : List Int)
  | strs (l : List Str)
  | recs (sch : List Sc) (l : List Rec)

/-- A value as data; 'own', 'osl', 'oel', 'oit': a reference into own memory. -/
inductive D where
  | top
  | int (k : IntKind) (n : Int)
  | bool (b : Bool)
  | str (s : Str)
  | nilp
  | nils
  | agg (cs : List D)
  | tup (cs : List D)
  | sl (c : Con)
  | con (c : Con)
  | ptr (cs : List D)
  | sls (cs : List D)
  | own (key off : Nat)
  | osl (key n e : Nat)
  | oel (key i e : Nat)
  | oit (key : Nat)
  | its (s : Str) (pos : Nat)
  | fn (f : FuncId)
instance : Inhabited D := ⟨.top⟩

inductive Var where
  | t (n : Nat)
  | c (key off : Nat)
  | m (key : Nat)
  | i (key : Nat)

def Var.beq : Var → Var → Bool
  | .t a, .t b => Nat.beq a b
  | .c a x, .c b y => Nat.beq a b && Nat.beq x y
  | .m a, .m b => Nat.beq a b
  | .i a, .i b => Nat.beq a b
  | _, _ => false

theorem Var.beq_iff {a b : Var} : a.beq b = true ↔ a = b := by
  cases a <;> cases b <;> simp [Var.beq, Nat.beq_eq]

/-! ### the state -/

abbrev Up := List (Var × D)
abbrev St := List (Var × D)

def look : St → Var → D
  | [], _ => .top
  | (k, d) :: r, v => bif k.beq v then d else look r v

/-- Writes on a state: the first one first. -/
def upds (s : St) : Up → St
  | [] => s
  | p :: r => upds (p :: s) r

/-! ### programs that read variables -/

inductive PT (α : Type) where
  | ret (a : α)
  | get (v : Var) (f : D → PT α)
  | br (b : Bool) (t e : PT α)
  | fail
  | call (f : FuncId) (args : List D) (k : D → PT α)

/-- What functions tell: an oracle for each function's number. -/
abbrev Orc (R : Type) := FuncId → List D → (D → Option R) → Option R

def PT.run {R α : Type} (Γ : Orc R) (g : Var → D) : PT α → List Var → (α → List Var → Option R) → Option R
  | .ret a, log, k => k a log
  | .get v f, log, k => (f (g v)).run Γ g (v :: log) k
  | .br b t e, log, k => bif b then t.run Γ g log k else e.run Γ g log k
  | .fail, _, _ => none
  | .call f args c, log, k => Γ f args fun d => (c d).run Γ g log k

/-- One way through such a program; AC: what functions tell. -/
inductive PT.Path {α : Type} (AC : FuncId → List D → D → Prop) (g : Var → D) : PT α → α → List Var → Prop where
  | ret (a : α) : PT.Path AC g (.ret a) a []
  | get {v : Var} {f : D → PT α} {a : α} {l : List Var} (h : PT.Path AC g (f (g v)) a l) : PT.Path AC g (.get v f) a (v :: l)
  | brt {b : Bool} {t e : PT α} {a : α} {l : List Var} (hb : b = true) (h : PT.Path AC g t a l) : PT.Path AC g (.br b t e) a l
  | bre {b : Bool} {t e : PT α} {a : α} {l : List Var} (hb : b = false) (h : PT.Path AC g e a l) : PT.Path AC g (.br b t e) a l
  | call {f : FuncId} {args : List D} {k : D → PT α} {d : D} {a : α} {l : List Var} (hc : AC f args d) (h : PT.Path AC g (k d) a l) :
      PT.Path AC g (.call f args k) a l

/-! ### values as data -/

mutual
def ofV : Value → D
  | .int k n => .int k n
  | .bool b => .bool b
  | .string s => .str s.data.toList
  | .pointer none => .nilp
  | .slice none 0 0 => .nils
  | .func (.func f) ⟨[]⟩ ⟨[]⟩ => .fn f
  | .agg cs => ofVA cs
  | _ => .top
def ofVA : Array Value → D
  | ⟨l⟩ => .agg (ofVL l)
def ofVL : List Value → List D
  | [] => []
  | v :: r => ofV v :: ofVL r
end

/-- The cells of a struct in a list. -/
def recD (r : Rec) : List Sc → Nat → Nat → Nat → List D
  | [], _, _, _ => []
  | .int k :: t, a, b, c => .int k (r.gi a) :: recD r t (a + 1) b c
  | .bool :: t, a, b, c => .bool (r.gb b) :: recD r t a (b + 1) c
  | .str :: t, a, b, c => .str (r.gs c) :: recD r t a b (c + 1)

/-- A struct out of its cells. -/
def mkRec {α : Type} : List Sc → List D → List Int → List Bool → List Str → (Rec → PT α) → PT α
  | [], [], a, b, c, k => k ⟨a, b, c⟩
  | .int k' :: t, .int k n :: ds, a, b, c, f => bif decide (k' = k) then mkRec t ds (a ++ [n]) b c f else .fail
  | .bool :: t, .bool x :: ds, a, b, c, k => mkRec t ds a (b ++ [x]) c k
  | .str :: t, .str s :: ds, a, b, c, k => mkRec t ds a b (c ++ [s]) k
  | _, _, _, _, _, _ => .fail

def Con.len : Con → Nat
  | .ints _ l => l.length
  | .strs l => l.length
  | .recs _ l => l.length

def Con.esz : Con → Nat
  | .ints _ _ => 1
  | .strs _ => 1
  | .recs sch _ => sch.length

/-- An element's cells. -/
def Con.at (c : Con) (i : Nat) : List D :=
  match c with
  | .ints k l => [.int k (l.getD i 0)]
  | .strs l => [.str (l.getD i [])]
  | .recs sch l => recD (l.getD i default) sch 0 0 0

def Con.cut (c : Con) (lo hi : Nat) : Con :=
  match c with
  | .ints k l => .ints k ((l.take hi).drop lo)
  | .strs l => .strs ((l.take hi).drop lo)
  | .recs sch l => .recs sch ((l.take hi).drop lo)

mutual
def D.imm : D → Bool
  | .int _ _ | .bool _ | .str _ | .nilp | .nils | .sl _ | .fn _ => true
  | .agg cs => immL cs
  | .tup cs => immL cs
  | .ptr cs => immL cs
  | .sls cs => immL cs
  | _ => false
def immL : List D → Bool
  | [] => true
  | d :: r => d.imm && immL r
end

mutual
/-- Does it name no memory? -/
def D.flat : D → Bool
  | .int _ _ | .bool _ | .str _ | .nilp | .nils | .fn _ => true
  | .agg cs => flatL cs
  | .tup cs => flatL cs
  | _ => false
def flatL : List D → Bool
  | [] => true
  | d :: r => d.flat && flatL r
end

/-- May it lie in one cell, and is it known? -/
def D.isCell : D → Bool
  | .int _ _ | .bool _ | .str _ | .nilp | .nils | .sl _ | .ptr _ | .own _ _ | .osl _ _ _ | .fn _ => true
  | _ => false

/-! ### operations -/

/-- What is told of a program: it; the structs' types that may be compared, with the kinds of their cells; what is known of the world's blocks below a number. -/
structure Prg where
  P : Program
  eqs : List (TypeId × List Sc)
  I : Nat → World → Prop
  /-- the functions whose list is new, and their caller's own -/
  fresh : List FuncId

structure Cfg extends Prg where
  /-- how many slots -/
  n : Nat
  /-- the slots whose new list is one's own -/
  own : List Nat

section
variable {α : Type}

def pget (x : Operand) (f : D → PT α) : PT α :=
  match x with
  | .tmp t => .get (.t t) f
  | .const v => f (ofV v)
  | .func g => f (.fn g)
  | .global _ => .fail

def pgets : List Operand → (List D → PT α) → PT α
  | [], f => f []
  | x :: r, f => pget x fun d => pgets r fun ds => f (d :: ds)

/-- A result, and other writes. -/
def pfin (C : Cfg) (dst : Option Tmp) (d : D) (up : Up) : PT Up :=
  match dst with
  | some t => bif Nat.blt t C.n then .ret (up ++ [(.t t, d)]) else .fail
  | none => .ret up

/-- The cells that a value has. -/
def D.cells : D → List D
  | .agg cs => cs
  | d => [d]

def cellUps (key : Nat) : Nat → List D → Up
  | _, [] => []
  | off, d :: r => (.c key off, d) :: cellUps key (off + 1) r

/-- A new variable of one's own with such cells. -/
def pnew (C : Cfg) (dst : Option Tmp) (cs : List D) : PT Up :=
  match dst with
  | some t => bif Nat.blt t C.n then (bif cs.all D.isCell then .get (.m t) fun
      | .top => .ret (((.m t, .bool true) :: cellUps t 0 cs) ++ [(.t t, .own t 0)])
      | _ => .fail else .fail) else .fail
  | none => .fail

def zeroD (C : Cfg) (t : TypeId) : Option D := ((C.P.info? t).bind (·.zero)).map ofV

def sizeD (C : Cfg) (t : TypeId) : Option Nat := (C.P.info? t).map (·.size)

/-- A struct's or an array's type? -/
def aggD (C : Cfg) (t : TypeId) : Option Bool :=
  match C.P.underlying t with
  | some (.struct _) => some true
  | some (.array _ _) => some true
  | some _ => some false
  | none => none

/-- Reads cells of an own variable. -/
def pcells (key : Nat) : Nat → Nat → (List D → PT α) → PT α
  | _, 0, f => f []
  | off, n + 1, f => .get (.c key off) fun d => bif d.isCell then pcells key (off + 1) n fun ds => f (d :: ds) else .fail

/-- Cells at an address as a value of a type. -/
def pview (C : Cfg) (t : TypeId) (cs : List D) (f : D → PT α) : PT α :=
  match aggD C t, sizeD C t with
  | some true, some n => bif Nat.ble n cs.length then f (.agg (cs.take n)) else .fail
  | some false, some _ => match cs with
    | d :: _ => f d
    | [] => .fail
  | _, _ => .fail

def pload (C : Cfg) (t : TypeId) (addr : D) (f : D → PT α) : PT α :=
  match addr with
  | .ptr cs => pview C t cs f
  | .own key off => match sizeD C t with
    | some (n + 1) => pcells key off (n + 1) fun ds => pview C t ds f
    | _ => .fail
  | .oel key i e => .get (.c key 0) fun
    | .con c => bif Nat.beq e c.esz then pview C t (c.at i) f else .fail
    | _ => .fail
  | _ => .fail

def Con.setAt (c : Con) (i : Nat) (v : D) (f : Con → PT α) : PT α :=
  match c, v with
  | .ints k l, .int k' n => bif decide (k = k') then f (.ints k (l.set i n)) else .fail
  | .strs l, .str s => f (.strs (l.set i s))
  | _, _ => .fail

def pstore (C : Cfg) (t : TypeId) (addr v : D) (f : Up → PT α) : PT α :=
  match addr with
  | .own key off => match sizeD C t with
    | some n => bif Nat.beq n v.cells.length && v.cells.all D.isCell then
        .get (.m key) fun
          | .bool true => pcells key off n fun _ => f (cellUps key off v.cells)
          | _ => .fail else .fail
    | none => .fail
  | .oel key i e => match sizeD C t with
    | some 1 => .get (.m key) fun
      | .bool true => .get (.c key 0) fun
        | .con c => bif Nat.beq e 1 then c.setAt i v fun c' => f [(.c key 0, .con c')] else .fail
        | _ => .fail
      | _ => .fail
    | _ => .fail
  | _ => .fail

/-- Fills a struct's cells: (offset, size) of each field. -/
def fillD : List Field → List (Nat × D) → Cfg → List D → Option (List D)
  | _, [], _, cs => some cs
  | fs, (i, v) :: rest, C, cs =>
    match (fs[i]?).bind fun f => (sizeD C f.type).map fun n => (f.offset, n) with
    | some (off, n) => bif Nat.beq n v.cells.length && Nat.ble (off + n) cs.length && v.cells.all D.isCell then
        fillD fs rest C (cs.take off ++ v.cells ++ cs.drop (off + n)) else none
    | none => none

def pbuild (C : Cfg) (t : TypeId) (parts : List (Nat × D)) (f : D → PT α) : PT α :=
  match zeroD C t, C.P.underlying t with
  | some (.agg z), some (.struct fs) => bif fs.toList.all fun f => (sizeD C f.type).isSome then (match fillD fs.toList parts C z with
    | some cs => f (.agg cs)
    | none => .fail) else .fail
  | _, _ => .fail

/-- What kinds an element's cells are of. -/
def schOf (C : Cfg) (t : TypeId) : Option (List Sc) :=
  match C.P.underlying t with
  | some (.struct fs) => fs.toList.mapM fun f => match C.P.underlying f.type with
    | some (.int k) => some (.int k)
    | some .bool => some .bool
    | some .string => some .str
    | _ => none
  | _ => none

def pints {α : Type} (k : IntKind) : List D → (List Int → PT α) → PT α
  | [], f => f []
  | .int k' n :: r, f => bif decide (k' = k) then pints k r fun l => f (n :: l) else .fail
  | _, _ => .fail

def pstrs {α : Type} : List D → (List Str → PT α) → PT α
  | [], f => f []
  | .str s :: r, f => pstrs r fun l => f (s :: l)
  | _, _ => .fail

def precs {α : Type} (sch : List Sc) : List D → (List Rec → PT α) → PT α
  | [], f => f []
  | d :: r, f => mkRec sch d.cells [] [] [] fun x => precs sch r fun l => f (x :: l)

/-- A list's content out of its elements: each told once, in order. -/
def pcon (C : Cfg) (elem : TypeId) (ds : List D) (f : Con → PT α) : PT α :=
  match C.P.underlying elem with
  | some (.int k) => pints k ds fun l => f (.ints k l)
  | some .string => pstrs ds fun l => f (.strs l)
  | some (.struct _) => match schOf C elem with
    | some sch => precs sch ds fun l => f (.recs sch l)
    | none => .fail
  | _ => .fail

/-- A new list: one's own, or not to be written any more. -/
def pnewList (C : Cfg) (dst : Option Tmp) (c : Con) : PT Up :=
  match dst with
  | some t => bif Nat.blt t C.n then
      (bif C.own.contains t then .get (.m t) fun
        | .top => .ret [(.m t, .bool true), (.c t 0, .con c), (.t t, .osl t c.len c.esz)]
        | _ => .fail
      else .ret [(.t t, .sl c)]) else .fail
  | none => .fail

/-- Lists in a list. -/
def D.isSl : D → Bool
  | .sl _ => true
  | _ => false

/-- A new list of lists, not to be written any more. -/
def pnewSls (C : Cfg) (dst : Option Tmp) (ds : List D) : PT Up :=
  match dst with
  | some t => bif Nat.blt t C.n && ds.all D.isSl then .ret [(.t t, .sls ds)] else .fail
  | none => .fail

/-- Is it a list's type? -/
def isSlT (C : Cfg) (t : TypeId) : Bool :=
  match C.P.underlying t with
  | some (.slice _) => true
  | _ => false

def inOrder : Nat → List (Nat × Operand) → Bool
  | _, [] => true
  | n, (i, _) :: r => Nat.beq n i && inOrder (n + 1) r

/-- The runes of a text. -/
def unInt : Value → Int
  | .int _ n => n
  | _ => 0
def runesOf (s : Str) : List Int := (Conv.runesFrom ⟨⟨s⟩⟩ s.length 0 #[]).toList.map unInt
/-- The text of runes. -/
def strOf (l : List Int) : Str := l.flatMap fun n => (Utf8.encode n).data.toList

/-- What a list in the program's hands holds; writes that follow. -/
def pcontent (d : D) (f : Con → Up → PT α) : PT α :=
  match d with
  | .sl c => f c []
  | .osl key _ _ => .get (.c key 0) fun
    | .con c => f c [(.m key, .bool false)]
    | _ => .fail
  | _ => .fail

def pconvert (C : Cfg) (dst : Option Tmp) (src ty : TypeId) (x : D) : PT Up :=
  match C.P.underlying src, C.P.underlying ty, x with
  | some _, some (.int k), .int _ n => pfin C dst (.int k (k.wrap n)) []
  | some _, some .string, .int _ n => pfin C dst (.str (Utf8.encode n).data.toList) []
  | some _, some .string, .str s => pfin C dst (.str s) []
  | some _, some (.slice e), .str s => match C.P.underlying e with
    | some (.int .i32) => pnewList C dst (.ints .i32 (runesOf s))
    | _ => .fail
  | some (.slice e), some .string, .nils => match C.P.underlying e with
    | some (.int .i32) => pfin C dst (.str []) []
    | _ => .fail
  | some (.slice e), some .string, .sl (.ints .i32 l) => match C.P.underlying e with
    | some (.int .i32) => pfin C dst (.str (strOf l)) []
    | _ => .fail
  | some (.slice e), some .string, .osl key _ _ => match C.P.underlying e with
    | some (.int .i32) => .get (.c key 0) fun
      | .con (.ints .i32 l) => pfin C dst (.str (strOf l)) []
      | _ => .fail
    | _ => .fail
  | _, _, _ => .fail

/-- Bounds of a slice expression at a length. -/
def pbounds (len : Nat) (lo hi : Option D) (f : Nat → Nat → PT α) : PT α :=
  let low (h : Nat) : PT α := match lo with
    | none => f 0 h
    | some (.int _ l) => .br (decide (0 ≤ l) && decide (l ≤ (h : Int))) (f l.toNat h) .fail
    | _ => .fail
  match hi with
  | none => low len
  | some (.int _ h) => .br (decide (0 ≤ h) && decide (h ≤ (len : Int))) (low h.toNat) .fail
  | _ => .fail

def pslice (C : Cfg) (dst : Option Tmp) (t : TypeId) (x : D) (lo hi : Option D) : PT Up :=
  match C.P.underlying t, x with
  | some .string, .str s => pbounds s.length lo hi fun l h => pfin C dst (.str ((s.take h).drop l)) []
  | some (.slice elem), .sl c => match sizeD C elem with
    | some e => bif Nat.beq e c.esz then pbounds c.len lo hi fun l h => pfin C dst (.sl (c.cut l h)) [] else .fail
    | none => .fail
  | some (.slice elem), .osl key n e => match sizeD C elem with
    | some e' => bif Nat.beq e e' then .get (.c key 0) fun
      | .con c => pbounds n lo hi fun l h => pfin C dst (.sl (c.cut l h)) [(.m key, .bool false)]
      | _ => .fail else .fail
    | none => .fail
  | _, _ => .fail

def pfieldAddr (C : Cfg) (dst : Option Tmp) (s : TypeId) (x : D) (i : Nat) : PT Up :=
  match C.P.underlying s with
  | some (.struct fs) => match fs.toList[i]? with
    | some f => match sizeD C f.type with
      | some (_ + 1) => match x with
        | .own key off => pfin C dst (.own key (off + f.offset)) []
        | .ptr cs => pfin C dst (.ptr (cs.drop f.offset)) []
        | _ => .fail
      | _ => .fail
    | none => .fail
  | _ => .fail

/-- Lists of texts as such. -/
def strsL : List D → Option (List (List Str))
  | [] => some []
  | .sl (.strs l) :: r => (strsL r).map (l :: ·)
  | _ => none

def pindexAddr (C : Cfg) (dst : Option Tmp) (t : TypeId) (x i : D) : PT Up :=
  match C.P.underlying t, i with
  | some (.slice elem), .int _ n => match sizeD C elem, x with
    | some e, .sl c => bif Nat.beq e c.esz then .br (decide (0 ≤ n) && decide (n < (c.len : Int))) (pfin C dst (.ptr (c.at n.toNat)) []) .fail else .fail
    | some e, .osl key l e' => bif Nat.beq e e' then .br (decide (0 ≤ n) && decide (n < (l : Int))) (pfin C dst (.oel key n.toNat e) []) .fail else .fail
    | some e, .sls cs => bif Nat.beq e 1 then (match strsL cs with
      | some ls => .br (decide (0 ≤ n) && decide (n < (cs.length : Int))) (pfin C dst (.ptr [.sl (.strs (ls.getD n.toNat []))]) []) .fail
      | none => .fail) else .fail
    | _, _ => .fail
  | _, _ => .fail

def pindex (C : Cfg) (dst : Option Tmp) (t : TypeId) (x i : D) : PT Up :=
  match C.P.underlying t, x, i with
  | some .string, .str s, .int _ n => .br (decide (0 ≤ n) && decide (n < (s.length : Int))) (pfin C dst (.int .u8 ((s.getD n.toNat 0).toNat : Int)) []) .fail
  | _, _, _ => .fail

def pfield (C : Cfg) (dst : Option Tmp) (t : TypeId) (x : D) (i : Nat) : PT Up :=
  match C.P.underlying t, x with
  | some (.struct fs), .agg cs => match fs.toList[i]? with
    | some f => match sizeD C f.type with
      | some n => bif Nat.ble (f.offset + n) cs.length then pview C f.type (cs.drop f.offset) fun d => pfin C dst d [] else .fail
      | none => .fail
    | none => .fail
  | _, _ => .fail

/-- '==' of plain values. -/
def eqD : D → D → Option Bool
  | .int k a, .int k' b => bif decide (k = k') then some (a == b) else none
  | .bool a, .bool b => some (a == b)
  | .str a, .str b => some (a == b)
  | _, _ => none

def eqL : List D → List D → Option Bool
  | [], [] => some true
  | a :: r, b :: q => match eqD a b, eqL r q with
    | some x, some y => some (x && y)
    | _, _ => none
  | _, _ => none

def schFits : List Sc → List D → Bool
  | [], [] => true
  | .int k :: t, .int k' _ :: ds => decide (k' = k) && schFits t ds
  | .bool :: t, .bool _ :: ds => schFits t ds
  | .str :: t, .str _ :: ds => schFits t ds
  | _, _ => false

def findSch (t : TypeId) : List (TypeId × List Sc) → Option (List Sc)
  | [] => none
  | (u, sch) :: r => bif Nat.beq u t then some sch else findSch t r

/-- '==' of structs whose type is listed. -/
def peq (C : Cfg) (t : TypeId) (xs ys : List D) : Option Bool :=
  match findSch t C.eqs with
  | none => none
  | some sch => bif schFits sch xs && schFits sch ys then eqL xs ys else none

def pbin (C : Cfg) (dst : Option Tmp) (op : BinOp) (t : TypeId) (x y : D) : PT Up :=
  match op, x, y with
  | .add, .int k a, .int k' b => bif decide (k = k') then pfin C dst (.int k (k.wrap (a + b))) [] else .fail
  | .sub, .int k a, .int k' b => bif decide (k = k') then pfin C dst (.int k (k.wrap (a - b))) [] else .fail
  | .mul, .int k a, .int k' b => bif decide (k = k') then pfin C dst (.int k (k.wrap (a * b))) [] else .fail
  | .quo, .int k a, .int k' b => bif decide (k = k') then .br (b == 0) .fail (pfin C dst (.int k (k.wrap (a.tdiv b))) []) else .fail
  | .rem, .int k a, .int k' b => bif decide (k = k') then .br (b == 0) .fail (pfin C dst (.int k (a.tmod b)) []) else .fail
  | .eql, .int k a, .int k' b => bif decide (k = k') then pfin C dst (.bool (a == b)) [] else .fail
  | .neq, .int k a, .int k' b => bif decide (k = k') then pfin C dst (.bool (a != b)) [] else .fail
  | .lss, .int k a, .int k' b => bif decide (k = k') then pfin C dst (.bool (decide (a < b))) [] else .fail
  | .leq, .int k a, .int k' b => bif decide (k = k') then pfin C dst (.bool (decide (a ≤ b))) [] else .fail
  | .gtr, .int k a, .int k' b => bif decide (k = k') then pfin C dst (.bool (decide (a > b))) [] else .fail
  | .geq, .int k a, .int k' b => bif decide (k = k') then pfin C dst (.bool (decide (a ≥ b))) [] else .fail
  | .add, .str a, .str b => .br (decide (a.length + b.length ≤ 9223372036854775807)) (pfin C dst (.str (a ++ b)) []) .fail
  | .eql, .str a, .str b => pfin C dst (.bool (a == b)) []
  | .neq, .str a, .str b => pfin C dst (.bool (!(a == b))) []
  | .eql, .bool a, .bool b => match C.P.underlying t with
    | some .bool => pfin C dst (.bool (a == b)) []
    | _ => .fail
  | .neq, .bool a, .bool b => match C.P.underlying t with
    | some .bool => pfin C dst (.bool (!(a == b))) []
    | _ => .fail
  | .eql, .ptr _, .nilp => match C.P.underlying t with
    | some (.pointer _) => pfin C dst (.bool false) []
    | _ => .fail
  | .neq, .ptr _, .nilp => match C.P.underlying t with
    | some (.pointer _) => pfin C dst (.bool true) []
    | _ => .fail
  | .eql, .agg xs, .agg ys => match peq C t xs ys with
    | some b => pfin C dst (.bool b) []
    | none => .fail
  | .neq, .agg xs, .agg ys => match peq C t xs ys with
    | some b => pfin C dst (.bool (!b)) []
    | none => .fail
  | _, _, _ => .fail

def pun (C : Cfg) (dst : Option Tmp) (op : UnOp) (x : D) : PT Up :=
  match op, x with
  | .neg, .int k n => pfin C dst (.int k (k.wrap (0 - n))) []
  | .not, .bool b => pfin C dst (.bool (!b)) []
  | _, _ => .fail

def plen (C : Cfg) (t : TypeId) (x : D) : Option Nat :=
  match C.P.underlying t, x with
  | some .string, .str s => some s.length
  | some (.slice _), .sl c => some c.len
  | some (.slice _), .nils => some 0
  | some (.slice _), .osl _ n _ => some n
  | some (.slice _), .sls cs => some cs.length
  | _, _ => none

def Con.app (c c' : Con) (f : Con → PT α) : PT α :=
  match c, c' with
  | .ints k l, .ints k' l' => bif decide (k = k') then f (.ints k (l ++ l')) else .fail
  | .strs l, .strs l' => f (.strs (l ++ l'))
  | .recs sch l, .recs sch' l' => bif decide (sch = sch') then f (.recs sch (l ++ l')) else .fail
  | _, _ => .fail

/-- The greater, or the smaller. -/
def mm (mx : Bool) (a b : Int) : Int := bif mx then (if b > a then b else a) else (if b < a then b else a)

def pminmax (mx : Bool) : Int → List D → IntKind → (Int → PT α) → PT α
  | a, [], _, f => f a
  | a, .int k' b :: r, k, f => bif decide (k' = k) then pminmax mx (mm mx a b) r k f else .fail
  | _, _, _, _ => .fail

/-- A value that is handed on: own lists are not written any more. -/
def pimm (d : D) (f : D → Up → PT α) : PT α :=
  match d with
  | .int _ _ | .bool _ | .str _ | .nilp | .nils | .sl _ | .fn _ => f d []
  | .osl key _ _ => .get (.c key 0) fun
    | .con c => f (.sl c) [(.m key, .bool false)]
    | _ => .fail
  | _ => .fail

def pimms : List D → (List D → Up → PT α) → PT α
  | [], f => f [] []
  | d :: r, f => pimm d fun d' u => pimms r fun ds us => f (d' :: ds) (u ++ us)

/-- Is all of it by value? -/
def D.imm1 : D → Bool
  | .int _ _ | .bool _ | .str _ | .nilp | .nils | .sl _ | .fn _ => true
  | _ => false

/-- The empty list of an element's type. -/
def conNil (C : Cfg) (elem : TypeId) : Option Con :=
  match C.P.underlying elem with
  | some (.int k) => some (.ints k [])
  | some .string => some (.strs [])
  | some (.struct _) => (schOf C elem).map fun sch => .recs sch []
  | _ => none

def phand (C : Cfg) (t : TypeId) (d : D) (f : D → Up → PT α) : PT α :=
  match d with
  | .agg cs => pimms cs fun ds u => f (.agg ds) u
  | .nils => match C.P.underlying t with
    | some (.slice elem) => match conNil C elem with
      | some c => f (.sl c) []
      | none => .fail
    | _ => .fail
  | .ptr cs => bif immL cs then f (.ptr cs) [] else .fail
  | .sls cs => bif immL cs then f (.sls cs) [] else .fail
  | .tup _ => .fail
  | .own key off => match C.P.underlying t with
    | some (.pointer elem) => match sizeD C elem with
      | some (n + 1) => pcells key off (n + 1) fun ds => pimms ds fun ds' u => f (.ptr ds') (u ++ [(.m key, .bool false)])
      | _ => .fail
    | _ => .fail
  | d => pimm d f

def phands (C : Cfg) : List TypeId → List D → (List D → Up → PT α) → PT α
  | [], [], f => f [] []
  | t :: ts, d :: r, f => phand C t d fun d' u => phands C ts r fun ds us => f (d' :: ds) (u ++ us)
  | _, _, _ => .fail

/-- To a function whose list is new: what names no memory is handed as it is. -/
def phandsF (C : Cfg) (fn : FuncId) (ts : List TypeId) (ds : List D) (f : List D → Up → PT α) : PT α := bif C.fresh.contains fn && flatL ds then f ds [] else phands C ts ds f

/-- What is appended. -/
def pmore (C : Cfg) (elem : TypeId) (d : D) : Option Con :=
  match d with
  | .sl c => some c
  | .nils => conNil C elem
  | _ => none

def pappend (C : Cfg) (dst : Option Tmp) (t t' : TypeId) (s x : D) : PT Up :=
  match C.P.underlying t, dst with
  | some (.slice elem), some d => match C.P.info? elem, pmore C elem x with
    | some i, some c2 => match i.zero with
      | some z => bif Nat.beq t t' && Nat.blt d C.n && Nat.beq i.size c2.esz && Nat.beq z.cells.size i.size && Nat.blt 0 i.size then
          .get (.m d) fun
          | .top => match s with
            | .osl K _ e => .get (.m K) fun
              | .bool true => .get (.c K 0) fun
                | .con c => bif Nat.beq e c2.esz then c.app c2 fun c' => .br (decide (c'.len * i.bytes ≤ 140737488355328) && decide (c'.len ≤ 9223372036854775807))
                    (.ret [(.m K, .nilp), (.c K 0, .top), (.m d, .bool true), (.c d 0, .con c'), (.t d, .osl d c'.len c'.esz)]) .fail else .fail
                | _ => .fail
              | _ => .fail
            | .nils => .br (decide (c2.len * i.bytes ≤ 140737488355328) && decide (c2.len ≤ 9223372036854775807))
                (.ret [(.m d, .bool true), (.c d 0, .con c2), (.t d, .osl d c2.len c2.esz)]) .fail
            | _ => .fail
          | _ => .fail else .fail
      | none => .fail
    | _, _ => .fail
  | _, _ => .fail

/-- Is the result new, and wanted as one's own? -/
def adopts (C : Cfg) (f : FuncId) (dst : Option Tmp) : Bool := C.fresh.contains f && match dst with | some t => C.own.contains t | none => false

/-- A list that a call has made becomes one's own. -/
def padopt (C : Cfg) (dst : Option Tmp) (d : D) : PT Up :=
  match d, dst with
  | .sl c, some t => bif Nat.blt t C.n then .get (.m t) fun
    | .top => .ret [(.m t, .bool true), (.c t 0, .con c), (.t t, .osl t c.len c.esz)]
    | _ => .fail else .fail
  | _, _ => .fail

def pcall (C : Cfg) (dst : Option Tmp) (c : Call) : PT Up :=
  match c.callee with
  | .builtin .append => match c.args.toList, c.argTypes.toList with
    | [s, x], [t, t'] => pget s fun ds => pget x fun dx => pappend C dst t t' ds dx
    | _, _ => .fail
  | .builtin .len => match c.args.toList, c.argTypes.toList with
    | [x], [t] => pget x fun d => match plen C t d with
      | some n => pfin C dst (.int .i64 (n : Int)) []
      | none => .fail
    | _, _ => .fail
  | .builtin .min => pgets c.args.toList fun
    | .int k a :: r => pminmax false a r k fun n => pfin C dst (.int k n) []
    | _ => .fail
  | .builtin .max => pgets c.args.toList fun
    | .int k a :: r => pminmax true a r k fun n => pfin C dst (.int k n) []
    | _ => .fail
  | .value (.func f) => pgets c.args.toList fun ds => phandsF C f c.argTypes.toList ds fun ds' up => .call f ds' fun d => bif adopts C f dst then padopt C dst d else bif C.fresh.contains f && d.isSl then pfin C dst d [] else pfin C dst d (bif d.flat then [] else up)
  | _ => .fail

def pnext (C : Cfg) (dst : Option Tmp) (x : D) : PT Up :=
  match x with
  | .oit key => .get (.i key) fun
    | .its s pos => .br (decide (pos < s.length))
        (pfin C dst (.tup [.bool true, .int .i64 (pos : Int), .int .i32 ((Utf8.decode ⟨⟨s⟩⟩ pos).1 : Int)]) [(.i key, .its s (pos + (Utf8.decode ⟨⟨s⟩⟩ pos).2))])
        (pfin C dst (.tup [.bool false]) [])
    | _ => .fail
  | _ => .fail

def prange (C : Cfg) (dst : Option Tmp) (t : TypeId) (x : D) : PT Up :=
  match C.P.underlying t, x, dst with
  | some .string, .str s, some d => bif Nat.blt d C.n then .get (.m d) fun
    | .top => .ret [(.m d, .bool true), (.i d, .its s 0), (.t d, .oit d)]
    | _ => .fail else .fail
  | _, _, _ => .fail

def pext (C : Cfg) (dst : Option Tmp) (x : D) (i : Nat) : PT Up :=
  match x with
  | .tup cs => match cs[i]? with
    | some d => pfin C dst d []
    | none => .fail
  | _ => .fail

def pnil (C : Cfg) (dst : Option Tmp) (x : D) : PT Up :=
  match x with
  | .own key off => pfin C dst (.own key off) []
  | .ptr cs => pfin C dst (.ptr cs) []
  | .oel key i e => pfin C dst (.oel key i e) []
  | _ => .fail

def pparts (ps : List (Nat × Operand)) (f : List (Nat × D) → PT α) : PT α :=
  match ps with
  | [] => f []
  | (i, x) :: r => pget x fun d => pparts r fun ds => f ((i, d) :: ds)

def popt (x : Option Operand) (f : Option D → PT α) : PT α :=
  match x with
  | none => f none
  | some x => pget x fun d => f (some d)

def aop (C : Cfg) (o : Oper) : PT Up :=
  match o.op with
  | .move x => pget x fun d => pfin C o.dst d []
  | .assign x => pget x fun d => pfin C o.dst d []
  | .pick c a b => pget c fun
    | .bool x => .br x (pget a fun d => pfin C o.dst d []) (pget b fun d => pfin C o.dst d [])
    | _ => .fail
  | .alloc t => match zeroD C t with
    | some z => pnew C o.dst z.cells
    | none => .fail
  | .box _ x => pget x fun d => pnew C o.dst d.cells
  | .build t ps => pparts ps.toList fun ds => pbuild C t ds fun d => pfin C o.dst d []
  | .buildSlice t n ps => bif Nat.beq n ps.toList.length && inOrder 0 ps.toList then
      (match C.P.underlying t with
      | some (.slice elem) => match C.P.info? elem with
        | some i => bif i.zero.isSome && Nat.ble (n * i.size) 16777216 then bif isSlT C elem && Nat.beq i.size 1 then pgets (ps.toList.map (·.2)) (fun ds => pnewSls C o.dst ds) else pgets (ps.toList.map (·.2)) fun ds => pcon C elem ds fun c => bif Nat.beq i.size c.esz then pnewList C o.dst c else .fail else .fail
        | none => .fail
      | _ => .fail) else .fail
  | .load t a => pget a fun d => pload C t d fun r => pfin C o.dst r []
  | .store t a x => pget a fun d => pget x fun v => pstore C t d v fun up => match o.dst with
    | none => .ret up
    | some _ => .fail
  | .nilCheck x => pget x fun d => pnil C o.dst d
  | .binOp op t x y _ => pget x fun a => pget y fun b => pbin C o.dst op t a b
  | .unOp op _ x => pget x fun d => pun C o.dst op d
  | .convert s t x => pget x fun d => pconvert C o.dst s t d
  | .slice t x lo hi none => pget x fun d => popt lo fun l => popt hi fun h => pslice C o.dst t d l h
  | .fieldAddr s x i => pget x fun d => pfieldAddr C o.dst s d i
  | .field t x i => pget x fun d => pfield C o.dst t d i
  | .indexAddr t x i => pget x fun d => pget i fun n => pindexAddr C o.dst t d n
  | .index t x i => pget x fun d => pget i fun n => pindex C o.dst t d n
  | .range t x => pget x fun d => prange C o.dst t d
  | .next x true => pget x fun d => pnext C o.dst d
  | .extract x i => pget x fun d => pext C o.dst d i
  | .call c => pcall C o.dst c
  | _ => .fail

end

/-! ### code -/

/-- The first region's number. -/
def firstRegion : Code → Nat
  | .region id _ _ => id
  | .seq a b => match firstRegion a with
    | 0 => firstRegion b
    | n + 1 => n + 1
  | .block _ c | .loop c | .scope c => firstRegion c
  | .cond _ a b => match firstRegion a with
    | 0 => firstRegion b
    | n + 1 => n + 1
  | _ => 0


inductive AExit where
  | normal
  | exit (id : Nat)
  | ret

abbrev Log := List (List Var × List Var)

def memV (v : Var) : List Var → Bool
  | [] => false
  | x :: r => x.beq v || memV v r

def disjV : List Var → List Var → Bool
  | [], _ => true
  | v :: r, l => !memV v l && disjV r l

/-- What stands ahead of each operation, by its edges. -/
def ancs : List Oper → List (List Nat) → List (List Nat)
  | [], acc => acc
  | o :: r, acc => ancs r (acc ++ [o.after.toList.flatMap fun e => bif Region.binds .any e then e.on :: acc.getD e.on [] else []])

def memN (n : Nat) : List Nat → Bool
  | [] => false
  | x :: r => Nat.beq x n || memN n r

/-- Is an operation in no one's way that isn't ahead of it? (i: its number; l: all that stand before it in the text.) -/
def clearOf (an : List Nat) (x : List Var × List Var) : Nat → Log → Bool
  | _, [] => true
  | j, y :: r => (memN j an || (disjV x.2 y.1 && disjV x.2 y.2 && disjV y.2 x.1)) && clearOf an x (j + 1) r

def clearAll (an : List (List Nat)) : Nat → Log → Log → Bool
  | _, _, [] => true
  | i, done, x :: r => clearOf (an.getD i []) x 0 done && clearAll an (i + 1) (done ++ [x]) r

def opsOk : Nat → List Oper → Bool
  | _, [] => true
  | i, o :: r => (o.after.toList.all fun e => !Region.binds .any e || Nat.blt e.on i) && opsOk (i + 1) r

section
variable {R : Type}

def runOp (C : Cfg) (Γ : Orc R) (o : Oper) (st : St) (rd : List Var) (k : St → (List Var × List Var) → Option R) : Option R :=
  (aop C o).run Γ (look st) rd fun up l => k (upds st up) (l, up.map (·.1))

def aregs (C : Cfg) (Γ : Orc R) (all : List Oper) : List Oper → St → Log → (St → Log → Option R) → Option R
  | [], st, log, k => k st log
  | o :: rest, st, log, k =>
    match o.guard with
    | none => runOp C Γ o st [] fun st' x => aregs C Γ all rest st' (log ++ [x]) k
    | some (j, want) => match (all[j]?).bind (·.dst) with
      | none => none
      | some s => match look st (.t s) with
        | .bool b =>
          let go (v : Bool) (st : St) : Option R :=
            bif v == want then runOp C Γ o st [.t s] fun st' x => aregs C Γ all rest st' (log ++ [x]) k
            else match o.dst with
              | some d => bif Nat.blt d C.n then aregs C Γ all rest ((.t d, .tup []) :: st) (log ++ [([.t s], [.t d])]) k else none
              | none => aregs C Γ all rest st (log ++ [([.t s], [])]) k
          bif b then go true ((.t s, .bool true) :: st) else go false ((.t s, .bool false) :: st)
        | .tup [] => match o.dst with
          | some d => bif Nat.blt d C.n then aregs C Γ all rest ((.t d, .tup []) :: st) (log ++ [([.t s], [.t d])]) k else none
          | none => aregs C Γ all rest st (log ++ [([.t s], [])]) k
        | _ => none

def aregion (C : Cfg) (Γ : Orc R) (ops : List Oper) (draw : Bool) (st : St) (k : St → Option R) : Option R :=
  aregs C Γ ops ops st [] fun st' log => bif !draw || (opsOk 0 ops && clearAll (ancs ops []) 0 [] log) then k st' else none

abbrev Lam (R : Type) := Nat → St → (AExit → St → Option R) → Option R

def aexec (C : Cfg) (Γ : Orc R) (Λ : Lam R) : Code → St → (AExit → St → Option R) → Option R
  | .skip, st, k => k .normal st
  | .label _, st, k => k .normal st
  | .region _ ops draw, st, k => aregion C Γ ops.toList draw st fun st' => k .normal st'
  | .seq a b, st, k => aexec C Γ Λ a st fun e st' => match e with
    | .normal => aexec C Γ Λ b st' k
    | .exit j => k (.exit j) st'
    | .ret => k .ret st'
  | .cond c a b, st, k => match c with
    | .tmp t => match look st (.t t) with
      | .bool x => bif x then aexec C Γ Λ a ((.t t, .bool true) :: st) k else aexec C Γ Λ b ((.t t, .bool false) :: st) k
      | _ => none
    | .const (.bool x) => bif x then aexec C Γ Λ a st k else aexec C Γ Λ b st k
    | _ => none
  | .block id c, st, k => aexec C Γ Λ c st fun e st' => match e with
    | .normal => k .normal st'
    | .exit j => bif Nat.beq j id then k .normal st' else k (.exit j) st'
    | .ret => k .ret st'
  | .loop body, st, k => Λ (firstRegion body) st k
  | .exit id, st, k => k (.exit id) st
  | .ret, st, k => k .ret st
  | _, _, _ => none

/-! ### a function's run -/

def initSt : Nat → List D → St
  | _, [] => []
  | i, d :: r => (.t i, d) :: initSt (i + 1) r

/-- What a result variable holds, handed on. -/
def pres1 (C : Cfg) (v : ResultVar) (ty : TypeId) (f : D → PT D) : PT D :=
  match v with
  | .tmp t => .get (.t t) fun d => phand C ty d fun d' _ => f d'
  | .cell a t => .get (.t a) fun d => pload C t d fun x => phand C ty x fun d' _ => f d'

def presL (C : Cfg) : List ResultVar → List TypeId → (List D → PT D) → PT D
  | [], _, f => f []
  | v :: r, ty :: ts, f => pres1 C v ty fun d => presL C r ts fun ds => f (d :: ds)
  | _ :: _, [], _ => .fail

def presults (C : Cfg) (fn : Func) : PT D :=
  presL C fn.results.toList fn.resultTypes.toList fun
    | [d] => .ret d
    | ds => .ret (.tup ds)

def afun (P : Prg) (own : List Nat) (Γ : Orc R) (Λ : Lam R) (fn : Func) (args : List D) (k : D → Option R) : Option R :=
  match fn.body with
  | none => none
  | some c => aexec ⟨P, fn.ntmps, own⟩ Γ Λ c (initSt 0 args) fun e st => match e with
    | .exit _ => none
    | .normal => (presults ⟨P, fn.ntmps, own⟩ fn).run Γ (look st) [] fun d _ => k d
    | .ret => (presults ⟨P, fn.ntmps, own⟩ fn).run Γ (look st) [] fun d _ => k d

/-- Is it a list of one's own, or none? -/
def D.isNew : D → Bool
  | .osl _ _ _ | .nils => true
  | _ => false

/-- A result that is a new list. -/
def presultsF (C : Cfg) (fn : Func) : PT D :=
  match fn.results.toList, fn.resultTypes.toList with
  | [.tmp t], [ty] => .get (.t t) fun d => bif d.isNew then phand C ty d (fun d' _ => .ret d') else .fail
  | _, _ => .fail

def afunF (P : Prg) (own : List Nat) (Γ : Orc R) (Λ : Lam R) (fn : Func) (args : List D) (k : D → Option R) : Option R :=
  match fn.body with
  | none => none
  | some c => aexec ⟨P, fn.ntmps, own⟩ Γ Λ c (initSt 0 args) fun e st => match e with
    | .exit _ => none
    | .normal => (presultsF ⟨P, fn.ntmps, own⟩ fn).run Γ (look st) [] fun d _ => k d
    | .ret => (presultsF ⟨P, fn.ntmps, own⟩ fn).run Γ (look st) [] fun d _ => k d

/-! ### loops: a state in one form at each round's head -/

/-- What is kept at a round's head: variables; own variables' keys; slots that hold nil and are to hold an empty list of one's own. -/
structure Spec where
  hs : List Var
  ks : List Nat
  vs : List (Nat × Con)
  /-- variables that hold a known own address; a known iterator -/
  os : List (Var × Nat × Nat)
  ts : List (Var × Nat)

def hk : Var → Nat
  | .t n => 100000 + 2 * n
  | .c k o => 100001 + 2 * (k * 1000 + o)
  | _ => 0

def preV : List (Nat × Con) → St → St
  | [], st => st
  | (n, c) :: r, st => match look st (.t n), look st (.m (900000 + n)) with
    | .nils, .top => bif Nat.beq c.len 0 then preV r ((.t n, .osl (900000 + n) 0 c.esz) :: (.c (900000 + n) 0, .con c) :: (.m (900000 + n), .bool true) :: st) else preV r st
    | _, _ => preV r st

/-- What a variable holds, to be kept; a list's key. -/
def read1 (ks : List Nat) (st : St) (h : Var) : Option (D × Option Nat) :=
  match look st h with
  | .osl K _ _ => match look st (.c K 0), look st (.m K) with
    | .con c, .bool true => some (.con c, some K)
    | _, _ => none
  | .own key off => bif memN key ks then some (.own key off, none) else none
  | .oit key => bif memN key ks then some (.oit key, none) else none
  | .its s p => some (.its s p, none)
  | d => bif d.imm then some (d, none) else none

def mem1 (n : Nat) : List (Nat × Nat) → Bool
  | [] => false
  | (x, _) :: r => Nat.beq x n || mem1 n r

def mem2 (n : Nat) : List (Nat × Nat) → Bool
  | [] => false
  | (_, x) :: r => Nat.beq x n || mem2 n r

/-- May a variable be kept? -/
def keepV (ks : List Nat) : Var → Bool
  | .t _ => true
  | .c k _ => memN k ks
  | .i k => memN k ks
  | .m _ => false

def readL (ks : List Nat) (st : St) : List Var → List (Nat × Nat) → Option (List D × List (Nat × Nat))
  | [], ren => some ([], ren)
  | h :: r, ren => bif keepV ks h then (match read1 ks st h with
    | some (d, none) => match readL ks st r ren with
      | some (ds, ren') => some (d :: ds, ren')
      | none => none
    | some (d, some K) => bif mem2 K ren || memN K ks || mem1 (hk h) ren || memN (hk h) ks then none else match readL ks st r ((hk h, K) :: ren) with
      | some (ds, ren') => some (d :: ds, ren')
      | none => none
    | none => none) else none

def mutAll (st : St) : List Nat → Bool
  | [] => true
  | k :: r => (match look st (.m k) with | .bool true => true | _ => false) && mutAll st r

def ownAll (ks : List Nat) (st : St) : List (Var × Nat × Nat) → Bool
  | [] => true
  | (h, K, off) :: r => (keepV ks h && memN K ks && match look st h with | .own k o => Nat.beq k K && Nat.beq o off | _ => false) && ownAll ks st r

def itAll (ks : List Nat) (st : St) : List (Var × Nat) → Bool
  | [] => true
  | (h, K) :: r => (keepV ks h && memN K ks && match look st h with | .oit k => Nat.beq k K | _ => false) && itAll ks st r

def readSt (S : Spec) (st : St) : Option (List D) := bif mutAll st S.ks && ownAll S.ks (preV S.vs st) S.os && itAll S.ks (preV S.vs st) S.ts then (match readL S.ks (preV S.vs st) S.hs [] with
  | some (ds, _) => some ds
  | none => none) else none

def mkHs : List Var → List D → St
  | h :: hs, .con c :: ds => (h, .osl (hk h) c.len c.esz) :: (.m (hk h), .bool true) :: (.c (hk h) 0, .con c) :: mkHs hs ds
  | h :: hs, d :: ds => (h, d) :: mkHs hs ds
  | _, _ => []

def mkSt (S : Spec) (ds : List D) : St := mkHs S.hs ds ++ (S.ks.map fun k => (.m k, .bool true)) ++ (S.os.map fun x => (x.1, .own x.2.1 x.2.2)) ++ (S.ts.map fun x => (x.1, .oit x.2))

/-- A loop's body by its first region. -/
def findLoop (key : Nat) : Code → Option Code
  | .loop c => bif Nat.beq (firstRegion c) key then some c else findLoop key c
  | .seq a b => match findLoop key a with
    | some c => some c
    | none => findLoop key b
  | .cond _ a b => match findLoop key a with
    | some c => some c
    | none => findLoop key b
  | .block _ c => findLoop key c
  | _ => none

def exitSt (X : AExit → Option Spec) (k : AExit → St → Option R) (e : AExit) (st : St) : Option R :=
  match X e with
  | none => none
  | some S => match readSt S st with
    | none => none
    | some ds => k e (mkSt S ds)

def aloop (C : Cfg) (Γ : Orc R) (Λ : Lam R) (S : Spec) (X : AExit → Option Spec) (body : Code) : Nat → List D → (AExit → St → Option R) → Option R
  | 0, _, _ => none
  | n + 1, ds, k => aexec C Γ Λ body (mkSt S ds) fun e st => match e with
    | .normal => match readSt S st with
      | some ds' => aloop C Γ Λ S X body n ds' k
      | none => none
    | .exit j => exitSt X k (.exit j) st
    | .ret => exitSt X k .ret st

end
end Go.QA

namespace Go.QA
open Go

def strV (s : Str) : Value := .string ⟨⟨s⟩⟩

def scV : D → Value
  | .int k n => .int k n
  | .bool b => .bool b
  | .str s => strV s
  | _ => undef

def Con.vals : Con → List Value
  | .ints k l => l.map (.int k)
  | .strs l => l.map strV
  | .recs sch l => l.flatMap fun r => (recD r sch 0 0 0).map scV

def cellsAt (w : World) (b off : Nat) (vs : List Value) : Prop :=
  ∃ c e fr, w.heap[b]? = some (.cells c e fr) ∧ ∀ i, i < vs.length → c[off + i]? = vs[i]?

/-- A world seen through own memory. -/
structure Vw where
  g : Var → D
  μ : Nat → Option Nat
  X : Nat → Prop
  w : World

mutual
def Rep (V : Vw) : D → Value → Prop
  | .top, _ => True
  | .int k n, x => x = .int k n
  | .bool b, x => x = .bool b
  | .str s, x => x = strV s
  | .nilp, x => x = .pointer none
  | .nils, x => x = .slice none 0 0
  | .agg cs, x => ∃ vs, x = .agg ⟨vs⟩ ∧ RepL V cs vs
  | .tup cs, x => ∃ vs, x = .tuple ⟨vs⟩ ∧ RepL V cs vs
  | .sl c, x => ∃ a cap, x = .slice a c.len cap ∧ c.len ≤ cap ∧
      ((a = none ∧ c.len = 0) ∨ ∃ ad : Addr, a = some ad ∧ ad.spot = none ∧ ad.block < V.w.heap.size ∧ ¬ V.X ad.block ∧ cellsAt V.w ad.block ad.off c.vals)
  | .con _, _ => False
  | .ptr cs, x => ∃ (ad : Addr) (vs : List Value), x = .pointer (some ad) ∧ ad.spot = none ∧ ad.block < V.w.heap.size ∧ ¬ V.X ad.block ∧ cellsAt V.w ad.block ad.off vs ∧ RepL V cs vs
  | .sls cs, x => ∃ (ad : Addr) (cap : Nat) (vs : List Value), x = .slice (some ad) cs.length cap ∧ cs.length ≤ cap ∧ ad.spot = none ∧ ad.block < V.w.heap.size ∧ ¬ V.X ad.block ∧ cellsAt V.w ad.block ad.off vs ∧ RepL V cs vs
  | .own key off, x => V.g (.m key) ≠ .top ∧ ∃ b, V.μ key = some b ∧ x = .pointer (some ⟨b, off, none⟩)
  | .osl key n e, x => V.g (.m key) ≠ .top ∧ (∀ c, V.g (.c key 0) = .con c → c.len = n ∧ c.esz = e) ∧
      ((n = 0 ∧ x = .slice none 0 0) ∨ ∃ b cap, V.μ key = some b ∧ x = .slice (some ⟨b, 0, none⟩) n cap ∧ n ≤ cap ∧ ∃ c el fr, V.w.heap[b]? = some (.cells c el fr) ∧ cap * e ≤ c.size)
  | .oel key i e, x => V.g (.m key) ≠ .top ∧ (∀ c, V.g (.c key 0) = .con c → i < c.len ∧ c.esz = e) ∧
      ∃ b, V.μ key = some b ∧ x = .pointer (some ⟨b, i * e, none⟩)
  | .oit key, x => V.g (.m key) ≠ .top ∧ ∃ b, V.μ key = some b ∧ x = .pointer (some ⟨b, 0, none⟩)
  | .its _ _, _ => False
  | .fn f, x => x = .func (.func f) #[] #[]
def RepL (V : Vw) : List D → List Value → Prop
  | [], vs => vs = []
  | d :: ds, vs => ∃ v r, vs = v :: r ∧ Rep V d v ∧ RepL V ds r
end

/-- What stays. -/
structure Trans (V V' : Vw) : Prop where
  size : V.w.heap.size ≤ V'.w.heap.size
  heap : ∀ b : Nat, b < V.w.heap.size → ¬ V.X b → V'.w.heap[b]? = V.w.heap[b]? ∧ ¬ V'.X b
  key : ∀ key, V.g (.m key) ≠ .top → V'.g (.m key) ≠ .top ∧ V'.μ key = V.μ key
  shp : ∀ (b : Nat) (c : Array Value) (el : TypeId) (fr : Nat × Nat), V.w.heap[b]? = some (.cells c el fr) → ∃ c' el' fr', V'.w.heap[b]? = some (.cells c' el' fr') ∧ c'.size = c.size
  len : ∀ key c', V.g (.m key) ≠ .top → V'.g (.c key 0) = .con c' → ∃ c, V.g (.c key 0) = .con c ∧ c.len = c'.len ∧ c.esz = c'.esz

theorem Trans.refl (V : Vw) : Trans V V :=
  ⟨Nat.le_refl _, fun _ _ h => ⟨rfl, h⟩, fun _ h => ⟨h, rfl⟩, fun _ c el fr h => ⟨c, el, fr, h, rfl⟩, fun _ c _ h => ⟨c, h, rfl, rfl⟩⟩

theorem cellsAt.of_heap {w w' : World} {b off : Nat} {vs : List Value} (h : cellsAt w b off vs) (e : w'.heap[b]? = w.heap[b]?) : cellsAt w' b off vs := by
  obtain ⟨c, el, fr, h1, h2⟩ := h
  exact ⟨c, el, fr, e.trans h1, h2⟩

mutual
theorem Rep.trans {V V' : Vw} (T : Trans V V') : ∀ (d : D) (x : Value), Rep V d x → Rep V' d x
  | .top, _, _ => trivial
  | .int _ _, _, h => h
  | .bool _, _, h => h
  | .str _, _, h => h
  | .nilp, _, h => h
  | .nils, _, h => h
  | .agg cs, _, ⟨vs, e, h⟩ => ⟨vs, e, RepL.trans T cs vs h⟩
  | .tup cs, _, ⟨vs, e, h⟩ => ⟨vs, e, RepL.trans T cs vs h⟩
  | .sl c, _, ⟨a, cap, e, hc, h⟩ => by
    refine ⟨a, cap, e, hc, ?_⟩
    rcases h with h | ⟨ad, h1, h2, h3, h4, h5⟩
    · exact .inl h
    · exact .inr ⟨ad, h1, h2, Nat.lt_of_lt_of_le h3 T.size, (T.heap _ h3 h4).2, h5.of_heap (T.heap _ h3 h4).1⟩
  | .con _, _, h => h
  | .ptr cs, _, ⟨ad, vs, h1, h2, h3, h4, h5, h6⟩ =>
    ⟨ad, vs, h1, h2, Nat.lt_of_lt_of_le h3 T.size, (T.heap _ h3 h4).2, h5.of_heap (T.heap _ h3 h4).1, RepL.trans T cs vs h6⟩
  | .sls cs, _, ⟨ad, cap, vs, h1, h7, h2, h3, h4, h5, h6⟩ =>
    ⟨ad, cap, vs, h1, h7, h2, Nat.lt_of_lt_of_le h3 T.size, (T.heap _ h3 h4).2, h5.of_heap (T.heap _ h3 h4).1, RepL.trans T cs vs h6⟩
  | .own key _, _, ⟨h1, b, h2, h3⟩ => ⟨(T.key key h1).1, b, (T.key key h1).2.trans h2, h3⟩
  | .osl key n e, _, ⟨h1, h2, h3⟩ => by
    refine ⟨(T.key key h1).1, fun c' hc' => ?_, ?_⟩
    · obtain ⟨c, hc, e1, e2⟩ := T.len key c' h1 hc'
      have := h2 c hc
      exact ⟨e1.symm.trans this.1, e2.symm.trans this.2⟩
    · rcases h3 with h3 | ⟨b, cap, h4, h5, h6, c, el, fr, h7, h8⟩
      · exact .inl h3
      · obtain ⟨c', el', fr', h9, h10⟩ := T.shp b c el fr h7
        exact .inr ⟨b, cap, (T.key key h1).2.trans h4, h5, h6, c', el', fr', h9, by rw [h10]; exact h8⟩
  | .oel key i e, _, ⟨h1, h2, b, h3, h4⟩ => by
    refine ⟨(T.key key h1).1, fun c' hc' => ?_, b, (T.key key h1).2.trans h3, h4⟩
    obtain ⟨c, hc, e1, e2⟩ := T.len key c' h1 hc'
    have := h2 c hc
    exact ⟨by rw [← e1]; exact this.1, e2.symm.trans this.2⟩
  | .oit key, _, ⟨h1, b, h2, h3⟩ => ⟨(T.key key h1).1, b, (T.key key h1).2.trans h2, h3⟩
  | .its _ _, _, h => h
  | .fn _, _, h => h
theorem RepL.trans {V V' : Vw} (T : Trans V V') : ∀ (ds : List D) (vs : List Value), RepL V ds vs → RepL V' ds vs
  | [], _, h => h
  | d :: ds, _, ⟨v, r, e, h1, h2⟩ => ⟨v, r, e, Rep.trans T d v h1, RepL.trans T ds r h2⟩
end

/-! ### updates as functions -/

def upd (g : Var → D) (v : Var) (d : D) : Var → D := fun u => bif v.beq u then d else g u

def updF (g : Var → D) : Up → Var → D
  | [] => g
  | p :: r => updF (upd g p.1 p.2) r

theorem look_cons (p : Var × D) (s : St) : look (p :: s) = upd (look s) p.1 p.2 := by
  funext v; cases p; rfl

theorem look_upds (up : Up) : ∀ s, look (upds s up) = updF (look s) up := by
  induction up with
  | nil => intro s; rfl
  | cons p r ih => intro s; rw [upds, ih, look_cons]; rfl

theorem upd_same (g : Var → D) (v : Var) (d : D) : upd g v d v = d := by
  simp [upd, Var.beq_iff.2 rfl]

theorem upd_ne (g : Var → D) {v u : Var} (d : D) (h : v ≠ u) : upd g v d u = g u := by
  have : v.beq u = false := by
    cases hb : v.beq u
    · rfl
    · exact absurd (Var.beq_iff.1 hb) h
  simp [upd, this]

theorem upd_self (g : Var → D) (v : Var) : upd g v (g v) = g := by
  funext u
  by_cases h : v = u
  · subst h; rw [upd_same]
  · rw [upd_ne g _ h]

/-! ### a state and the machine's -/

def Xof (g : Var → D) (μ : Nat → Option Nat) (S0 : Nat → Prop) : Nat → Prop :=
  fun b => S0 b ∨ ∃ key, g (.m key) = .bool true ∧ μ key = some b

def vw (g : Var → D) (μ : Nat → Option Nat) (S0 : Nat → Prop) (w : World) : Vw := ⟨g, μ, Xof g μ S0, w⟩

structure Sim (B : Nat) (S0 : Nat → Prop) (n : Nat) (g : Var → D) (μ : Nat → Option Nat) (a : Act) (w : World) : Prop where
  tm : ∀ i, Rep (vw g μ S0 w) (g (.t i)) (a.tmps.getD i undef)
  sz : a.tmps.size = n
  df : a.defers = []
  base : B ≤ w.heap.size
  s0 : ∀ b, S0 b → b < B
  pres : ∀ key b, g (.m key) ≠ .top → μ key = some b → B ≤ b ∧ b < w.heap.size
  inj : ∀ k k' b, (∃ bb, g (.m k) = .bool bb) → (∃ bb, g (.m k') = .bool bb) → μ k = some b → μ k' = some b → k = k'
  here : ∀ key off, g (.c key off) ≠ .top → ∃ bb, g (.m key) = .bool bb
  conOk : ∀ key off c, g (.c key off) = .con c → off = 0 ∧ (∀ o, o ≠ 0 → g (.c key o) = .top) ∧
    ((μ key = none ∧ c.len = 0) ∨ ∃ b v el, μ key = some b ∧ w.heap[b]? = some (.cells v el (0, 0)) ∧ ∀ i, i < c.vals.length → v[i]? = c.vals[i]?)
  celOk : ∀ key off, g (.c key off) ≠ .top → (∀ c, g (.c key off) ≠ .con c) →
    ∃ b v el x, μ key = some b ∧ w.heap[b]? = some (.cells v el (0, 0)) ∧ v[off]? = some x ∧ Rep (vw g μ S0 w) (g (.c key off)) x
  itr : ∀ key, g (.i key) ≠ .top → ∃ s pos b, g (.i key) = .its s pos ∧ g (.m key) = .bool true ∧ μ key = some b ∧ w.heap[b]? = some (.stringIter ⟨⟨s⟩⟩ pos)

/-- A world that has only grown. -/
structure Grow (w w' : World) : Prop where
  size : w.heap.size ≤ w'.heap.size
  heap : ∀ b : Nat, b < w.heap.size → w'.heap[b]? = w.heap[b]?

theorem Grow.refl (w : World) : Grow w w := ⟨Nat.le_refl _, fun _ _ => rfl⟩

theorem getElem?_lt {α : Type} {a : Array α} {i : Nat} {x : α} (h : a[i]? = some x) : i < a.size := by
  rcases Nat.lt_or_ge i a.size with h' | h'
  · exact h'
  · simp [Array.getElem?_eq_none h'] at h

theorem Grow.at {w w' : World} (h : Grow w w') {b : Nat} {o : Obj} (e : w.heap[b]? = some o) : w'.heap[b]? = some o :=
  (h.heap b (getElem?_lt e)).trans e

theorem trans_grow {g : Var → D} {μ : Nat → Option Nat} {S0 : Nat → Prop} {w w' : World} (h : Grow w w') : Trans (vw g μ S0 w) (vw g μ S0 w') :=
  ⟨h.size, fun b hb hx => ⟨h.heap b hb, hx⟩, fun _ hk => ⟨hk, rfl⟩, fun _ c el fr e => ⟨c, el, fr, h.at e, rfl⟩, fun _ c _ e => ⟨c, e, rfl, rfl⟩⟩

theorem Sim.grow {B : Nat} {S0 : Nat → Prop} {n : Nat} {g : Var → D} {μ : Nat → Option Nat} {a : Act} {w w' : World}
    (h : Sim B S0 n g μ a w) (G : Grow w w') : Sim B S0 n g μ a w' where
  tm i := Rep.trans (trans_grow G) _ _ (h.tm i)
  sz := h.sz
  df := h.df
  base := Nat.le_trans h.base G.size
  s0 := h.s0
  pres key b hk hm := ⟨(h.pres key b hk hm).1, Nat.lt_of_lt_of_le (h.pres key b hk hm).2 G.size⟩
  inj := h.inj
  here := h.here
  conOk key off c e := by
    obtain ⟨h1, h0, h2⟩ := h.conOk key off c e
    refine ⟨h1, h0, h2.imp id ?_⟩
    rintro ⟨b, v, el, h3, h4, h5⟩
    exact ⟨b, v, el, h3, G.at h4, h5⟩
  celOk key off e1 e2 := by
    obtain ⟨b, v, el, x, h1, h2, h3, h4⟩ := h.celOk key off e1 e2
    exact ⟨b, v, el, x, h1, G.at h2, h3, Rep.trans (trans_grow G) _ _ h4⟩
  itr key e := by
    obtain ⟨s, pos, b, h1, h2, h3, h4⟩ := h.itr key e
    exact ⟨s, pos, b, h1, h2, h3, G.at h4⟩

/-- Writing a slot turns nothing of what values stand for. -/
theorem trans_t {g : Var → D} {μ : Nat → Option Nat} {S0 : Nat → Prop} {w : World} (t : Nat) (d : D) : Trans (vw g μ S0 w) (vw (upd g (.t t) d) μ S0 w) := by
  have hm : ∀ key, upd g (.t t) d (.m key) = g (.m key) := fun key => upd_ne g d (by simp)
  have hc : ∀ key off, upd g (.t t) d (.c key off) = g (.c key off) := fun key off => upd_ne g d (by simp)
  refine ⟨Nat.le_refl _, fun b _ hx => ⟨rfl, ?_⟩, fun key hk => ⟨by simpa [vw, hm] using hk, rfl⟩, fun _ c el fr e => ⟨c, el, fr, e, rfl⟩, fun key c' hk e => ⟨c', by simpa [vw, hc] using e, rfl, rfl⟩⟩
  simp only [vw, Xof, hm] at hx ⊢
  exact hx

theorem put_getD (a : Act) (t : Nat) (x : Value) (ht : t < a.tmps.size) (i : Nat) : (a.put (some t) x).tmps.getD i undef = if t = i then x else a.tmps.getD i undef := by
  simp only [Act.put, Array.getD_eq_getD_getElem?, Array.getElem?_setIfInBounds]
  by_cases h : t = i
  · subst h; simp [ht]
  · simp [h]

theorem Sim.put {B : Nat} {S0 : Nat → Prop} {n : Nat} {g : Var → D} {μ : Nat → Option Nat} {a : Act} {w : World}
    (h : Sim B S0 n g μ a w) {t : Nat} {d : D} {x : Value} (ht : t < n) (hx : Rep (vw g μ S0 w) d x) :
    Sim B S0 n (upd g (.t t) d) μ (a.put (some t) x) w := by
  have hm : ∀ key, upd g (.t t) d (.m key) = g (.m key) := fun key => upd_ne g d (by simp)
  have hc : ∀ key off, upd g (.t t) d (.c key off) = g (.c key off) := fun key off => upd_ne g d (by simp)
  have hi : ∀ key, upd g (.t t) d (.i key) = g (.i key) := fun key => upd_ne g d (by simp)
  have hT := trans_t (g := g) (μ := μ) (S0 := S0) (w := w) t d
  refine ⟨fun i => ?_, by simp [Act.put, h.sz], h.df, h.base, h.s0, ?_, ?_, ?_, ?_, ?_, ?_⟩
  · rw [put_getD a t x (by rw [h.sz]; exact ht)]
    by_cases e : t = i
    · subst e; rw [upd_same, if_pos rfl]; exact Rep.trans hT _ _ hx
    · rw [upd_ne g d (by simpa using e), if_neg e]; exact Rep.trans hT _ _ (h.tm i)
  · intro key b hk; rw [hm] at hk; exact h.pres key b hk
  · intro k k' b h1 h2; rw [hm] at h1 h2; exact h.inj k k' b h1 h2
  · intro key off; rw [hc, hm]; exact h.here key off
  · intro key off c; simp only [hc]; exact h.conOk key off c
  · intro key off; rw [hc]
    intro e1 e2
    obtain ⟨b, v, el, y, h1, h2, h3, h4⟩ := h.celOk key off e1 e2
    exact ⟨b, v, el, y, h1, h2, h3, Rep.trans hT _ _ h4⟩
  · intro key; rw [hi, hm]; exact h.itr key

/-- A key is not written any more. -/
theorem trans_freeze {g : Var → D} {μ : Nat → Option Nat} {S0 : Nat → Prop} {w : World} {key : Nat} :
    Trans (vw g μ S0 w) (vw (upd g (.m key) (.bool false)) μ S0 w) := by
  have hc : ∀ k off, upd g (.m key) (.bool false) (.c k off) = g (.c k off) := fun k off => upd_ne g _ (by simp)
  refine ⟨Nat.le_refl _, fun b _ hx => ⟨rfl, ?_⟩, fun k hk' => ⟨?_, rfl⟩, fun _ c el fr e => ⟨c, el, fr, e, rfl⟩, fun k c' _ e => ⟨c', by simpa [vw, hc] using e, rfl, rfl⟩⟩
  · simp only [vw, Xof] at hx ⊢
    rintro (hs | ⟨k, h1, h2⟩)
    · exact hx (.inl hs)
    · by_cases e : key = k
      · subst e; rw [upd_same] at h1; simp at h1
      · rw [upd_ne g _ (by simpa using e)] at h1; exact hx (.inr ⟨k, h1, h2⟩)
  · simp only [vw] at hk' ⊢
    by_cases e : key = k
    · subst e; rw [upd_same]; simp
    · rw [upd_ne g _ (by simpa using e)]; exact hk'

theorem Sim.freeze {B : Nat} {S0 : Nat → Prop} {n : Nat} {g : Var → D} {μ : Nat → Option Nat} {a : Act} {w : World}
    (h : Sim B S0 n g μ a w) {key : Nat} {bb : Bool} (hk : g (.m key) = .bool bb) (hi : g (.i key) = .top) :
    Sim B S0 n (upd g (.m key) (.bool false)) μ a w := by
  have hT := trans_freeze (g := g) (μ := μ) (S0 := S0) (w := w) (key := key)
  have hc : ∀ k off, upd g (.m key) (.bool false) (.c k off) = g (.c k off) := fun k off => upd_ne g _ (by simp)
  have ht : ∀ t, upd g (.m key) (.bool false) (.t t) = g (.t t) := fun t => upd_ne g _ (by simp)
  have hi' : ∀ k, upd g (.m key) (.bool false) (.i k) = g (.i k) := fun k => upd_ne g _ (by simp)
  have hm : ∀ k, upd g (.m key) (.bool false) (.m k) ≠ .top → g (.m k) ≠ .top := by
    intro k hk'
    by_cases e : key = k
    · subst e; rw [hk]; simp
    · rwa [upd_ne g _ (by simpa using e)] at hk'
  refine ⟨fun i => ?_, h.sz, h.df, h.base, h.s0, ?_, ?_, ?_, ?_, ?_, ?_⟩
  · rw [ht]; exact Rep.trans hT _ _ (h.tm i)
  · intro k b hk'; exact h.pres k b (hm k hk')
  · intro k k' b h1 h2
    have hb : ∀ k, (∃ bb, upd g (.m key) (.bool false) (.m k) = .bool bb) → ∃ bb, g (.m k) = .bool bb := by
      rintro k ⟨b', hb'⟩
      by_cases e : key = k
      · subst e; exact ⟨bb, hk⟩
      · rw [upd_ne g _ (by simpa using e)] at hb'; exact ⟨b', hb'⟩
    exact h.inj k k' b (hb k h1) (hb k' h2)
  · intro k off; rw [hc]; intro e
    obtain ⟨b', hb'⟩ := h.here k off e
    by_cases e' : key = k
    · subst e'; exact ⟨false, upd_same _ _ _⟩
    · exact ⟨b', by rw [upd_ne g _ (by simpa using e')]; exact hb'⟩
  · intro k off c; simp only [hc]; exact h.conOk k off c
  · intro k off; rw [hc]; intro e1 e2
    obtain ⟨b, v, el, y, h1, h2, h3, h4⟩ := h.celOk k off e1 e2
    exact ⟨b, v, el, y, h1, h2, h3, Rep.trans hT _ _ h4⟩
  · intro k; rw [hi']; intro e
    obtain ⟨s, pos, b, h1, h2, h3, h4⟩ := h.itr k e
    have e' : key ≠ k := by rintro rfl; exact e hi
    exact ⟨s, pos, b, h1, by rw [upd_ne g _ (by simpa using e')]; exact h2, h3, h4⟩

end Go.QA

namespace Go.QA
open Go Go.RowKit

theorem grow_alloc (w : World) (o : Obj) : Grow w (w.alloc o) := ⟨by simp, fun b hb => Below.heap_alloc w o b hb⟩
theorem grow_drew (w : World) : Grow w w.drew := ⟨Nat.le_refl _, fun _ _ => rfl⟩
theorem Grow.trans {a b c : World} (h : Grow a b) (k : Grow b c) : Grow a c :=
  ⟨Nat.le_trans h.size k.size, fun i hi => (k.heap i (Nat.lt_of_lt_of_le hi h.size)).trans (h.heap i hi)⟩
theorem grow_below {B : Nat} {w w' : World} (h : Below B w w') (hB : w.heap.size ≤ B) : Grow w w' :=
  ⟨h.size, fun b hb => h.block b (Nat.lt_of_lt_of_le hb hB)⟩

section
variable {B : Nat} {S0 : Nat → Prop} {n : Nat} {g : Var → D} {μ : Nat → Option Nat} {a : Act} {w : World}

theorem Sim.cTop (h : Sim B S0 n g μ a w) {key : Nat} (hk : g (.m key) = .top) (off : Nat) : g (.c key off) = .top := by
  cases e : g (.c key off) <;> first
    | rfl
    | (obtain ⟨b, hb⟩ := h.here key off (by rw [e]; simp); rw [hk] at hb; cases hb)

theorem Sim.iTop (h : Sim B S0 n g μ a w) {key : Nat} (hk : g (.m key) = .top) : g (.i key) = .top := by
  cases e : g (.i key) <;> first
    | rfl
    | (obtain ⟨s, p, b, _, hb, _⟩ := h.itr key (by rw [e]; simp); rw [hk] at hb; cases hb)

/-- What a new key keeps. -/
theorem trans_new {t : Nat} (hk : g (.m t) = .top) (o : Obj) (g' : Var → D)
    (hmk : ∀ k, k ≠ t → g' (.m k) = g (.m k)) (hc : ∀ k off, k ≠ t → g' (.c k off) = g (.c k off)) :
    Trans (vw g μ S0 w) (vw g' (fun k => if k = t then some w.heap.size else μ k) S0 (w.alloc o)) := by
  have G := grow_alloc w o
  refine ⟨G.size, fun b hb hx => ⟨G.heap b hb, ?_⟩, fun key hkey => ?_, fun b c el fr e => ⟨c, el, fr, G.at e, rfl⟩, fun key c' hkey e => ?_⟩
  · simp only [vw, Xof] at hx hb ⊢
    rintro (hs | ⟨k, h1, h2⟩)
    · exact hx (.inl hs)
    · by_cases e : k = t
      · subst e; simp only [↓reduceIte, Option.some.injEq] at h2; omega
      · rw [hmk k e] at h1; rw [if_neg e] at h2; exact hx (.inr ⟨k, h1, h2⟩)
  · simp only [vw] at hkey ⊢
    have e : key ≠ t := by rintro rfl; exact hkey hk
    rw [hmk key e, if_neg e]; exact ⟨hkey, rfl⟩
  · simp only [vw] at hkey e ⊢
    have e' : key ≠ t := by rintro rfl; exact hkey hk
    rw [hc key 0 e'] at e
    exact ⟨c', e, rfl, rfl⟩

/-- A new block of one's own. -/
theorem Sim.new (h : Sim B S0 n g μ a w) {t : Nat} (hk : g (.m t) = .top) (o : Obj) (g' : Var → D)
    (hm : g' (.m t) = .bool true) (hmk : ∀ k, k ≠ t → g' (.m k) = g (.m k)) (ht : ∀ i, g' (.t i) = g (.t i))
    (hc : ∀ k off, k ≠ t → g' (.c k off) = g (.c k off)) (hi : ∀ k, k ≠ t → g' (.i k) = g (.i k))
    (hcon : ∀ off c, g' (.c t off) = .con c → off = 0 ∧ (∀ o, o ≠ 0 → g' (.c t o) = .top) ∧ ∃ v el, o = .cells v el (0, 0) ∧ ∀ i, i < c.vals.length → v[i]? = c.vals[i]?)
    (hcel : ∀ off, g' (.c t off) ≠ .top → (∀ c, g' (.c t off) ≠ .con c) → ∃ v el x, o = .cells v el (0, 0) ∧ v[off]? = some x ∧ Rep (vw g μ S0 w) (g' (.c t off)) x)
    (hit : g' (.i t) ≠ .top → ∃ s pos, g' (.i t) = .its s pos ∧ o = .stringIter ⟨⟨s⟩⟩ pos) :
    Sim B S0 n g' (fun k => if k = t then some w.heap.size else μ k) a (w.alloc o) ∧
      Trans (vw g μ S0 w) (vw g' (fun k => if k = t then some w.heap.size else μ k) S0 (w.alloc o)) := by
  have G := grow_alloc w o
  have hT := trans_new (w := w) (S0 := S0) (μ := μ) hk o g' hmk hc
  have hnew : (w.alloc o).heap[w.heap.size]? = some o := heap_alloc_new w o
  refine ⟨⟨fun i => ?_, h.sz, h.df, Nat.le_trans h.base G.size, h.s0, ?_, ?_, ?_, ?_, ?_, ?_⟩, hT⟩
  · rw [ht]; exact Rep.trans hT _ _ (h.tm i)
  · intro key b h1 h2
    by_cases e : key = t
    · subst e; simp only [↓reduceIte, Option.some.injEq] at h2; subst h2; exact ⟨h.base, by simp⟩
    · rw [if_neg e] at h2; rw [hmk key e] at h1
      have := h.pres key b h1 h2
      exact ⟨this.1, Nat.lt_of_lt_of_le this.2 G.size⟩
  · intro k k' b h1 h2 h3 h4
    by_cases e : k = t <;> by_cases e' : k' = t
    · rw [e, e']
    · subst e; rw [if_neg e'] at h4; rw [hmk k' e'] at h2
      simp only [↓reduceIte, Option.some.injEq] at h3
      obtain ⟨_, h2⟩ := h2
      have := (h.pres k' b (by rw [h2]; simp) h4).2; omega
    · subst e'; rw [if_neg e] at h3; rw [hmk k e] at h1
      simp only [↓reduceIte, Option.some.injEq] at h4
      obtain ⟨_, h1⟩ := h1
      have := (h.pres k b (by rw [h1]; simp) h3).2; omega
    · rw [if_neg e] at h3; rw [if_neg e'] at h4; rw [hmk k e] at h1; rw [hmk k' e'] at h2
      exact h.inj k k' b h1 h2 h3 h4
  · intro key off e
    by_cases e' : key = t
    · subst e'; exact ⟨true, hm⟩
    · rw [hc key off e'] at e; rw [hmk key e']; exact h.here key off e
  · intro key off c e
    by_cases e' : key = t
    · subst e'
      obtain ⟨h1, h0, v, el, h2, h3⟩ := hcon off c e
      exact ⟨h1, h0, .inr ⟨w.heap.size, v, el, by simp, by rw [hnew, h2], h3⟩⟩
    · rw [hc key off e'] at e
      obtain ⟨h1, h0, h2⟩ := h.conOk key off c e
      refine ⟨h1, fun o ho => by rw [hc key o e']; exact h0 o ho, ?_⟩
      rw [if_neg e']
      rcases h2 with h2 | ⟨b, v, el, h3, h4, h5⟩
      · exact .inl h2
      · exact .inr ⟨b, v, el, h3, G.at h4, h5⟩
  · intro key off e1 e2
    by_cases e' : key = t
    · subst e'
      obtain ⟨v, el, x, h1, h2, h3⟩ := hcel off e1 e2
      exact ⟨w.heap.size, v, el, x, by simp, by rw [hnew, h1], h2, Rep.trans hT _ _ h3⟩
    · rw [hc key off e'] at e1 e2 ⊢
      obtain ⟨b, v, el, x, h1, h2, h3, h4⟩ := h.celOk key off e1 e2
      exact ⟨b, v, el, x, by rw [if_neg e']; exact h1, G.at h2, h3, Rep.trans hT _ _ h4⟩
  · intro key e
    by_cases e' : key = t
    · subst e'
      obtain ⟨s, pos, h1, h2⟩ := hit e
      exact ⟨s, pos, w.heap.size, h1, hm, by simp, by rw [hnew, h2]⟩
    · rw [hi key e'] at e ⊢
      obtain ⟨s, pos, b, h1, h2, h3, h4⟩ := h.itr key e
      exact ⟨s, pos, b, h1, by rw [hmk key e']; exact h2, by rw [if_neg e']; exact h3, G.at h4⟩

/-- What a key keeps that takes a block which is new. -/
theorem trans_adopt {t : Nat} (hk : g (.m t) = .top) {w' : World} {nb : Nat} (G : Grow w w') (hnb : w.heap.size ≤ nb) (g' : Var → D)
    (hmk : ∀ k, k ≠ t → g' (.m k) = g (.m k)) (hc : ∀ k off, k ≠ t → g' (.c k off) = g (.c k off)) :
    Trans (vw g μ S0 w) (vw g' (fun k => if k = t then some nb else μ k) S0 w') := by
  refine ⟨G.size, fun b hb hx => ⟨G.heap b hb, ?_⟩, fun key hkey => ?_, fun b c el fr e => ⟨c, el, fr, G.at e, rfl⟩, fun key c' hkey e => ?_⟩
  · simp only [vw, Xof] at hx hb ⊢
    rintro (hs | ⟨k, h1, h2⟩)
    · exact hx (.inl hs)
    · by_cases e : k = t
      · subst e; simp only [↓reduceIte, Option.some.injEq] at h2; omega
      · rw [hmk k e] at h1; rw [if_neg e] at h2; exact hx (.inr ⟨k, h1, h2⟩)
  · simp only [vw] at hkey ⊢
    have e : key ≠ t := by rintro rfl; exact hkey hk
    rw [hmk key e, if_neg e]; exact ⟨hkey, rfl⟩
  · simp only [vw] at hkey e ⊢
    have e' : key ≠ t := by rintro rfl; exact hkey hk
    rw [hc key 0 e'] at e
    exact ⟨c', e, rfl, rfl⟩

/-- A new block becomes one's own. -/
theorem Sim.adopt (h : Sim B S0 n g μ a w) {t : Nat} (hk : g (.m t) = .top) {w' : World} {nb : Nat} (G : Grow w w') (hnb : w.heap.size ≤ nb) {o : Obj} (hnew : w'.heap[nb]? = some o) (g' : Var → D)
    (hm : g' (.m t) = .bool true) (hmk : ∀ k, k ≠ t → g' (.m k) = g (.m k)) (ht : ∀ i, g' (.t i) = g (.t i))
    (hc : ∀ k off, k ≠ t → g' (.c k off) = g (.c k off)) (hi : ∀ k, k ≠ t → g' (.i k) = g (.i k))
    (hcon : ∀ off c, g' (.c t off) = .con c → off = 0 ∧ (∀ o, o ≠ 0 → g' (.c t o) = .top) ∧ ∃ v el, o = .cells v el (0, 0) ∧ ∀ i, i < c.vals.length → v[i]? = c.vals[i]?)
    (hcel : ∀ off, g' (.c t off) ≠ .top → (∀ c, g' (.c t off) ≠ .con c) → ∃ v el x, o = .cells v el (0, 0) ∧ v[off]? = some x ∧ Rep (vw g μ S0 w) (g' (.c t off)) x)
    (hit : g' (.i t) ≠ .top → ∃ s pos, g' (.i t) = .its s pos ∧ o = .stringIter ⟨⟨s⟩⟩ pos) :
    Sim B S0 n g' (fun k => if k = t then some nb else μ k) a w' ∧
      Trans (vw g μ S0 w) (vw g' (fun k => if k = t then some nb else μ k) S0 w') := by
  have hT := trans_adopt (w := w) (S0 := S0) (μ := μ) hk G hnb g' hmk hc
  refine ⟨⟨fun i => ?_, h.sz, h.df, Nat.le_trans h.base G.size, h.s0, ?_, ?_, ?_, ?_, ?_, ?_⟩, hT⟩
  · rw [ht]; exact Rep.trans hT _ _ (h.tm i)
  · intro key b h1 h2
    by_cases e : key = t
    · subst e; simp only [↓reduceIte, Option.some.injEq] at h2; subst h2; exact ⟨Nat.le_trans h.base hnb, getElem?_lt hnew⟩
    · rw [if_neg e] at h2; rw [hmk key e] at h1
      have := h.pres key b h1 h2
      exact ⟨this.1, Nat.lt_of_lt_of_le this.2 G.size⟩
  · intro k k' b h1 h2 h3 h4
    by_cases e : k = t <;> by_cases e' : k' = t
    · rw [e, e']
    · subst e; rw [if_neg e'] at h4; rw [hmk k' e'] at h2
      simp only [↓reduceIte, Option.some.injEq] at h3
      obtain ⟨_, h2⟩ := h2
      have := (h.pres k' b (by rw [h2]; simp) h4).2; omega
    · subst e'; rw [if_neg e] at h3; rw [hmk k e] at h1
      simp only [↓reduceIte, Option.some.injEq] at h4
      obtain ⟨_, h1⟩ := h1
      have := (h.pres k b (by rw [h1]; simp) h3).2; omega
    · rw [if_neg e] at h3; rw [if_neg e'] at h4; rw [hmk k e] at h1; rw [hmk k' e'] at h2
      exact h.inj k k' b h1 h2 h3 h4
  · intro key off e
    by_cases e' : key = t
    · subst e'; exact ⟨true, hm⟩
    · rw [hc key off e'] at e; rw [hmk key e']; exact h.here key off e
  · intro key off c e
    by_cases e' : key = t
    · subst e'
      obtain ⟨h1, h0, v, el, h2, h3⟩ := hcon off c e
      exact ⟨h1, h0, .inr ⟨nb, v, el, by simp, by rw [hnew, h2], h3⟩⟩
    · rw [hc key off e'] at e
      obtain ⟨h1, h0, h2⟩ := h.conOk key off c e
      refine ⟨h1, fun o ho => by rw [hc key o e']; exact h0 o ho, ?_⟩
      rw [if_neg e']
      rcases h2 with h2 | ⟨b, v, el, h3, h4, h5⟩
      · exact .inl h2
      · exact .inr ⟨b, v, el, h3, G.at h4, h5⟩
  · intro key off e1 e2
    by_cases e' : key = t
    · subst e'
      obtain ⟨v, el, x, h1, h2, h3⟩ := hcel off e1 e2
      exact ⟨nb, v, el, x, by simp, by rw [hnew, h1], h2, Rep.trans hT _ _ h3⟩
    · rw [hc key off e'] at e1 e2 ⊢
      obtain ⟨b, v, el, x, h1, h2, h3, h4⟩ := h.celOk key off e1 e2
      exact ⟨b, v, el, x, by rw [if_neg e']; exact h1, G.at h2, h3, Rep.trans hT _ _ h4⟩
  · intro key e
    by_cases e' : key = t
    · subst e'
      obtain ⟨s, pos, h1, h2⟩ := hit e
      exact ⟨s, pos, nb, h1, hm, by simp, by rw [hnew, h2]⟩
    · rw [hi key e'] at e ⊢
      obtain ⟨s, pos, b, h1, h2, h3, h4⟩ := h.itr key e
      exact ⟨s, pos, b, h1, by rw [hmk key e']; exact h2, by rw [if_neg e']; exact h3, G.at h4⟩

/-- One block of one's own is written: what stays. b: the block; the world is as it was elsewhere. -/
structure Wrote (b : Nat) (w w' : World) : Prop where
  size : w'.heap.size = w.heap.size
  other : ∀ k, k ≠ b → w'.heap[k]? = w.heap[k]?

theorem wrote_setCell (w : World) (b off : Nat) (x : Value) : Wrote b w (w.setCell ⟨b, off, none⟩ x) :=
  ⟨by simp, fun k hk => Below.heap_setCell w _ x k hk⟩

/-- A cell of one's own is written. -/
theorem Sim.store (h : Sim B S0 n g μ a w) {key off : Nat} {d : D} {x : Value} (hm : g (.m key) = .bool true)
    (hold : g (.c key off) ≠ .top) (hnc : ∀ c, g (.c key off) ≠ .con c) (hd : Rep (vw g μ S0 w) d x) (hdc : d.isCell = true) :
    ∃ b, μ key = some b ∧ B ≤ b ∧ (∃ y, w.cell? ⟨b, off, none⟩ = some y) ∧ w.frozen? ⟨b, off, none⟩ = false ∧
      Sim B S0 n (upd g (.c key off) d) μ a (w.setCell ⟨b, off, none⟩ x) ∧
      Trans (vw g μ S0 w) (vw (upd g (.c key off) d) μ S0 (w.setCell ⟨b, off, none⟩ x)) := by
  obtain ⟨b, v, el, y, h1, h2, h3, h4⟩ := h.celOk key off hold hnc
  have hb := h.pres key b (by rw [hm]; simp) h1
  have hmm : ∀ k, upd g (.c key off) d (.m k) = g (.m k) := fun k => upd_ne g d (by simp)
  have htt : ∀ k, upd g (.c key off) d (.t k) = g (.t k) := fun k => upd_ne g d (by simp)
  have hii : ∀ k, upd g (.c key off) d (.i k) = g (.i k) := fun k => upd_ne g d (by simp)
  have hdnc : ∀ c, d ≠ .con c := by rintro c rfl; exact hd
  have hdt : d ≠ .top := by rintro rfl; simp [D.isCell] at hdc
  have hwb : (w.setCell ⟨b, off, none⟩ x).heap[b]? = some (.cells (v.setIfInBounds off x) el (0, 0)) := by
    simp [World.setCell, Array.getElem?_modify, h2]
  have hwo : ∀ k, k ≠ b → (w.setCell ⟨b, off, none⟩ x).heap[k]? = w.heap[k]? := fun k hk => Below.heap_setCell w _ x k hk
  have hT : Trans (vw g μ S0 w) (vw (upd g (.c key off) d) μ S0 (w.setCell ⟨b, off, none⟩ x)) := by
    refine ⟨by simp [vw], fun b' hb' hx => ⟨?_, ?_⟩, fun k hk => ⟨by simpa [vw, hmm] using hk, rfl⟩, fun b' c el' fr e => ?_, fun k c' hk e => ?_⟩
    · refine hwo b' ?_
      rintro rfl
      exact hx (.inr ⟨key, hm, h1⟩)
    · simp only [vw, Xof, hmm] at hx ⊢; exact hx
    · by_cases e' : b' = b
      · subst e'
        have e2 : Obj.cells v el (0, 0) = Obj.cells c el' fr := Option.some.inj (h2.symm.trans e)
        cases e2
        exact ⟨_, _, _, hwb, by simp⟩
      · exact ⟨c, el', fr, (hwo b' e').trans e, rfl⟩
    · simp only [vw] at e ⊢
      by_cases e' : Var.c key off = Var.c k 0
      · rw [← e', upd_same] at e; exact absurd e (hdnc c')
      · rw [upd_ne g d e'] at e; exact ⟨c', e, rfl, rfl⟩
  refine ⟨b, h1, hb.1, ⟨y, by simp [World.cell?, h2, h3]⟩, by simp [World.frozen?, h2], ⟨fun i => ?_, h.sz, h.df, by simpa using h.base, h.s0, ?_, ?_, ?_, ?_, ?_, ?_⟩, hT⟩
  · rw [htt]; exact Rep.trans hT _ _ (h.tm i)
  · intro k b' hk; rw [hmm] at hk; intro hb'; simpa using h.pres k b' hk hb'
  · intro k k' b' e1 e2; rw [hmm] at e1 e2; exact h.inj k k' b' e1 e2
  · intro k o; rw [hmm]; intro e
    by_cases e' : Var.c key off = Var.c k o
    · cases e'; exact ⟨true, hm⟩
    · rw [upd_ne g d e'] at e; exact h.here k o e
  · intro k o c e
    by_cases e' : Var.c key off = Var.c k o
    · rw [← e', upd_same] at e; exact absurd e (hdnc c)
    · rw [upd_ne g d e'] at e
      obtain ⟨e1, e0, e2⟩ := h.conOk k o c e
      have hkk : k ≠ key := by
        rintro rfl
        subst e1
        exact hold (e0 off (by rintro rfl; exact e' rfl))
      refine ⟨e1, fun o' ho' => by rw [upd_ne g d (by rintro ⟨⟩; exact hkk rfl)]; exact e0 o' ho', e2.imp id ?_⟩
      rintro ⟨b', v', el', e3, e4, e5⟩
      have e6 : b' ≠ b := by
        rintro rfl
        obtain ⟨bb, hbb⟩ := h.here k o (by rw [e]; simp)
        exact hkk (h.inj k key b' ⟨bb, hbb⟩ ⟨true, hm⟩ e3 h1)
      exact ⟨b', v', el', e3, (hwo b' e6).trans e4, e5⟩
  · intro k o e1 e2
    by_cases e' : Var.c key off = Var.c k o
    · cases e'
      rw [upd_same]
      refine ⟨b, _, el, x, h1, hwb, ?_, Rep.trans hT _ _ hd⟩
      rw [Array.getElem?_setIfInBounds_self_of_lt (getElem?_lt h3)]
    · rw [upd_ne g d e'] at e1 e2 ⊢
      obtain ⟨b', v', el', z, f1, f2, f3, f4⟩ := h.celOk k o e1 e2
      by_cases e6 : b' = b
      · subst e6
        obtain ⟨bb, hbb⟩ := h.here k o e1
        have hkk := h.inj k key b' ⟨bb, hbb⟩ ⟨true, hm⟩ f1 h1
        subst hkk
        have e2 : Obj.cells v el (0, 0) = Obj.cells v' el' (0, 0) := Option.some.inj (h2.symm.trans f2)
        cases e2
        refine ⟨b', _, _, z, f1, hwb, ?_, Rep.trans hT _ _ f4⟩
        rw [Array.getElem?_setIfInBounds, if_neg (by rintro rfl; exact e' rfl)]
        exact f3
      · exact ⟨b', v', el', z, f1, (hwo b' e6).trans f2, f3, Rep.trans hT _ _ f4⟩
  · intro k e
    rw [hii] at e ⊢; rw [hmm]
    obtain ⟨s, pos, b', f1, f2, f3, f4⟩ := h.itr k e
    refine ⟨s, pos, b', f1, f2, f3, (hwo b' ?_).trans f4⟩
    rintro rfl
    rw [h2] at f4; cases f4

/-- A list of one's own is written: its length stays. -/
theorem Sim.setCon (h : Sim B S0 n g μ a w) {key : Nat} {c c' : Con} {i : Nat} {x : Value} (hm : g (.m key) = .bool true)
    (hc : g (.c key 0) = .con c) (hi : i < c.vals.length) (hlen : c.len = c'.len) (hesz : c.esz = c'.esz) (hne : c.len ≠ 0)
    (hv : ∀ (v : Array Value), (∀ j, j < c.vals.length → v[j]? = c.vals[j]?) → c'.vals.length = c.vals.length ∧ ∀ j, j < c'.vals.length → (v.setIfInBounds i x)[j]? = c'.vals[j]?) :
    ∃ b, μ key = some b ∧ B ≤ b ∧ (∃ y, w.cell? ⟨b, i, none⟩ = some y) ∧ w.frozen? ⟨b, i, none⟩ = false ∧
      Sim B S0 n (upd g (.c key 0) (.con c')) μ a (w.setCell ⟨b, i, none⟩ x) ∧
      Trans (vw g μ S0 w) (vw (upd g (.c key 0) (.con c')) μ S0 (w.setCell ⟨b, i, none⟩ x)) := by
  obtain ⟨_, h0, hcon⟩ := h.conOk key 0 c hc
  rcases hcon with ⟨_, hz⟩ | ⟨b, v, el, h1, h2, h3⟩
  · exact absurd hz hne
  have hb := h.pres key b (by rw [hm]; simp) h1
  have hmm : ∀ k, upd g (.c key 0) (.con c') (.m k) = g (.m k) := fun k => upd_ne g _ (by simp)
  have htt : ∀ k, upd g (.c key 0) (.con c') (.t k) = g (.t k) := fun k => upd_ne g _ (by simp)
  have hii : ∀ k, upd g (.c key 0) (.con c') (.i k) = g (.i k) := fun k => upd_ne g _ (by simp)
  have hwb : (w.setCell ⟨b, i, none⟩ x).heap[b]? = some (.cells (v.setIfInBounds i x) el (0, 0)) := by
    simp [World.setCell, Array.getElem?_modify, h2]
  have hwo : ∀ k, k ≠ b → (w.setCell ⟨b, i, none⟩ x).heap[k]? = w.heap[k]? := fun k hk => Below.heap_setCell w _ x k hk
  have hiv : i < v.size := by
    have := h3 i hi
    rw [List.getElem?_eq_getElem hi] at this
    exact getElem?_lt this
  have hT : Trans (vw g μ S0 w) (vw (upd g (.c key 0) (.con c')) μ S0 (w.setCell ⟨b, i, none⟩ x)) := by
    refine ⟨by simp [vw], fun b' hb' hx => ⟨?_, ?_⟩, fun k hk => ⟨by simpa [vw, hmm] using hk, rfl⟩, fun b' c el' fr e => ?_, fun k c2 hk e => ?_⟩
    · refine hwo b' ?_
      rintro rfl
      exact hx (.inr ⟨key, hm, h1⟩)
    · simp only [vw, Xof, hmm] at hx ⊢; exact hx
    · by_cases e' : b' = b
      · subst e'
        have e2 : Obj.cells v el (0, 0) = Obj.cells c el' fr := Option.some.inj (h2.symm.trans e)
        cases e2
        exact ⟨_, _, _, hwb, by simp⟩
      · exact ⟨c, el', fr, (hwo b' e').trans e, rfl⟩
    · simp only [vw] at e ⊢
      by_cases e' : key = k
      · subst e'; rw [upd_same] at e; cases e; exact ⟨c, hc, hlen, hesz⟩
      · rw [upd_ne g _ (by simpa using e')] at e; exact ⟨c2, e, rfl, rfl⟩
  refine ⟨b, h1, hb.1, ⟨v[i], by simp [World.cell?, h2, hiv]⟩, by simp [World.frozen?, h2], ⟨fun j => ?_, h.sz, h.df, by simpa using h.base, h.s0, ?_, ?_, ?_, ?_, ?_, ?_⟩, hT⟩
  · rw [htt]; exact Rep.trans hT _ _ (h.tm j)
  · intro k b' hk; rw [hmm] at hk; intro hb'; simpa using h.pres k b' hk hb'
  · intro k k' b' e1 e2; rw [hmm] at e1 e2; exact h.inj k k' b' e1 e2
  · intro k o; rw [hmm]; intro e
    by_cases e' : Var.c key 0 = Var.c k o
    · cases e'; exact ⟨true, hm⟩
    · rw [upd_ne g _ e'] at e; exact h.here k o e
  · intro k o c2 e
    by_cases e' : Var.c key 0 = Var.c k o
    · cases e'
      rw [upd_same] at e; cases e
      refine ⟨rfl, fun o ho => by rw [upd_ne g _ (by rintro ⟨⟩; exact ho rfl)]; exact h0 o ho, .inr ⟨b, _, el, h1, hwb, ?_⟩⟩
      exact (hv v h3).2
    · rw [upd_ne g _ e'] at e
      obtain ⟨e1, e0, e2⟩ := h.conOk k o c2 e
      subst e1
      have hkk : k ≠ key := by rintro rfl; exact e' rfl
      refine ⟨rfl, fun o' ho' => by rw [upd_ne g _ (by rintro ⟨⟩; exact ho' rfl)]; exact e0 o' ho', e2.imp id ?_⟩
      rintro ⟨b', v', el', e3, e4, e5⟩
      have e6 : b' ≠ b := by
        rintro rfl
        obtain ⟨bb, hbb⟩ := h.here k 0 (by rw [e]; simp)
        exact hkk (h.inj k key b' ⟨bb, hbb⟩ ⟨true, hm⟩ e3 h1)
      exact ⟨b', v', el', e3, (hwo b' e6).trans e4, e5⟩
  · intro k o e1 e2
    by_cases e' : Var.c key 0 = Var.c k o
    · cases e'; rw [upd_same] at e2; exact absurd rfl (e2 c')
    · rw [upd_ne g _ e'] at e1 e2 ⊢
      obtain ⟨b', v', el', z, f1, f2, f3, f4⟩ := h.celOk k o e1 e2
      have e6 : b' ≠ b := by
        rintro rfl
        obtain ⟨bb, hbb⟩ := h.here k o e1
        have hkk := h.inj k key b' ⟨bb, hbb⟩ ⟨true, hm⟩ f1 h1
        subst hkk
        exact e1 (h0 o (by rintro rfl; exact e' rfl))
      exact ⟨b', v', el', z, f1, (hwo b' e6).trans f2, f3, Rep.trans hT _ _ f4⟩
  · intro k e
    rw [hii] at e ⊢; rw [hmm]
    obtain ⟨s, pos, b', f1, f2, f3, f4⟩ := h.itr k e
    refine ⟨s, pos, b', f1, f2, f3, (hwo b' ?_).trans f4⟩
    rintro rfl
    rw [h2] at f4; cases f4

end
end Go.QA

namespace Go.QA
open Go Go.RowKit

section
variable {B : Nat} {S0 : Nat → Prop} {n : Nat} {g : Var → D} {μ : Nat → Option Nat} {a : Act} {w : World}

/-- The state behind an append: the old key is dead, the new one has the list. -/
def moved (g : Var → D) (K t : Nat) (c' : Con) : Var → D :=
  updF g [(.m K, .nilp), (.c K 0, .top), (.m t, .bool true), (.c t 0, .con c')]

theorem moved_m (g : Var → D) {K t : Nat} (c' : Con) (k : Nat) (h : K ≠ t) : moved g K t c' (.m k) = if k = t then .bool true else if k = K then .nilp else g (.m k) := by
  simp only [moved, updF]
  rw [upd_ne _ _ (by simp)]
  by_cases e : k = t
  · subst e; rw [upd_same, if_pos rfl]
  · rw [upd_ne _ _ (by simpa using Ne.symm e), upd_ne _ _ (by simp), if_neg e]
    by_cases e' : k = K
    · subst e'; rw [upd_same, if_pos rfl]
    · rw [upd_ne _ _ (by simpa using Ne.symm e'), if_neg e']

theorem moved_c (g : Var → D) {K t : Nat} (c' : Con) (k off : Nat) (h : K ≠ t) :
    moved g K t c' (.c k off) = if k = t ∧ off = 0 then .con c' else if k = K ∧ off = 0 then .top else g (.c k off) := by
  simp only [moved, updF]
  by_cases e : k = t ∧ off = 0
  · obtain ⟨rfl, rfl⟩ := e; rw [upd_same, if_pos ⟨rfl, rfl⟩]
  · rw [upd_ne _ _ (by rintro ⟨⟩; exact e ⟨rfl, rfl⟩), upd_ne _ _ (by simp), if_neg e]
    by_cases e' : k = K ∧ off = 0
    · obtain ⟨rfl, rfl⟩ := e'; rw [upd_same, if_pos ⟨rfl, rfl⟩]
    · rw [upd_ne _ _ (by rintro ⟨⟩; exact e' ⟨rfl, rfl⟩), upd_ne _ _ (by simp), if_neg e']

theorem moved_t (g : Var → D) (K t : Nat) (c' : Con) (i : Nat) : moved g K t c' (.t i) = g (.t i) := by
  simp only [moved, updF]
  rw [upd_ne _ _ (by simp), upd_ne _ _ (by simp), upd_ne _ _ (by simp), upd_ne _ _ (by simp)]

theorem moved_i (g : Var → D) (K t : Nat) (c' : Con) (i : Nat) : moved g K t c' (.i i) = g (.i i) := by
  simp only [moved, updF]
  rw [upd_ne _ _ (by simp), upd_ne _ _ (by simp), upd_ne _ _ (by simp), upd_ne _ _ (by simp)]

/-- The list's block, b, takes what is appended. -/
theorem Sim.move (h : Sim B S0 n g μ a w) {K t b : Nat} {c c' : Con} {v v' : Array Value} {el : TypeId} {w' : World} (hKt : K ≠ t) (ht : g (.m t) = .top) (hm : g (.m K) = .bool true)
    (hc : g (.c K 0) = .con c) (h1 : μ K = some b) (h2 : w.heap[b]? = some (.cells v el (0, 0))) (hw : Wrote b w w') (h3 : w'.heap[b]? = some (.cells v' el (0, 0)))
    (hsz : v'.size = v.size) (hv : ∀ i, i < c'.vals.length → v'[i]? = c'.vals[i]?) :
    Sim B S0 n (moved g K t c') (fun k => if k = t then some b else μ k) a w' ∧ Trans (vw g μ S0 w) (vw (moved g K t c') (fun k => if k = t then some b else μ k) S0 w') := by
  obtain ⟨_, h0, _⟩ := h.conOk K 0 c hc
  have hb := h.pres K b (by rw [hm]; simp) h1
  have hmm := fun k => moved_m g c' k hKt
  have hcc := fun k off => moved_c g c' k off hKt
  have hT : Trans (vw g μ S0 w) (vw (moved g K t c') (fun k => if k = t then some b else μ k) S0 w') := by
    refine ⟨by simp [vw, hw.size], fun b' hb' hx => ⟨?_, ?_⟩, fun k hk => ?_, fun b' c2 el' fr e => ?_, fun k c2 hk e => ?_⟩
    · refine hw.other b' ?_
      rintro rfl
      exact hx (.inr ⟨K, hm, h1⟩)
    · simp only [vw, Xof] at hx ⊢
      rintro (hs | ⟨k, e1, e2⟩)
      · exact hx (.inl hs)
      · rw [hmm] at e1
        by_cases e : k = t
        · subst e; simp only [↓reduceIte, Option.some.injEq] at e2; subst e2; exact hx (.inr ⟨K, hm, h1⟩)
        · rw [if_neg e] at e1 e2
          by_cases e' : k = K
          · rw [if_pos e'] at e1; cases e1
          · rw [if_neg e'] at e1; exact hx (.inr ⟨k, e1, e2⟩)
    · simp only [vw] at hk ⊢
      have e : k ≠ t := by rintro rfl; exact hk ht
      rw [hmm, if_neg e, if_neg e]
      refine ⟨?_, rfl⟩
      by_cases e' : k = K
      · rw [if_pos e']; simp
      · rw [if_neg e']; exact hk
    · by_cases e' : b' = b
      · subst e'
        have e2 : Obj.cells v el (0, 0) = Obj.cells c2 el' fr := Option.some.inj (h2.symm.trans e)
        cases e2
        exact ⟨_, _, _, h3, hsz⟩
      · exact ⟨c2, el', fr, (hw.other b' e').trans e, rfl⟩
    · simp only [vw] at hk e ⊢
      have e' : k ≠ t := by rintro rfl; exact hk ht
      rw [hcc, if_neg (by simp [e'])] at e
      by_cases e2 : k = K
      · rw [if_pos ⟨e2, rfl⟩] at e; cases e
      · rw [if_neg (by simp [e2])] at e; exact ⟨c2, e, rfl, rfl⟩
  refine ⟨⟨fun i => ?_, h.sz, h.df, by rw [hw.size]; exact h.base, h.s0, ?_, ?_, ?_, ?_, ?_, ?_⟩, hT⟩
  · rw [moved_t]; exact Rep.trans hT _ _ (h.tm i)
  · intro k b' e1 e2
    rw [hw.size]
    by_cases e : k = t
    · subst e; simp only [↓reduceIte, Option.some.injEq] at e2; subst e2; exact hb
    · rw [if_neg e] at e2; rw [hmm, if_neg e] at e1
      refine h.pres k b' ?_ e2
      by_cases e' : k = K
      · subst e'; rw [hm]; simp
      · rwa [if_neg e'] at e1
  · intro k k' b' e1 e2 e3 e4
    have key : ∀ k, k ≠ t → (∃ bb, moved g K t c' (.m k) = .bool bb) → k ≠ K ∧ ∃ bb, g (.m k) = .bool bb := by
      rintro k e ⟨bb, hbb⟩
      rw [hmm, if_neg e] at hbb
      by_cases e' : k = K
      · rw [if_pos e'] at hbb; cases hbb
      · rw [if_neg e'] at hbb; exact ⟨e', bb, hbb⟩
    by_cases e : k = t <;> by_cases e' : k' = t
    · rw [e, e']
    · exfalso
      obtain ⟨f1, f2⟩ := key k' e' e2
      subst e; simp only [↓reduceIte, Option.some.injEq] at e3; subst e3
      rw [if_neg e'] at e4
      exact f1 (h.inj k' K _ f2 ⟨true, hm⟩ e4 h1)
    · exfalso
      obtain ⟨f1, f2⟩ := key k e e1
      subst e'; simp only [↓reduceIte, Option.some.injEq] at e4; subst e4
      rw [if_neg e] at e3
      exact f1 (h.inj k K _ f2 ⟨true, hm⟩ e3 h1)
    · rw [if_neg e] at e3; rw [if_neg e'] at e4
      exact h.inj k k' b' (key k e e1).2 (key k' e' e2).2 e3 e4
  · intro k off e
    rw [hmm]
    by_cases e1 : k = t
    · rw [if_pos e1]; exact ⟨true, rfl⟩
    · rw [hcc, if_neg (by simp [e1])] at e
      rw [if_neg e1]
      by_cases e2 : k = K
      · subst e2
        by_cases e3 : off = 0
        · rw [if_pos ⟨rfl, e3⟩] at e; exact absurd rfl e
        · rw [if_neg (by simp [e3])] at e; exact absurd (h0 off e3) e
      · rw [if_neg (by simp [e2])] at e; rw [if_neg e2]; exact h.here k off e
  · intro k off c2 e
    rw [hcc] at e
    by_cases e1 : k = t
    · subst e1
      by_cases e2 : off = 0
      · subst e2
        rw [if_pos ⟨rfl, rfl⟩] at e; cases e
        refine ⟨rfl, fun o ho => ?_, .inr ⟨b, v', el, by simp, h3, hv⟩⟩
        rw [hcc, if_neg (by simp [ho]), if_neg (by simp [ho])]; exact h.cTop ht o
      · rw [if_neg (by simp [e2]), if_neg (by simp [e2]), h.cTop ht] at e; cases e
    · rw [if_neg (by simp [e1])] at e
      by_cases e2 : k = K
      · subst e2
        by_cases e3 : off = 0
        · rw [if_pos ⟨rfl, e3⟩] at e; cases e
        · rw [if_neg (by simp [e3]), h0 off e3] at e; cases e
      · rw [if_neg (by simp [e2])] at e
        obtain ⟨f1, f0, f2⟩ := h.conOk k off c2 e
        refine ⟨f1, fun o ho => ?_, ?_⟩
        · rw [hcc, if_neg (by simp [e1]), if_neg (by simp [e2])]; exact f0 o ho
        · rw [if_neg e1]
          refine f2.imp id ?_
          rintro ⟨b', v2, el2, f3, f4, f5⟩
          have f6 : b' ≠ b := by
            rintro rfl
            obtain ⟨bb, hbb⟩ := h.here k off (by rw [e]; simp)
            exact e2 (h.inj k K b' ⟨bb, hbb⟩ ⟨true, hm⟩ f3 h1)
          exact ⟨b', v2, el2, f3, (hw.other b' f6).trans f4, f5⟩
  · intro k off e e'
    by_cases e1 : k = t
    · subst e1
      by_cases e2 : off = 0
      · exact absurd (by rw [hcc, if_pos ⟨rfl, e2⟩]) (e' c')
      · exact absurd (by rw [hcc, if_neg (by simp [e2]), if_neg (by simp [e2])]; exact h.cTop ht off) e
    · by_cases e2 : k = K
      · subst e2
        by_cases e3 : off = 0
        · exact absurd (by rw [hcc, if_neg (by simp [e1]), if_pos ⟨rfl, e3⟩]) e
        · exact absurd (by rw [hcc, if_neg (by simp [e1]), if_neg (by simp [e3])]; exact h0 off e3) e
      · have hval : moved g K t c' (.c k off) = g (.c k off) := by rw [hcc, if_neg (by simp [e1]), if_neg (by simp [e2])]
        rw [hval] at e e' ⊢
        obtain ⟨b', v2, el2, z, f3, f4, f5, f6⟩ := h.celOk k off e e'
        have f7 : b' ≠ b := by
          rintro rfl
          obtain ⟨bb, hbb⟩ := h.here k off e
          exact e2 (h.inj k K b' ⟨bb, hbb⟩ ⟨true, hm⟩ f3 h1)
        exact ⟨b', v2, el2, z, (if_neg e1).trans f3, (hw.other b' f7).trans f4, f5, Rep.trans hT _ _ f6⟩
  · intro k e
    rw [moved_i] at e ⊢
    obtain ⟨s, pos, b', f1, f2, f3, f4⟩ := h.itr k e
    have e1 : k ≠ t := by rintro rfl; rw [ht] at f2; cases f2
    have f7 : b' ≠ b := by rintro rfl; rw [h2] at f4; cases f4
    have e2 : k ≠ K := by
      rintro rfl
      rw [h1] at f3; cases f3; exact f7 rfl
    refine ⟨s, pos, b', f1, by rw [hmm, if_neg e1, if_neg e2]; exact f2, (if_neg e1).trans f3, (hw.other b' f7).trans f4⟩

/-- The old key is dead. -/
def dead (g : Var → D) (K : Nat) : Var → D := updF g [(.m K, .nilp), (.c K 0, .top)]

theorem dead_m (g : Var → D) (K k : Nat) : dead g K (.m k) = if k = K then .nilp else g (.m k) := by
  simp only [dead, updF]
  rw [upd_ne _ _ (by simp)]
  by_cases e : k = K
  · subst e; rw [upd_same, if_pos rfl]
  · rw [upd_ne _ _ (by simpa using Ne.symm e), if_neg e]

theorem dead_c (g : Var → D) (K k off : Nat) : dead g K (.c k off) = if k = K ∧ off = 0 then .top else g (.c k off) := by
  simp only [dead, updF]
  by_cases e : k = K ∧ off = 0
  · obtain ⟨rfl, rfl⟩ := e; rw [upd_same, if_pos ⟨rfl, rfl⟩]
  · rw [upd_ne _ _ (by rintro ⟨⟩; exact e ⟨rfl, rfl⟩), upd_ne _ _ (by simp), if_neg e]

theorem dead_t (g : Var → D) (K i : Nat) : dead g K (.t i) = g (.t i) := by
  simp only [dead, updF]; rw [upd_ne _ _ (by simp), upd_ne _ _ (by simp)]
theorem dead_i (g : Var → D) (K i : Nat) : dead g K (.i i) = g (.i i) := by
  simp only [dead, updF]; rw [upd_ne _ _ (by simp), upd_ne _ _ (by simp)]

theorem Sim.drop (h : Sim B S0 n g μ a w) {K : Nat} {c : Con} (hm : g (.m K) = .bool true) (hc : g (.c K 0) = .con c) (hi : g (.i K) = .top) :
    Sim B S0 n (dead g K) μ a w ∧ Trans (vw g μ S0 w) (vw (dead g K) μ S0 w) := by
  obtain ⟨_, h0, _⟩ := h.conOk K 0 c hc
  have hmt : ∀ k, dead g K (.m k) ≠ .top → g (.m k) ≠ .top := by
    intro k e; rw [dead_m] at e
    by_cases e' : k = K
    · subst e'; rw [hm]; simp
    · rwa [if_neg e'] at e
  have hbb : ∀ k, (∃ bb, dead g K (.m k) = .bool bb) → k ≠ K ∧ ∃ bb, g (.m k) = .bool bb := by
    rintro k ⟨bb, e⟩; rw [dead_m] at e
    by_cases e' : k = K
    · rw [if_pos e'] at e; cases e
    · rw [if_neg e'] at e; exact ⟨e', bb, e⟩
  have hT : Trans (vw g μ S0 w) (vw (dead g K) μ S0 w) := by
    refine ⟨Nat.le_refl _, fun b _ hx => ⟨rfl, ?_⟩, fun k hk => ⟨?_, rfl⟩, fun b c el fr e => ⟨c, el, fr, e, rfl⟩, fun k c' _ e => ?_⟩
    · simp only [vw, Xof] at hx ⊢
      rintro (hs | ⟨k, e1, e2⟩)
      · exact hx (.inl hs)
      · rw [dead_m] at e1
        by_cases e' : k = K
        · rw [if_pos e'] at e1; cases e1
        · rw [if_neg e'] at e1; exact hx (.inr ⟨k, e1, e2⟩)
    · simp only [vw] at hk ⊢
      rw [dead_m]
      by_cases e' : k = K
      · rw [if_pos e']; simp
      · rw [if_neg e']; exact hk
    · simp only [vw] at e ⊢
      rw [dead_c] at e
      by_cases e' : k = K
      · rw [if_pos ⟨e', rfl⟩] at e; cases e
      · rw [if_neg (by simp [e'])] at e; exact ⟨c', e, rfl, rfl⟩
  refine ⟨⟨fun i => ?_, h.sz, h.df, h.base, h.s0, ?_, ?_, ?_, ?_, ?_, ?_⟩, hT⟩
  · rw [dead_t]; exact Rep.trans hT _ _ (h.tm i)
  · intro k b e; exact h.pres k b (hmt k e)
  · intro k k' b e1 e2; exact h.inj k k' b (hbb k e1).2 (hbb k' e2).2
  · intro k off e
    rw [dead_c] at e; rw [dead_m]
    by_cases e2 : k = K
    · subst e2
      by_cases e3 : off = 0
      · rw [if_pos ⟨rfl, e3⟩] at e; exact absurd rfl e
      · rw [if_neg (by simp [e3]), h0 off e3] at e; exact absurd rfl e
    · rw [if_neg (by simp [e2])] at e; rw [if_neg e2]; exact h.here k off e
  · intro k off c' e
    rw [dead_c] at e
    by_cases e2 : k = K
    · subst e2
      by_cases e3 : off = 0
      · rw [if_pos ⟨rfl, e3⟩] at e; cases e
      · rw [if_neg (by simp [e3]), h0 off e3] at e; cases e
    · rw [if_neg (by simp [e2])] at e
      obtain ⟨f1, f0, f2⟩ := h.conOk k off c' e
      exact ⟨f1, fun o ho => by rw [dead_c, if_neg (by simp [e2])]; exact f0 o ho, f2⟩
  · intro k off e e'
    rw [dead_c] at e e' ⊢
    by_cases e2 : k = K
    · subst e2
      by_cases e3 : off = 0
      · rw [if_pos ⟨rfl, e3⟩] at e; exact absurd rfl e
      · rw [if_neg (by simp [e3]), h0 off e3] at e; exact absurd rfl e
    · rw [if_neg (by simp [e2])] at e e' ⊢
      obtain ⟨b, v, el, x, f1, f2, f3, f4⟩ := h.celOk k off e e'
      exact ⟨b, v, el, x, f1, f2, f3, Rep.trans hT _ _ f4⟩
  · intro k e
    rw [dead_i] at e ⊢
    obtain ⟨s, pos, b, f1, f2, f3, f4⟩ := h.itr k e
    refine ⟨s, pos, b, f1, ?_, f3, f4⟩
    rw [dead_m, if_neg (by rintro rfl; exact e hi)]; exact f2

/-- The iterator goes on. -/
theorem Sim.step (h : Sim B S0 n g μ a w) {key : Nat} {s : Str} {pos : Nat} (hi : g (.i key) = .its s pos) (pos' : Nat) :
    ∃ b, μ key = some b ∧ B ≤ b ∧ w.heap[b]? = some (.stringIter ⟨⟨s⟩⟩ pos) ∧
      Sim B S0 n (upd g (.i key) (.its s pos')) μ a { w with heap := w.heap.setIfInBounds b (.stringIter ⟨⟨s⟩⟩ pos') } ∧
      Trans (vw g μ S0 w) (vw (upd g (.i key) (.its s pos')) μ S0 { w with heap := w.heap.setIfInBounds b (.stringIter ⟨⟨s⟩⟩ pos') }) := by
  obtain ⟨s1, p1, b, f1, f2, f3, f4⟩ := h.itr key (by rw [hi]; simp)
  rw [hi] at f1; cases f1
  have hb := h.pres key b (by rw [f2]; simp) f3
  have hmm : ∀ k, upd g (.i key) (.its s pos') (.m k) = g (.m k) := fun k => upd_ne g _ (by simp)
  have htt : ∀ k, upd g (.i key) (.its s pos') (.t k) = g (.t k) := fun k => upd_ne g _ (by simp)
  have hcc : ∀ k o, upd g (.i key) (.its s pos') (.c k o) = g (.c k o) := fun k o => upd_ne g _ (by simp)
  have hwo : ∀ k, k ≠ b → (w.heap.setIfInBounds b (.stringIter ⟨⟨s⟩⟩ pos'))[k]? = w.heap[k]? := by
    intro k hk; rw [Array.getElem?_setIfInBounds, if_neg (Ne.symm hk)]
  have hwb : (w.heap.setIfInBounds b (.stringIter ⟨⟨s⟩⟩ pos'))[b]? = some (.stringIter ⟨⟨s⟩⟩ pos') := by
    rw [Array.getElem?_setIfInBounds_self_of_lt (getElem?_lt f4)]
  have hT : Trans (vw g μ S0 w) (vw (upd g (.i key) (.its s pos')) μ S0 { w with heap := w.heap.setIfInBounds b (.stringIter ⟨⟨s⟩⟩ pos') }) := by
    refine ⟨by simp [vw], fun b' hb' hx => ⟨?_, ?_⟩, fun k hk => ⟨by simpa [vw, hmm] using hk, rfl⟩, fun b' c el' fr e => ?_, fun k c2 hk e => ⟨c2, by simpa [vw, hcc] using e, rfl, rfl⟩⟩
    · refine hwo b' ?_
      rintro rfl
      exact hx (.inr ⟨key, f2, f3⟩)
    · simp only [vw, Xof, hmm] at hx ⊢; exact hx
    · have e' : b' ≠ b := by rintro rfl; simp only [vw] at e; rw [f4] at e; cases e
      exact ⟨c, el', fr, (hwo b' e').trans e, rfl⟩
  refine ⟨b, f3, hb.1, f4, ⟨fun i => ?_, h.sz, h.df, by simpa using h.base, h.s0, ?_, ?_, ?_, ?_, ?_, ?_⟩, hT⟩
  · rw [htt]; exact Rep.trans hT _ _ (h.tm i)
  · intro k b' hk; rw [hmm] at hk; intro hb'; simpa using h.pres k b' hk hb'
  · intro k k' b' e1 e2; rw [hmm] at e1 e2; exact h.inj k k' b' e1 e2
  · intro k o; rw [hmm, hcc]; exact h.here k o
  · intro k o c; simp only [hcc]; intro e
    obtain ⟨e1, e0, e2⟩ := h.conOk k o c e
    refine ⟨e1, e0, e2.imp id ?_⟩
    rintro ⟨b', v', el', e3, e4, e5⟩
    have e6 : b' ≠ b := by rintro rfl; rw [f4] at e4; cases e4
    exact ⟨b', v', el', e3, (hwo b' e6).trans e4, e5⟩
  · intro k o; rw [hcc]; intro e1 e2
    obtain ⟨b', v', el', z, e3, e4, e5, e6⟩ := h.celOk k o e1 e2
    have e7 : b' ≠ b := by rintro rfl; rw [f4] at e4; cases e4
    exact ⟨b', v', el', z, e3, (hwo b' e7).trans e4, e5, Rep.trans hT _ _ e6⟩
  · intro k e
    rw [hmm]
    by_cases e' : key = k
    · subst e'; rw [upd_same]; exact ⟨s, pos', b, rfl, f2, f3, hwb⟩
    · rw [upd_ne g _ (by simpa using e')] at e ⊢
      obtain ⟨s2, p2, b', e1, e2, e3, e4⟩ := h.itr k e
      have e6 : b' ≠ b := by
        rintro rfl
        exact e' (h.inj key k b' ⟨true, f2⟩ ⟨true, e2⟩ f3 e3)
      exact ⟨s2, p2, b', e1, e2, e3, (hwo b' e6).trans e4⟩

end
end Go.QA

namespace Go.QA
open Go Go.RowKit

/-! ### constants -/

mutual
theorem ofV_rep (V : Vw) : ∀ v : Value, Rep V (ofV v) v
  | .int k n => by simp [ofV, Rep]
  | .bool b => by simp [ofV, Rep]
  | .string s => by simp [ofV, Rep, strV]
  | .pointer none => by simp [ofV, Rep]
  | .pointer (some a) => by simp [ofV, Rep]
  | .slice none 0 0 => by simp [ofV, Rep]
  | .slice none 0 (n + 1) => by simp [ofV, Rep]
  | .slice none (m + 1) n => by simp [ofV, Rep]
  | .slice (some a) m n => by simp [ofV, Rep]
  | .func (.func f) ⟨[]⟩ ⟨[]⟩ => by simp [ofV, Rep]
  | .func (.func f) ⟨_ :: _⟩ _ => by simp [ofV, Rep]
  | .func (.func f) ⟨[]⟩ ⟨_ :: _⟩ => by simp [ofV, Rep]
  | .func (.method _) _ _ => by simp [ofV, Rep]
  | .func (.methodOf _ _) _ _ => by simp [ofV, Rep]
  | .func (.via _ _ _ _) _ _ => by simp [ofV, Rep]
  | .func (.yield _) _ _ => by simp [ofV, Rep]
  | .agg ⟨l⟩ => by
    have := ofVL_rep V l
    simp only [ofV, ofVA, Rep]
    exact ⟨l, rfl, this⟩
  | .float _ _ => by simp [ofV, Rep]
  | .complex _ _ _ => by simp [ofV, Rep]
  | .map _ => by simp [ofV, Rep]
  | .chan _ => by simp [ofV, Rep]
  | .nilFunc => by simp [ofV, Rep]
  | .iface _ _ => by simp [ofV, Rep]
  | .nilIface => by simp [ofV, Rep]
  | .tuple _ => by simp [ofV, Rep]
theorem ofVL_rep (V : Vw) : ∀ l : List Value, RepL V (ofVL l) l
  | [] => by simp [ofVL, RepL]
  | v :: r => by
    have h1 := ofV_rep V v
    have h2 := ofVL_rep V r
    simp only [ofVL, RepL]
    exact ⟨v, r, rfl, h1, h2⟩
end

/-! ### ways -/

def Leads {α : Type} (AC : FuncId → List D → D → Prop) (g : Var → D) (p : PT α) (a : α) : Prop := ∃ l, PT.Path AC g p a l

section
variable {α : Type} {AC : FuncId → List D → D → Prop} {g : Var → D} {a : α}

theorem leads_ret {x : α} : Leads AC g (.ret x) a ↔ a = x :=
  ⟨fun ⟨_, h⟩ => by cases h; rfl, fun h => by subst h; exact ⟨_, .ret _⟩⟩
theorem leads_fail : Leads AC g (.fail) a ↔ False := ⟨fun ⟨_, h⟩ => (nomatch h), False.elim⟩
theorem leads_get {v : Var} {f : D → PT α} : Leads AC g (.get v f) a ↔ Leads AC g (f (g v)) a :=
  ⟨fun ⟨_, h⟩ => by cases h with | get h => exact ⟨_, h⟩, fun ⟨_, h⟩ => ⟨_, .get h⟩⟩
theorem leads_br {b : Bool} {t e : PT α} : Leads AC g (.br b t e) a ↔ (b = true ∧ Leads AC g t a) ∨ (b = false ∧ Leads AC g e a) :=
  ⟨fun ⟨_, h⟩ => by cases h with | brt hb h => exact .inl ⟨hb, _, h⟩ | bre hb h => exact .inr ⟨hb, _, h⟩,
   fun h => by rcases h with ⟨hb, _, h⟩ | ⟨hb, _, h⟩; exact ⟨_, .brt hb h⟩; exact ⟨_, .bre hb h⟩⟩
theorem leads_cond {b : Bool} {t e : PT α} : Leads AC g (bif b then t else e) a ↔ (b = true ∧ Leads AC g t a) ∨ (b = false ∧ Leads AC g e a) := by
  cases b <;> simp
theorem leads_call {f : FuncId} {args : List D} {k : D → PT α} : Leads AC g (.call f args k) a ↔ ∃ d, AC f args d ∧ Leads AC g (k d) a :=
  ⟨fun ⟨_, h⟩ => by cases h with | call hc h => exact ⟨_, hc, _, h⟩, fun ⟨_, hc, _, h⟩ => ⟨_, .call hc h⟩⟩

/-- What an operand holds. -/
def EvD (g : Var → D) (x : Operand) (d : D) : Prop :=
  match x with
  | .tmp t => d = g (.t t)
  | .const v => d = ofV v
  | .func f => d = .fn f
  | .global _ => False

theorem leads_pget {x : Operand} {f : D → PT α} : Leads AC g (pget x f) a ↔ ∃ d, EvD g x d ∧ Leads AC g (f d) a := by
  cases x <;> simp [pget, EvD, leads_get, leads_fail]

theorem leads_popt {x : Option Operand} {f : Option D → PT α} : Leads AC g (popt x f) a ↔
    (x = none ∧ Leads AC g (f none) a) ∨ ∃ y d, x = some y ∧ EvD g y d ∧ Leads AC g (f (some d)) a := by
  cases x with
  | none => simp [popt]
  | some y => simp only [popt, leads_pget]; simp

/-- Operands' values. -/
def EvL (g : Var → D) : List Operand → List D → Prop
  | [], ds => ds = []
  | x :: r, ds => ∃ d q, ds = d :: q ∧ EvD g x d ∧ EvL g r q

theorem leads_pgets : ∀ {xs : List Operand} {f : List D → PT α}, Leads AC g (pgets xs f) a ↔ ∃ ds, EvL g xs ds ∧ Leads AC g (f ds) a
  | [], f => by simp [pgets, EvL]
  | x :: r, f => by
    simp only [pgets, leads_pget, leads_pgets, EvL]
    constructor
    · rintro ⟨d, h1, ds, h2, h3⟩; exact ⟨d :: ds, ⟨d, ds, rfl, h1, h2⟩, h3⟩
    · rintro ⟨_, ⟨d, ds, rfl, h1, h2⟩, h3⟩; exact ⟨d, h1, ds, h2, h3⟩

theorem leads_pparts : ∀ {ps : List (Nat × Operand)} {f : List (Nat × D) → PT α}, Leads AC g (pparts ps f) a ↔
    ∃ ds, EvL g (ps.map (·.2)) ds ∧ Leads AC g (f ((ps.map (·.1)).zip ds)) a
  | [], f => by simp [pparts, EvL]
  | (i, x) :: r, f => by
    simp only [pparts, leads_pget, leads_pparts, EvL, List.map_cons]
    constructor
    · rintro ⟨d, h1, ds, h2, h3⟩; exact ⟨d :: ds, ⟨d, ds, rfl, h1, h2⟩, h3⟩
    · rintro ⟨_, ⟨d, ds, rfl, h1, h2⟩, h3⟩; exact ⟨d, h1, ds, h2, h3⟩
end

section
variable {B : Nat} {S0 : Nat → Prop} {n : Nat} {g : Var → D} {μ : Nat → Option Nat} {a : Act} {w : World}

theorem Sim.ev (h : Sim B S0 n g μ a w) {x : Operand} {d : D} (hx : EvD g x d) : Rep (vw g μ S0 w) d (a.eval x) := by
  cases x with
  | tmp t => simp only [EvD] at hx; subst hx; exact h.tm t
  | const v => simp only [EvD] at hx; subst hx; exact ofV_rep _ v
  | global g => exact hx.elim
  | func f => simp only [EvD] at hx; subst hx; rfl

theorem Sim.evL (h : Sim B S0 n g μ a w) : ∀ {xs : List Operand} {ds : List D}, EvL g xs ds → RepL (vw g μ S0 w) ds (xs.map a.eval)
  | [], _, e => by simp only [EvL] at e; subst e; simp [RepL]
  | x :: r, _, ⟨d, q, e, h1, h2⟩ => by
    subst e
    simp only [RepL, List.map_cons]
    exact ⟨_, _, rfl, h.ev h1, h.evL h2⟩
end

theorem RepL.len {V : Vw} : ∀ {ds : List D} {vs : List Value}, RepL V ds vs → ds.length = vs.length
  | [], _, h => by simp only [RepL] at h; subst h; rfl
  | d :: ds, _, h => by
    simp only [RepL] at h
    obtain ⟨v, r, rfl, _, h⟩ := h
    simp [h.len]

theorem RepL.at {V : Vw} : ∀ {ds : List D} {vs : List Value} {i : Nat} {d : D}, RepL V ds vs → ds[i]? = some d → ∃ v, vs[i]? = some v ∧ Rep V d v
  | [], _, _, _, _, e => by simp at e
  | d0 :: ds, _, i, d, h, e => by
    simp only [RepL] at h
    obtain ⟨v, r, rfl, h1, h2⟩ := h
    cases i with
    | zero => simp at e; subst e; exact ⟨v, rfl, h1⟩
    | succ i => simp at e ⊢; exact h2.at e

theorem RepL.take {V : Vw} : ∀ {ds : List D} {vs : List Value} (n : Nat), RepL V ds vs → RepL V (ds.take n) (vs.take n)
  | [], _, n, h => by simp only [RepL] at h; subst h; simp [RepL]
  | d :: ds, _, 0, h => by simp [RepL]
  | d :: ds, _, n + 1, h => by
    simp only [RepL] at h
    obtain ⟨v, r, rfl, h1, h2⟩ := h
    simp only [List.take_succ_cons, RepL]
    exact ⟨_, _, rfl, h1, h2.take n⟩

theorem RepL.drop {V : Vw} : ∀ {ds : List D} {vs : List Value} (n : Nat), RepL V ds vs → RepL V (ds.drop n) (vs.drop n)
  | [], _, n, h => by simp only [RepL] at h; subst h; simp [RepL]
  | d :: ds, _, 0, h => by simpa using h
  | d :: ds, _, n + 1, h => by
    simp only [RepL] at h
    obtain ⟨v, r, rfl, h1, h2⟩ := h
    simpa using h2.drop n

theorem RepL.append {V : Vw} : ∀ {ds es : List D} {vs us : List Value}, RepL V ds vs → RepL V es us → RepL V (ds ++ es) (vs ++ us)
  | [], _, _, _, h, k => by simp only [RepL] at h; subst h; simpa using k
  | d :: ds, es, _, us, h, k => by
    simp only [RepL] at h
    obtain ⟨v, r, rfl, h1, h2⟩ := h
    simp only [List.cons_append, RepL]
    exact ⟨_, _, rfl, h1, h2.append k⟩

/-! ### by value: own memory is not looked at -/

/-- A view without own memory. -/
def iv (X : Nat → Prop) (w : World) : Vw := ⟨fun _ => .top, fun _ => none, X, w⟩

mutual
theorem Rep.toI {V : Vw} : ∀ (d : D) (x : Value), d.imm = true → Rep V d x → Rep (iv V.X V.w) d x
  | .top, _, h, _ => by simp [D.imm] at h
  | .int _ _, _, _, h => h
  | .bool _, _, _, h => h
  | .str _, _, _, h => h
  | .nilp, _, _, h => h
  | .nils, _, _, h => h
  | .agg cs, _, hi, ⟨vs, e, h⟩ => ⟨vs, e, RepL.toI cs vs (by simpa [D.imm] using hi) h⟩
  | .tup cs, _, hi, ⟨vs, e, h⟩ => ⟨vs, e, RepL.toI cs vs (by simpa [D.imm] using hi) h⟩
  | .sl c, _, _, h => h
  | .con _, _, _, h => h
  | .ptr cs, _, hi, ⟨ad, vs, h1, h2, h3, h4, h5, h6⟩ => ⟨ad, vs, h1, h2, h3, h4, h5, RepL.toI cs vs (by simpa [D.imm] using hi) h6⟩
  | .sls cs, _, hi, ⟨ad, cap, vs, h1, h7, h2, h3, h4, h5, h6⟩ => ⟨ad, cap, vs, h1, h7, h2, h3, h4, h5, RepL.toI cs vs (by simpa [D.imm] using hi) h6⟩
  | .own _ _, _, h, _ => by simp [D.imm] at h
  | .osl _ _ _, _, h, _ => by simp [D.imm] at h
  | .oel _ _ _, _, h, _ => by simp [D.imm] at h
  | .oit _, _, h, _ => by simp [D.imm] at h
  | .its _ _, _, _, h => h
  | .fn _, _, _, h => h
theorem RepL.toI {V : Vw} : ∀ (ds : List D) (vs : List Value), immL ds = true → RepL V ds vs → RepL (iv V.X V.w) ds vs
  | [], _, _, h => h
  | d :: ds, _, hi, ⟨v, r, e, h1, h2⟩ => by
    simp only [immL, Bool.and_eq_true] at hi
    exact ⟨v, r, e, Rep.toI d v hi.1 h1, RepL.toI ds r hi.2 h2⟩
end

theorem trans_iv (V : Vw) : Trans (iv V.X V.w) V :=
  ⟨Nat.le_refl _, fun _ _ h => ⟨rfl, h⟩, fun _ h => absurd rfl h, fun _ c el fr h => ⟨c, el, fr, h, rfl⟩, fun _ _ h => absurd rfl h⟩

theorem Rep.ofI {V : Vw} {d : D} {x : Value} (h : Rep (iv V.X V.w) d x) : Rep V d x := Rep.trans (trans_iv V) _ _ h

theorem trans_iX {X X' : Nat → Prop} {w w' : World} (hs : w.heap.size ≤ w'.heap.size) (h : ∀ b, b < w.heap.size → ¬ X b → w'.heap[b]? = w.heap[b]? ∧ ¬ X' b)
    (hshp : ∀ (b : Nat) (c : Array Value) (el : TypeId) (fr : Nat × Nat), w.heap[b]? = some (.cells c el fr) → ∃ c' el' fr', w'.heap[b]? = some (.cells c' el' fr') ∧ c'.size = c.size) : Trans (iv X w) (iv X' w') :=
  ⟨hs, h, fun _ h => absurd rfl h, hshp, fun _ _ h => absurd rfl h⟩

mutual
/-- What names no memory stands for the same everywhere. -/
theorem Rep.flat {V V' : Vw} : ∀ (d : D) (x : Value), d.flat = true → Rep V d x → Rep V' d x
  | .top, _, h, _ => by simp [D.flat] at h
  | .int _ _, _, _, h => h
  | .bool _, _, _, h => h
  | .str _, _, _, h => h
  | .nilp, _, _, h => h
  | .nils, _, _, h => h
  | .agg cs, _, hi, ⟨vs, e, h⟩ => ⟨vs, e, RepL.flat cs vs (by simpa [D.flat] using hi) h⟩
  | .tup cs, _, hi, ⟨vs, e, h⟩ => ⟨vs, e, RepL.flat cs vs (by simpa [D.flat] using hi) h⟩
  | .sl c, _, h, _ => by simp [D.flat] at h
  | .con _, _, _, h => h
  | .ptr cs, _, hi, _ => by simp [D.flat] at hi
  | .sls cs, _, hi, _ => by simp [D.flat] at hi
  | .own _ _, _, h, _ => by simp [D.flat] at h
  | .osl _ _ _, _, h, _ => by simp [D.flat] at h
  | .oel _ _ _, _, h, _ => by simp [D.flat] at h
  | .oit _, _, h, _ => by simp [D.flat] at h
  | .its _ _, _, _, h => h
  | .fn _, _, _, h => h
theorem RepL.flat {V V' : Vw} : ∀ (ds : List D) (vs : List Value), flatL ds = true → RepL V ds vs → RepL V' ds vs
  | [], _, _, h => h
  | d :: ds, _, hi, ⟨v, r, e, h1, h2⟩ => by
    simp only [flatL, Bool.and_eq_true] at hi
    exact ⟨v, r, e, Rep.flat d v hi.1 h1, RepL.flat ds r hi.2 h2⟩
end

/-! ### what a call tells -/

/-- A list that is new: its block wasn't there. -/
def FreshV (w w' : World) (r : D) (v : Value) : Prop :=
  ∀ c, r = .sl c → (c.len = 0 ∧ v = .slice none 0 0) ∨ ∃ b cap vs el, v = .slice (some ⟨b, 0, none⟩) c.len cap ∧ c.len ≤ cap ∧ w.heap.size ≤ b ∧
    w'.heap[b]? = some (.cells vs el (0, 0)) ∧ (∀ i, i < c.vals.length → vs[i]? = c.vals[i]?) ∧ cap * c.esz ≤ vs.size

/-- Called with values that stand for such data, a function returns a value that stands for such data, and writes nothing that was there. -/
def ACalls (P : Prg) (f : FuncId) (args : List D) (r : D) : Prop :=
  (∃ fn, P.P.funcs[f]? = some fn ∧ fn.body.isNone = false ∧ (fn.name == "runtime.NumGoroutine") = false) ∧
  ∀ (X : Nat → Prop) (w : World) (vals : List Value), (∀ b, X b → b < w.heap.size) → P.I w.heap.size w → RepL (iv X w) args vals →
    Calls P.P f ⟨vals⟩ w fun e w' => ∃ v, e = .returned v ∧ Below w.heap.size w w' ∧ Rep (iv X w') r v ∧ (P.fresh.contains f = true → FreshV w w' r v)

end Go.QA
