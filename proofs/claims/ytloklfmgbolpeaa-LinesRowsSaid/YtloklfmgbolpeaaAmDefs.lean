/-
  A machine of our own over clean data (lists, tries), for one goroutine and Go code without panics: its values, its memory, its operations. Nothing is proved here but the tries' laws.
-/
import GoSem.Step
namespace Go.Am
set_option linter.unusedVariables false
set_option linter.unusedSimpArgs false

/-- A trie over paths. -/
inductive T (α : Type) where
  | nil
  | node (l : T α) (v : Option α) (r : T α)

namespace T
variable {α : Type}

def get : T α → List Bool → Option α
  | .nil, _ => none
  | .node _ v _, [] => v
  | .node l _ _, true :: p => l.get p
  | .node _ _ r, false :: p => r.get p

def fresh (x : α) : List Bool → T α
  | [] => .node .nil (some x) .nil
  | true :: p => .node (fresh x p) none .nil
  | false :: p => .node .nil none (fresh x p)

def set : T α → List Bool → α → T α
  | .nil, p, x => fresh x p
  | .node l _ r, [], x => .node l (some x) r
  | .node l v r, true :: p, x => .node (l.set p x) v r
  | .node l v r, false :: p, x => .node l v (r.set p x)

theorem get_fresh (x : α) : ∀ p q, (fresh x p).get q = if p = q then some x else none
  | [], [] => by simp [fresh, get]
  | [], b :: q => by cases b <;> simp [fresh, get]
  | true :: p, [] => by simp [fresh, get]
  | false :: p, [] => by simp [fresh, get]
  | true :: p, true :: q => by simp [fresh, get, get_fresh x p q]
  | true :: p, false :: q => by simp [fresh, get]
  | false :: p, true :: q => by simp [fresh, get]
  | false :: p, false :: q => by simp [fresh, get, get_fresh x p q]

theorem get_set (x : α) : ∀ (t : T α) p q, (t.set p x).get q = if p = q then some x else t.get q
  | .nil, p, q => by simp [set, get_fresh, get]
  | .node l v r, [], [] => by simp [set, get]
  | .node l v r, [], b :: q => by cases b <;> simp [set, get]
  | .node l v r, true :: p, [] => by simp [set, get]
  | .node l v r, false :: p, [] => by simp [set, get]
  | .node l v r, true :: p, true :: q => by simp [set, get, get_set x l p q]
  | .node l v r, true :: p, false :: q => by simp [set, get]
  | .node l v r, false :: p, true :: q => by simp [set, get]
  | .node l v r, false :: p, false :: q => by simp [set, get, get_set x r p q]
end T

/-- A number's path: the number's bits behind one another. -/
def pathF : Nat → Nat → List Bool
  | 0, _ => []
  | f + 1, n => if n = 0 then [] else (n % 2 == 1) :: pathF f ((n - 1) / 2)

def path (n : Nat) : List Bool := pathF (n + 1) n

def unpath : List Bool → Nat
  | [] => 0
  | b :: p => 2 * unpath p + (if b then 1 else 2)

theorem unpath_pathF : ∀ f n, n < f → unpath (pathF f n) = n
  | 0, n, h => by omega
  | f + 1, n, h => by
    unfold pathF
    by_cases hn : n = 0
    · simp [hn, unpath]
    · simp only [hn, if_false, unpath, unpath_pathF f ((n - 1) / 2) (by omega)]
      by_cases h2 : n % 2 = 1
      · simp [h2]; omega
      · simp [h2]; omega

theorem path_inj {m n : Nat} : path m = path n ↔ m = n := by
  constructor
  · intro h
    have := congrArg unpath h
    unfold path at this
    rwa [unpath_pathF _ _ (by omega), unpath_pathF _ _ (by omega)] at this
  · rintro rfl; rfl

/-- A value. Addresses are a block's number and an offset. -/
inductive AV where
  | bool (b : Bool)
  | int (k : IntKind) (n : Int)
  | str (s : List UInt8)
  | ptr (b o : Nat)
  | nilp
  | sl (b o len cap : Nat)
  | nils
  | mp (b : Nat)
  | nilm
  | fn (f : FuncId) (caps : List AV)
  | yld (l : Nat)
  | nilf
  | ifc (t : TypeId) (v : AV)
  | nili
  | agg (cs : List AV)
  | tup (vs : List AV)

instance : Inhabited AV := ⟨.nilp⟩

def AV.cells : AV → List AV
  | .agg cs => cs
  | v => [v]

/-- What a temporary holds that nothing was put into. -/
def AV.un : AV := .tup []

/-- What is in a block. -/
inductive AO where
  /-- cells; how many one element takes; may it not be written? -/
  | cells (cs : List AV) (esz : Nat) (ro : Bool)
  | dead
  | mapo (es : List (AV × AV × Nat)) (clock : Nat)
  | sit (s : List UInt8) (pos : Nat)
  | other

structure AH where
  next : Nat
  t : T AO

namespace AH
def get (h : AH) (b : Nat) : Option AO := if b < h.next then h.t.get (path b) else none
def put (h : AH) (b : Nat) (o : AO) : AH := { h with t := h.t.set (path b) o }
def new (h : AH) (o : AO) : AH := { next := h.next + 1, t := h.t.set (path h.next) o }
def empty : AH := { next := 0, t := .nil }

@[simp] theorem next_put (h : AH) (b : Nat) (o : AO) : (h.put b o).next = h.next := rfl
@[simp] theorem next_new (h : AH) (o : AO) : (h.new o).next = h.next + 1 := rfl

theorem get_put (h : AH) (b c : Nat) (o : AO) (hb : b < h.next) : (h.put b o).get c = if b = c then some o else h.get c := by
  unfold get put
  simp only [T.get_set, path_inj]
  by_cases e : b = c
  · subst e; simp [hb]
  · simp [e]

theorem get_new (h : AH) (c : Nat) (o : AO) : (h.new o).get c = if c = h.next then some o else h.get c := by
  unfold get new
  simp only [T.get_set, path_inj]
  by_cases e : c = h.next
  · subst e; simp
  · have e' : ¬ h.next = c := fun x => e x.symm
    by_cases h1 : c < h.next
    · simp [e, e', h1]; intro h2; omega
    · have : ¬ c < h.next + 1 := by omega
      simp [e, h1, this]

theorem lt_of_get {h : AH} {b : Nat} {o : AO} (hg : h.get b = some o) : b < h.next := by
  unfold get at hg
  by_cases h1 : b < h.next
  · exact h1
  · simp [h1] at hg
end AH

/-- Temporaries. -/
abbrev Tm := T AV
def tget (t : Tm) (n : Nat) : AV := (t.get (path n)).getD AV.un
def tput (t : Tm) (n : Nat) (v : AV) : Tm := t.set (path n) v

theorem tget_tput (t : Tm) (n m : Nat) (v : AV) : tget (tput t n v) m = if n = m then v else tget t m := by
  unfold tget tput
  simp only [T.get_set, path_inj]
  by_cases e : n = m <;> simp [e]

/-- Operands. -/
inductive RO where
  | t (n : Nat)
  | c (v : AV)
  | gl (g : Nat)
  | fu (f : FuncId)

def RO.ev (ts : Tm) : RO → AV
  | .t n => tget ts n
  | .c v => v
  | .gl n => .ptr n 0
  | .fu n => .fn n []

/-- What '==' goes by. -/
inductive RE where
  | no          -- integers, strings: by the operators' own entries
  | bl          -- bools
  | ptr         -- pointers to what has a size, one of them nil
  | nls         -- slices, one of them nil
  | nlm         -- maps, one of them nil
  | flat (ns : List IntKind)   -- structs whose cells are integers

inductive ROp where
  | mov (x : RO)
  | pick (c a b : RO)
  | new (zero : List AV) (esz : Nat)
  | box (esz n : Nat) (x : RO)
  | build (zero : List AV) (parts : List (Nat × Nat × RO))
  | mksl (zero : List AV) (esz len : Nat) (parts : List (Nat × Nat × RO))
  | load (agg : Bool) (n : Nat) (a : RO)
  | store (n : Nat) (a v : RO)
  | nilck (x : RO)
  | bin (op : BinOp) (e : RE) (x y : RO)
  | un (op : UnOp) (x : RO)
  | cvI (k : IntKind) (x : RO)
  | cvBS (x : RO)              -- []byte to string
  | cvSB (x : RO)              -- string to []byte
  | cvSS (x : RO)              -- []byte to []byte
  | mki (t : TypeId) (x : RO)
  | mkf (f : FuncId) (caps : List RO)
  | mks (zero : List AV) (esz bytes : Nat) (l c : RO)
  | slS (x : RO) (lo hi : Option RO)
  | slL (esz : Nat) (x : RO) (lo hi mx : Option RO)
  | slA (n esz : Nat) (x : RO) (lo hi mx : Option RO)
  | fadr (off : Nat) (x : RO)
  | fld (agg : Bool) (off n : Nat) (x : RO)
  | iadr (esz : Nat) (x i : RO)
  | iadrA (len esz : Nat) (x i : RO)
  | idxS (x i : RO)
  | idxA (agg : Bool) (len esz : Nat) (x i : RO)
  | ext (x : RO) (i : Nat)
  | lenL (x : RO)
  | lenS (x : RO)
  | capL (x : RO)
  | mx (xs : List RO)
  | mn (xs : List RO)
  | app (esz bytes : Nat) (s x : RO)
  | cpy (esz : Nat) (d s : RO)
  | call (f : FuncId) (args : List RO)
  | callv (f : RO) (args : List RO)
  | mkmap
  | lenM (x : RO)

structure ROper where
  dst : Option Nat
  op : ROp
  guard : Option (Nat × Bool)

/-- Memory's cells: n of them from one on. -/
def rdCells (h : AH) (b o n : Nat) : Option (List AV) :=
  match h.get b with
  | some (.cells cs _ _) => if o + n ≤ cs.length then some ((cs.drop o).take n) else none
  | _ => none

def splice (cs : List AV) (o : Nat) (vs : List AV) : List AV := cs.take o ++ vs ++ cs.drop (o + vs.length)

def wrCells (h : AH) (b o : Nat) (vs : List AV) : Option AH :=
  match h.get b with
  | some (.cells cs e false) => if o + vs.length ≤ cs.length then some (h.put b (.cells (splice cs o vs) e false)) else none
  | _ => none

def AV.one : AV → Bool
  | .agg _ => false
  | .tup _ => false
  | _ => true

/-- A composite's parts, laid over its zero cells. -/
def fill (ev : RO → AV) : List AV → List (Nat × Nat × RO) → Option (List AV)
  | cs, [] => some cs
  | cs, (off, n, x) :: r =>
    let v := (ev x).cells
    if v.length = n ∧ off + n ≤ cs.length then fill ev (splice cs off v) r else none

def repl (z : List AV) : Nat → List AV
  | 0 => []
  | n + 1 => z ++ repl z n

def idx? (i : Int) (len : Nat) : Option Nat := if 0 ≤ i ∧ i < len then some i.toNat else none

/-- a bound of a slice expression -/
def bnd (v : AV) (y : Nat) : Option Nat :=
  match v with
  | .int _ i => if 0 ≤ i ∧ i ≤ y then some i.toNat else none
  | _ => none

/-- the bounds of a slice expression: low, high, max -/
def bounds (ev : RO → AV) (lo hi mx : Option RO) (len cap : Nat) : Option (Nat × Nat × Nat) :=
  match (match mx with | some v => bnd (ev v) cap | none => some cap) with
  | some m => match (match hi with | some v => bnd (ev v) m | none => if mx.isSome then none else some len) with
    | some h => match (match lo with | some v => bnd (ev v) h | none => some 0) with
      | some l => some (l, h, m)
      | none => none
    | none => none
  | none => none

def bits (op : BinOp) (k : IntKind) (x y : Int) : Option Int :=
  let a := BitVec.ofInt k.bits x
  let b := BitVec.ofInt k.bits y
  match op with
  | .and => some (k.wrap (a &&& b).toNat)
  | .or => some (k.wrap (a ||| b).toNat)
  | .xor => some (k.wrap (a ^^^ b).toNat)
  | .andNot => some (k.wrap (a &&& ~~~b).toNat)
  | _ => none

def binInt (op : BinOp) (k : IntKind) (x y : Int) : Option AV :=
  match op with
  | .add => some (.int k (k.wrap (x + y)))
  | .sub => some (.int k (k.wrap (x - y)))
  | .mul => some (.int k (k.wrap (x * y)))
  | .quo => if y = 0 then none else some (.int k (k.wrap (x.tdiv y)))
  | .rem => if y = 0 then none else some (.int k (x.tmod y))
  | .and | .or | .xor | .andNot => (bits op k x y).map (.int k)
  | .eql => some (.bool (x == y))
  | .neq => some (.bool (x != y))
  | .lss => some (.bool (x < y))
  | .leq => some (.bool (x ≤ y))
  | .gtr => some (.bool (x > y))
  | .geq => some (.bool (x ≥ y))
  | _ => none

def shft (op : BinOp) (k : IntKind) (x y : Int) : Option AV :=
  if y < 0 then none else
  match op with
  | .shl => some (.int k (k.wrap (x * 2 ^ (min y.toNat k.bits))))
  | .shr => some (.int k (x.fdiv (2 ^ (min y.toNat k.bits))))
  | _ => none

def less : List UInt8 → List UInt8 → Bool
  | _, [] => false
  | [], _ :: _ => true
  | a :: x, b :: y => a < b || (a == b && less x y)

def binStr (op : BinOp) (x y : List UInt8) : Option AV :=
  match op with
  | .add => if x.length + y.length < 2 ^ 62 then some (.str (x ++ y)) else none
  | .eql => some (.bool (x == y))
  | .neq => some (.bool !(x == y))
  | .lss => some (.bool (less x y))
  | .leq => some (.bool (less x y || x == y))
  | .gtr => some (.bool !(less x y || x == y))
  | .geq => some (.bool !(less x y))
  | _ => none

/-- integers of such kinds, cell by cell -/
def flatEq : List IntKind → List AV → List AV → Option Bool
  | [], [], [] => some true
  | k :: ks, .int k1 a :: xs, .int k2 b :: ys => if k1 = k ∧ k2 = k then (if a == b then flatEq ks xs ys else some false) else none
  | _, _, _ => none

def eqB (x y : AV) : Option Bool :=
  match x, y with
  | .bool a, .bool b => some (a == b)
  | _, _ => none

def eqP (x y : AV) : Option Bool :=
  match x, y with
  | .nilp, .nilp => some true
  | .nilp, .ptr _ _ => some false
  | .ptr _ _, .nilp => some false
  | _, _ => none

def eqLs (x y : AV) : Option Bool :=
  match x, y with
  | .nils, .nils => some true
  | .nils, .sl _ _ _ _ => some false
  | .sl _ _ _ _, .nils => some false
  | _, _ => none

def eqM (x y : AV) : Option Bool :=
  match x, y with
  | .nilm, .nilm => some true
  | .nilm, .mp _ => some false
  | .mp _, .nilm => some false
  | _, _ => none

def eqF (ks : List IntKind) (x y : AV) : Option Bool :=
  match x, y with
  | .agg xs, .agg ys => flatEq ks xs ys
  | _, _ => none

def eqAV (e : RE) (x y : AV) : Option Bool :=
  match e with
  | .no => none
  | .bl => eqB x y
  | .ptr => eqP x y
  | .nls => eqLs x y
  | .nlm => eqM x y
  | .flat ks => eqF ks x y

def binA (op : BinOp) (e : RE) (x y : AV) : Option AV :=
  match x, y with
  | .int k a, .int k' b => if op = .shl ∨ op = .shr then shft op k a b else if k = k' then binInt op k a b else none
  | .str a, .str b => binStr op a b
  | x, y => match op with
    | .eql => (eqAV e x y).map .bool
    | .neq => (eqAV e x y).map fun b => .bool !b
    | _ => none

def unA (op : UnOp) (x : AV) : Option AV :=
  match op, x with
  | .neg, .int k n => some (.int k (k.wrap (0 - n)))
  | .xor, .int k n => (bits .xor k (if k.signed then -1 else k.max) n).map (.int k)
  | .not, .bool b => some (.bool !b)
  | _, _ => none

def partA (agg : Bool) (cs : List AV) (off n : Nat) : Option AV :=
  if agg then some (.agg ((cs.drop off).take n)) else cs[off]?

def mxA : AV → List AV → Option AV
  | v, [] => some v
  | .int k x, .int k' y :: r => if k = k' then mxA (.int k (if y > x then y else x)) r else none
  | _, _ => none

def mnA : AV → List AV → Option AV
  | v, [] => some v
  | .int k x, .int k' y :: r => if k = k' then mnA (.int k (if y < x then y else x)) r else none
  | _, _ => none

def bytesOf : List AV → Option (List UInt8)
  | [] => some []
  | .int .u8 n :: r => (bytesOf r).map (UInt8.ofNat n.toNat :: ·)
  | _ => none

def ofBytes (s : List UInt8) : List AV := s.map fun b => .int .u8 b.toNat

/-- what is appended, or copied: the cells -/
def srcCells (h : AH) (esz : Nat) (x : AV) : Option (Nat × List AV) :=
  match x with
  | .nils => some (0, [])
  | .sl b o n _ => (rdCells h b o (n * esz)).map (n, ·)
  | .str s => if esz = 1 then some (s.length, ofBytes s) else none
  | _ => none

def tooMany : Nat := 2 ^ 40

def appA (h : AH) (esz bytes : Nat) (s x : AV) : Option (AV × AH) :=
  match srcCells h esz x with
  | some (n, new) =>
    if new.all AV.one then
      match s with
      | .nils =>
        if n = 0 then some (.nils, h)
        else if n * bytes < tooMany ∧ n < tooMany then some (.sl h.next 0 n n, h.new (.cells new esz false)) else none
      | .sl b o len cap =>
        if n = 0 then some (.sl b o len cap, h)
        else if len + n ≤ cap then (wrCells h b (o + len * esz) new).map fun h' => (.sl b o (len + n) cap, h')
        else if (len + n) * bytes < tooMany ∧ len + n < tooMany then
          match h.get b, rdCells h b o (len * esz) with
          | some (.cells _ e false), some old =>
            if e = esz then some (.sl h.next 0 (len + n) (len + n), (h.put b .dead).new (.cells (old ++ new) esz false)) else none
          | _, _ => none
        else none
      | _ => none
    else none
  | none => none

/-- A value's cells as one value. -/
def packA (g : Bool) (cs : List AV) : Option AV := if g then some (.agg cs) else match cs with | [v] => some v | _ => none

def loadA (h : AH) (g : Bool) (n : Nat) (a : AV) : Option (AV × AH) :=
  match a with
  | .ptr b o => match rdCells h b o n with
    | some cs => (packA g cs).map (·, h)
    | none => none
  | _ => none

def storeA (h : AH) (n : Nat) (a v : AV) : Option (AV × AH) :=
  match a with
  | .ptr b o => if v.cells.length = n ∧ v.cells.all AV.one then (wrCells h b o v.cells).map fun h' => (.un, h') else none
  | _ => none

def boxA (h : AH) (e n : Nat) (x : AV) : Option (AV × AH) :=
  if x.cells.length = n then some (.ptr h.next 0, h.new (.cells x.cells e false)) else none

def nilckA (x : AV) : Option AV :=
  match x with
  | .ptr b o => some (.ptr b o)
  | .fn f cs => some (.fn f cs)
  | .yld l => some (.yld l)
  | _ => none

def cvIA (k : IntKind) (x : AV) : Option AV :=
  match x with
  | .int _ n => some (.int k (k.wrap n))
  | _ => none

def cvBSA (h : AH) (x : AV) : Option AV :=
  match x with
  | .nils => some (.str [])
  | .sl b o n _ => match rdCells h b o n with
    | some cs => (bytesOf cs).map .str
    | none => none
  | _ => none

def cvSBA (h : AH) (x : AV) : Option (AV × AH) :=
  match x with
  | .str s => some (.sl h.next 0 s.length s.length, h.new (.cells (ofBytes s) 1 false))
  | _ => none

def cvSSA (h : AH) (x : AV) : Option AV :=
  match x with
  | .sl b o n c => match h.get b with
    | some (.cells _ _ false) => some (.sl b o n c)
    | _ => none
  | _ => none

def mksA (h : AH) (z : List AV) (e bytes : Nat) (l c : AV) : Option (AV × AH) :=
  match l, c with
  | .int _ l, .int _ c =>
    if 0 ≤ l ∧ l ≤ c ∧ c < tooMany ∧ c * bytes < tooMany then some (.sl h.next 0 l.toNat c.toNat, h.new (.cells (repl z c.toNat) e false)) else none
  | _, _ => none

def fadrA (off : Nat) (x : AV) : Option AV :=
  match x with
  | .ptr b o => some (.ptr b (o + off))
  | _ => none

def fldA (g : Bool) (off n : Nat) (x : AV) : Option AV :=
  match x with
  | .agg cs => partA g cs off n
  | _ => none

def iadrL (e : Nat) (x i : AV) : Option AV :=
  match x, i with
  | .sl b o n _, .int _ i => (idx? i n).map fun i => .ptr b (o + i * e)
  | _, _ => none

def iadrR (n e : Nat) (x i : AV) : Option AV :=
  match x, i with
  | .ptr b o, .int _ i => (idx? i n).map fun i => .ptr b (o + i * e)
  | _, _ => none

def idxSA (x i : AV) : Option AV :=
  match x, i with
  | .str s, .int _ i => if 0 ≤ i then (s[i.toNat]?).map fun c => .int .u8 c.toNat else none
  | _, _ => none

def idxAA (g : Bool) (n e : Nat) (x i : AV) : Option AV :=
  match x, i with
  | .agg cs, .int _ i => match idx? i n with
    | some i => partA g cs (i * e) e
    | none => none
  | _, _ => none

def extA (x : AV) (i : Nat) : Option AV :=
  match x with
  | .tup vs => vs[i]?
  | _ => none

def lenLA (x : AV) : Option AV :=
  match x with
  | .nils => some (.int .i64 0)
  | .sl _ _ n _ => some (.int .i64 n)
  | _ => none

def lenSA (x : AV) : Option AV :=
  match x with
  | .str s => some (.int .i64 s.length)
  | _ => none

def lenMA (h : AH) (x : AV) : Option AV :=
  match x with
  | .nilm => some (.int .i64 0)
  | .mp b => match h.get b with
    | some (.mapo es _) => some (.int .i64 es.length)
    | _ => none
  | _ => none

def foldA (f : AV → List AV → Option AV) : List AV → Option AV
  | v :: r => f v r
  | [] => none

def pickA (c a b : AV) : Option AV :=
  match c with
  | .bool t => some (if t then a else b)
  | _ => none

def slSA (ev : RO → AV) (x : AV) (lo hi : Option RO) : Option AV :=
  match x with
  | .str s => (bounds ev lo hi none s.length s.length).map fun r => .str ((s.take r.2.1).drop r.1)
  | _ => none

def slLA (ev : RO → AV) (h : AH) (e : Nat) (x : AV) (lo hi mx : Option RO) : Option AV :=
  match x with
  | .nils => (bounds ev lo hi mx 0 0).map fun _ => .nils
  | .sl b o n c => match h.get b with
    | some (.cells _ e' _) => if e' = e then (bounds ev lo hi mx n c).map fun r => .sl b (if r.2.2 = r.1 then o else o + r.1 * e) (r.2.1 - r.1) (r.2.2 - r.1) else none
    | _ => none
  | _ => none

def slAA (ev : RO → AV) (n e : Nat) (x : AV) (lo hi mx : Option RO) : Option AV :=
  match x with
  | .ptr b o => (bounds ev lo hi mx n n).map fun r => .sl b (if r.2.2 = r.1 then o else o + r.1 * e) (r.2.1 - r.1) (r.2.2 - r.1)
  | _ => none

/-- The operations that are no calls. -/
def evOp (ev : RO → AV) (h : AH) : ROp → Option (AV × AH)
  | .mov x => some (ev x, h)
  | .pick c a b => (pickA (ev c) (ev a) (ev b)).map (·, h)
  | .new z e => some (.ptr h.next 0, h.new (.cells z e false))
  | .box e n x => boxA h e n (ev x)
  | .build z ps => (fill ev z ps).map fun cs => (.agg cs, h)
  | .mksl z e n ps => (fill ev (repl z n) ps).map fun cs => (.sl h.next 0 n n, h.new (.cells cs e false))
  | .load ag n a => loadA h ag n (ev a)
  | .store n a v => storeA h n (ev a) (ev v)
  | .nilck x => (nilckA (ev x)).map (·, h)
  | .bin op e x y => (binA op e (ev x) (ev y)).map (·, h)
  | .un op x => (unA op (ev x)).map (·, h)
  | .cvI k x => (cvIA k (ev x)).map (·, h)
  | .cvBS x => (cvBSA h (ev x)).map (·, h)
  | .cvSB x => cvSBA h (ev x)
  | .cvSS x => (cvSSA h (ev x)).map (·, h)
  | .mki t x => some (.ifc t (ev x), h)
  | .mkf f cs => some (.fn f (cs.map ev), h)
  | .mks z e bytes l c => mksA h z e bytes (ev l) (ev c)
  | .slS x lo hi => (slSA ev (ev x) lo hi).map (·, h)
  | .slL e x lo hi mx => (slLA ev h e (ev x) lo hi mx).map (·, h)
  | .slA n e x lo hi mx => (slAA ev n e (ev x) lo hi mx).map (·, h)
  | .fadr off x => (fadrA off (ev x)).map (·, h)
  | .fld ag off n x => (fldA ag off n (ev x)).map (·, h)
  | .iadr e x i => (iadrL e (ev x) (ev i)).map (·, h)
  | .iadrA n e x i => (iadrR n e (ev x) (ev i)).map (·, h)
  | .idxS x i => (idxSA (ev x) (ev i)).map (·, h)
  | .idxA ag n e x i => (idxAA ag n e (ev x) (ev i)).map (·, h)
  | .ext x i => (extA (ev x) i).map (·, h)
  | .lenL x => (lenLA (ev x)).map (·, h)
  | .lenS x => (lenSA (ev x)).map (·, h)
  | .lenM x => (lenMA h (ev x)).map (·, h)
  | .capL _ => none
  | .mx xs => (foldA mxA (xs.map ev)).map (·, h)
  | .mn xs => (foldA mnA (xs.map ev)).map (·, h)
  | .app e bytes s x => appA h e bytes (ev s) (ev x)
  | .cpy _ _ _ => none
  | .call _ _ => none
  | .callv _ _ => none
  | .mkmap => some (.mp h.next, h.new (.mapo [] 0))

/-- Code. -/
inductive RC where
  | skip
  | reg (ops : List ROper)
  | regD (ops : List ROper) (edges : List (List Nat))     -- in whatever order its edges allow
  | seq (a b : RC)
  | cond (c : RO) (a b : RC)
  | block (id : Nat) (c : RC)
  | loop (c : RC)
  | exit (id : Nat)
  | ret

/-- a result's place: a temporary, or an address that a temporary holds -/
inductive RR where
  | t (n : Nat)
  | cell (t : Nat) (agg : Bool) (n : Nat)

structure RF where
  results : List RR
  body : RC

abbrev RP := FuncId → Option RF

def wanted (ts : Tm) : Option (Nat × Bool) → Option Bool
  | none => some true
  | some (n, b) => match tget ts n with
    | .bool c => some (c == b)
    | .tup [] => some false     -- its own guard left it out
    | _ => none

def dput (ts : Tm) (d : Option Nat) (v : AV) : Tm :=
  match d with
  | some n => tput ts n v
  | none => ts

def initTm : Nat → List AV → Tm
  | _, [] => .nil
  | i, v :: r => tput (initTm (i + 1) r) i v

def rdRes (ts : Tm) (h : AH) : RR → Option AV
  | .t n => some (tget ts n)
  | .cell t ag n => match tget ts t with
    | .ptr b o => match rdCells h b o n with
      | some cs => packA ag cs
      | none => none
    | _ => none

def rdAll (ts : Tm) (h : AH) : List RR → Option (List AV)
  | [] => some []
  | r :: rs => match rdRes ts h r, rdAll ts h rs with
    | some v, some vs => some (v :: vs)
    | _, _ => none

def results (f : RF) (ts : Tm) (h : AH) : Option AV :=
  match rdAll ts h f.results with
  | some [v] => some v
  | some vs => some (.tup vs)
  | none => none

/-- What is to be done. -/
inductive Task where
  | ops (l : List ROper)
  | code (c : RC)
  | call (f : FuncId) (args : List AV)

/-- How it ends. -/
inductive Out where
  | norm (ts : Tm) (h : AH)
  | exit (id : Nat) (ts : Tm) (h : AH)
  | ret (ts : Tm) (h : AH)
  | val (v : AV) (h : AH)

def Out.unblock (id : Nat) : Out → Out
  | .exit id' ts h => if id' = id then .norm ts h else .exit id' ts h
  | o => o

/-- An order of n things: each once, each behind those that its edges name. -/
def Lin (n : Nat) (es : List (List Nat)) (l : List Nat) : Prop :=
  l.Nodup ∧ (∀ i, i ∈ l ↔ i < n) ∧ ∀ a i b, l = a ++ i :: b → ∀ j, j ∈ es.getD i [] → j ∈ a

/-- The machine's runs, as a whole. -/
inductive BS (P : RP) : Task → Tm → AH → Out → Prop
  | nil {ts h} : BS P (.ops []) ts h (.norm ts h)
  | skipped {o l ts h r} : wanted ts o.guard = some false → BS P (.ops l) (dput ts o.dst .un) h r → BS P (.ops (o :: l)) ts h r
  | op {o l ts h v h' r} : wanted ts o.guard = some true → evOp (RO.ev ts) h o.op = some (v, h') → BS P (.ops l) (dput ts o.dst v) h' r → BS P (.ops (o :: l)) ts h r
  | call {o l ts h f args v h' r} : wanted ts o.guard = some true → o.op = .call f args → BS P (.call f (args.map (RO.ev ts))) .nil h (.val v h') →
      BS P (.ops l) (dput ts o.dst v) h' r → BS P (.ops (o :: l)) ts h r
  | callv {o l ts h x args f caps v h' r} : wanted ts o.guard = some true → o.op = .callv x args → RO.ev ts x = .fn f caps →
      BS P (.call f (args.map (RO.ev ts) ++ caps)) .nil h (.val v h') → BS P (.ops l) (dput ts o.dst v) h' r → BS P (.ops (o :: l)) ts h r
  | skip {ts h} : BS P (.code .skip) ts h (.norm ts h)
  | reg {ops ts h r} : BS P (.ops ops) ts h r → BS P (.code (.reg ops)) ts h r
  | regD {ops es ts h ts' h'} : (∀ l, Lin ops.length es l → BS P (.ops (l.filterMap (ops[·]?))) ts h (.norm ts' h')) → BS P (.code (.regD ops es)) ts h (.norm ts' h')
  | seq {a b ts h ts' h' r} : BS P (.code a) ts h (.norm ts' h') → BS P (.code b) ts' h' r → BS P (.code (.seq a b)) ts h r
  | seqx {a b ts h id ts' h'} : BS P (.code a) ts h (.exit id ts' h') → BS P (.code (.seq a b)) ts h (.exit id ts' h')
  | seqr {a b ts h ts' h'} : BS P (.code a) ts h (.ret ts' h') → BS P (.code (.seq a b)) ts h (.ret ts' h')
  | cond {c a b ts h t r} : RO.ev ts c = .bool t → BS P (.code (if t then a else b)) ts h r → BS P (.code (.cond c a b)) ts h r
  | block {id c ts h r} : BS P (.code c) ts h r → BS P (.code (.block id c)) ts h (r.unblock id)
  | loop {c ts h ts' h' r} : BS P (.code c) ts h (.norm ts' h') → BS P (.code (.loop c)) ts' h' r → BS P (.code (.loop c)) ts h r
  | loopx {c ts h id ts' h'} : BS P (.code c) ts h (.exit id ts' h') → BS P (.code (.loop c)) ts h (.exit id ts' h')
  | loopr {c ts h ts' h'} : BS P (.code c) ts h (.ret ts' h') → BS P (.code (.loop c)) ts h (.ret ts' h')
  | exit {id ts h} : BS P (.code (.exit id)) ts h (.exit id ts h)
  | ret {ts h} : BS P (.code .ret) ts h (.ret ts h)
  | func {f args ts h rf ts' h' v} : P f = some rf → BS P (.code rf.body) (initTm 0 args) h (.ret ts' h') → results rf ts' h' = some v → BS P (.call f args) ts h (.val v h')
  | funcn {f args ts h rf ts' h' v} : P f = some rf → BS P (.code rf.body) (initTm 0 args) h (.norm ts' h') → results rf ts' h' = some v → BS P (.call f args) ts h (.val v h')

end Go.Am
