/-
  From the model's operations and code to the clean machine's, with all that the program's tables tell put in.
-/
import Derived.Test.YtloklfmgbolpeaaAmDefs
namespace Go.Am
set_option linter.unusedVariables false
set_option linter.unusedSimpArgs false

/-- constants of one cell -/
def ofV1 : Value → Option AV
  | .bool b => some (.bool b)
  | .int k n => some (.int k n)
  | .string s => some (.str s.data.toList)
  | .pointer none => some .nilp
  | .slice none 0 0 => some .nils
  | .map none => some .nilm
  | .nilFunc => some .nilf
  | .nilIface => some .nili
  | _ => none

def ofVs : List Value → Option (List AV)
  | [] => some []
  | v :: r => match ofV1 v, ofVs r with
    | some a, some as => some (a :: as)
    | _, _ => none

def ofV : Value → Option AV
  | .agg cs => (ofVs cs.toList).map .agg
  | .tuple vs => if vs.toList.isEmpty then some .un else none
  | v => ofV1 v

def cO : Operand → Option RO
  | .tmp t => some (.t t)
  | .const v => (ofV v).map .c
  | .global _ => none
  | .func f => some (.fu f)

def cOs : List Operand → Option (List RO)
  | [] => some []
  | x :: r => match cO x, cOs r with
    | some a, some as => some (a :: as)
    | _, _ => none

def cOo : Option Operand → Option (Option RO)
  | none => some none
  | some x => (cO x).map some

section
variable (P : Program)

def szOf (t : TypeId) : Option Nat := (P.info? t).map (·.size)
def byOf (t : TypeId) : Option Nat := (P.info? t).map (·.bytes)
def zeroOf (t : TypeId) : Option (List AV) := (P.info? t).bind fun i => i.zero.bind fun z => (ofV z).map AV.cells
def aggOf (t : TypeId) : Option Bool := (P.underlying t).map fun | .struct _ | .array _ _ => true | _ => false
/-- a variable's element, for slices of it: an array's element, else itself -/
def eszOf (t : TypeId) : Option Nat := match P.underlying t with
  | some (.array _ e) => szOf P e
  | some _ => szOf P t
  | none => none
/-- the cells of a value that is loaded or stored -/
def ldOf (t : TypeId) : Option (Bool × Nat) := match aggOf P t, szOf P t with
  | some true, some n => some (true, n)
  | some false, some 1 => some (false, 1)
  | _, _ => none

def cPlaces (fs : List Field) : Option (List (Nat × Nat)) := fs.mapM fun f => (szOf P f.type).map fun n => (f.offset, n)

def cParts (place : Nat → Option (Nat × Nat)) : List (Nat × Operand) → Option (List (Nat × Nat × RO))
  | [] => some []
  | (i, x) :: r => match place i, cO x, cParts place r with
    | some (o, n), some x, some r => some ((o, n, x) :: r)
    | _, _, _ => none

/-- struct fields that are integers, one cell each, one behind the other -/
def flatOf : List Field → Nat → Option (List IntKind)
  | [], _ => some []
  | f :: r, n => match P.underlying f.type, flatOf r (n + 1) with
    | some (.int k), some ks => if f.offset = n ∧ f.name ≠ "_" then some (k :: ks) else none
    | _, _ => none

def cEq (t : TypeId) : Option RE :=
  match P.underlying t with
  | some (.int _) | some .string => some .no
  | some .bool => some .bl
  | some (.pointer e) => match szOf P e with
    | some (_ + 1) => some .ptr
    | _ => none
  | some (.slice _) => some .nls
  | some (.map _ _) => some .nlm
  | some (.struct fs) => if P.stoodInHeld t = false ∧ P.eqGuardType P.depth t = false then (flatOf P fs.toList 0).map .flat else none
  | _ => none

def cOp : Op → Option ROp
  | .move x | .assign x => (cO x).map .mov
  | .pick c a b => match cO c, cO a, cO b with
    | some c, some a, some b => some (.pick c a b)
    | _, _, _ => none
  | .alloc t => match zeroOf P t, eszOf P t with
    | some z, some e => some (.new z e)
    | _, _ => none
  | .box t x => match eszOf P t, szOf P t, cO x with
    | some e, some n, some x => some (.box e n x)
    | _, _, _ => none
  | .build t ps => match P.underlying t, zeroOf P t with
    | some (.struct fs), some z => match cPlaces P fs.toList with
      | some pl => (cParts (pl[·]?) ps.toList).map (.build z)
      | none => none
    | some (.array _ e), some z => match szOf P e with
      | some n => (cParts (fun i => some (i * n, n)) ps.toList).map (.build z)
      | none => none
    | _, _ => none
  | .buildSlice t len ps => match P.underlying t with
    | some (.slice e) => match szOf P e, zeroOf P e with
      | some n, some z => if z.length = n ∧ len * n ≤ 2 ^ 24 then (cParts (fun i => some (i * n, n)) ps.toList).map (.mksl z n len) else none
      | _, _ => none
    | _ => none
  | .load t a => match ldOf P t, cO a with
    | some (g, n), some a => some (.load g n a)
    | _, _ => none
  | .store t a v => match szOf P t, cO a, cO v with
    | some n, some a, some v => some (.store n a v)
    | _, _, _ => none
  | .nilCheck x => (cO x).map .nilck
  | .binOp op t x y _ => match cEq P t, cO x, cO y with
    | some e, some x, some y => some (.bin op e x y)
    | _, _, _ => none
  | .unOp op _ x => (cO x).map (.un op)
  | .convert s d x => match P.underlying s, P.underlying d, cO x with
    | some (.int _), some (.int k), some x => some (.cvI k x)
    | some (.slice e), some .string, some x => if P.underlying e matches some (.int .u8) then some (.cvBS x) else none
    | some .string, some (.slice e), some x => if P.underlying e matches some (.int .u8) then some (.cvSB x) else none
    | some (.slice _), some (.slice e), some x => if s = d then (if P.underlying e matches some (.int .u8) then some (.cvSS x) else none) else none
    | _, _, _ => none
  | .makeInterface t x => match P.underlying t, cO x with
    | some (.interface _), _ => none
    | some _, some x => some (.mki t x)
    | _, _ => none
  | .makeFunc (.func f) first caps => if first.toList.isEmpty then (cOs caps.toList).map (.mkf f) else none
  | .makeSlice t l c => match P.underlying t with
    | some (.slice e) => match szOf P e, byOf P e, zeroOf P e, cO l, cO c with
      | some n, some b, some z, some l, some c => if z.length = n then some (.mks z n b l c) else none
      | _, _, _, _, _ => none
    | _ => none
  | .slice t x lo hi mx => match P.underlying t, cO x, cOo lo, cOo hi, cOo mx with
    | some .string, some x, some lo, some hi, some none => some (.slS x lo hi)
    | some (.slice e), some x, some lo, some hi, some mx => (szOf P e).map fun n => .slL n x lo hi mx
    | some (.array n e), some x, some lo, some hi, some mx => (szOf P e).map fun s => .slA n s x lo hi mx
    | _, _, _, _, _ => none
  | .fieldAddr t x f => match P.underlying t, cO x with
    | some (.struct fs), some x => match fs[f]? with
      | some f => match szOf P f.type with
        | some (_ + 1) => some (.fadr f.offset x)
        | _ => none
      | none => none
    | _, _ => none
  | .field t x f => match P.underlying t, cO x with
    | some (.struct fs), some x => match fs[f]? with
      | some f => (ldOf P f.type).map fun (g, n) => .fld g f.offset n x
      | none => none
    | _, _ => none
  | .indexAddr t x i => match P.underlying t, cO x, cO i with
    | some (.slice e), some x, some i => (szOf P e).map fun n => .iadr n x i
    | some (.array n e), some x, some i => (szOf P e).map fun s => .iadrA n s x i
    | _, _, _ => none
  | .index t x i => match P.underlying t, cO x, cO i with
    | some .string, some x, some i => some (.idxS x i)
    | some (.array n e), some x, some i => match ldOf P e with
      | some (g, s) => some (.idxA g n s x i)
      | none => none
    | _, _, _ => none
  | .extract x i => (cO x).map (.ext · i)
  | .makeMap t none => match P.underlying t with
    | some (.map _ _) => some .mkmap
    | _ => none
  | .call { callee := .builtin b, args, argTypes } => match b, args.toList, argTypes.toList with
    | .len, [x], t :: _ => match P.underlying t, cO x with
      | some (.slice _), some x => some (.lenL x)
      | some .string, some x => some (.lenS x)
      | some (.map _ _), some x => some (.lenM x)
      | _, _ => none
    | .max, xs, _ => (cOs xs).map .mx
    | .min, xs, _ => (cOs xs).map .mn
    | .append, [s, x], t :: t' :: _ => match P.underlying t, P.underlying t', cO s, cO x with
      | some (.slice e), some (.slice _), some s, some x => match szOf P e, byOf P e, zeroOf P e with
        | some n, some b, some z => if z.length = n then some (.app n b s x) else none
        | _, _, _ => none
      | some (.slice e), some .string, some s, some x => match szOf P e, byOf P e, zeroOf P e with
        | some n, some b, some z => if z.length = n then some (.app n b s x) else none
        | _, _, _ => none
      | _, _, _, _ => none
    | _, _, _ => none
  | .call { callee := .value f, args, .. } => match f with
    | .func f => (cOs args.toList).map (.call f)
    | .tmp t => (cOs args.toList).map (.callv (.t t))
    | _ => none
  | _ => none

/-- a guard: the temporary that it looks at -/
def cGuard (nt : Nat) (ops : List Oper) : Option (Nat × Bool) → Option (Option (Nat × Bool))
  | none => some none
  | some (j, b) => match ops[j]? with
    | some o => match o.dst with
      | some d => if d < nt then some (some (d, b)) else none
      | none => none
    | none => none

def cOper (nt : Nat) (ops : List Oper) (o : Oper) : Option ROper :=
  match cOp P o.op, cGuard nt ops o.guard, o.dst with
  | some r, some g, none => some { dst := none, op := r, guard := g }
  | some r, some g, some d => if d < nt then some { dst := some d, op := r, guard := g } else none
  | _, _, _ => none

def cOpers (nt : Nat) (ops : List Oper) : List Oper → Option (List ROper)
  | [] => some []
  | o :: r => match cOper P nt ops o, cOpers nt ops r with
    | some a, some as => some (a :: as)
    | _, _ => none

/-- the edges that bind in every order -/
def cEdges (o : Oper) : List Nat := (o.after.toList.filter fun e => Region.binds .any e).map (·.on)

/-- each thing's edges go back -/
def edgesOk : Nat → List (List Nat) → Bool
  | _, [] => true
  | n, e :: r => e.all (· < n) && edgesOk (n + 1) r

def cCode (nt : Nat) : Code → Option RC
  | .skip => some .skip
  | .region _ ops draw => match cOpers P nt ops.toList ops.toList with
    | some l => if draw then (if edgesOk 0 (ops.toList.map cEdges) then some (.regD l (ops.toList.map cEdges)) else none) else some (.reg l)
    | none => none
  | .seq a b => match cCode nt a, cCode nt b with
    | some a, some b => some (.seq a b)
    | _, _ => none
  | .cond c a b => match cO c, cCode nt a, cCode nt b with
    | some c, some a, some b => some (.cond c a b)
    | _, _, _ => none
  | .block id c => (cCode nt c).map (.block id)
  | .loop c => (cCode nt c).map .loop
  | .exit id => some (.exit id)
  | .ret => some .ret
  | _ => none

def cRes : ResultVar → Option RR
  | .tmp t => some (.t t)
  | .cell a t => (ldOf P t).map fun (g, n) => .cell a g n

def cRess : List ResultVar → Option (List RR)
  | [] => some []
  | r :: rs => match cRes P r, cRess rs with
    | some a, some as => some (a :: as)
    | _, _ => none

def cFn (fn : Func) : Option RF :=
  match fn.body with
  | some c => if fn.name = "runtime.NumGoroutine" then none else match cCode P fn.ntmps c, cRess P fn.results.toList with
    | some b, some rs => some { results := rs, body := b }
    | _, _ => none
  | none => none

def cFunc (f : FuncId) : Option RF := (P.funcs[f]?).bind (cFn P)
end
end Go.Am
