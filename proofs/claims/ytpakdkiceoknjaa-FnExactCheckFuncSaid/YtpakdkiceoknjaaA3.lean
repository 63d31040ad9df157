/- The abstract machine, part 3: what an operation does to abstract values. Definitions alone. No condition. -/
import Derived.Test.YtpakdkiceoknjaaA2
namespace Go.Proofs.Ytpakdkiceoknjaa
set_option linter.unusedVariables false

/-- What a type is, as far as operations ask. -/
inductive TK where
  | int (k : IntKind)
  | bool
  | str
  | ptr
  | slice (elem : Nat)
  | struct (flds : List (Nat × Nat × Nat))
  | fn
  | iface
  | map (key elem : Nat)
  | other
  deriving Inhabited
structure TI where
  agg : Bool
  size : Nat
  bytes : Nat
  zero : List D
  kind : TK
  deriving Inhabited

def dOf : Value → D
  | .bool b => .bool b
  | .int k n => .int k n
  | .string s => .str s
  | .pointer a => if a.isNone then .nilp else .undef
  | .slice a l c => if a.isNone ∧ l = 0 ∧ c = 0 then .nilsl else .undef
  | .nilFunc => .nilf
  | .nilIface => .nili
  | _ => .undef
def isAggT : TypeDesc → Bool
  | .struct _ | .array _ _ => true
  | _ => false
def tkOf (P : Program) : TypeDesc → TK
  | .int k => .int k
  | .bool => .bool
  | .string => .str
  | .pointer _ => .ptr
  | .slice e => .slice e
  | .struct fs => .struct (fs.toList.map fun f => (f.offset, f.type, P.cellsOf f.type))
  | .func .. => .fn
  | .interface _ => .iface
  | .map k e => .map k e
  | _ => .other
def tinfo (P : Program) (t : TypeId) : Option TI :=
  match P.info? t, P.underlying t with
  | some i, some u => match i.zero with
    | some z => some ⟨isAggT u, i.size, i.bytes, z.cells.toList.map dOf, tkOf P u⟩
    | none => none
  | _, _ => none

/-- n values of a function, in a list. -/
def upto {α : Type} : Nat → (Nat → α) → List α
  | 0, _ => []
  | n + 1, f => f 0 :: upto n (fun j => f (j + 1))

def constV : Value → V
  | .agg vs => .agg ((vs.toList.map dOf).map .d)
  | v => .d (dOf v)
def ev (env : Env) : Operand → V
  | .tmp t => env t
  | .const v => constV v
  | .func f => .d (.clo f 0 (fun _ => .undef))
  | .global _ => .d .undef

def V.flat : V → List V
  | .agg l => l
  | v => [v]
def ones (l : List V) : Bool := l.all V.one

/-- A value that was loaded from cells. -/
def asVal (agg : Bool) (l : List V) : V := if agg then .agg l else l.headD (.d .undef)

def loadD (ti : Option TI) (a : V) (H : Heap) (k : V → Prop) : Prop :=
  match ti with
  | none => False
  | some ti => match a with
    | .d (.rp n f) => ti.size ≤ n ∧ (ti.agg = true ∨ ti.size = 1) ∧ k (asVal ti.agg (upto ti.size fun j => .d (f j)))
    | .ptr id e i j => match H[id]? with
      | some (.row e' es) => e' = e ∧ ∃ l, es[i]? = some l ∧ j + ti.size ≤ e ∧ (ti.agg = true ∨ ti.size = 1) ∧ k (asVal ti.agg ((l.drop j).take ti.size))
      | _ => False
    | _ => False

/-- Cells written one behind the other. -/
def setMany (l : List V) (j : Nat) : List V → List V
  | [] => l
  | c :: cs => setMany (l.set j c) (j + 1) cs

def storeD (ti : Option TI) (a c : V) (H : Heap) (k : Heap → Prop) : Prop :=
  match ti with
  | none => False
  | some ti => match a with
    | .ptr id e i j => match H[id]? with
      | some (.row e' es) => e' = e ∧ ∃ l, es[i]? = some l ∧ c.flat.length = ti.size ∧ j + ti.size ≤ e ∧ ones c.flat = true ∧ k (H.set id (.row e (es.set i (setMany l j c.flat))))
      | _ => False
    | _ => False

def boxD (ti : Option TI) (c : V) (H : Heap) (k : V → Heap → Prop) : Prop :=
  match ti with
  | none => False
  | some ti => ones c.flat = true ∧ k (.ptr H.length c.flat.length 0 0) (H ++ [.row c.flat.length [c.flat]])
def allocD (ti : Option TI) (H : Heap) (k : V → Heap → Prop) : Prop :=
  match ti with
  | none => False
  | some ti => ones (ti.zero.map .d) = true ∧ k (.ptr H.length ti.zero.length 0 0) (H ++ [.row ti.zero.length [ti.zero.map .d]])

def fillV (place : Nat → Option (Nat × Nat)) (cells : List V) : List (Nat × V) → Option (List V)
  | [] => some cells
  | (i, v) :: rest => match place i with
    | none => none
    | some (off, size) => if v.flat.length = size ∧ off + size ≤ cells.length ∧ ones v.flat = true then fillV place (setMany cells off v.flat) rest else none
def buildD (ti : Option TI) (parts : List (Nat × V)) (k : V → Prop) : Prop :=
  match ti with
  | none => False
  | some ti => match ti.kind with
    | .struct flds => flds.all (fun f => f.2.2 != 0) = true ∧ ∃ l, fillV (fun i => (flds[i]?).map fun f => (f.1, f.2.2)) (ti.zero.map .d) parts = some l ∧ k (.agg l)
    | _ => False
/-- The elements of a literal slice, given one by one from the first on. -/
def inOrder (e : Nat) : Nat → List (Nat × V) → Bool
  | _, [] => true
  | n, (i, v) :: rest => i == n && v.flat.length == e && ones v.flat && inOrder e (n + 1) rest
def buildSliceD (P : Program) (t : TypeId) (len : Nat) (parts : List (Nat × V)) (H : Heap) (k : V → Heap → Prop) : Prop :=
  match tinfo P t with
  | some ⟨_, _, _, _, .slice et⟩ => match tinfo P et with
    | some te => (len = parts.length ∧ inOrder te.size 0 parts = true ∧ 0 < te.size ∧ te.zero.length = te.size ∧ len * te.size ≤ 16777216) ∧
        k (.sl H.length te.size 0 len) (H ++ [.row te.size (parts.map fun p => p.2.flat)])
    | none => False
  | _ => False
def makeSliceD (P : Program) (t : TypeId) (len cap : V) (H : Heap) (k : V → Heap → Prop) : Prop :=
  match tinfo P t with
  | some ⟨_, _, _, _, .slice et⟩ => match tinfo P et with
    | some te => match len, cap with
      | .d (.int _ l), .d (.int _ c) => (0 ≤ l ∧ l ≤ c ∧ c * te.bytes ≤ 140737488355328 ∧ c ≤ 140737488355328 ∧ 0 < te.size ∧ te.zero.length = te.size ∧ ones (te.zero.map .d) = true) ∧
          k (.sl H.length te.size 0 l.toNat) (H ++ [.row te.size (List.replicate l.toNat (te.zero.map .d))])
      | _, _ => False
    | none => False
  | _ => False

def nilCheckD (x : V) (k : V → Prop) : Prop :=
  match x with
  | .ptr .. | .d (.rp ..) | .clo .. | .d (.clo ..) => k x
  | _ => False

def optK (o : Option D) (k : V → Prop) : Prop :=
  match o with
  | some d => k (.d d)
  | none => False
def binI (op : BinOp) (k : IntKind) (a b : Int) : Option D :=
  match op with
  | .add => some (.int k (k.wrap (a + b)))
  | .sub => some (.int k (k.wrap (a - b)))
  | .mul => some (.int k (k.wrap (a * b)))
  | .quo => if b = 0 then none else some (.int k (k.wrap (a.tdiv b)))
  | .rem => if b = 0 then none else some (.int k (a.tmod b))
  | .and => some (.int k (k.wrap ((BitVec.ofInt k.bits a &&& BitVec.ofInt k.bits b).toNat : Int)))
  | .or => some (.int k (k.wrap ((BitVec.ofInt k.bits a ||| BitVec.ofInt k.bits b).toNat : Int)))
  | .xor => some (.int k (k.wrap ((BitVec.ofInt k.bits a ^^^ BitVec.ofInt k.bits b).toNat : Int)))
  | .andNot => some (.int k (k.wrap ((BitVec.ofInt k.bits a &&& ~~~ BitVec.ofInt k.bits b).toNat : Int)))
  | .eql => some (.bool (decide (a = b)))
  | .neq => some (.bool (!decide (a = b)))
  | .lss => some (.bool (decide (a < b)))
  | .leq => some (.bool (decide (a ≤ b)))
  | .gtr => some (.bool (decide (b < a)))
  | .geq => some (.bool (decide (b ≤ a)))
  | _ => none
def shiftI (op : BinOp) (k : IntKind) (a b : Int) : Option D :=
  if b < 0 then none else
  match op with
  | .shl => some (.int k (k.wrap (a * 2 ^ (min b.toNat k.bits))))
  | .shr => some (.int k (a.fdiv (2 ^ (min b.toNat k.bits))))
  | _ => none
def eqOp (op : BinOp) (b : Bool) : Option D :=
  match op with
  | .eql => some (.bool b)
  | .neq => some (.bool (!b))
  | _ => none
def binD (P : Program) (op : BinOp) (t : TypeId) (x y : V) (k : V → Prop) : Prop :=
  match x, y with
  | .d (.int kx a), .d (.int ky b) =>
    (match op with
    | .shl => optK (shiftI .shl kx a b) k
    | .shr => optK (shiftI .shr kx a b) k
    | op => kx = ky ∧ optK (binI op kx a b) k)
  | .d (.str a), .d (.str b) => (match op with
    | .add => a.size + b.size ≤ 9223372036854775807 ∧ k (.d (.str (a ++ b)))
    | op => optK (eqOp op (decide (a = b))) k)
  | .d (.bool a), .d (.bool b) => (match tinfo P t with
    | some ⟨_, _, _, _, .bool⟩ => optK (eqOp op (a == b)) k
    | _ => False)
  | x, .d .nilp => (match tinfo P t with
    | some ⟨_, _, _, _, .ptr⟩ => (match x with
      | .d .nilp => optK (eqOp op true) k
      | .ptr .. | .d (.rp ..) => optK (eqOp op false) k
      | _ => False)
    | _ => False)
  | x, .d .nilsl => (match tinfo P t with
    | some ⟨_, _, _, _, .slice _⟩ => (match x with
      | .d .nilsl => optK (eqOp op true) k
      | .sl .. => optK (eqOp op false) k
      | .d (.ro e n f) => ∀ b : Bool, (0 < n ∧ 0 < e → b = false) → optK (eqOp op b) k
      | _ => False)
    | _ => False)
  | _, _ => False

def unD (op : UnOp) (x : V) (k : V → Prop) : Prop :=
  match op, x with
  | .neg, .d (.int kx n) => k (.d (.int kx (kx.wrap (0 - n))))
  | .not, .d (.bool b) => k (.d (.bool (!b)))
  | _, _ => False
def convertD (P : Program) (src dst : TypeId) (x : V) (k : V → Prop) : Prop :=
  match tinfo P src, tinfo P dst with
  | some _, some td => (match td.kind, x with
    | .int kd, .d (.int _ n) => k (.d (.int kd (kd.wrap n)))
    | .str, .d (.str s) => k (.d (.str s))
    | _, _ => False)
  | _, _ => False

def pickD (c a b : V) (k : V → Prop) : Prop :=
  match c with
  | .d (.bool t) => (match a, b with
    | .d (.bool p), .d (.bool q) => k (.d (.bool (bif t then p else q)))
    | _, _ => (t = true → k a) ∧ (t = false → k b))
  | _ => False

def fieldAddrD (P : Program) (s : TypeId) (x : V) (f : Nat) (k : V → Prop) : Prop :=
  match tinfo P s with
  | some ⟨_, _, _, _, .struct flds⟩ => (match flds[f]? with
    | some (off, _, size) => size ≠ 0 ∧ (match x with
      | .d (.rp n g) => off < n ∧ k (.d (.rp (n - off) (fun j => g (off + j))))
      | .ptr id e i j => k (.ptr id e i (j + off))
      | _ => False)
    | none => False)
  | _ => False
def fieldD (P : Program) (s : TypeId) (x : V) (f : Nat) (k : V → Prop) : Prop :=
  match tinfo P s with
  | some ⟨_, _, _, _, .struct flds⟩ => (match flds[f]? with
    | some (off, ft, _) => (match tinfo P ft, x with
      | some tf, .agg l => off + tf.size ≤ l.length ∧ (tf.agg = true ∨ tf.size = 1) ∧ k (asVal tf.agg ((l.drop off).take tf.size))
      | _, _ => False)
    | none => False)
  | _ => False
def indexAddrD (P : Program) (t : TypeId) (x ix : V) (k : V → Prop) : Prop :=
  match tinfo P t with
  | some ⟨_, _, _, _, .slice et⟩ => (match tinfo P et, ix with
    | some te, .d (.int _ i) => (match x with
      | .d (.ro e n f) => (e = te.size ∧ 0 < e) ∧ (0 ≤ i ∧ i < n) ∧ k (.d (.rp e (f i.toNat)))
      | .sl id e off n => e = te.size ∧ (0 ≤ i ∧ i < n) ∧ k (.ptr id e (off + i.toNat) 0)
      | _ => False)
    | _, _ => False)
  | _ => False
def indexD (P : Program) (t : TypeId) (x ix : V) (k : V → Prop) : Prop :=
  match tinfo P t with
  | some ⟨_, _, _, _, .str⟩ => (match x, ix with
    | .d (.str s), .d (.int _ i) => (0 ≤ i ∧ i < s.size) ∧ k (.d (.int .u8 (s[i.toNat]!).toNat))
    | _, _ => False)
  | _ => False
def extractD (x : V) (i : Nat) (k : V → Prop) : Prop :=
  match x with
  | .tup l => ∃ v, l[i]? = some v ∧ k v
  | _ => False

/-- A bound of a slice expression; none: the given one. -/
def boundD (v : Option V) (dflt : Nat) (k : Nat → Prop) : Prop :=
  match v with
  | none => k dflt
  | some (.d (.int _ i)) => 0 ≤ i ∧ k i.toNat
  | _ => False
def sliceD (P : Program) (t : TypeId) (x : V) (lo hi mx : Option V) (k : V → Prop) : Prop :=
  match tinfo P t, mx with
  | some ⟨_, _, _, _, .slice et⟩, none => (match tinfo P et with
    | some te => (match x with
      | .d (.ro e n f) => e = te.size ∧ boundD hi n fun h => boundD lo 0 fun l => (l ≤ h ∧ h ≤ n) ∧ k (.d (.ro e (h - l) (fun i j => f (l + i) j)))
      | .sl id e off n => e = te.size ∧ boundD hi n fun h => boundD lo 0 fun l => (l ≤ h ∧ h ≤ n) ∧ k (.sl id e (off + l) (h - l))
      | .d .nilsl => boundD hi 0 fun h => boundD lo 0 fun l => (l ≤ h ∧ h ≤ 0) ∧ k (.d .nilsl)
      | _ => False)
    | none => False)
  | some ⟨_, _, _, _, .str⟩, none => (match x with
    | .d (.str s) => boundD hi s.size fun h => boundD lo 0 fun l => (l ≤ h ∧ h ≤ s.size) ∧ k (.d (.str (s.extract l h)))
    | _ => False)
  | _, _ => False

/-- The elements that a value has as a source of append or copy. -/
def elemsD (e : Nat) (x : V) (H : Heap) (k : List (List V) → Prop) : Prop :=
  match x with
  | .sl id e' off n => e' = e ∧ (match H[id]? with
    | some (.row e'' es) => e'' = e ∧ off + n ≤ es.length ∧ k ((es.drop off).take n)
    | _ => False)
  | .d (.ro e' n f) => e' = e ∧ (∀ i j, i < n → j < e → (V.d (f i j)).one = true) ∧ k (upto n fun i => upto e fun j => .d (f i j))
  | .d .nilsl => k []
  | _ => False
def appendD (P : Program) (t : TypeId) (s x : V) (H : Heap) (k : V → Heap → Prop) : Prop :=
  match tinfo P t with
  | some ⟨_, _, _, _, .slice et⟩ => (match tinfo P et with
    | some te => (0 < te.size ∧ te.zero.length = te.size) ∧ elemsD te.size x H fun news =>
      (match s with
      | .sl id e off n => e = te.size ∧ (match H[id]? with
        | some (.row e' es) => e' = e ∧ off + n ≤ es.length ∧ (n + news.length) * te.bytes ≤ 140737488355328 ∧ n + news.length ≤ 140737488355328 ∧
            k (.sl H.length e 0 (n + news.length)) (H.set id .dead ++ [.row e ((es.drop off).take n ++ news)])
        | _ => False)
      | .d .nilsl => (news.length * te.bytes ≤ 140737488355328 ∧ news.length ≤ 140737488355328) ∧ (news = [] → k (.d .nilsl) H) ∧ (news ≠ [] → k (.sl H.length te.size 0 news.length) (H ++ [.row te.size news]))
      | _ => False)
    | none => False)
  | _ => False
def copyD (P : Program) (t : TypeId) (s x : V) (H : Heap) (k : V → Heap → Prop) : Prop :=
  match tinfo P t with
  | some ⟨_, _, _, _, .slice et⟩ => (match tinfo P et with
    | some te => 0 < te.size ∧ elemsD te.size x H fun news =>
      (match s with
      | .sl id e off n => e = te.size ∧ (match H[id]? with
        | some (.row e' es) => e' = e ∧ off + n ≤ es.length ∧ k (.d (.int .i64 (min news.length n : Nat))) (H.set id (.row e (es.take off ++ news.take n ++ es.drop (off + min news.length n))))
        | _ => False)
      | .d .nilsl => k (.d (.int .i64 0)) H
      | _ => False)
    | none => False)
  | _ => False
def lenD (P : Program) (t : TypeId) (x : V) (k : V → Prop) : Prop :=
  match tinfo P t, x with
  | some ⟨_, _, _, _, .str⟩, .d (.str s) => k (.d (.int .i64 s.size))
  | some ⟨_, _, _, _, .slice _⟩, .sl _ _ _ n => k (.d (.int .i64 n))
  | some ⟨_, _, _, _, .slice _⟩, .d (.ro _ n _) => k (.d (.int .i64 n))
  | some ⟨_, _, _, _, .slice _⟩, .d .nilsl => k (.d (.int .i64 0))
  | _, _ => False

mutual
/-- A value whose places lie n further on. -/
def V.shift (n : Nat) : V → V
  | .d x => .d x
  | .ptr id e i j => .ptr (n + id) e i j
  | .sl id e off m => .sl (n + id) e off m
  | .agg l => .agg (shiftL n l)
  | .tup l => .tup (shiftL n l)
  | .clo f l => .clo f (shiftL n l)
def shiftL (n : Nat) : List V → List V
  | [] => []
  | v :: l => v.shift n :: shiftL n l
end
def Place.shift (n : Nat) : Place → Place
  | .dead => .dead
  | .row e es => .row e (es.map (shiftL n))

/-- Contracts that a walk reckons by itself: of a function and its arguments the answer, and the places that are new with it. -/
abbrev Table := FuncId → List V → Option (V × Heap)
def goD (P : Program) (Γ : Table) (g : FuncId) (vs : List V) (H : Heap) (k : V → Heap → Prop) : Prop :=
  match Γ g vs with
  | some (r, []) => k r H
  | some (r, p :: R) => k (r.shift H.length) (H ++ (p :: R).map (Place.shift H.length))
  | none => CallsD P g vs H k
def callD (P : Program) (Γ : Table) (env : Env) (H : Heap) (c : Call) (k : V → Heap → Prop) : Prop :=
  match c.callee with
  | .value f => (match ev env f with
    | .d (.clo g n cap) => goD P Γ g (c.args.toList.map (ev env) ++ upto n fun j => .d (cap j)) H k
    | .clo g l => goD P Γ g (c.args.toList.map (ev env) ++ l) H k
    | _ => False)
  | .builtin .len => (match c.args.toList, c.argTypes.toList with
    | [x], [t] => lenD P t (ev env x) fun v => k v H
    | _, _ => False)
  | .builtin .append => (match c.args.toList, c.argTypes.toList with
    | [s, x], [t, t'] => t = t' ∧ appendD P t (ev env s) (ev env x) H k
    | _, _ => False)
  | .builtin .copy => (match c.args.toList, c.argTypes.toList with
    | [s, x], [t, t'] => t = t' ∧ copyD P t (ev env s) (ev env x) H k
    | _, _ => False)
  | _ => False

def opD (P : Program) (Γ : Table) (env : Env) (H : Heap) (o : Op) (k : V → Heap → Prop) : Prop :=
  match o with
  | .move x => k (ev env x) H
  | .assign x => k (ev env x) H
  | .pick c a b => pickD (ev env c) (ev env a) (ev env b) fun v => k v H
  | .alloc t => allocD (tinfo P t) H k
  | .box t x => boxD (tinfo P t) (ev env x) H k
  | .build t parts => buildD (tinfo P t) (parts.toList.map fun p => (p.1, ev env p.2)) fun v => k v H
  | .buildSlice t len parts => buildSliceD P t len (parts.toList.map fun p => (p.1, ev env p.2)) H k
  | .load t a => loadD (tinfo P t) (ev env a) H fun v => k v H
  | .store t a x => storeD (tinfo P t) (ev env a) (ev env x) H fun H' => k (.tup []) H'
  | .nilCheck x => nilCheckD (ev env x) fun v => k v H
  | .binOp op t x y _ => binD P op t (ev env x) (ev env y) fun v => k v H
  | .unOp op _ x => unD op (ev env x) fun v => k v H
  | .convert src dst x => convertD P src dst (ev env x) fun v => k v H
  | .makeFunc (.func f) first captured => first.size = 0 ∧ k (.clo f (captured.toList.map (ev env))) H
  | .makeSlice t l c => makeSliceD P t (ev env l) (ev env c) H k
  | .slice t x lo hi mx => sliceD P t (ev env x) (lo.map (ev env)) (hi.map (ev env)) (mx.map (ev env)) fun v => k v H
  | .fieldAddr s x f => fieldAddrD P s (ev env x) f fun v => k v H
  | .field s x f => fieldD P s (ev env x) f fun v => k v H
  | .indexAddr t x ix => indexAddrD P t (ev env x) (ev env ix) fun v => k v H
  | .index t x ix => indexD P t (ev env x) (ev env ix) fun v => k v H
  | .extract t i => extractD (ev env t) i fun v => k v H
  | .call c => callD P Γ env H c k
  | _ => False

def updO (env : Env) (t : Option Nat) (v : V) : Env :=
  match t with
  | some t => upd env t v
  | none => env
/-- An operation without what the walk does not ask. -/
structure SOp where
  dst : Option Nat
  op : Op
  guard : Option (Nat × Bool)
/-- Code without what the walk does not ask. -/
inductive SCode where
  | skip
  | ops (l : List SOp)
  | draw (id : Nat) (ops : Array Oper)
  | seq (a b : SCode)
  | cond (c : Operand) (a b : SCode)
  | block (id : Nat) (c : SCode)
  | loop (c : Code)
  | exit (id : Nat)
  | ret
  | other (c : Code)
def stripOps : List Oper → List SOp
  | [] => []
  | o :: l => ⟨o.dst, o.op, o.guard⟩ :: stripOps l
def strip : Code → SCode
  | .skip => .skip
  | .region _ ops false => .ops (stripOps ops.toList)
  | .region id ops true => .draw id ops
  | .seq a b => .seq (strip a) (strip b)
  | .cond c a b => .cond c (strip a) (strip b)
  | .block id c => .block id (strip c)
  | .loop c => .loop c
  | .exit id => .exit id
  | .ret => .ret
  | c => .other c

/-- The slot of an earlier operation of a region. -/
def slotOf (all : List (Option Nat)) (j : Nat) : Option Nat := (all[j]?).join
def opsD (P : Program) (Γ : Table) (all : List (Option Nat)) : List SOp → Env → Heap → (Env → Heap → Prop) → Prop
  | [], env, H, k => k env H
  | o :: rest, env, H, k => match o.guard with
    | none => opD P Γ env H o.op fun v H' => opsD P Γ all rest (updO env o.dst v) H' k
    | some (j, want) => match slotOf all j with
      | none => False
      | some t => match env t with
        | .d (.bool b) => (b = want → opD P Γ env H o.op fun v H' => opsD P Γ all rest (updO env o.dst v) H' k) ∧ (b ≠ want → opsD P Γ all rest (updO env o.dst (.tup [])) H k)
        | .tup [] => opsD P Γ all rest (updO env o.dst (.tup [])) H k
        | _ => False
def dstsOf : List SOp → List (Option Nat)
  | [] => []
  | o :: l => o.dst :: dstsOf l

/-- The slots that live on behind a region. -/
def keep (K : List Nat) (env : Env) : Env := fun t => if t ∈ K then env t else .d .undef
/-- An environment by a list; the first entry counts. -/
def mk : List (Nat × V) → Env
  | [], _ => .d .undef
  | (k, v) :: l, t => if t = k then v else mk l t

/-- The code over abstract states; a loop, and a region that draws its order, are left to their own rules. -/
def wpD (P : Program) (Γ : Table) (N n0 : Nat) (K : List Nat) : SCode → (Exit → St → Prop) → St → Prop
  | .skip, Q, s => Q .normal s
  | .ops l, Q, s => opsD P Γ (dstsOf l) l s.env s.H fun env H => Q .normal ⟨keep K env, H⟩
  | .draw id ops, Q, s => W P N n0 (.region id ops true) Q s
  | .seq a b, Q, s => wpD P Γ N n0 K a (seqQ (wpD P Γ N n0 K b Q) Q) s
  | .cond c a b, Q, s => (match ev s.env c with
    | .d (.bool t) => (t = true → wpD P Γ N n0 K a Q s) ∧ (t = false → wpD P Γ N n0 K b Q s)
    | _ => False)
  | .block id c, Q, s => wpD P Γ N n0 K c (blockQ id Q) s
  | .loop c, Q, s => W P N n0 (.loop c) Q s
  | .exit id, Q, s => Q (.exit id) s
  | .ret, Q, s => Q .ret s
  | .other c, Q, s => W P N n0 c Q s

/-- The table tells the truth. -/
def answers (r : V) (R : Heap) (H : Heap) (r' : V) (H' : Heap) : Prop :=
  match R with
  | [] => r' = r ∧ H' = H
  | p :: R => r' = r.shift H.length ∧ H' = H ++ (p :: R).map (Place.shift H.length)
def Good (P : Program) (Γ : Table) : Prop := ∀ g vs r R H, Γ g vs = some (r, R) → CallsD P g vs H (answers r R H)
theorem Good.none (P : Program) : Good P (fun _ _ => none) := fun _ _ _ _ _ h => by cases h
theorem goD_calls {P : Program} {Γ : Table} (hΓ : Good P Γ) {g : FuncId} {vs : List V} {H : Heap} {k : V → Heap → Prop} (h : goD P Γ g vs H k) : CallsD P g vs H k := by
  unfold goD at h
  split at h
  · rename_i r hr
    exact (hΓ g vs r [] H hr).mono fun r' H' ⟨e1, e2⟩ => by rw [e1, e2]; exact h
  · rename_i r p R hr
    exact (hΓ g vs r _ H hr).mono fun r' H' ⟨e1, e2⟩ => by rw [e1, e2]; exact h
  · exact h

/-- No operation writes a slot that the frame has not. -/
def opOk (N : Nat) (o : Oper) : Bool := match o.dst with | some t => decide (t < N) | none => true
def codeOk (N : Nat) : Code → Bool
  | .region _ ops _ => ops.toList.all (opOk N)
  | .seq a b | .cond _ a b => codeOk N a && codeOk N b
  | .block _ c | .loop c => codeOk N c
  | _ => true

end Go.Proofs.Ytpakdkiceoknjaa
