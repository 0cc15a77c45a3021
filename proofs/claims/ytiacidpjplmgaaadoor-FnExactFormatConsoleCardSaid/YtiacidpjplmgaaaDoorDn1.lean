/- Words of this session's own: a denotation of Go code as plain functions over numbers, strings and lists. -/
import Derived.OrdersHeld
import Derived.Tactics
import Derived.Below
import Derived.KernelRfl
set_option linter.unusedVariables false
namespace Go.Proofs.YtiacidpjplmgaaaDoorD

/-! ### Kinds of data -/
inductive Ty where
  | int (k : IntKind) | bool | str | sl (t : Ty) | pair (a b : Ty) | fn

abbrev Ty.D : Ty → Type
  | .int _ => Int
  | .bool => Bool
  | .str => ByteArray
  | .fn => Unit
  | .sl t => List t.D
  | .pair a b => a.D × b.D

def ikc : IntKind → Nat
  | .i8 => 0 | .i16 => 1 | .i32 => 2 | .i64 => 3 | .u8 => 4 | .u16 => 5 | .u32 => 6 | .u64 => 7
theorem ikc_inj {a b : IntKind} (h : Nat.beq (ikc a) (ikc b) = true) : a = b := by
  cases a <;> cases b <;> first | rfl | (exact absurd h (by decide))

def Ty.beq : Ty → Ty → Bool
  | .int k, .int k' => Nat.beq (ikc k) (ikc k')
  | .bool, .bool => true
  | .str, .str => true
  | .fn, .fn => true
  | .sl a, .sl b => a.beq b
  | .pair a b, .pair c d => match a.beq c with | true => b.beq d | false => false
  | _, _ => false
theorem Ty.eq_of_beq : ∀ {a b : Ty}, a.beq b = true → a = b
  | .int k, .int k', h => by rw [ikc_inj h]
  | .bool, .bool, _ => rfl
  | .str, .str, _ => rfl
  | .fn, .fn, _ => rfl
  | .sl a, .sl b, h => by rw [Ty.eq_of_beq (a := a) (b := b) h]
  | .pair a b, .pair c d, h => by
    unfold Ty.beq at h
    split at h
    · rename_i h1; rw [Ty.eq_of_beq h1, Ty.eq_of_beq h]
    · cases h
  | .int _, .bool, h | .int _, .str, h | .int _, .sl _, h | .int _, .pair _ _, h | .int _, .fn, h => by cases h
  | .bool, .int _, h | .bool, .str, h | .bool, .sl _, h | .bool, .pair _ _, h | .bool, .fn, h => by cases h
  | .str, .int _, h | .str, .bool, h | .str, .sl _, h | .str, .pair _ _, h | .str, .fn, h => by cases h
  | .sl _, .int _, h | .sl _, .bool, h | .sl _, .str, h | .sl _, .pair _ _, h | .sl _, .fn, h => by cases h
  | .fn, .int _, h | .fn, .bool, h | .fn, .str, h | .fn, .sl _, h | .fn, .pair _ _, h => by cases h
  | .pair _ _, .int _, h | .pair _ _, .bool, h | .pair _ _, .str, h | .pair _ _, .sl _, h | .pair _ _, .fn, h => by cases h

def Ty.dflt : (t : Ty) → t.D
  | .int _ => (0 : Int)
  | .bool => false
  | .str => ByteArray.empty
  | .fn => ()
  | .sl _ => []
  | .pair a b => (a.dflt, b.dflt)
def Ty.cells : Ty → Nat
  | .pair a b => a.cells + b.cells
  | _ => 1
/-- Does it hold slices? -/
def Ty.deep : Ty → Bool
  | .sl _ => true
  | .pair a b => match a.deep with | true => true | false => b.deep
  | _ => false

/-- A value of one kind as one of another, where the kinds are one. -/
def castK {α : Type} (t t' : Ty) (x : t.D) (K : t'.D → Option α) : Option α :=
  match h : Ty.beq t t' with
  | true => K (Ty.eq_of_beq h ▸ x)
  | false => none

structure Leaf where
  t : Ty
  x : t.D

/-! ### Values of a run -/
inductive V where
  | undef
  | nil
  | val (t : Ty) (x : t.D)
  | prop (p : Prop) (d : Decidable p)
  | ref (b : Nat)
  | sub (t : Ty) (b lo n : Nat)
  | ptr (b off : Nat)
  | eptr (t : Ty) (b i off : Nat)
  | rptr (t : Ty) (x : t.D) (off : Nat)
  | cptr (vs : List V) (off : Nat)
  | agg (l : List V)
  | tup (l : List V)
  | fn (f : Nat) (first caps : List V)

inductive Blk where
  | row (e : Nat) (t : Ty) (xs : List t.D)
  | frz (t : Ty) (xs : List t.D)
  | box (vs : List V)
  | bys (xs : List Int)

abbrev Hp := List (Nat × Option Blk)
structure St where
  env : List (Nat × V)
  heap : Hp
  next : Nat

def get {β : Type} : List (Nat × β) → Nat → Option β
  | [], _ => none
  | (k, v) :: r, t => match Nat.beq k t with | true => some v | false => get r t
def hget (h : Hp) (b : Nat) : Option Blk := match get h b with | some x => x | none => none
def egetd (e : List (Nat × V)) (t : Nat) : V := match get e t with | some v => v | none => .undef

def vleaf : Value → V
  | .int k n => .val (.int k) n
  | .bool b => .val .bool b
  | .string s => .val .str s
  | .slice none 0 0 => .nil
  | _ => .undef
def vconst : Value → V
  | .agg cs => .agg (cs.toList.map vleaf)
  | v => vleaf v
def opd (e : List (Nat × V)) : Operand → V
  | .tmp t => egetd e t
  | .const v => vconst v
  | .func f => .fn f [] []
  | .global _ => .undef

/-! ### Types -/
structure TI where
  desc : TypeDesc
  size : Nat
  bytes : Nat
  ty : Ty
def TI.agg (i : TI) : Bool := match i.desc with | .struct _ => true | .array _ _ => true | _ => false
/-- Can values of it be compared part by part? -/
def TI.eqs (i : TI) : Bool := match i.desc with | .struct _ => (match i.ty.deep with | true => false | false => true) | .array _ _ => (match i.ty.deep with | true => false | false => true) | _ => false
abbrev TT := List (Nat × TI)
/-- An array's places. -/
def arrFs (e size : Nat) : (n off : Nat) → List Field
  | 0, _ => []
  | n + 1, off => ⟨"", e, off, false, "", "", 0⟩ :: arrFs e size n (off + size)
/-- An array's length and its elements' type. -/
def arrOf (τ : TT) (t : Nat) : Option (Nat × Nat × TI) :=
  match get τ t with
  | some i => match i.desc with
    | .array n e => match get τ e with | some ei => some (n, e, ei) | none => none
    | _ => none
  | none => none

/-! ### Parts -/
def leaves : (t : Ty) → t.D → List V
  | .pair a b, x => leaves a x.1 ++ leaves b x.2
  | .int k, x => [.val (.int k) x]
  | .bool, x => [.val .bool x]
  | .str, x => [.val .str x]
  | .fn, x => [.val .fn x]
  | .sl t, x => [.val (.sl t) x]
def zeros : Ty → List V
  | .pair a b => zeros a ++ zeros b
  | .int k => [.val (.int k) (0 : Int)]
  | .bool => [.val .bool false]
  | .str => [.val .str ByteArray.empty]
  | .fn => [.val .fn ()]
  | .sl _ => [.nil]

section
variable {α : Type}
/-- A part as data of a kind; the rows that it leads to. -/
def leafAs (h : Nat → Option Blk) (t : Ty) (v : V) (K : t.D → List Nat → Option α) : Option α :=
  match v with
  | .val t' x => castK t' t x fun y => K y []
  | .prop p d => castK .bool t (@decide p d) fun y => K y []
  | .nil => match t, K with
    | .sl _, K => K [] []
    | _, _ => none
  | .ref b => match h b with
    | some (.row _ t' xs) => castK (.sl t') t xs fun y => K y [b]
    | some (.frz t' xs) => castK (.sl t') t xs fun y => K y []
    | _ => none
  | .sub s b lo n => match h b with
    | some (.row _ t' xs) => match Ty.beq t' s with | true => castK (.sl t') t ((xs.drop lo).take n) fun y => K y [b] | false => none
    | some (.frz t' xs) => match Ty.beq t' s with | true => castK (.sl t') t ((xs.drop lo).take n) fun y => K y [] | false => none
    | _ => none
  | _ => none
def headK (h : Nat → Option Blk) (t : Ty) (l : List V) (K : t.D → List V → List Nat → Option α) : Option α :=
  match l with | v :: r => leafAs h t v fun x f => K x r f | [] => none
/-- Parts as one datum of a kind. -/
def ofLeaves (h : Nat → Option Blk) : (t : Ty) → List V → (t.D → List V → List Nat → Option α) → Option α
  | .pair a b, l, K => ofLeaves h a l fun x l1 f1 => ofLeaves h b l1 fun y l2 f2 => K (x, y) l2 (f1 ++ f2)
  | .int k, l, K => headK h (.int k) l K
  | .bool, l, K => headK h .bool l K
  | .str, l, K => headK h .str l K
  | .fn, l, K => headK h .fn l K
  | .sl t, l, K => headK h (.sl t) l K
def wholeK (h : Nat → Option Blk) (t : Ty) (off : Nat) (v : V) (K : t.D → List Nat → Option α) : Option α :=
  match Nat.beq off 0 with | true => leafAs h t v K | false => none
/-- A datum whose part at an offset is another one. -/
def setAt (h : Nat → Option Blk) : (t : Ty) → t.D → Nat → V → (t.D → List Nat → Option α) → Option α
  | .pair a b, x, off, v, K => match Nat.blt off a.cells with
    | true => setAt h a x.1 off v fun y f => K (y, x.2) f
    | false => setAt h b x.2 (off - a.cells) v fun y f => K (x.1, y) f
  | .int k, _, off, v, K => wholeK h (.int k) off v K
  | .bool, _, off, v, K => wholeK h .bool off v K
  | .str, _, off, v, K => wholeK h .str off v K
  | .fn, _, off, v, K => wholeK h .fn off v K
  | .sl t, _, off, v, K => wholeK h (.sl t) off v K
def setAll (h : Nat → Option Blk) (t : Ty) : List V → t.D → Nat → (t.D → List Nat → Option α) → Option α
  | [], x, _, K => K x []
  | v :: r, x, off, K => setAt h t x off v fun y f => setAll h t r y (off + 1) fun z f' => K z (f ++ f')
end
def parts : V → List V
  | .agg l => l
  | v => [v]
def single : V → Bool
  | .undef => false
  | .agg _ => false
  | .tup _ => false
  | _ => true
def frzW (h : Nat → Option Blk) : List Nat → Hp
  | [] => []
  | b :: r => match h b with | some (.row _ t xs) => (b, some (.frz t xs)) :: frzW h r | _ => frzW h r

/-! ### Plain operations that may fail -/
abbrev w64 (n : Int) : Int := IntKind.i64.wrap n
def upd {β : Type} (xs : List β) (j : Nat) (d : β) (f : β → β) : List β := xs.set j (f (xs.getD j d))
/-- An index within bounds. -/
def chk (n : Nat) (i : Int) : Option Nat := if 0 ≤ i ∧ i < n then some i.toNat else none
/-- The bounds of a part: from where, and how many. -/
def cut (n : Nat) (i j : Int) : Option (Nat × Nat) := if 0 ≤ i ∧ i ≤ j ∧ j ≤ n then some (i.toNat, j.toNat - i.toNat) else none
/-- The bound of a front part. -/
def cutTo (n : Nat) (j : Int) : Option Nat := if 0 ≤ j ∧ j ≤ n then some j.toNat else none
/-- A list and another one behind it, at most L in all. -/
def app {β : Type} (L : Nat) (xs ys : List β) : Option (List β) := if xs.length + ys.length ≤ L then some (xs ++ ys) else none
/-- A piece of a list over which zeros are written, and one over which another list is written. -/
def wipe {β : Type} (xs : List β) (lo n : Nat) (d : β) : List β := xs.take lo ++ (List.replicate n d ++ xs.drop (lo + n))
def lay {β : Type} (xs : List β) (lo n : Nat) (ys : List β) : List β := xs.take lo ++ (ys.take n ++ xs.drop (lo + min ys.length n))
/-- A piece of a row, appended to a front piece of the same row. -/
def selfApp (i lo m : Nat) : Option Nat := if i ≤ lo then some (i + m) else none
/-- A number of zeros, at least one and at most L. -/
def zer (L : Nat) (n : Int) : Option Nat := if 0 < n ∧ n ≤ L then some n.toNat else none
def mkl (L : Nat) (n c : Int) : Option Nat := if 0 ≤ n ∧ n ≤ c ∧ c ≤ L then some n.toNat else none
def quo (k : IntKind) (x y : Int) : Option Int := if y = 0 then none else some (k.wrap (x.tdiv y))
def rem (x y : Int) : Option Int := if y = 0 then none else some (x.tmod y)
def catS (a b : ByteArray) : Option ByteArray := if a.size + b.size ≤ 140737488355328 then some (a ++ b) else none
def byteAt (s : ByteArray) (j : Nat) : Int := if h : j < s.size then ((s[j]'h).toNat : Int) else 0
def bytesOf (s : ByteArray) : List Int := s.data.toList.map fun b => (b.toNat : Int)
def ofBytes (xs : List Int) : ByteArray := ⟨(xs.map fun x => UInt8.ofNat x.toNat).toArray⟩
def limOf (bytes : Nat) : Nat := 140737488355328 / bytes

section
variable {α : Type}
def band (k : IntKind) (x y : Int) : Int := k.wrap ((BitVec.ofInt k.bits x &&& BitVec.ofInt k.bits y).toNat : Nat)
def bor (k : IntKind) (x y : Int) : Int := k.wrap ((BitVec.ofInt k.bits x ||| BitVec.ofInt k.bits y).toNat : Nat)
def bxor (k : IntKind) (x y : Int) : Int := k.wrap ((BitVec.ofInt k.bits x ^^^ BitVec.ofInt k.bits y).toNat : Nat)
def bandnot (k : IntKind) (x y : Int) : Int := k.wrap ((BitVec.ofInt k.bits x &&& ~~~(BitVec.ofInt k.bits y)).toNat : Nat)
def intBin (op : BinOp) (k : IntKind) (x y : Int) (K : V → Option α) : Option α :=
  match op with
  | .add => K (.val (.int k) (k.wrap (x + y)))
  | .sub => K (.val (.int k) (k.wrap (x - y)))
  | .mul => K (.val (.int k) (k.wrap (x * y)))
  | .quo => (quo k x y).bind fun z => K (.val (.int k) z)
  | .rem => (rem x y).bind fun z => K (.val (.int k) z)
  | .eql => K (.prop (x = y) inferInstance)
  | .neq => K (.prop (¬ x = y) inferInstance)
  | .lss => K (.prop (x < y) inferInstance)
  | .leq => K (.prop (x ≤ y) inferInstance)
  | .gtr => K (.prop (y < x) inferInstance)
  | .geq => K (.prop (y ≤ x) inferInstance)
  | .and => K (.val (.int k) (band k x y))
  | .or => K (.val (.int k) (bor k x y))
  | .xor => K (.val (.int k) (bxor k x y))
  | .andNot => K (.val (.int k) (bandnot k x y))
  | _ => none
def strBin (op : BinOp) (x y : ByteArray) (K : V → Option α) : Option α :=
  match op with
  | .add => (catS x y).bind fun z => K (.val .str z)
  | .eql => K (.prop (x = y) inferInstance)
  | .neq => K (.prop (¬ x = y) inferInstance)
  | .lss => K (.prop (Op.bytesLess x.toList y.toList = true) inferInstance)
  | _ => none
def boolBin (op : BinOp) (x y : Bool) (K : V → Option α) : Option α :=
  match op with
  | .eql => K (.prop (x = y) inferInstance)
  | .neq => K (.prop (¬ x = y) inferInstance)
  | _ => none
def shl (k : IntKind) (x y : Int) : Option Int := if y < 0 then none else some (k.wrap (x * 2 ^ (min y.toNat k.bits)))
def shr (k : IntKind) (x y : Int) : Option Int := if y < 0 then none else some (x.fdiv (2 ^ (min y.toNat k.bits)))
def shiftK (op : BinOp) (k : IntKind) (x y : Int) (K : V → Option α) : Option α :=
  match op with
  | .shl => (shl k x y).bind fun z => K (.val (.int k) z)
  | .shr => (shr k x y).bind fun z => K (.val (.int k) z)
  | _ => none
def isShift : BinOp → Bool
  | .shl => true | .shr => true | _ => false
def isBool (τ : TT) (t : Nat) : Bool := match get τ t with | some i => (match i.desc with | .bool => true | _ => false) | none => false
def eqParts : List V → List V → (V → Option α) → Option α
  | [], m, K => match m with | [] => K (.prop True inferInstance) | _ => none
  | x :: l, m, K => match m with
    | [] => none
    | y :: m => match x, y with
      | .val (.int k) a, .val (.int k') b => match Nat.beq (ikc k) (ikc k') with
        | true => eqParts l m fun v => match v with | .prop p d => K (.prop (a = b ∧ p) inferInstance) | _ => none
        | false => none
      | .val .str a, .val .str b => eqParts l m fun v => match v with | .prop p d => K (.prop (@Eq ByteArray a b ∧ p) (@instDecidableAnd _ _ (ByteArray.instDecidableEq a b) d)) | _ => none
      | _, _ => none
def eqFields (τ : TT) : List Field → Nat → List V → Bool
  | [], _, _ => true
  | f :: r, n, l => match Nat.beq f.offset n, get τ f.type, l with
    | true, some i, x :: l => (match i.desc, x with | .int _, .val (.int _) _ => eqFields τ r (n + 1) l | .string, .val .str _ => eqFields τ r (n + 1) l | _, _ => false)
    | _, _, _ => false
def cmpP (op : BinOp) (K : V → Option α) (v : V) : Option α :=
  match v with
  | .prop p d => match op with
    | .eql => K (.prop p d)
    | .neq => K (.prop (¬ p) inferInstance)
    | _ => none
  | _ => none
def aggEq (τ : TT) (op : BinOp) (t : Nat) (l m : List V) (K : V → Option α) : Option α :=
  match get τ t with
  | none => none
  | some i => match i.desc with
    | .struct fs => match i.eqs, eqFields τ fs.toList 0 l, Nat.beq l.length fs.toList.length with
      | true, true, true => eqParts l m (cmpP op K)
      | _, _, _ => none
    | .array len e => match get τ e with
      | none => none
      | some ei => match i.eqs, eqFields τ (arrFs e ei.size len 0) 0 l, Nat.beq l.length (arrFs e ei.size len 0).length with
        | true, true, true => eqParts l m (cmpP op K)
        | _, _, _ => none
    | _ => none
def binK (τ : TT) (op : BinOp) (t : Nat) (x y : V) (K : V → Option α) : Option α :=
  match x, y with
  | .val (.int k) a, .val (.int k') b =>
    match isShift op with
    | true => shiftK op k a b K
    | false => match Nat.beq (ikc k) (ikc k') with | true => intBin op k a b K | false => none
  | .val .str a, .val .str b => strBin op a b K
  | .val .bool a, .val .bool b => match isBool τ t with | true => boolBin op a b K | false => none
  | .prop p d, .val .bool b => match isBool τ t with | true => boolBin op (@decide p d) b K | false => none
  | .val .bool a, .prop p d => match isBool τ t with | true => boolBin op a (@decide p d) K | false => none
  | .prop p d, .prop q e => match isBool τ t with | true => boolBin op (@decide p d) (@decide q e) K | false => none
  | .agg l, .agg m => aggEq τ op t l m K
  | _, _ => none
def unK (op : UnOp) (x : V) (K : V → Option α) : Option α :=
  match op, x with
  | .neg, .val (.int k) n => K (.val (.int k) (k.wrap (0 - n)))
  | .not, .val .bool b => K (.val .bool (!b))
  | .not, .prop p d => K (.prop (¬ p) inferInstance)
  | _, _ => none

def takeV (agg : Bool) (n : Nat) (l : List V) (K : V → Option α) : Option α :=
  match agg with
  | true => match Nat.beq (l.take n).length n with | true => K (.agg (l.take n)) | false => none
  | false => match l with | v :: _ => K v | [] => none
def loadK (τ : TT) (h : Nat → Option Blk) (t : Nat) (p : V) (K : V → Option α) : Option α :=
  match get τ t with
  | none => none
  | some i => match p with
    | .ptr b off => match h b with | some (.box vs) => takeV i.agg i.size (vs.drop off) K | _ => none
    | .cptr vs off => takeV i.agg i.size (vs.drop off) K
    | .rptr t x off => takeV i.agg i.size ((leaves t x).drop off) K
    | .eptr t b j off => match h b with
      | some (.row _ t' xs) => match Ty.beq t' t with | true => takeV i.agg i.size ((leaves t' (xs.getD j t'.dflt)).drop off) K | false => none
      | some (.frz t' xs) => match Ty.beq t' t with | true => takeV i.agg i.size ((leaves t' (xs.getD j t'.dflt)).drop off) K | false => none
      | some (.bys xs) => match Ty.beq t (.int .u8), Nat.beq off 0, i.agg with | true, true, false => K (.val (.int .u8) (xs.getD j 0)) | _, _, _ => none
      | _ => none
    | _ => none
def storeK (τ : TT) (h : Nat → Option Blk) (t : Nat) (p v : V) (K : Hp → Option α) : Option α :=
  match get τ t with
  | none => none
  | some i => match Nat.beq (parts v).length i.size, (parts v).all single with
    | true, true => match p with
      | .ptr b off => match h b with
        | some (.box vs) => match Nat.ble (off + i.size) vs.length with
          | true => K [(b, some (.box (vs.take off ++ (parts v ++ vs.drop (off + i.size)))))]
          | false => none
        | _ => none
      | .eptr t b j off => match h b with
        | some (.row e t' xs) => match Ty.beq t' t with
          | true => setAll h t' (parts v) (xs.getD j t'.dflt) off fun y f => match f.any (Nat.beq b) with
            | false => K ((b, some (.row e t' (xs.set j y))) :: frzW h f)
            | true => none
          | false => none
        | some (.bys xs) => match v, Ty.beq t (.int .u8), Nat.beq off 0 with
          | .val (.int .u8) n, true, true => K [(b, some (.bys (xs.set j n)))]
          | _, _, _ => none
        | _ => none
      | _ => none
    | _, _ => none

def fieldOf (τ : TT) (t i : Nat) : Option (Nat × Nat) :=
  match get τ t with
  | some ti => match ti.desc with
    | .struct fs => match fs.toList[i]? with | some f => some (f.offset, f.type) | none => none
    | _ => none
  | none => none
def fieldAddrK (τ : TT) (t : Nat) (x : V) (i : Nat) (K : V → Option α) : Option α :=
  match fieldOf τ t i with
  | none => none
  | some (o, ft) => match get τ ft with
    | none => none
    | some _ => match x with
      | .ptr b off => K (.ptr b (off + o))
      | .eptr t b j off => K (.eptr t b j (off + o))
      | .rptr t x off => K (.rptr t x (off + o))
      | .cptr vs off => K (.cptr vs (off + o))
      | _ => none
def fieldK (τ : TT) (t : Nat) (x : V) (i : Nat) (K : V → Option α) : Option α :=
  match fieldOf τ t i, x with
  | some (o, ft), .agg l => match get τ ft with | some ti => takeV ti.agg ti.size (l.drop o) K | none => none
  | _, _ => none
def rowOf (h : Nat → Option Blk) (b : Nat) (K : (t : Ty) → List t.D → Option α) : Option α :=
  match h b with | some (.row _ t xs) => K t xs | some (.frz t xs) => K t xs | _ => none
def isStr (τ : TT) (t : Nat) : Bool := match get τ t with | some i => (match i.desc with | .string => true | _ => false) | none => false
/-- A slice's element type. -/
def elemOf (τ : TT) (t : Nat) : Option (Nat × TI) :=
  match get τ t with
  | some i => match i.desc with
    | .slice e => match get τ e with | some ei => some (e, ei) | none => none
    | _ => none
  | none => none
def lenS (h : Nat → Option Blk) (x : V) (K : V → Option α) : Option α :=
  match x with
  | .nil => K (.val (.int .i64) (0 : Int))
  | .val (.sl t) xs => K (.val (.int .i64) ((List.length (α := t.D) xs : Nat) : Int))
  | .ref b => rowOf h b fun _ xs => K (.val (.int .i64) ((xs.length : Nat) : Int))
  | .sub _ b lo n => K (.val (.int .i64) ((n : Nat) : Int))
  | _ => none
def lenK (τ : TT) (h : Nat → Option Blk) (t : Nat) (x : V) (K : V → Option α) : Option α :=
  match isStr τ t with
  | true => match x with
    | .val .str s => K (.val (.int .i64) ((ByteArray.size s : Nat) : Int))
    | _ => none
  | false => match elemOf τ t with | some _ => lenS h x K | none => none
def indexSlK (τ : TT) (h : Nat → Option Blk) (t : Nat) (x i : V) (K : V → Option α) : Option α :=
  match elemOf τ t, i with
  | some (_, ei), .val (.int _) n => match x with
    | .val (.sl t) xs => match Ty.beq ei.ty t with
      | true => (chk (List.length (α := t.D) xs) n).bind fun j => K (.rptr t (List.getD (α := t.D) xs j t.dflt) 0)
      | false => none
    | .ref b => match h b with
      | some (.row _ t xs) => match Ty.beq ei.ty t with | true => (chk xs.length n).bind fun j => K (.eptr t b j 0) | false => none
      | some (.frz t xs) => match Ty.beq ei.ty t with | true => (chk xs.length n).bind fun j => K (.rptr t (xs.getD j t.dflt) 0) | false => none
      | some (.bys xs) => match Ty.beq ei.ty (.int .u8) with | true => (chk xs.length n).bind fun j => K (.eptr (.int .u8) b j 0) | false => none
      | _ => none
    | .sub s b lo m => match Ty.beq ei.ty s with
      | true => match h b with
        | some (.row _ t xs) => match Ty.beq s t with | true => (chk m n).bind fun j => K (.eptr t b (lo + j) 0) | false => none
        | some (.frz t xs) => match Ty.beq s t with | true => (chk m n).bind fun j => K (.rptr t (xs.getD (lo + j) t.dflt) 0) | false => none
        | _ => none
      | false => none
    | _ => none
  | _, _ => none
def indexStrK (τ : TT) (t : Nat) (x i : V) (K : V → Option α) : Option α :=
  match isStr τ t with
  | true => match x, i with
    | .val .str s, .val (.int _) n => (chk (ByteArray.size s) n).bind fun j => K (.val (.int .u8) (byteAt s j))
    | _, _ => none
  | false => none
/-- A place of an array: each number has its arm. -/
def armsK (n : Int) (f : Nat → Option α) : Nat → Option α
  | 0 => none
  | m + 1 => if n = (m : Int) then f m else armsK n f m
def arms (len : Nat) (i : V) (f : Nat → Option α) : Option α :=
  match i with
  | .val (.int _) n => armsK n f len
  | _ => none
def addK (x : V) (o : Nat) (K : V → Option α) : Option α :=
  match x with
  | .ptr b off => K (.ptr b (off + o))
  | .eptr t b j off => K (.eptr t b j (off + o))
  | .rptr t x off => K (.rptr t x (off + o))
  | .cptr vs off => K (.cptr vs (off + o))
  | _ => none
def indexAddrK (τ : TT) (h : Nat → Option Blk) (t : Nat) (x i : V) (K : V → Option α) : Option α :=
  match arrOf τ t with
  | some (len, _, ei) => arms len i fun j => addK x (j * ei.size) K
  | none => indexSlK τ h t x i K
def indexK (τ : TT) (t : Nat) (x i : V) (K : V → Option α) : Option α :=
  match arrOf τ t, x with
  | some (len, _, ei), .agg l => arms len i fun j => takeV ei.agg ei.size (l.drop (j * ei.size)) K
  | some _, _ => none
  | none, x => indexStrK τ t x i K
def bound (v : Option V) (d : Int) (K : Int → Option α) : Option α :=
  match v with
  | none => K d
  | some (.val (.int _) n) => K n
  | _ => none
def sliceStr (x : V) (lo hi : Option V) (K : V → Option α) : Option α :=
  match x with
  | .val .str s => match lo with
    | none => bound hi (ByteArray.size s : Nat) fun j => (cutTo (ByteArray.size s) j).bind fun m => K (.val .str (ByteArray.extract s 0 m))
    | some _ => bound lo 0 fun i => bound hi (ByteArray.size s : Nat) fun j => (cut (ByteArray.size s) i j).bind fun c => K (.val .str (ByteArray.extract s c.1 (c.1 + c.2)))
  | _ => none
/-- A part of a row, from a place on; n: its length, m: the greatest bound. -/
def sliceRow (n m : Nat) (lo hi : Option V) (K : Nat → Nat → Option α) (K0 : Nat → Option α) : Option α :=
  match lo with
  | none => bound hi (n : Int) fun j => (cutTo m j).bind fun m => K0 m
  | some _ => bound lo 0 fun i => bound hi (n : Int) fun j => (cut m i j).bind fun c => K c.1 c.2
def sliceSl (h : Nat → Option Blk) (s : Ty) (x : V) (lo hi : Option V) (K : V → Option α) : Option α :=
  match x with
  | .nil => sliceRow 0 0 lo hi (fun _ _ => K .nil) (fun _ => K .nil)
  | .val (.sl t) xs => match Ty.beq s t with
    | true => sliceRow (List.length (α := t.D) xs) (List.length (α := t.D) xs) lo hi (fun i m => K (.val (.sl t) (List.take (α := t.D) m (List.drop (α := t.D) i xs)))) (fun m => K (.val (.sl t) (List.take (α := t.D) m xs)))
    | false => none
  | .ref b => rowOf h b fun t xs => match Ty.beq s t with
    | true => sliceRow xs.length xs.length lo hi (fun i m => K (.sub t b i m)) (fun m => K (.sub t b 0 m))
    | false => none
  | .sub t b l n => match Ty.beq s t with
    | true => match h b with
      | some (.row _ _ xs) => sliceRow n (xs.length - l) lo hi (fun i m => K (.sub t b (l + i) m)) (fun m => K (.sub t b l m))
      | _ => sliceRow n n lo hi (fun i m => K (.sub t b (l + i) m)) (fun m => K (.sub t b l m))
    | false => none
  | _ => none
def cut3 (n : Nat) (i j m : Int) : Option Unit := if 0 ≤ i ∧ i ≤ j ∧ j ≤ m ∧ m ≤ n then some () else none
/-- A part with a bound for its room: for its test alone. -/
def slice3K (τ : TT) (h : Nat → Option Blk) (t : Nat) (x i j m : V) (K : V → Option α) : Option α :=
  match elemOf τ t, x, i, j, m with
  | some _, .ref b, .val (.int _) i, .val (.int _) j, .val (.int _) m => rowOf h b fun _ xs => (cut3 xs.length i j m).bind fun _ => K .undef
  | _, _, _, _, _ => none
def sliceK (τ : TT) (h : Nat → Option Blk) (t : Nat) (x : V) (lo hi : Option V) (K : V → Option α) : Option α :=
  match isStr τ t with
  | true => sliceStr x lo hi K
  | false => match elemOf τ t with | some (_, ei) => sliceSl h ei.ty x lo hi K | none => none
end

end Go.Proofs.YtiacidpjplmgaaaDoorD
