/- Words of this session's own: calls, regions and code as plain functions. -/
import Derived.Test.YtiacidpjplmgaaaDoorDn1
set_option linter.unusedVariables false
namespace Go.Proofs.YtiacidpjplmgaaaDoorD

/-! ### Shapes of what goes into a call and comes out of it -/
inductive Sh where
  | d (t : Ty) (own : Option Nat)
  | ag (l : List Sh)
  | rb (l : List Sh)
  | bx (l : List Sh)
  | fv (f : Nat) (first caps : List Sh)
  | io (e : Nat) (t : Ty)
  | nl

mutual
def Sh.tys : Sh → List Ty
  | .d t _ => [t]
  | .ag l => tysL l
  | .rb l => tysL l
  | .bx l => tysL l
  | .fv _ a c => tysL a ++ tysL c
  | .io _ t => [.sl t]
  | .nl => []
def tysL : List Sh → List Ty
  | [] => []
  | s :: r => s.tys ++ tysL r
end
mutual
/-- Do the function values fit? -/
def Sh.fits : Sh → V → Bool
  | .fv f a c, .fn f' a' c' => match Nat.beq f f' with | true => (match fitsL a a' with | true => fitsL c c' | false => false) | false => false
  | .fv _ _ _, _ => false
  | .nl, .nil => true
  | .nl, _ => false
  | .rb l, .cptr vs _ => fitsL l vs
  | _, .fn _ _ _ => false
  | _, _ => true
def fitsL : List Sh → List V → Bool
  | [], [] => true
  | s :: r, v :: q => match s.fits v with | true => fitsL r q | false => false
  | _, _ => false
end

/-- A tuple of data. -/
abbrev RT : List Ty → Type
  | [] => Unit
  | [t] => t.D
  | t :: u :: r => t.D × RT (u :: r)
def ofRT : (ts : List Ty) → RT ts → List Leaf
  | [], _ => []
  | [t], x => [⟨t, x⟩]
  | t :: u :: r, x => ⟨t, x.1⟩ :: ofRT (u :: r) x.2
section
variable {α : Type}
def toRT : (ts : List Ty) → List Leaf → (RT ts → Option α) → Option α
  | [], l, K => match l with | [] => K () | _ => none
  | [t], l, K => match l with | [a] => castK a.t t a.x K | _ => none
  | t :: u :: r, l, K => match l with | a :: q => castK a.t t a.x fun x => toRT (u :: r) q fun y => K (x, y) | [] => none

/-- What a call takes: data, rows handed over, rows read, boxes read, boxes changed. -/
structure Pk where
  leaves : List Leaf
  kill : List Nat
  rds : List Nat
  rbs : List Nat
  bxs : List Nat
/-- No box to be changed lies within. -/
def Pk.flat (p : Pk) (K : Unit → Option α) : Option α := match p.bxs with | [] => K () | _ => none
def Pk.add (p q : Pk) : Pk := ⟨p.leaves ++ q.leaves, p.kill ++ q.kill, p.rds ++ q.rds, p.rbs ++ q.rbs, p.bxs ++ q.bxs⟩
def ownAs (h : Nat → Option Blk) (e : Nat) (t : Ty) (v : V) (K : t.D → List Nat → Option α) : Option α :=
  match v with
  | .nil => leafAs h t .nil K
  | .ref b => match h b with | some (.row e' t' xs) => (match Nat.beq e' e with | true => castK (.sl t') t xs fun y => K y [b] | false => none) | _ => none
  | .sub s b lo n => match Nat.beq lo 0 with
    | true => match h b with | some (.row e' t' xs) => (match Nat.beq e' e, Ty.beq t' s with | true, true => castK (.sl t') t (xs.take n) fun y => K y [b] | _, _ => none) | _ => none
    | false => none
  | _ => none
mutual
def Sh.pass (h : Nat → Option Blk) : Sh → V → (Pk → Option α) → Option α
  | .d t own, v, K => match own with
    | none => leafAs h t v fun x f => K ⟨[⟨t, x⟩], [], f, [], []⟩
    | some e => ownAs h e t v fun x f => K ⟨[⟨t, x⟩], f, [], [], []⟩
  | .ag l, v, K => match v with | .agg vs => passL h l vs K | _ => none
  | .rb l, v, K => match v with
    | .ptr b 0 => match h b with | some (.box vs) => passL h l vs fun p => p.flat fun _ => K (p.add ⟨[], [], [], [b], []⟩) | _ => none
    | .cptr vs 0 => passL h l vs fun p => p.flat fun _ => K p
    | _ => none
  | .bx l, v, K => match v with
    | .ptr b 0 => match h b with | some (.box vs) => passL h l vs fun p => p.flat fun _ => K (p.add ⟨[], [], [], [], [b]⟩) | _ => none
    | _ => none
  | .fv f a c, v, K => match v with
    | .fn f' a' c' => match Nat.beq f f' with | true => passL h a a' fun p => passL h c c' fun q => K (p.add q) | false => none
    | _ => none
  | .io e t, v, K => match v with
    | .ref b => match h b with | some (.row e' t' xs) => (match Nat.beq e' e with | true => castK (.sl t') (.sl t) xs fun (y : List t.D) => K ⟨[⟨.sl t, y⟩], [], [], [], [b]⟩ | false => none) | _ => none
    | _ => none
  | .nl, v, K => match v with | .nil => K ⟨[], [], [], [], []⟩ | _ => none
def passL (h : Nat → Option Blk) : List Sh → List V → (Pk → Option α) → Option α
  | [], vs, K => match vs with | [] => K ⟨[], [], [], [], []⟩ | _ => none
  | s :: r, vs, K => match vs with | v :: q => s.pass h v fun p => passL h r q fun p' => K (p.add p') | [] => none
end
end

/-- What comes in: values, the data left, the rows and boxes, the next free number. -/
structure In where
  v : V
  rest : List Leaf
  heap : Hp
  next : Nat
structure InL where
  vs : List V
  rest : List Leaf
  heap : Hp
  next : Nat
def inD (t : Ty) (own : Option Nat) (l : List Leaf) (n : Nat) : In :=
  match own, t with
  | some e, .sl _ => match l with
    | ⟨.sl t', xs⟩ :: r => ⟨.ref n, r, [(n, some (.row e t' xs))], n + 1⟩
    | _ => ⟨.undef, [], [], n + 1⟩
  | _, _ => match l with
    | a :: r => ⟨.val a.t a.x, r, [], n⟩
    | [] => ⟨.undef, [], [], n⟩
def inIo (e n : Nat) (l : List Leaf) : In :=
  match l with
  | ⟨.sl t', xs⟩ :: r => ⟨.ref n, r, [(n, some (.row e t' xs))], n + 1⟩
  | _ => ⟨.ref n, [], [], n + 1⟩
mutual
def Sh.inV : Sh → List Leaf → Nat → In
  | .d t own, l, n => inD t own l n
  | .ag s, l, n => let r := inVL s l n; ⟨.agg r.vs, r.rest, r.heap, r.next⟩
  | .rb s, l, n => let r := inVL s l n; ⟨.cptr r.vs 0, r.rest, r.heap, r.next⟩
  | .bx s, l, n => let r := inVL s l (n + 1); ⟨.ptr n 0, r.rest, (n, some (.box r.vs)) :: r.heap, r.next⟩
  | .fv f a c, l, n => let r := inVL a l n; let q := inVL c r.rest r.next; ⟨.fn f r.vs q.vs, q.rest, r.heap ++ q.heap, q.next⟩
  | .io e _, l, n => inIo e n l
  | .nl, l, n => ⟨.nil, l, [], n⟩
def inVL : List Sh → List Leaf → Nat → InL
  | [], l, n => ⟨[], l, [], n⟩
  | s :: r, l, n => let a := s.inV l n; let q := inVL r a.rest a.next; ⟨a.v :: q.vs, q.rest, a.heap ++ q.heap, q.next⟩
end
inductive Inout where
  | box (l : List Sh)
  | row (e : Nat) (t : Ty)
mutual
/-- The boxes and rows that may be changed, in order. -/
def Sh.bxs : Sh → List Inout
  | .bx l => [.box l]
  | .io e t => [.row e t]
  | .ag l => bxsL l
  | .fv _ a c => bxsL a ++ bxsL c
  | _ => []
def bxsL : List Sh → List Inout
  | [] => []
  | s :: r => s.bxs ++ bxsL r
end
def flatL : List Inout → List Sh
  | [] => []
  | .box l :: r => l ++ flatL r
  | .row e t :: r => .d (.sl t) (some e) :: flatL r

/-- A function's plain form. -/
structure FnSpec where
  ps : List Sh
  rs : List Sh
  f : RT (tysL ps) → Option (RT (tysL (rs ++ flatL (bxsL ps))))
abbrev Tbl := List (Nat × FnSpec)
def FnSpec.out (s : FnSpec) : List Sh := s.rs ++ flatL (bxsL s.ps)
/-- May the results lead to rows that went in to be read? -/
def leakD (t : Ty) (own : Option Nat) : Bool :=
  match own, t with
  | some _, .sl e => e.deep
  | some _, _ => false
  | none, t => t.deep
mutual
def Sh.leaks : Sh → Bool
  | .d t own => leakD t own
  | .ag l => leaksL l
  | .rb _ => true
  | .bx _ => true
  | .fv _ _ _ => true
  | .io _ _ => true
  | .nl => false
def leaksL : List Sh → Bool
  | [] => false
  | s :: r => match s.leaks with | true => true | false => leaksL r
end

def pick (tbl : Tbl) (f : Nat) (args : List V) : Option FnSpec :=
  match tbl with
  | [] => none
  | (g, s) :: r => match Nat.beq g f with
    | true => match fitsL s.ps args with | true => some s | false => pick r f args
    | false => pick r f args

section
variable {α : Type}
def putBoxes (oh : Hp) : List Nat → List Inout → List V → Hp
  | b :: bs, .box l :: ls, vs => putBoxes oh bs ls (vs.drop l.length) ++ [(b, some (.box (vs.take l.length)))]
  | b :: bs, .row _ _ :: ls, v :: vs => putBoxes oh bs ls vs ++ (match v with | .ref m => [(b, hget oh m), (m, none)] | _ => [])
  | _, _, _ => []
def rowRefs : List Inout → List V → List Nat
  | .box l :: ls, vs => rowRefs ls (vs.drop l.length)
  | .row _ _ :: ls, v :: vs => (match v with | .ref m => [m] | _ => []) ++ rowRefs ls vs
  | _, _ => []
def rowsOk (oh : Hp) : List Inout → List V → Bool
  | .box l :: ls, vs => rowsOk oh ls (vs.drop l.length)
  | .row _ _ :: ls, v :: vs => match v with | .ref m => (match hget oh m with | some _ => rowsOk oh ls vs | none => false) | _ => false
  | .row _ _ :: _, [] => false
  | [], _ => true
def killW : List Nat → Hp
  | [] => []
  | b :: r => (b, none) :: killW r
def nodup : List Nat → Bool
  | [] => true
  | a :: r => match r.any (Nat.beq a) with | true => false | false => nodup r
def retV : List V → V
  | [v] => v
  | vs => .tup vs
def callK (tbl : Tbl) (h : Nat → Option Blk) (fr : Nat) (f : Nat) (args : List V) (K : V → Hp → Option α) : Option α :=
  match pick tbl f args with
  | none => none
  | some s => passL h s.ps args fun p => toRT (tysL s.ps) p.leaves fun x =>
    match nodup (p.kill ++ p.bxs), (p.kill ++ p.bxs).any (fun b => (p.rds ++ p.rbs).any (Nat.beq b)), leaksL s.out && !p.rbs.isEmpty, Nat.beq p.bxs.length (bxsL s.ps).length && Nat.ble (inVL s.out [] fr).next (fr + 16) with
    | true, false, false, true => (s.f x).bind fun r =>
      let o := inVL s.out (ofRT (tysL s.out) r) fr
      match nodup (rowRefs (bxsL s.ps) (o.vs.drop s.rs.length)) && rowsOk o.heap (bxsL s.ps) (o.vs.drop s.rs.length) with
      | true => K (retV (o.vs.take s.rs.length)) (putBoxes o.heap p.bxs (bxsL s.ps) (o.vs.drop s.rs.length) ++ o.heap ++ (killW p.kill ++ (match leaksL s.out with | true => frzW h p.rds | false => [])))
      | false => none
    | _, _, _, _ => none

/-! ### Operations -/
mutual
def idsV : V → List Nat
  | .ref b => [b]
  | .sub _ b _ _ => [b]
  | .ptr b _ => [b]
  | .eptr _ b _ _ => [b]
  | .cptr vs _ => idsL vs
  | .agg l => idsL l
  | .tup l => idsL l
  | .fn _ a c => idsL a ++ idsL c
  | _ => []
def idsL : List V → List Nat
  | [] => []
  | v :: r => idsV v ++ idsL r
end
def idsB (h : Nat → Option Blk) (b : Nat) : List Nat := match h b with | some (.box vs) => idsL vs | _ => []
def within (h : Nat → Option Blk) (l : List Nat) : List Nat := l ++ l.flatMap (idsB h)
def rdIds (h : Nat → Option Blk) (g : Operand → V) : Op → List Nat
  | .load _ a => idsV (g a)
  | .store _ a v => idsV (g a) ++ idsV (g v)
  | .indexAddr _ x _ => idsV (g x)
  | .slice _ x _ _ _ => idsV (g x)
  | .convert _ _ x => idsV (g x)
  | .buildSlice _ _ ps => idsL (ps.toList.map fun p => g p.2)
  | .call c => match c.callee with
    | .value f => within h (idsV (g f) ++ idsL (c.args.toList.map g))
    | _ => idsL (c.args.toList.map g)
  | _ => []

def fillV (τ : TT) (fs : List Field) : List (Nat × V) → List V → (List V → Option α) → Option α
  | [], l, K => K l
  | (i, v) :: r, l, K => match fs[i]? with
    | none => none
    | some f => match get τ f.type with
      | none => none
      | some ti => match Nat.beq (parts v).length ti.size, Nat.ble (f.offset + ti.size) l.length, (parts v).all single with
        | true, true, true => fillV τ fs r (l.take f.offset ++ (parts v ++ l.drop (f.offset + ti.size))) K
        | _, _, _ => none
def buildRow (h : Nat → Option Blk) (t : Ty) : List (Nat × V) → (i : Nat) → (List t.D → List Nat → Option α) → Option α
  | [], _, K => K [] []
  | (j, v) :: r, i, K => match Nat.beq j i, (parts v).all single with
    | true, true => ofLeaves h t (parts v) fun x l f => match l with
      | [] => buildRow h t r (i + 1) fun xs f' => K (x :: xs) (f ++ f')
      | _ :: _ => none
    | _, _ => none
/-- Are the two pieces of one row, the first one its front? -/
def selfOf (s x : V) : Option (Nat × Nat × Nat × Nat) :=
  match s, x with
  | .sub _ b l i, .sub _ d lo m => match Nat.beq l 0, Nat.beq b d with | true, true => some (b, i, lo, m) | _, _ => none
  | _, _ => none
def sameTy (t : Ty) (s x : V) : Bool :=
  match s, x with
  | .sub a _ _ _, .sub b _ _ _ => match Ty.beq a t with | true => Ty.beq b t | false => false
  | _, _ => false
def selfK (h : Nat → Option Blk) (e : Nat) (t : Ty) (s x : V) (b i lo m : Nat) (K : V → Hp → Option α) : Option α :=
  match sameTy t s x with
  | false => none
  | true => match h b with
    | some (.row e' t' xs) => match Nat.beq e' e with
      | true => castK (.sl t') (.sl t) xs fun (xs : List t.D) => (selfApp i lo m).bind fun n => K (.sub t b 0 n) [(b, some (.row e t (lay xs i m ((xs.drop lo).take m))))]
      | false => none
    | _ => none
/-- Zeros behind nothing: append of a make. -/
def zerosK (τ : TT) (fr t t2 : Nat) (s x : V) (K : V → Hp → Option α) : Option α :=
  match get τ t, get τ t2, s, x with
  | some i, some i2, .nil, .val (.int _) n => match i.desc, i2.desc with
    | .slice e, .int _ => match get τ e with
      | some ei => (zer (limOf ei.bytes) n).bind fun m => K (.ref fr) [(fr, some (.row e ei.ty (List.replicate m ei.ty.dflt)))]
      | none => none
    | _, _ => none
  | _, _, _, _ => none
def appendK (τ : TT) (h : Nat → Option Blk) (fr : Nat) (ts : List Nat) (s x : V) (K : V → Hp → Option α) : Option α :=
  match ts with
  | [t, t2] => match Nat.beq t t2 with
   | false => zerosK τ fr t t2 s x K
   | true => match get τ t with
    | none => none
    | some i => match i.desc with
      | .slice e => match get τ e with
        | none => none
        | some ei => match selfOf s x with
          | some (b, j, lo, m) => selfK h e ei.ty s x b j lo m K
          | none => ownAs h e (.sl ei.ty) s fun xs k => leafAs h (.sl ei.ty) x fun ys f =>
            match f.any (fun b => k.any (Nat.beq b)) with
            | false => (app (limOf ei.bytes) xs ys).bind fun zs => K (.ref fr) ((fr, some (.row e ei.ty zs)) :: (killW k ++ (match ei.ty.deep with | true => frzW h f | false => [])))
            | true => none
      | _ => none
  | _ => none
/-- A piece of an own row: the row's number, from where, how many. -/
def pieceOf (h : Nat → Option Blk) (t : Ty) (v : V) (K : (b e lo n : Nat) → List t.D → Option α) : Option α :=
  match v with
  | .ref b => match h b with
    | some (.row e t' xs) => castK (.sl t') (.sl t) xs fun (y : List t.D) => K b e 0 y.length y
    | _ => none
  | .sub s b lo n => match Ty.beq s t with
    | true => match h b with
      | some (.row e t' xs) => castK (.sl t') (.sl t) xs fun (y : List t.D) => K b e lo n y
      | _ => none
    | false => none
  | _ => none
def clearK (τ : TT) (h : Nat → Option Blk) (t : Nat) (v : V) (K : V → Hp → Option α) : Option α :=
  match elemOf τ t with
  | none => none
  | some (_, ei) => match v with
    | .nil => K (.tup []) []
    | v => pieceOf h ei.ty v fun b e lo n xs => K (.tup []) [(b, some (.row e ei.ty (wipe xs lo n ei.ty.dflt)))]
def copyK (τ : TT) (h : Nat → Option Blk) (t : Nat) (d s : V) (K : V → Hp → Option α) : Option α :=
  match elemOf τ t with
  | none => none
  | some (_, ei) => match ei.ty.deep with
    | true => none
    | false => leafAs h (.sl ei.ty) s fun (ys : List ei.ty.D) _ => match d with
      | .nil => K (.val (.int .i64) (0 : Int)) []
      | d => pieceOf h ei.ty d fun b e lo n xs => K (.val (.int .i64) ((min ys.length n : Nat) : Int)) [(b, some (.row e ei.ty (lay xs lo n ys)))]
def moreK (b : Builtin) (args : List V) (K : V → Hp → Option α) : Option α :=
  match b, args with
  | .max, [.val (.int k) x, .val (.int k') y] => match Nat.beq (ikc k) (ikc k') with | true => K (.val (.int k) (max (x : Int) y)) [] | false => none
  | .min, [.val (.int k) x, .val (.int k') y] => match Nat.beq (ikc k) (ikc k') with | true => K (.val (.int k) (min (x : Int) y)) [] | false => none
  | _, _ => none
def builtinK (τ : TT) (h : Nat → Option Blk) (fr : Nat) (b : Builtin) (ts : List Nat) (args : List V) (K : V → Hp → Option α) : Option α :=
  match b with
  | .len => match ts, args with | [t], [x] => lenK τ h t x fun v => K v [] | _, _ => none
  | .append => match args with | [s, x] => appendK τ h fr ts s x K | _ => none
  | .clear => match ts, args with | [t], [x] => clearK τ h t x K | _, _ => none
  | .copy => match ts, args with | t :: _, [d, s] => copyK τ h t d s K | _, _ => none
  | .cap => match ts, args with | [t], [.nil] => (match elemOf τ t with | some _ => K (.val (.int .i64) (0 : Int)) [] | none => none) | _, _ => none
  | b => moreK b args K
def occ : TT → Nat → Nat
  | [], _ => 0
  | (k, _) :: r, t => match Nat.beq k t with | true => occ r t + 1 | false => occ r t
/-- Bytes of the call's own out of a text. -/
def bysOf (h : Nat → Option Blk) : V → Option (List Int)
  | .ref b => match h b with | some (.bys xs) => some xs | _ => none
  | _ => none
def strV : V → Option ByteArray
  | .val .str s => some s
  | _ => none
def convK (τ : TT) (h : Nat → Option Blk) (fr src dst : Nat) (x : V) (K : V → Hp → Option α) : Option α :=
  match get τ src, get τ dst with
  | some s, some d => match d.desc with
    | .int k => match x with
      | .val (.int _) n => K (.val (.int k) (k.wrap n)) []
      | _ => none
    | .slice e => match strV x, get τ e with
      | some s, some ei => match ei.desc with
        | .int .u8 => match Nat.blt 1 (occ τ dst) with
          | true => K (.ref fr) [(fr, some (.bys (bytesOf s)))]
          | false => K (.ref fr) [(fr, some (.frz (.int .u8) (bytesOf s)))]
        | _ => none
      | _, _ => none
    | .string => match strV x with
      | some s => K (.val .str s) []
      | none => match s.desc with
        | .slice e => match get τ e with
          | some ei => match ei.desc with
            | .int .u8 => match bysOf h x with
              | some xs => K (.val .str (ofBytes xs)) []
              | none => leafAs h (.sl (.int .u8)) x fun xs _ => K (.val .str (ofBytes xs)) []
            | _ => none
          | none => none
        | _ => none
    | _ => none
  | _, _ => none

def testK (v : V) (K : Bool → Option α) : Option α :=
  match v with
  | .prop p d => @ite _ p d (K true) (K false)
  | .val .bool b => cond b (K true) (K false)
  | _ => none
def opK (τ : TT) (tbl : Tbl) (fr : Nat) (g : Operand → V) (h : Nat → Option Blk) (op : Op) (K : V → Hp → Option α) : Option α :=
  match op with
  | .move x => K (g x) []
  | .assign x => K (g x) []
  | .pick c a b => testK (g c) fun t => match t with | true => K (g a) [] | false => K (g b) []
  | .alloc t => match get τ t with
    | some i => K (.ptr fr 0) [(fr, some (.box (zeros i.ty)))]
    | none => none
  | .box t x => match get τ t with
    | some i => match Nat.beq (parts (g x)).length i.size, (parts (g x)).all single with
      | true, true => K (.ptr fr 0) [(fr, some (.box (parts (g x))))]
      | _, _ => none
    | none => none
  | .build t ps => match get τ t with
    | some i => match i.desc with
      | .struct fs => match fs.toList.all (fun f => match get τ f.type with | some _ => true | none => false) with
        | false => none
        | true => fillV τ fs.toList (ps.toList.map fun p => (p.1, g p.2)) (zeros i.ty) fun l => K (.agg l) []
      | .array n e => match get τ e with
        | some ei => fillV τ (arrFs e ei.size n 0) (ps.toList.map fun p => (p.1, g p.2)) (zeros i.ty) fun l => K (.agg l) []
        | none => none
      | _ => none
    | none => none
  | .buildSlice t n ps => match get τ t with
    | some i => match i.desc with
      | .slice e => match get τ e with
        | some ei => match Nat.ble (n * ei.size) 16777216, Nat.beq ps.toList.length n with
          | true, true => buildRow h ei.ty (ps.toList.map fun p => (p.1, g p.2)) 0 fun xs f => K (.ref fr) ((fr, some (.row e ei.ty xs)) :: frzW h f)
          | _, _ => none
        | none => none
      | _ => none
    | none => none
  | .load t a => loadK τ h t (g a) fun v => K v []
  | .store t a x => storeK τ h t (g a) (g x) fun w => K (.tup []) w
  | .nilCheck x => match g x with
    | .ptr b o => K (.ptr b o) []
    | .eptr t b i o => K (.eptr t b i o) []
    | .rptr t y o => K (.rptr t y o) []
    | .cptr vs o => K (.cptr vs o) []
    | .fn f a c => K (.fn f a c) []
    | _ => none
  | .binOp op t x y _ => binK τ op t (g x) (g y) fun v => K v []
  | .unOp op _ x => unK op (g x) fun v => K v []
  | .convert s d x => convK τ h fr s d (g x) K
  | .makeFunc f a c => match f with
    | .func n => K (.fn n (a.toList.map g) (c.toList.map g)) []
    | _ => none
  | .makeSlice t l c => match get τ t, g l, g c with
    | some i, .val (.int _) n, .val (.int _) m => match i.desc with
      | .slice e => match get τ e with
        | some ei => (mkl (limOf ei.bytes) n m).bind fun z => K (.ref fr) [(fr, some (.row e ei.ty (List.replicate z ei.ty.dflt)))]
        | none => none
      | _ => none
    | _, _, _ => none
  | .slice t x lo hi mx => match mx with
    | none => sliceK τ h t (g x) (lo.map g) (hi.map g) fun v => K v []
    | some m => match lo, hi with
      | some i, some j => slice3K τ h t (g x) (g i) (g j) (g m) fun v => K v []
      | _, _ => none
  | .fieldAddr t x i => fieldAddrK τ t (g x) i fun v => K v []
  | .field t x i => fieldK τ t (g x) i fun v => K v []
  | .indexAddr t x i => indexAddrK τ h t (g x) (g i) fun v => K v []
  | .index t x i => indexK τ t (g x) (g i) fun v => K v []
  | .extract x i => match g x with
    | .tup l => match l[i]? with | some v => K v [] | none => none
    | _ => none
  | .call c => match c.callee with
    | .value f => match g f with
      | .fn n a cs => callK tbl h fr n (a ++ (c.args.toList.map g ++ cs)) K
      | _ => none
    | .builtin b => builtinK τ h fr b c.argTypes.toList (c.args.toList.map g) K
    | _ => none
  | _ => none

/-! ### Regions -/
def hr (h : Hp) (ids : List Nat) (b : Nat) : Option Blk := match ids.any (Nat.beq b) with | true => hget h b | false => none
structure Log where
  ts : List Nat
  rds : List Nat
  wrs : List Nat
def opTmps (o : Op) : List Nat := o.operands.toList.filterMap fun | .tmp t => some t | _ => none
def putE (e : List (Nat × V)) (d : Option Nat) (v : V) : List (Nat × V) := match d with | some t => (t, v) :: e | none => e
def dstOk (n : Nat) : Option Nat → Bool
  | some d => Nat.blt d n
  | none => true
def dstOf (ops : List Oper) (j : Nat) : Option Nat := match ops[j]? with | some o => o.dst | none => none
/-- The operations one behind the other; what each reads and writes. -/
def opsK (τ : TT) (tbl : Tbl) (nt : Nat) (all : List Oper) : List Oper → Nat → St → List Log → (St → List Log → Option α) → Option α
  | [], _, s, l, K => K s l
  | o :: r, i, s, l, K =>
    match dstOk nt o.dst with
    | false => none
    | true =>
      let go := fun (s : St) =>
        let ids := rdIds (hget s.heap) (opd s.env) o.op
        opK τ tbl (s.next + 16 * i) (opd s.env) (hr s.heap ids) o.op fun v w =>
          opsK τ tbl nt all r (i + 1) ⟨putE s.env o.dst v, w ++ s.heap, s.next⟩ (⟨opTmps o.op, ids, w.map (·.1)⟩ :: l) K
      match o.guard with
      | none => go s
      | some (j, want) => match dstOf all j with
        | none => none
        | some t =>
          let skip := fun (e : List (Nat × V)) => opsK τ tbl nt all r (i + 1) ⟨putE e o.dst (.tup []), s.heap, s.next⟩ (⟨[], [], []⟩ :: l) K
          match egetd s.env t with
          | .tup [] => skip s.env
          | v => testK v fun b =>
            match b == want with
            | true => go ⟨(t, .val .bool b) :: s.env, s.heap, s.next⟩
            | false => skip ((t, .val .bool b) :: s.env)
end

/-- For each operation the ones that stand ahead of it, as bits. -/
def aheads : List Oper → List Nat → List Nat
  | [], acc => acc
  | o :: r, acc => aheads r (acc ++ [o.after.toList.foldl (fun s e => match Region.binds .any e with | true => s ||| 2 ^ e.on ||| acc.getD e.on 0 | false => s) 0])
def meet (a b : List Nat) : Bool := a.any fun x => b.any (Nat.beq x)
def clash (a b : Log) : Bool := meet a.wrs b.wrs || meet a.wrs b.rds || meet a.rds b.wrs
/-- Operations that touch one row or box stand one behind the other: log i, ahead of all of l (from place k on). -/
def apart1 (ah : List Nat) (i : Nat) (a : Log) : Nat → List Log → Bool
  | _, [] => true
  | k, b :: r => match clash a b with
    | true => match (ah.getD k 0).testBit i with | true => apart1 ah i a (k + 1) r | false => false
    | false => apart1 ah i a (k + 1) r
def apartAll (ah : List Nat) : Nat → List Log → Bool
  | _, [] => true
  | i, a :: r => match apart1 ah i a (i + 1) r with | true => apartAll ah (i + 1) r | false => false
/-- The same for temporaries: who writes one stands behind or ahead of all others that name it. -/
def names (ops : List Oper) (o : Oper) : List Nat := opTmps o.op ++ o.dst.toList ++ (match o.guard with | some (j, _) => (dstOf ops j).toList | none => [])
def tmpApart1 (ah : List Nat) (i : Nat) (d n : List Nat) (all : List Oper) : Nat → List Oper → Bool
  | _, [] => true
  | k, o :: r => match meet d (names all o) || meet n o.dst.toList with
    | true => match (ah.getD k 0).testBit i with | true => tmpApart1 ah i d n all (k + 1) r | false => false
    | false => tmpApart1 ah i d n all (k + 1) r
def tmpApart (ah : List Nat) (all : List Oper) : Nat → List Oper → Bool
  | _, [] => true
  | i, o :: r => match tmpApart1 ah i o.dst.toList (names all o) all (i + 1) r with | true => tmpApart ah all (i + 1) r | false => false
def afterOk : Nat → List Oper → Bool
  | _, [] => true
  | i, o :: r => match o.after.toList.all (fun e => match Region.binds .any e with | true => Nat.blt e.on i | false => true) with | true => afterOk (i + 1) r | false => false
section
variable {α : Type}
def regK (τ : TT) (tbl : Tbl) (nt : Nat) (ops : List Oper) (draw : Bool) (s : St) (K : St → Option α) : Option α :=
  match draw with
  | false => opsK τ tbl nt ops ops 0 s [] fun s _ => K ⟨s.env, s.heap, s.next + 16 * ops.length⟩
  | true =>
    let ah := aheads ops []
    match tmpApart ah ops 0 ops, afterOk 0 ops with
    | true, true => opsK τ tbl nt ops ops 0 s [] fun s l => match apartAll ah 0 l.reverse with
      | true => K ⟨s.env, s.heap, s.next + 16 * ops.length⟩
      | false => none
    | _, _ => none

/-! ### What is kept at a head -/
inductive Nm where
  | rd (t : Ty)
  | own (e : Nat) (t : Ty) (n : Nat)
  | ag (l : List Nm)
  | bx (n : Nat) (l : List Nm)
  | fn (a k : List Nm)
  | fz (l : List Nm)
  | as
structure NmS where
  mp : List (Nat × Nat)
  us : List Nat
  rd : List Nat
  heap : Hp
mutual
def Nm.go (h : Nat → Option Blk) : Nm → V → NmS → (V → NmS → Option α) → Option α
  | .rd t, v, m, K => leafAs h t v fun x f => K (.val t x) ⟨m.mp, m.us, f ++ m.rd, m.heap⟩
  | .own e t n, v, m, K => match v with
    | .ref b => match get m.mp b with
      | some n' => match Nat.beq n n' with | true => K (.ref n) m | false => none
      | none => ownAs h e (.sl t) (.ref b) fun (y : List t.D) _ => K (.ref n) ⟨(b, n) :: m.mp, m.us, m.rd, (n, some (.row e t y)) :: m.heap⟩
    | .sub s b lo k => ownAs h e (.sl t) (.sub s b lo k) fun (y : List t.D) _ => K (.ref n) ⟨m.mp, b :: m.us, m.rd, (n, some (.row e t y)) :: m.heap⟩
    | .nil => K (.ref n) ⟨m.mp, m.us, m.rd, (n, some (.row e t [])) :: m.heap⟩
    | _ => none
  | .ag l, v, m, K => match v with | .agg vs => nmL h l vs m fun ws m => K (.agg ws) m | _ => none
  | .bx n l, v, m, K => match v with
    | .ptr b off => match get m.mp b with
      | some n' => match Nat.beq n n' with | true => K (.ptr n off) m | false => none
      | none => match h b with | some (.box vs) => nmL h l vs ⟨(b, n) :: m.mp, m.us, m.rd, m.heap⟩ fun ws m => K (.ptr n off) ⟨m.mp, m.us, m.rd, (n, some (.box ws)) :: m.heap⟩ | _ => none
    | _ => none
  | .fn la lk, v, m, K => match v with | .fn f a k => nmL h la a m fun wa m => nmL h lk k m fun wk m => K (.fn f wa wk) m | _ => none
  | .fz l, v, m, K => match v with
    | .ptr b off => match h b with | some (.box vs) => nmL h l vs m fun ws m => K (.cptr ws off) ⟨m.mp, m.us, b :: m.rd, m.heap⟩ | _ => none
    | .cptr vs off => nmL h l vs m fun ws m => K (.cptr ws off) m
    | _ => none
  | .as, v, m, K => match idsV v with | [] => K v m | _ => none
def nmL (h : Nat → Option Blk) : List Nm → List V → NmS → (List V → NmS → Option α) → Option α
  | [], vs, m, K => match vs with | [] => K [] m | _ => none
  | a :: r, vs, m, K => match vs with | v :: q => a.go h v m fun w m => nmL h r q m fun ws m => K (w :: ws) m | [] => none
end
abbrev Ann := List (Nat × Nm)
def annK (h : Nat → Option Blk) (e : List (Nat × V)) : Ann → NmS → (List (Nat × V) → NmS → Option α) → Option α
  | [], m, K => K [] m
  | (t, a) :: r, m, K => a.go h (egetd e t) m fun v m => annK h e r m fun l m => K ((t, v) :: l) m
def ltAll (n : Nat) : Hp → Bool
  | [] => true
  | (b, _) :: r => match Nat.blt b n with | true => ltAll n r | false => false
def distinct : Hp → Bool
  | [] => true
  | (b, _) :: r => match r.any (fun p => Nat.beq b p.1) with | true => false | false => distinct r
def norm (anns : List (Nat × Ann)) (bx : List Nat) (n : Nat) (s : St) (K : St → Option α) : Option α :=
  match get anns n with
  | none => none
  | some a => annK (hget s.heap) s.env a ⟨[], [], [], []⟩ fun e m =>
    let ow := m.mp.map (·.1) ++ m.us
    match ltAll 1000 m.heap, distinct m.heap, nodup ow && bx.all (fun d => match get m.mp d with | some n => Nat.beq n d | none => false), m.rd.any (fun b => ow.any (Nat.beq b)) with
    | true, true, true, false => K ⟨e, m.heap, 1000⟩
    | _, _, _, _ => none

/-! ### Code -/
inductive C where
  | skip
  | reg (id : Nat) (ops : Array Oper) (draw : Bool)
  | seq (a b : C)
  | cond (c : Operand) (a b : C)
  | block (id : Nat) (a : C)
  | loop (n : Nat) (a : C)
  | cut (n : Nat) (a : C)
  | exit (id : Nat)
  | ret
  | bad (c : Code)
def C.code : C → Code
  | .skip => .skip
  | .reg id ops d => .region id ops d
  | .seq a b => .seq a.code b.code
  | .cond c a b => .cond c a.code b.code
  | .block id a => .block id a.code
  | .loop _ a => .loop a.code
  | .cut _ a => a.code
  | .exit id => .exit id
  | .ret => .ret
  | .bad c => c
/-- The code with its loops and sequences numbered; cut behind those named. -/
def conv (cuts : List Nat) : Code → Nat → C × Nat
  | .skip, n => (.skip, n)
  | .region id ops d, n => (.reg id ops d, n)
  | .seq a b, n =>
    let x := conv cuts a (n + 1)
    let y := conv cuts b x.2
    (.seq x.1 (match cuts.any (Nat.beq n) with | true => .cut n y.1 | false => y.1), y.2)
  | .cond c a b, n => let x := conv cuts a n; let y := conv cuts b x.2; (.cond c x.1 y.1, y.2)
  | .block id a, n => let x := conv cuts a n; (.block id x.1, x.2)
  | .loop a, n => let x := conv cuts a (n + 1); (.loop n x.1, x.2)
  | .exit id, n => (.exit id, n)
  | .ret, n => (.ret, n)
  | c, n => (.bad c, n)

structure Cx where
  τ : TT
  tbl : Tbl
  nt : Nat
  anns : List (Nat × Ann)
  bx : List Nat
def evC (x : Cx) (orc : Nat → St → Option α) : C → St → (St → Option α) → (Nat → St → Option α) → (St → Option α) → Option α
  | .skip, s, Kn, _, _ => Kn s
  | .reg _ ops d, s, Kn, _, _ => regK x.τ x.tbl x.nt ops.toList d s Kn
  | .seq a b, s, Kn, Kx, Kr => evC x orc a s (fun s => evC x orc b s Kn Kx Kr) Kx Kr
  | .cond c a b, s, Kn, Kx, Kr => testK (opd s.env c) fun t => match t with | true => evC x orc a s Kn Kx Kr | false => evC x orc b s Kn Kx Kr
  | .block id a, s, Kn, Kx, Kr => evC x orc a s Kn (fun i s => match Nat.beq i id with | true => Kn s | false => Kx i s) Kr
  | .loop n _, s, _, _, _ => norm x.anns x.bx n s (orc n)
  | .cut n _, s, _, _, _ => norm x.anns x.bx n s (orc n)
  | .exit id, s, _, Kx, _ => Kx id s
  | .ret, s, _, _, Kr => Kr s
  | .bad _, _, _, _, _ => none
/-- One round from a head on. -/
def rest (x : Cx) (orc : Nat → St → Option α) (n : Nat) : C → (St → Option α) → (Nat → St → Option α) → (St → Option α) → Option (St → Option α)
  | .seq a b, Kn, Kx, Kr => match rest x orc n a (fun s => evC x orc b s Kn Kx Kr) Kx Kr with | some f => some f | none => rest x orc n b Kn Kx Kr
  | .cond _ a b, Kn, Kx, Kr => match rest x orc n a Kn Kx Kr with | some f => some f | none => rest x orc n b Kn Kx Kr
  | .block id a, Kn, Kx, Kr => rest x orc n a Kn (fun i s => match Nat.beq i id with | true => Kn s | false => Kx i s) Kr
  | .loop m a, Kn, Kx, Kr => match Nat.beq m n with
    | true => some fun s => evC x orc a s (fun s => norm x.anns x.bx m s (orc m)) Kx Kr
    | false => rest x orc n a (fun s => norm x.anns x.bx m s (orc m)) Kx Kr
  | .cut m a, Kn, Kx, Kr => match Nat.beq m n with
    | true => some fun s => evC x orc a s Kn Kx Kr
    | false => rest x orc n a Kn Kx Kr
  | _, _, _, _ => none

/-! ### Functions -/
def resV (τ : TT) (s : St) : List ResultVar → (List V → Option α) → Option α
  | [], K => K []
  | .tmp t :: r, K => resV τ s r fun vs => K (egetd s.env t :: vs)
  | .cell t ty :: r, K => loadK τ (hget s.heap) ty (egetd s.env t) fun v => resV τ s r fun vs => K (v :: vs)
def boxV (h : Nat → Option Blk) : List Nat → List Inout → (List V → Option α) → Option α
  | b :: bs, .row _ _ :: ls, K => match h b with
    | some (.row _ _ _) => boxV h bs ls fun q => K (.ref b :: q)
    | _ => none
  | b :: bs, .box l :: ls, K => match h b with
    | some (.box vs) => match Nat.beq vs.length l.length with | true => boxV h bs ls fun q => K (vs ++ q) | false => none
    | _ => none
  | [], [], K => K []
  | _, _, _ => none
/-- What a function that is over answers. -/
def finK (τ : TT) (res : List ResultVar) (bxs : List Nat) (ps rs : List Sh) (s : St) : Option (RT (tysL (rs ++ flatL (bxsL ps)))) :=
  resV τ s res fun vs => boxV (hget s.heap) bxs (bxsL ps) fun ws => passL (hget s.heap) (rs ++ flatL (bxsL ps)) (vs ++ ws) fun p =>
    match nodup p.kill, p.bxs, p.rbs, p.kill.any (fun b => p.rds.any (Nat.beq b)) with
    | true, [], [], false => toRT _ p.leaves some
    | _, _, _, _ => none
def number {β : Type} : Nat → List β → List (Nat × β)
  | _, [] => []
  | i, v :: r => (i, v) :: number (i + 1) r
end
mutual
def bxIds : List V → List Sh → List Nat
  | v :: r, s :: q => bxId v s ++ bxIds r q
  | _, _ => []
def bxId : V → Sh → List Nat
  | .ptr b _, .bx _ => [b]
  | .ref b, .io _ _ => [b]
  | .agg l, .ag s => bxIds l s
  | .fn _ a c, .fv _ a' c' => bxIds a a' ++ bxIds c c'
  | _, _ => []
end
structure FnText where
  code : C
  res : List ResultVar
  nt : Nat
  anns : List (Nat × Ann)
  ps : List Sh
  rs : List Sh
def FnText.init (F : FnText) (x : RT (tysL F.ps)) : InL := inVL F.ps (ofRT (tysL F.ps) x) 0
def FnText.st (F : FnText) (x : RT (tysL F.ps)) : St := let i := F.init x; ⟨number 0 i.vs, i.heap, 1000⟩
def FnText.bx (F : FnText) : List Nat := bxIds (inVL F.ps [] 0).vs F.ps
def FnText.fin (F : FnText) (τ : TT) : St → Option (RT (tysL (F.rs ++ flatL (bxsL F.ps)))) := finK τ F.res F.bx F.ps F.rs
def FnText.step (F : FnText) (τ : TT) (tbl : Tbl) (orc : Nat → St → Option (RT (tysL (F.rs ++ flatL (bxsL F.ps))))) (n : Nat) (s : St) : Option (RT (tysL (F.rs ++ flatL (bxsL F.ps)))) :=
  match rest ⟨τ, tbl, F.nt, F.anns, F.bx⟩ orc n F.code (F.fin τ) (fun _ _ => none) (F.fin τ) with
  | some f => f s
  | none => none
def FnText.run (F : FnText) (τ : TT) (tbl : Nat → Tbl) : Nat → Nat → St → Option (RT (tysL (F.rs ++ flatL (bxsL F.ps))))
  | 0, _, _ => none
  | k + 1, n, s => F.step τ (tbl k) (F.run τ tbl k) n s
def FnText.main (F : FnText) (τ : TT) (tbl : Tbl) (orc : Nat → St → Option (RT (tysL (F.rs ++ flatL (bxsL F.ps))))) (x : RT (tysL F.ps)) : Option (RT (tysL (F.rs ++ flatL (bxsL F.ps)))) :=
  evC ⟨τ, tbl, F.nt, F.anns, F.bx⟩ orc F.code (F.st x) (F.fin τ) (fun _ _ => none) (F.fin τ)
def FnText.ev (F : FnText) (τ : TT) (tbl : Nat → Tbl) (k : Nat) (x : RT (tysL F.ps)) : Option (RT (tysL (F.rs ++ flatL (bxsL F.ps)))) :=
  F.main τ (tbl k) (F.run τ tbl k) x
def bodyOf (f : Func) : Code := match f.body with | some c => c | none => .skip
end Go.Proofs.YtiacidpjplmgaaaDoorD
