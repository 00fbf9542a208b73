/- A machine that reckons states of the program by the kernel: its values, rows and states. Conditions: none; what it says of the model is proved elsewhere. The machine's reckoning, cells and stores. Conditions: none. The machine's operations, code and calls. Conditions: none. The evaluator's first state; arguments as they come. Conditions: none. -/
import GoSem.Step
import Derived.KernelRfl
set_option linter.unusedVariables false
namespace Go.Proofs.YtcajgbpcimimhaaGreatDoor.Vm
open Go

/-! ### Values: a tag, and what belongs to it -/
inductive X where
  | o
  | str (s : ByteArray)
  | slu (m j d : Nat)
  | vec (k j : Nat) (l : List Int)
  | vb (j : Nat) (l : List Bool)

structure V where
  t : Nat
  x : X
  l : List V
  d : Nat
  c : Nat
  b : Nat
  a : Nat

abbrev V.num (t a : Nat) : V := ⟨t, .o, [], 0, 0, 0, a⟩
abbrev V.nat (k n : Nat) : V := ⟨k, .o, [], 0, 0, 0, n⟩
abbrev V.bool (n : Nat) : V := ⟨16, .o, [], 0, 0, 0, n⟩
abbrev V.ptr (b o : Nat) : V := ⟨17, .o, [], 0, 0, b, o⟩
abbrev V.sl (b o n c : Nat) : V := ⟨23, .o, [], c, n, b, o⟩
abbrev V.slu (b o n m j d : Nat) : V := ⟨24, .slu m j d, [], 0, n, b, o⟩
abbrev V.undef : V := ⟨32, .o, [], 0, 0, 0, 0⟩
abbrev V.agg (l : List V) : V := ⟨31, .o, l, 0, 0, 0, 0⟩
abbrev V.tup (l : List V) : V := ⟨32, .o, l, 0, 0, 0, 0⟩
abbrev V.nils : V := ⟨19, .o, [], 0, 0, 0, 0⟩

instance : Inhabited V := ⟨.undef⟩

structure Bx where
  v : V

/-- so the answer is no -/
def bad (_ : Nat) : Bool := false

def fN (n : Nat) (k : Nat → Bool) : Bool := Nat.casesOn n (k 0) (fun m => k (Nat.succ m))
/-- is the number so? -/
def isN (n m : Nat) (t : Bool) (e : Bool) : Bool := Bool.casesOn (Nat.beq n m) e t

def kd : Nat → IntKind
  | 0 => .i8 | 1 => .i16 | 2 => .i32 | 3 => .i64 | 4 => .u8 | 5 => .u16 | 6 => .u32 | _ => .u64
def cd : IntKind → Nat
  | .i8 => 0 | .i16 => 1 | .i32 => 2 | .i64 => 3 | .u8 => 4 | .u16 => 5 | .u32 => 6 | .u64 => 7
/-- below this a natural number is of the kind -/
def bnd : Nat → Nat
  | 0 => 128 | 1 => 32768 | 2 => 2147483648 | 3 => 9223372036854775808 | 4 => 256 | 5 => 65536 | 6 => 4294967296 | _ => 18446744073709551616

def ofI (k : Nat) (i : Int) (c : V → Bool) : Bool := Int.casesOn i (fun n => fN n fun n => c (.nat k n)) (fun n => fN n fun n => c (.num (k + 8) n))
/-- a whole number of a value -/
def vInt (v : V) (f : Nat → Int → Bool) (e : Unit → Bool) : Bool :=
  Bool.casesOn (Nat.blt v.t 8) (Bool.casesOn (Nat.blt v.t 16) (e ()) (f (v.t - 8) (Int.negSucc v.a))) (f v.t (Int.ofNat v.a))

/-! ### Nodes of eight -/
structure N8 (α : Type) where
  a : α
  b : α
  c : α
  d : α
  e : α
  f : α
  g : α
  h : α
structure P8 (α : Type) where
  f : N8 α → α
def p8 {α : Type} : Nat → P8 α
  | 0 => ⟨N8.a⟩ | 1 => ⟨N8.b⟩ | 2 => ⟨N8.c⟩ | 3 => ⟨N8.d⟩ | 4 => ⟨N8.e⟩ | 5 => ⟨N8.f⟩ | 6 => ⟨N8.g⟩ | _ => ⟨N8.h⟩
structure D8 (α : Type) where
  f : N8 α → α → (N8 α → Bool) → Bool
def d8 {α : Type} : Nat → D8 α
  | 0 => ⟨fun n x k => N8.casesOn n fun _ b c d e f g h => k ⟨x, b, c, d, e, f, g, h⟩⟩
  | 1 => ⟨fun n x k => N8.casesOn n fun a _ c d e f g h => k ⟨a, x, c, d, e, f, g, h⟩⟩
  | 2 => ⟨fun n x k => N8.casesOn n fun a b _ d e f g h => k ⟨a, b, x, d, e, f, g, h⟩⟩
  | 3 => ⟨fun n x k => N8.casesOn n fun a b c _ e f g h => k ⟨a, b, c, x, e, f, g, h⟩⟩
  | 4 => ⟨fun n x k => N8.casesOn n fun a b c d _ f g h => k ⟨a, b, c, d, x, f, g, h⟩⟩
  | 5 => ⟨fun n x k => N8.casesOn n fun a b c d e _ g h => k ⟨a, b, c, d, e, x, g, h⟩⟩
  | 6 => ⟨fun n x k => N8.casesOn n fun a b c d e f _ h => k ⟨a, b, c, d, e, f, x, h⟩⟩
  | _ => ⟨fun n x k => N8.casesOn n fun a b c d e f g _ => k ⟨a, b, c, d, e, f, g, x⟩⟩

/-- three bits of a number, forced -/
def dg {β : Type} (x s : Nat) (k : Nat → β) : β := Nat.casesOn (Nat.land (Nat.shiftRight x s) 7) (k 0) (fun m => k (Nat.succ m))
/-! ### Rows: 512 cells, or 262144 -/
abbrev R1 := N8 Bx
abbrev R2 := N8 R1
abbrev R3 := N8 R2
abbrev R4 := N8 R3
abbrev R5 := N8 R4
abbrev R6 := N8 R5
def all8 {α : Type} (x : α) : N8 α := ⟨x, x, x, x, x, x, x, x⟩
def r1 (v : V) : R1 := all8 ⟨v⟩
def r2 (v : V) : R2 := all8 (r1 v)
def r3 (v : V) : R3 := all8 (r2 v)
def r6 (v : V) : R6 := all8 (all8 (all8 (r3 v)))
structure G3 where
  f : R3 → Bx
def g3 (x : Nat) : G3 := dg x 0 fun a => dg x 3 fun b => dg x 6 fun c => ⟨fun n => (p8 a).f ((p8 b).f ((p8 c).f n))⟩
structure S3 where
  f : R3 → V → (R3 → Bool) → Bool
def s3 (x : Nat) : S3 := dg x 0 fun a => dg x 3 fun b => dg x 6 fun c =>
  ⟨fun n v k => (d8 a).f ((p8 b).f ((p8 c).f n)) ⟨v⟩ fun l => (d8 b).f ((p8 c).f n) l fun l => (d8 c).f n l k⟩
structure G6 where
  f : R6 → Bx
def g6 (x : Nat) : G6 := dg x 9 fun a => dg x 12 fun b => dg x 15 fun c => dg x 0 fun a' => dg x 3 fun b' => dg x 6 fun c' =>
  ⟨fun n => (p8 a').f ((p8 b').f ((p8 c').f ((p8 a).f ((p8 b).f ((p8 c).f n)))))⟩
/-- the upper levels of a long row: a part of it becomes another one -/
def up6 (a b c : Nat) (n : R6) (l : R3) (k : R6 → Bool) : Bool := (d8 a).f ((p8 b).f ((p8 c).f n)) l fun l => (d8 b).f ((p8 c).f n) l fun l => (d8 c).f n l k
structure S6 where
  f : R6 → V → (R6 → Bool) → Bool
def s6 (x : Nat) : S6 := dg x 9 fun a => dg x 12 fun b => dg x 15 fun c =>
  ⟨fun n v k => (s3 (Nat.land x 511)).f ((p8 a).f ((p8 b).f ((p8 c).f n))) v fun l => up6 a b c n l k⟩
/-- sixty-four cells at once -/
structure S64 where
  f : R6 → R2 → (R6 → Bool) → Bool
def s64 (x : Nat) : S64 := dg x 6 fun a' => dg x 9 fun a => dg x 12 fun b => dg x 15 fun c =>
  ⟨fun n v k => (d8 a').f ((p8 a).f ((p8 b).f ((p8 c).f n))) v fun l => up6 a b c n l k⟩

/-! ### Slots: three levels of six -/
structure N6 (α : Type) where
  a : α
  b : α
  c : α
  d : α
  e : α
  f : α
abbrev Sl := N6 (N6 (N6 Bx))
/-- the slots, and the three values reckoned last that have none -/
structure Env where
  s : Sl
  a : V
  b : V
  c : V
def all6 {α : Type} (x : α) : N6 α := ⟨x, x, x, x, x, x⟩
def u3 : Env := ⟨all6 (all6 (all6 ⟨.undef⟩)), .undef, .undef, .undef⟩
structure P6 (α : Type) where
  f : N6 α → α
def p6 {α : Type} : Nat → P6 α
  | 0 => ⟨N6.a⟩ | 1 => ⟨N6.b⟩ | 2 => ⟨N6.c⟩ | 3 => ⟨N6.d⟩ | 4 => ⟨N6.e⟩ | _ => ⟨N6.f⟩
structure D6 (α : Type) where
  f : N6 α → α → (N6 α → Bool) → Bool
def d6 {α : Type} : Nat → D6 α
  | 0 => ⟨fun n x k => N6.casesOn n fun _ b c d e f => k ⟨x, b, c, d, e, f⟩⟩
  | 1 => ⟨fun n x k => N6.casesOn n fun a _ c d e f => k ⟨a, x, c, d, e, f⟩⟩
  | 2 => ⟨fun n x k => N6.casesOn n fun a b _ d e f => k ⟨a, b, x, d, e, f⟩⟩
  | 3 => ⟨fun n x k => N6.casesOn n fun a b c _ e f => k ⟨a, b, c, x, e, f⟩⟩
  | 4 => ⟨fun n x k => N6.casesOn n fun a b c d _ f => k ⟨a, b, c, d, x, f⟩⟩
  | _ => ⟨fun n x k => N6.casesOn n fun a b c d e _ => k ⟨a, b, c, d, e, x⟩⟩
/-- two levels at once -/
structure P66 where
  f : N6 (N6 Bx) → Bx
def p66a : Nat → P66
  | 0 => ⟨fun n => N6.a (N6.a n)⟩
  | 1 => ⟨fun n => N6.b (N6.a n)⟩
  | 2 => ⟨fun n => N6.c (N6.a n)⟩
  | 3 => ⟨fun n => N6.d (N6.a n)⟩
  | 4 => ⟨fun n => N6.e (N6.a n)⟩
  | _ => ⟨fun n => N6.f (N6.a n)⟩
def p66b : Nat → P66
  | 0 => ⟨fun n => N6.a (N6.b n)⟩
  | 1 => ⟨fun n => N6.b (N6.b n)⟩
  | 2 => ⟨fun n => N6.c (N6.b n)⟩
  | 3 => ⟨fun n => N6.d (N6.b n)⟩
  | 4 => ⟨fun n => N6.e (N6.b n)⟩
  | _ => ⟨fun n => N6.f (N6.b n)⟩
def p66c : Nat → P66
  | 0 => ⟨fun n => N6.a (N6.c n)⟩
  | 1 => ⟨fun n => N6.b (N6.c n)⟩
  | 2 => ⟨fun n => N6.c (N6.c n)⟩
  | 3 => ⟨fun n => N6.d (N6.c n)⟩
  | 4 => ⟨fun n => N6.e (N6.c n)⟩
  | _ => ⟨fun n => N6.f (N6.c n)⟩
def p66d : Nat → P66
  | 0 => ⟨fun n => N6.a (N6.d n)⟩
  | 1 => ⟨fun n => N6.b (N6.d n)⟩
  | 2 => ⟨fun n => N6.c (N6.d n)⟩
  | 3 => ⟨fun n => N6.d (N6.d n)⟩
  | 4 => ⟨fun n => N6.e (N6.d n)⟩
  | _ => ⟨fun n => N6.f (N6.d n)⟩
def p66e : Nat → P66
  | 0 => ⟨fun n => N6.a (N6.e n)⟩
  | 1 => ⟨fun n => N6.b (N6.e n)⟩
  | 2 => ⟨fun n => N6.c (N6.e n)⟩
  | 3 => ⟨fun n => N6.d (N6.e n)⟩
  | 4 => ⟨fun n => N6.e (N6.e n)⟩
  | _ => ⟨fun n => N6.f (N6.e n)⟩
def p66f : Nat → P66
  | 0 => ⟨fun n => N6.a (N6.f n)⟩
  | 1 => ⟨fun n => N6.b (N6.f n)⟩
  | 2 => ⟨fun n => N6.c (N6.f n)⟩
  | 3 => ⟨fun n => N6.d (N6.f n)⟩
  | 4 => ⟨fun n => N6.e (N6.f n)⟩
  | _ => ⟨fun n => N6.f (N6.f n)⟩
def p66 : Nat → Nat → P66
  | 0 => p66a
  | 1 => p66b
  | 2 => p66c
  | 3 => p66d
  | 4 => p66e
  | _ => p66f
/-- a number's digits by six, forced -/
def sx {β : Type} (n : Nat) (k : Nat → β) : β := Nat.casesOn n (k 0) (fun m => k (Nat.succ m))
/-- a static reader of slots -/
structure G where
  f : Env → Bx
def getter (i : Nat) : G := sx (Nat.mod i 6) fun a => sx (Nat.mod (Nat.div i 6) 6) fun b => sx (Nat.div i 36) fun c => ⟨fun e => (p66 b a).f ((p6 c).f (Env.s e))⟩
structure S where
  f : Env → V → (Env → Bool) → Bool
def setter (i : Nat) : S := sx (Nat.mod i 6) fun a => sx (Nat.mod (Nat.div i 6) 6) fun b => sx (Nat.div i 36) fun c =>
  ⟨fun e v k => Env.casesOn e fun e x y z => (d6 a).f ((p6 b).f ((p6 c).f e)) ⟨v⟩ fun l => (d6 b).f ((p6 c).f e) l fun l => (d6 c).f e l fun e => k ⟨e, x, y, z⟩⟩
def Env.push (e : Env) (v : V) (k : Env → Bool) : Bool := Env.casesOn e fun s a b _ => k ⟨s, v, a, b⟩
def Env.acc (e : Env) (i : Nat) (k : V → Bool) : Bool := Env.casesOn e fun _ a b c => Nat.casesOn i (k a) fun i => Nat.casesOn i (k b) fun _ => k c

/-! ### Objects, heaps, worlds -/
inductive Jp where
  | none
  | x (id : Nat)
  | r
structure Loo where
  m : Nat
  ex : Nat
  params : List Nat
  assign : Code
  body : Code
  defers : Nat
inductive Oth where
  | none
  | map (es : List (Nat × V))
  | loop (l : Loo) (e : Env) (st : Nat) (j : Jp)
  | marks
  | sit (s : ByteArray) (pos : Nat)
/-- an object: k: 0 none, 1 a row of at most 512 cells, 2 a longer one, 3 another thing; n: how many cells are known; w: 1: it may be written; p: 1: there may be more cells -/
structure Ob where
  k : Nat
  n : Nat
  w : Nat
  p : Nat
  s : R3
  l : R6
  o : Oth
def z3 : R3 := r3 .undef
def z6 : R6 := r6 .undef
abbrev Ob.no : Ob := ⟨0, 0, 0, 0, z3, z6, .none⟩
abbrev Ob.small (n w p : Nat) (s : R3) : Ob := ⟨1, n, w, p, s, z6, .none⟩
abbrev Ob.large (n w p : Nat) (l : R6) : Ob := ⟨2, n, w, p, z3, l, .none⟩
abbrev Ob.oth (o : Oth) : Ob := ⟨3, 0, 0, 0, z3, z6, o⟩
abbrev Hp := N8 (N8 (N8 (N8 (N8 Ob))))
def h0 : Hp := all8 (all8 (all8 (all8 (all8 .no))))
structure GH where
  f : Hp → Ob
def gH (x : Nat) : GH := dg x 0 fun a => dg x 3 fun b => dg x 6 fun c => dg x 9 fun d => dg x 12 fun e => ⟨fun n => (p8 a).f ((p8 b).f ((p8 c).f ((p8 d).f ((p8 e).f n))))⟩
structure SH where
  f : Hp → Ob → (Hp → Bool) → Bool
def sH (x : Nat) : SH := dg x 0 fun a => dg x 3 fun b => dg x 6 fun c => dg x 9 fun d => dg x 12 fun e =>
  ⟨fun n v k => (d8 a).f ((p8 b).f ((p8 c).f ((p8 d).f ((p8 e).f n)))) v fun l => (d8 b).f ((p8 c).f ((p8 d).f ((p8 e).f n))) l fun l =>
    (d8 c).f ((p8 d).f ((p8 e).f n)) l fun l => (d8 d).f ((p8 e).f n) l fun l => (d8 e).f n l k⟩

inductive Dd where
  | mark (r : Nat)
  | call (f : Nat) (args : List V)

structure W where
  h : Hp
  nx : Nat
  ms : List (List Bool)
  ds : List Dd
  r : Option Nat

inductive Ex where
  | n
  | x (id : Nat)
  | r

structure Rec where
  call : Nat → List V → W → (V → W → Bool) → Bool
  loop : Nat → Nat → Code → Env → W → (Ex → Env → W → Bool) → Bool
  round : Nat → List V → W → (V → W → Bool) → Bool

/-- what is done with slots and world, statically known -/
structure Tc where
  run : Rec → Env → W → (Ex → Env → W → Bool) → Bool
def Tc.bad (n : Nat) : Tc := ⟨fun _ _ _ _ => Vm.bad n⟩

end Go.Proofs.YtcajgbpcimimhaaGreatDoor.Vm
namespace Go.Proofs.YtcajgbpcimimhaaGreatDoor.Vm
open Go

/-- rows out of lists: eight by eight -/
def take8 {α β : Type} (d : α) (l : List α) (k : N8 α → List α → β) : β :=
  match l with
  | a :: b :: c :: x :: e :: f :: g :: h :: l => k ⟨a, b, c, x, e, f, g, h⟩ l
  | [] => k ⟨d, d, d, d, d, d, d, d⟩ []
  | [a] => k ⟨a, d, d, d, d, d, d, d⟩ []
  | [a, b] => k ⟨a, b, d, d, d, d, d, d⟩ []
  | [a, b, c] => k ⟨a, b, c, d, d, d, d, d⟩ []
  | [a, b, c, x] => k ⟨a, b, c, x, d, d, d, d⟩ []
  | [a, b, c, x, e] => k ⟨a, b, c, x, e, d, d, d⟩ []
  | [a, b, c, x, e, f] => k ⟨a, b, c, x, e, f, d, d⟩ []
  | [a, b, c, x, e, f, g] => k ⟨a, b, c, x, e, f, g, d⟩ []
/-- n: how many at most are still to be taken, by eights -/
def pack8 {α β : Type} (d : α) : Nat → List α → (List (N8 α) → β) → β
  | 0, _, k => k []
  | n + 1, l, k => match l with
    | [] => k []
    | _ => take8 d l fun a l => pack8 d n l fun r => k (a :: r)

def somes {α β : Type} : List α → (List (Option α) → β) → β
  | [], k => k []
  | a :: l, k => somes l fun r => k (some a :: r)
/-- a table of at most 512 -/
abbrev Tb (α : Type) := N8 (N8 (N8 (Option α)))
def tbOf {α : Type} (l : List α) : Tb α := somes l fun l => pack8 none 64 l fun l => pack8 (all8 none) 8 l fun l => take8 (all8 (all8 none)) l fun t _ => t
def tbAt {α : Type} (t : Tb α) (x : Nat) : Option α := Bool.casesOn (Nat.blt x 512) none (dg x 0 fun a => dg x 3 fun b => dg x 6 fun c => (p8 a).f ((p8 b).f ((p8 c).f t)))
def tyTb (P : Program) : Tb TypeInfo := tbOf P.types.toList
def fnTb (P : Program) : Tb Func := tbOf P.funcs.toList
def infoF (P : Program) (t : Nat) : Option TypeInfo := tbAt (tyTb P) t
def fnF (P : Program) (f : Nat) : Option Func := tbAt (fnTb P) f
def undF (P : Program) (t : Nat) : Option TypeDesc :=
  match infoF P t with
  | some i => match i.desc with
    | .named _ u => match infoF P u with
      | some j => some j.desc
      | none => none
    | d => some d
  | none => none
/-! ### Types -/
def isAggD : TypeDesc → Bool
  | .struct _ => true
  | .array _ _ => true
  | _ => false
def sizeT (P : Program) (t : Nat) : Nat := match infoF P t with
  | some i => i.size
  | none => 0
def aggT (P : Program) (t : Nat) : Bool := match undF P t with
  | some d => isAggD d
  | none => false
/-- a value without places -/
def ofV : Value → Option V
  | .bool b => some (.bool (Bool.casesOn b 0 1))
  | .int k n => some (Int.casesOn n (fun n => .nat (cd k) n) (fun n => .num (cd k + 8) n))
  | .string s => some ⟨27, .str s, [], 0, 0, 0, 0⟩
  | .pointer none => some (.num 18 0)
  | .slice none 0 0 => some .nils
  | .map none => some (.num 20 0)
  | .nilFunc => some (.num 21 0)
  | .nilIface => some (.num 22 0)
  | .func (.func f) ⟨[]⟩ ⟨[]⟩ => some (.num 33 f)
  | .tuple ⟨[]⟩ => some .undef
  | _ => none
def ofVs : List Value → Option (List V)
  | [] => some []
  | v :: l => match ofV v, ofVs l with
    | some u, some r => Bool.casesOn (Nat.beq u.t 32) (some (u :: r)) none
    | _, _ => none
def zeroL (P : Program) (t : Nat) : Option (List V) :=
  match infoF P t with
  | some i => match i.zero with
    | some z => ofVs z.cells.toList
    | none => none
  | none => none
/-- the place of a field, and its size -/
def fieldOf (P : Program) (s f : Nat) : Option (Nat × Nat × Bool) :=
  match undF P s with
  | some (.struct fs) => match fs.toList[f]? with
    | some fd => match undF P fd.type with
      | some d => some (fd.offset, sizeT P fd.type, isAggD d)
      | none => none
    | none => none
  | _ => none

/-! ### Where operands come from -/
inductive Src where
  | env (i : Nat)
  | acc (i : Nat)
  | con (v : V)
  | off (s : Src) (n : Nat)
structure Gk where
  run : Env → (V → Bool) → Bool
def ptrK (v : V) (k : Nat → Nat → Bool) : Bool := V.casesOn v fun t _ _ _ _ b a => isN t 17 (k b a) (bad 1)
def vA (v : V) (k : Nat → Bool) : Bool := V.casesOn v fun _ _ _ _ _ _ a => k a
def vBA (v : V) (k : Nat → Nat → Bool) : Bool := V.casesOn v fun _ _ _ _ _ b a => k b a
def srcK : Src → Gk
  | .env i => ⟨fun e k => Bx.casesOn ((getter i).f e) k⟩
  | .acc 0 => ⟨fun e k => Env.casesOn e fun _ a _ _ => k a⟩
  | .acc 1 => ⟨fun e k => Env.casesOn e fun _ _ b _ => k b⟩
  | .acc _ => ⟨fun e k => Env.casesOn e fun _ _ _ c => k c⟩
  | .con v => ⟨fun _ k => k v⟩
  | .off s n => ⟨fun e k => (srcK s).run e fun v => ptrK v fun b a => fN (Nat.add a n) fun o => k (.ptr b o)⟩
def Gk.no : Gk := ⟨fun _ _ => bad 3⟩
def srcO : Option Src → Gk
  | some s => srcK s
  | none => .no
structure Gl where
  run : Env → (List V → Bool) → Bool
def srcL : List (Option Src) → Gl
  | [] => ⟨fun _ k => k []⟩
  | x :: l => ⟨fun e k => (srcO x).run e fun v => (srcL l).run e fun r => k (v :: r)⟩

/-- what takes a value on -/
structure Fv where
  run : Rec → Env → W → (Ex → Env → W → Bool) → V → Bool

/-! ### Reckoning -/
/-- whole numbers by the model's own rules -/
def intR (op : BinOp) (k : Nat) (a b : Int) : Option (Int ⊕ Bool) :=
  match op with
  | .add => some (.inl ((kd k).wrap (a + b)))
  | .sub => some (.inl ((kd k).wrap (a - b)))
  | .mul => some (.inl ((kd k).wrap (a * b)))
  | .quo => if b = 0 then none else some (.inl ((kd k).wrap (a.tdiv b)))
  | .rem => if b = 0 then none else some (.inl (a.tmod b))
  | .and => some (.inl ((kd k).wrap (BitVec.ofInt (kd k).bits a &&& BitVec.ofInt (kd k).bits b).toNat))
  | .or => some (.inl ((kd k).wrap (BitVec.ofInt (kd k).bits a ||| BitVec.ofInt (kd k).bits b).toNat))
  | .xor => some (.inl ((kd k).wrap (BitVec.ofInt (kd k).bits a ^^^ BitVec.ofInt (kd k).bits b).toNat))
  | .andNot => some (.inl ((kd k).wrap (BitVec.ofInt (kd k).bits a &&& ~~~ BitVec.ofInt (kd k).bits b).toNat))
  | .shl => if b < 0 then none else some (.inl ((kd k).wrap (a * 2 ^ (min b.toNat (kd k).bits))))
  | .shr => if b < 0 then none else some (.inl (a.fdiv (2 ^ (min b.toNat (kd k).bits))))
  | .eql => some (.inr (a == b))
  | .neq => some (.inr (a != b))
  | .lss => some (.inr (decide (a < b)))
  | .leq => some (.inr (decide (a ≤ b)))
  | .gtr => some (.inr (decide (a > b)))
  | .geq => some (.inr (decide (a ≥ b)))
def isShift : BinOp → Bool
  | .shl | .shr => true
  | _ => false
def retB (b : Bool) (c : V → Bool) : Bool := Bool.casesOn b (c (.bool 0)) (c (.bool 1))
def fI (i : Int) (c : Int → Bool) : Bool := Int.casesOn i (fun n => fN n fun n => c (.ofNat n)) (fun n => fN n fun n => c (.negSucc n))
/-- a string's bytes -/
def strK (v : V) (k : ByteArray → Bool) : Bool := match v.x with
  | .str s => isN v.t 27 (k s) (bad 71)
  | _ => bad 71
/-- a row of numbers by an input -/
def vecK (v : V) (k : Nat → Nat → List Int → Bool) (e : Unit → Bool) : Bool := match v.x with
  | .vec kk j l => isN v.t 28 (k kk j l) (bad 72)
  | _ => e ()
/-- a row of truths by an input -/
def vbK (v : V) (k : Nat → List Bool → Bool) : Bool := match v.x with
  | .vb j l => isN v.t 29 (k j l) (bad 73)
  | _ => bad 73
/-- rows of whole numbers, each reckoned; the answer forced -/
def vecR (op : BinOp) (k : Nat) : List Int → List Int → (List Int → List Bool → Bool) → Bool
  | a :: l, b :: r, c => match intR op k a b with
    | some (.inl i) => fI i fun i => vecR op k l r fun is bs => c (i :: is) bs
    | some (.inr b) => Bool.casesOn b (vecR op k l r fun is bs => c is (false :: bs)) (vecR op k l r fun is bs => c is (true :: bs))
    | none => bad 4
  | _, _, c => c [] []
def vecV (k j : Nat) (l : List Int) : V := ⟨28, .vec k j l, [], 0, 0, 0, 0⟩
def vbV (j : Nat) (l : List Bool) : V := ⟨29, .vb j l, [], 0, 0, 0, 0⟩
def eqI (a b : Int) : Bool := Int.casesOn a (fun n => Int.casesOn b (fun m => Nat.beq n m) (fun _ => false)) (fun n => Int.casesOn b (fun _ => false) (fun m => Nat.beq n m))
def allI (a : Int) : List Int → Bool
  | [] => true
  | b :: l => Bool.casesOn (eqI a b) false (allI a l)
def allB : List Bool → Bool
  | [] => true
  | b :: l => Bool.casesOn b false (allB l)
def noneB : List Bool → Bool
  | [] => true
  | b :: l => Bool.casesOn b (noneB l) false
/-- a row of truths: one truth, if they are all the same -/
def vbC (j : Nat) (bs : List Bool) (c : V → Bool) : Bool := Bool.casesOn (allB bs) (Bool.casesOn (noneB bs) (c (vbV j bs)) (c (.bool 0))) (c (.bool 1))
def vecN (k j : Nat) (is : List Int) (c : V → Bool) : Bool := match is with
  | [] => bad 300
  | a :: l => Bool.casesOn (allI a l) (c (vecV k j is)) (ofI k a c)
def vecC (op : BinOp) (k j : Nat) (l r : List Int) (c : V → Bool) : Bool :=
  vecR op k l r fun is bs => match is with
    | [] => vbC j bs c
    | _ => vecN k j is c
def wrapL (k : Nat) : List Int → (List Int → Bool) → Bool
  | [], c => c []
  | a :: l, c => fI ((kd k).wrap a) fun a => wrapL k l fun r => c (a :: r)
def maskVec (d b j : Nat) (c : V → Bool) : Bool := Nat.casesOn d
  (match b with
  | 7 => c (vecV 3 j [0, 1, 2, 3, 4, 5, 6, 7])
  | 3 => c (vecV 3 j [0, 1, 2, 3])
  | 31 => c (vecV 3 j ((List.range 32).map Int.ofNat))
  | 1023 => c (vecV 3 j ((List.range 1024).map Int.ofNat))
  | _ => bad 5) fun s => c (.nat 3 s)
def slowInt (op : BinOp) (v1 v2 : V) (c : V → Bool) : Bool :=
  vInt v1 (fun k a => vInt v2 (fun k' b => Bool.casesOn (isShift op || Nat.beq k k') (bad 6) (match intR op k a b with
      | some (.inl i) => ofI k i c
      | some (.inr b) => retB b c
      | none => bad 7))
    (fun _ => vecK v2 (fun k' j r => Bool.casesOn (isShift op || Nat.beq k k') (bad 8) (vecC op k j (List.replicate r.length a) r c)) fun _ => bad 9))
  (fun _ => vecK v1 (fun k j l => vInt v2 (fun k' b => Bool.casesOn (isShift op || Nat.beq k k') (bad 10) (vecC op k j l (List.replicate l.length b) c))
      (fun _ => vecK v2 (fun k' j' r => Bool.casesOn ((isShift op || Nat.beq k k') && Nat.beq j j' && Nat.beq l.length r.length) (bad 11) (vecC op k j l r c)) fun _ => bad 12))
    fun _ => Bool.casesOn (Nat.beq v1.t 36 && Nat.beq v2.t 3 && Nat.beq v1.c v2.a) (bad 13) (match op with
        | .and => maskVec v1.d v2.a v1.a c
        | _ => bad 14))

structure Fi where
  run : Rec → Env → W → (Ex → Env → W → Bool) → V → V → Bool
def slowC (op : BinOp) (fin : Fv) : Fi := ⟨fun rec e w k v1 v2 => slowInt op v1 v2 fun v => fin.run rec e w k v⟩
/-- two natural numbers of a kind; the answer below a bound -/
def nat2 (kk bd : Nat) (f : Nat → Nat → Nat) (op : BinOp) (x y : Gk) (fin : Fv) : Tc :=
  let kkk := 65 * kk
  ⟨fun rec e w k => x.run e fun v1 => y.run e fun v2 => Bool.casesOn (Nat.beq (Nat.add (Nat.mul 64 v1.t) v2.t) kkk) ((slowC op fin).run rec e w k v1 v2)
    (fN (f v1.a v2.a) fun r => Bool.casesOn (Nat.blt r bd) ((slowC op fin).run rec e w k v1 v2) (fin.run rec e w k (.nat kk r)))⟩
/-- the same where a condition holds -/
def nat2c (kk bd : Nat) (f : Nat → Nat → Nat) (g : Nat → Nat → Bool) (op : BinOp) (x y : Gk) (fin : Fv) : Tc :=
  let kkk := 65 * kk
  ⟨fun rec e w k => x.run e fun v1 => y.run e fun v2 => Bool.casesOn (Bool.casesOn (Nat.beq (Nat.add (Nat.mul 64 v1.t) v2.t) kkk) false (g v1.a v2.a)) ((slowC op fin).run rec e w k v1 v2)
    (fN (f v1.a v2.a) fun r => Bool.casesOn (Nat.blt r bd) ((slowC op fin).run rec e w k v1 v2) (fin.run rec e w k (.nat kk r)))⟩
/-- how many bits -/
def bitN : Nat → Nat
  | 0 => 8 | 1 => 16 | 2 => 32 | 3 => 64 | 4 => 8 | 5 => 16 | 6 => 32 | _ => 64
/-- a shift: the other one's kind plays no part -/
def natSh (kk bd lim : Nat) (f : Nat → Nat → Nat) (op : BinOp) (x y : Gk) (fin : Fv) : Tc :=
  ⟨fun rec e w k => x.run e fun v1 => y.run e fun v2 => Bool.casesOn (Bool.casesOn (Nat.beq v1.t kk) false (Bool.casesOn (Nat.blt v2.t 8) false (Nat.ble v2.a lim))) ((slowC op fin).run rec e w k v1 v2)
    (fN (f v1.a v2.a) fun r => Bool.casesOn (Nat.blt r bd) ((slowC op fin).run rec e w k v1 v2) (fin.run rec e w k (.nat kk r)))⟩
/-- a comparison: 0 or 1 -/
def natCmp (kk : Nat) (f : Nat → Nat → Nat) (op : BinOp) (x y : Gk) (fin : Fv) : Tc :=
  let kkk := 65 * kk
  ⟨fun rec e w k => x.run e fun v1 => y.run e fun v2 => Bool.casesOn (Nat.beq (Nat.add (Nat.mul 64 v1.t) v2.t) kkk) ((slowC op fin).run rec e w k v1 v2)
    (fN (f v1.a v2.a) fun r => fin.run rec e w k (.bool r))⟩
def leN (a b : Nat) : Nat := Nat.sub 1 (Nat.sub a b)
def ltN (a b : Nat) : Nat := Nat.sub 1 (Nat.sub (Nat.succ a) b)
def neN (a b : Nat) : Nat := Nat.sub 1 (Nat.sub 1 (Nat.add (Nat.sub a b) (Nat.sub b a)))
def eqN (a b : Nat) : Nat := Nat.sub 1 (Nat.add (Nat.sub a b) (Nat.sub b a))
def both (bd a b : Nat) : Bool := Bool.casesOn (Nat.blt a bd) false (Nat.blt b bd)
def binI (op : BinOp) (k bd : Nat) (x y : Gk) (fin : Fv) : Tc :=
  match op with
  | .add => nat2 k bd Nat.add op x y fin
  | .sub => nat2c k bd Nat.sub (fun a b => Nat.ble b a) op x y fin
  | .mul => nat2 k bd Nat.mul op x y fin
  | .quo => nat2c k bd Nat.div (fun _ b => Nat.blt 0 b) op x y fin
  | .rem => nat2c k bd Nat.mod (fun _ b => Nat.blt 0 b) op x y fin
  | .and => nat2c k bd Nat.land (both bd) op x y fin
  | .or => nat2c k bd Nat.lor (both bd) op x y fin
  | .xor => nat2c k bd Nat.xor (both bd) op x y fin
  | .andNot => ⟨fun rec e w k => x.run e fun v1 => y.run e fun v2 => (slowC op fin).run rec e w k v1 v2⟩
  | .shl => natSh k bd (bitN k) Nat.shiftLeft op x y fin
  | .shr => natSh k bd (bitN k) Nat.shiftRight op x y fin
  | .eql => natCmp k eqN op x y fin
  | .neq => natCmp k neN op x y fin
  | .lss => natCmp k ltN op x y fin
  | .leq => natCmp k leN op x y fin
  | .gtr => natCmp k (fun a b => ltN b a) op x y fin
  | .geq => natCmp k (fun a b => leN b a) op x y fin
/-- a value out of two, the world as it is -/
def pure2 (x y : Gk) (f : V → V → (V → Bool) → Bool) (fin : Fv) : Tc := ⟨fun rec e w k => x.run e fun v1 => y.run e fun v2 => f v1 v2 fun u => fin.run rec e w k u⟩
def pure1 (x : Gk) (f : V → (V → Bool) → Bool) (fin : Fv) : Tc := ⟨fun rec e w k => x.run e fun v => f v fun u => fin.run rec e w k u⟩
def pure0 (v : V) (fin : Fv) : Tc := ⟨fun rec e w k => fin.run rec e w k v⟩
def strB (op : BinOp) (v1 v2 : V) (c : V → Bool) : Bool :=
  strK v1 fun a => strK v2 fun b => match op with
    | .eql => retB (a.toList == b.toList) c
    | .neq => retB (!(a.toList == b.toList)) c
    | _ => bad 15
def boolB (op : BinOp) (v1 v2 : V) (c : V → Bool) : Bool :=
  isN v1.t 16 (isN v2.t 16 (match op with
    | .eql => fN (eqN (Nat.sub 1 v1.a) (Nat.sub 1 v2.a)) fun r => c (.bool r)
    | .neq => fN (neN (Nat.sub 1 v1.a) (Nat.sub 1 v2.a)) fun r => c (.bool r)
    | _ => bad 17) (bad 18)) (bad 19)

/-! ### Cells -/
def boxes : List V → (List Bx → Bool) → Bool
  | [], k => k []
  | v :: l, k => boxes l fun r => k (⟨v⟩ :: r)
/-- a row of a list of at most 512 -/
def row3 (l : List V) (k : R3 → Bool) : Bool :=
  boxes l fun l => pack8 ⟨.undef⟩ 64 l fun l => match l with
    | [a] => k ⟨⟨a, r1 .undef, r1 .undef, r1 .undef, r1 .undef, r1 .undef, r1 .undef, r1 .undef⟩, r2 .undef, r2 .undef, r2 .undef, r2 .undef, r2 .undef, r2 .undef, r2 .undef⟩
    | l => pack8 (r1 .undef) 8 l fun l => take8 (r2 .undef) l fun t _ => k t
/-- sixty-four cells -/
def row2 (l : List V) (k : R2 → Bool) : Bool := boxes l fun l => pack8 ⟨.undef⟩ 8 l fun l => take8 (r1 .undef) l fun t _ => k t
def okRow (o : Ob) (i : Nat) : Bool := Nat.blt i o.n
/-- a cell of an object -/
def cellOf (o : Ob) (i : Nat) (k : V → Bool) : Bool :=
  Bool.casesOn (Nat.blt i o.n) (bad 20) (isN o.k 1 (Bx.casesOn ((g3 i).f o.s) k) (isN o.k 2 (Bx.casesOn ((g6 i).f o.l) k) (bad 20)))
def cellAt (h : Hp) (b i : Nat) (k : V → Bool) : Bool := cellOf ((gH b).f h) i k
def cells3 (s : R3) : Nat → Nat → (List V → Bool) → Bool
  | 0, _, k => k []
  | n + 1, i, k => Bx.casesOn ((g3 i).f s) fun v => fN (Nat.succ i) fun i => cells3 s n i fun l => k (v :: l)
def cells6 (s : R6) : Nat → Nat → (List V → Bool) → Bool
  | 0, _, k => k []
  | n + 1, i, k => Bx.casesOn ((g6 i).f s) fun v => fN (Nat.succ i) fun i => cells6 s n i fun l => k (v :: l)
def cellsOf (o : Ob) (i n : Nat) (k : List V → Bool) : Bool :=
  Bool.casesOn (Nat.ble (Nat.add i n) o.n) (bad 21) (isN o.k 1 (cells3 o.s n i k) (isN o.k 2 (cells6 o.l n i k) (bad 21)))
def cellsAt (h : Hp) (b i n : Nat) (k : List V → Bool) : Bool := Nat.casesOn n (k []) fun n' => cellsOf ((gH b).f h) i (Nat.succ n') k
def set3s : List V → R3 → Nat → (R3 → Bool) → Bool
  | [], t, _, k => k t
  | v :: l, t, i, k => (s3 i).f t v fun t => fN (Nat.succ i) fun i => set3s l t i k
def set6s : List V → R6 → Nat → (R6 → Bool) → Bool
  | [], t, _, k => k t
  | v :: l, t, i, k => (s6 i).f t v fun t => fN (Nat.succ i) fun i => set6s l t i k
/-- cells laid into an object that may be written -/
def storeOb (o : Ob) (i : Nat) (l : List V) (k : Ob → Bool) : Bool :=
  Ob.casesOn o fun kk n wr sp s r _ => isN wr 1 (Bool.casesOn (Nat.ble (Nat.add i l.length) n) (bad 22)
    (isN kk 1 (set3s l s i fun s => k (.small n 1 sp s)) (isN kk 2 (Bool.casesOn (Nat.beq (Nat.land i 63) 0 && Nat.beq l.length 64) (set6s l r i fun r => k (.large n 1 sp r)) (row2 l fun q => (s64 i).f r q fun r => k (.large n 1 sp r))) (bad 23)))) (bad 24)
def W.withH (w : W) (h : Hp) (k : W → Bool) : Bool := W.casesOn w fun _ nx ms ds r => k ⟨h, nx, ms, ds, r⟩
def storeAt (w : W) (b i : Nat) (l : List V) (k : W → Bool) : Bool :=
  W.casesOn w fun h nx ms ds r => storeOb ((gH b).f h) i l fun o => (sH b).f h o fun h => k ⟨h, nx, ms, ds, r⟩
/-- a new object -/
def W.new (w : W) (o : Ob) (k : Nat → W → Bool) : Bool :=
  W.casesOn w fun h nx ms ds r => Bool.casesOn (Nat.blt nx 32768) (bad 410) ((sH nx).f h o fun h => fN (Nat.succ nx) fun nx' => k nx ⟨h, nx', ms, ds, r⟩)
def W.fresh (w : W) (k : Nat → W → Bool) : Bool :=
  W.casesOn w fun h nx ms ds r => Bool.casesOn (Nat.blt nx 32768) (bad 411) (fN (Nat.succ nx) fun nx' => k nx ⟨h, nx', ms, ds, r⟩)
def setOb (w : W) (b : Nat) (o : Ob) (k : W → Bool) : Bool := W.casesOn w fun h nx ms ds r => (sH b).f h o fun h => k ⟨h, nx, ms, ds, r⟩
/-- a new row of the values of a list -/
def newRow (w : W) (l : List V) (spare : Nat) (k : Nat → W → Bool) : Bool :=
  fN l.length fun n => Bool.casesOn (Nat.ble n 512) (Bool.casesOn (Nat.ble n 262144) (bad 420) (set6s l z6 0 fun t => w.new (.large n 1 spare t) k)) (row3 l fun t => w.new (.small n 1 spare t) k)
/-- a row out of a list known ahead -/
def rowS (l : List V) : R3 := rowB l 0
where
  at' (l : List V) (i : Nat) : Bx := ⟨(l[i]?).getD .undef⟩
  rowA (l : List V) (i : Nat) : R1 := ⟨at' l i, at' l (i+1), at' l (i+2), at' l (i+3), at' l (i+4), at' l (i+5), at' l (i+6), at' l (i+7)⟩
  rowC (l : List V) (i : Nat) : R2 := ⟨rowA l i, rowA l (i+8), rowA l (i+16), rowA l (i+24), rowA l (i+32), rowA l (i+40), rowA l (i+48), rowA l (i+56)⟩
  rowB (l : List V) (i : Nat) : R3 := ⟨rowC l i, rowC l (i+64), rowC l (i+128), rowC l (i+192), rowC l (i+256), rowC l (i+320), rowC l (i+384), rowC l (i+448)⟩

end Go.Proofs.YtcajgbpcimimhaaGreatDoor.Vm
namespace Go.Proofs.YtcajgbpcimimhaaGreatDoor.Vm
open Go

/-! ### Truths that hang on an input -/
def mask (j : Nat) (ms : List (List Bool)) : List Bool := (ms[j]?).getD []
def andB : List Bool → List Bool → List Bool
  | a :: l, b :: r => (a && b) :: andB l r
  | _, _ => []
def forceB : List Bool → (List Bool → Bool) → Bool
  | [], k => k []
  | b :: l, k => Bool.casesOn b (forceB l fun r => k (false :: r)) (forceB l fun r => k (true :: r))
def setM (ms : List (List Bool)) (j : Nat) (l : List Bool) (k : List (List Bool) → Bool) : Bool :=
  match ms, j with
  | [], _ => bad 178
  | _ :: r, 0 => k (l :: r)
  | a :: r, j + 1 => setM r j l fun r => k (a :: r)
/-- both ways, where a truth hangs on an input -/
def fork (j : Nat) (bs : List Bool) (w : W) (k : Bool → W → Bool) : Bool :=
  W.casesOn w fun h nx ms ds r =>
    let mk := mask j ms
    Bool.casesOn (Nat.beq mk.length bs.length) (bad 179) (
    forceB (andB mk bs) fun t => forceB (andB mk (bs.map not)) fun f =>
      Bool.casesOn (t.any id) (k false ⟨h, nx, ms, ds, r⟩) (Bool.casesOn (f.any id) (k true ⟨h, nx, ms, ds, r⟩) (Bool.casesOn (setM ms j t fun ms => k true ⟨h, nx, ms, ds, r⟩) false (setM ms j f fun ms => k false ⟨h, nx, ms, ds, r⟩))))
def test (v : V) (w : W) (k : Bool → W → Bool) : Bool :=
  isN v.t 16 (Nat.casesOn v.a (k false w) fun _ => k true w) (vbK v fun j bs => fork j bs w k)
/-- may it be told from other rows? -/
def ownRow (w : W) (b : Nat) (k : Bool) : Bool := Ob.casesOn ((gH b).f w.h) fun kk _ ww _ _ _ _ => isN ww 1 (Bool.casesOn (Nat.beq kk 1) (isN kk 2 k (bad 30)) k) (bad 30)
def ptrEq (v1 v2 : V) (w : W) (k : Bool → Bool) : Bool :=
  isN v1.t 17 (isN v2.t 17 (Bool.casesOn (Nat.beq v1.b v2.b) (ownRow w v1.b (ownRow w v2.b (k false))) (Bool.casesOn (Nat.beq v1.a v2.a) (k false) (k true))) (isN v2.t 18 (k false) (bad 31)))
    (isN v1.t 18 (isN v2.t 17 (k false) (isN v2.t 18 (k true) (bad 35))) (bad 33))
/-- n: the nil's tag; the others' -/
def others (n t : Nat) : Bool := match n with
  | 19 => Nat.beq t 23 || Nat.beq t 24 || Nat.beq t 25
  | 20 => Nat.beq t 26
  | _ => Nat.beq t 33 || Nat.beq t 34
def kNil (n : Nat) (v : V) (k : Bool → Bool) : Bool := isN v.t n (k true) (Bool.casesOn (others n v.t) (bad 36) (k false))
/-- both nil, or one of them -/
def nilEq (n : Nat) (v1 v2 : V) (k : Bool → Bool) : Bool :=
  kNil n v1 fun a => kNil n v2 fun b => Bool.casesOn a (Bool.casesOn b (bad 38) (k false)) (Bool.casesOn b (k false) (k true))
def sameL : List V → List V → (Bool → Bool) → Bool
  | [], [], k => k true
  | a :: l, b :: r, k => slowInt .eql a b fun v => isN v.t 16 (Nat.casesOn v.a (k false) fun _ => sameL l r k) (vbK v fun _ bs => Bool.casesOn (bs.all id) (bad 39) (sameL l r k))
  | _, _, _ => bad 41
/-- the size of a type that is there -/
def withSize (P : Program) (e : Nat) (f : Nat → Tc) : Tc := match infoF P e with
  | none => .bad 399
  | some i => sx i.size f
/-- all fields are numbers, one behind the other -/
def intFields (P : Program) : List Field → Nat → Bool
  | [], _ => true
  | f :: l, i => Bool.casesOn (f.name != "_") false (Bool.casesOn (Nat.beq f.offset i) false (match undF P f.type with
    | some (.int _) => intFields P l (i + 1)
    | _ => false))
def eqC (P : Program) (neg : Bool) (t : Nat) (x y : Gk) (fin : Fv) : Tc :=
  let out (rec : Rec) (e : Env) (w : W) (k : Ex → Env → W → Bool) (b : Bool) : Bool := Bool.casesOn (xor neg b) (fin.run rec e w k (.bool 0)) (fin.run rec e w k (.bool 1))
  match undF P t with
  | some (.pointer e) => withSize P e fun es => Nat.casesOn es (.bad 42) fun _ => ⟨fun rec e w k => x.run e fun v1 => y.run e fun v2 => ptrEq v1 v2 w (out rec e w k)⟩
  | some (.slice _) => ⟨fun rec e w k => x.run e fun v1 => y.run e fun v2 => nilEq 19 v1 v2 (out rec e w k)⟩
  | some (.map _ _) => ⟨fun rec e w k => x.run e fun v1 => y.run e fun v2 => nilEq 20 v1 v2 (out rec e w k)⟩
  | some (.func _ _ _) => ⟨fun rec e w k => x.run e fun v1 => y.run e fun v2 => nilEq 21 v1 v2 (out rec e w k)⟩
  | some (.struct fs) => Bool.casesOn (Nat.beq t 65) (.bad 45) (Bool.casesOn (intFields P fs.toList 0) (.bad 45)
      (let n := fs.toList.length; ⟨fun rec e w k => x.run e fun v1 => y.run e fun v2 => isN v1.t 31 (isN v2.t 31 (isN v1.l.length n (sameL v1.l v2.l (out rec e w k)) (bad 43)) (bad 43)) (bad 44)⟩))
  | _ => .bad 46
def binC (P : Program) (op : BinOp) (t : Nat) (x y : Gk) (fin : Fv) : Tc :=
  match undF P t with
  | some (.int k) => binI op (cd k) (bnd (cd k)) x y fin
  | some .string => pure2 x y (strB op) fin
  | some .bool => pure2 x y (boolB op) fin
  | _ => match op with
    | .eql => eqC P false t x y fin
    | .neq => eqC P true t x y fin
    | _ => .bad 47
def unC (op : UnOp) (x : Gk) (fin : Fv) : Tc :=
  match op with
  | .not => pure1 x (fun v c => isN v.t 16 (fN (Nat.sub 1 v.a) fun n => c (.bool n)) (vbK v fun j l => c (vbV j (l.map not)))) fin
  | .neg => pure1 x (fun v c => vInt v (fun k i => ofI k ((kd k).wrap (0 - i)) c) (fun _ => bad 49)) fin
  | .xor => pure1 x (fun v c => vInt v (fun k i => ofI k ((kd k).wrap (BitVec.ofInt (kd k).bits (if (kd k).signed then -1 else (kd k).max) ^^^ BitVec.ofInt (kd k).bits i).toNat) c) (fun _ => bad 50)) fin
  | _ => .bad 51
def byteL (s : ByteArray) : List V := s.data.toList.map fun b => V.nat 4 b.toNat
def toBytes : List V → Option (List UInt8)
  | [] => some []
  | v :: l => Bool.casesOn (Nat.beq v.t 4) none (match toBytes l with
    | some r => some (UInt8.ofNat v.a :: r)
    | none => none)
def sameV (v u : V) : Bool := Nat.beq v.t u.t && Nat.beq v.a u.a && Nat.beq v.b u.b && Nat.beq v.c u.c && Nat.beq v.d u.d && (match v.l, u.l, v.x, u.x with
  | [], [], .o, .o => true
  | _, _, _, _ => false)
/-- all of one value, wherever it is begun -/
def sameAll : List V → List V → Bool
  | [], [] => true
  | a :: l, b :: r => Bool.casesOn (sameV a b) false (sameAll l r)
  | _, _ => false
/-- a slice's, or a string's cells -/
def sliceCells (w : W) (es : Nat) (v : V) (k : List V → Bool) : Bool :=
  match v.t with
  | 23 | 24 => vBA v fun b a => cellsAt w.h b a (Nat.mul v.c es) k
  | 19 | 25 => k []
  | 27 => strK v fun s => isN es 1 (k (byteL s)) (bad 52)
  | _ => bad 53
def convC (P : Program) (src dst : Nat) (x : Gk) (fin : Fv) : Tc :=
  match undF P src, undF P dst with
  | some (.int _), some (.int kk) =>
    let c' := cd kk
    let bd := bnd (cd kk)
    pure1 x (fun v c => Bool.casesOn (Bool.casesOn (Nat.blt v.t 8) false (Nat.blt v.a bd)) (vInt v (fun _ i => ofI c' ((kd c').wrap i) c) (fun _ => vecK v (fun _ j l => wrapL c' l fun l => vecN c' j l c) fun _ => bad 54)) (fN v.a fun n => c (.nat c' n))) fin
  | some .string, some .string => pure1 x (fun v c => strK v fun _ => c v) fin
  | some (.slice e1), some .string => match undF P e1 with
    | some (.int .u8) => ⟨fun rec e w k => x.run e fun v => Bool.casesOn (Nat.beq v.t 27) (sliceCells w 1 v fun l => match toBytes l with
      | some bs => fin.run rec e w k ⟨27, .str ⟨bs.toArray⟩, [], 0, 0, 0, 0⟩
      | none => bad 55) (bad 421)⟩
    | _ => .bad 56
  | _, _ => .bad 58
def nilCheckV (v : V) (c : Bool) : Bool := match v.t with
  | 17 | 30 | 33 | 34 => c
  | _ => bad 59
def takeL : Nat → List V → (List V → Bool) → Bool
  | 0, _, k => k []
  | n + 1, v :: l, k => takeL n l fun r => k (v :: r)
  | _, [], _ => bad 60
def dropL : Nat → List V → (List V → Bool) → Bool
  | 0, l, k => k l
  | n + 1, _ :: l, k => dropL n l k
  | _, [], _ => bad 61
def nth : List V → Nat → (V → Bool) → Bool
  | [], _, _ => bad 62
  | v :: l, i, k => Nat.casesOn i (k v) (fun i => nth l i k)
/-- a part of a struct's or an array's cells -/
def partC (l : List V) (off sz : Nat) (agg : Bool) (c : V → Bool) : Bool :=
  Bool.casesOn agg (nth l off c) (dropL off l fun l => takeL sz l fun l => c (.agg l))
def fieldC (P : Program) (s : Nat) (x : Gk) (f : Nat) (fin : Fv) : Tc :=
  match fieldOf P s f with
  | some (off, sz, agg) => pure1 x (fun v c => isN v.t 31 (partC v.l off sz agg c) (bad 63)) fin
  | none => .bad 64
def indexAddrC (P : Program) (t : Nat) (x i : Gk) (fin : Fv) : Tc :=
  match undF P t with
  | some (.slice e) =>
    withSize P e fun es =>
    pure2 x i (fun v iv c => Bool.casesOn (Bool.casesOn (Nat.blt iv.t 8) false (Bool.casesOn (Nat.beq (Nat.div (Nat.sub v.t 21) 2) 1) false (Nat.blt iv.a v.c))) (bad 65) (vBA v fun b a => fN (Nat.add a (Nat.mul iv.a es)) fun o => c (.ptr b o))) fin
  | some (.array n e) =>
    withSize P e fun es =>
    pure2 x i (fun v iv c => Bool.casesOn (Bool.casesOn (Nat.blt iv.t 8) false (Bool.casesOn (Nat.beq v.t 17) false (Nat.blt iv.a n))) (bad 66) (vBA v fun b a => fN (Nat.add a (Nat.mul iv.a es)) fun o => c (.ptr b o))) fin
  | _ => .bad 67
def indexC (P : Program) (t : Nat) (x i : Gk) (fin : Fv) : Tc :=
  match undF P t with
  | some (.array n e) => match undF P e with
   | none => .bad 72
   | some d =>
    withSize P e fun es =>
    let ag := isAggD d
    pure2 x i (fun v iv c => Bool.casesOn (Bool.casesOn (Nat.blt iv.t 8) false (Bool.casesOn (Nat.beq v.t 31) false (Nat.blt iv.a n))) (bad 68) (partC v.l (Nat.mul iv.a es) es ag c)) fin
  | some .string => pure2 x i (fun v iv c => Bool.casesOn (Nat.blt iv.t 8) (bad 69) (strK v fun s => match tbAt (tbOf s.data.toList) iv.a with
        | some b => fN b.toNat fun n => c (.nat 4 n)
        | none => bad 70)) fin
  | _ => .bad 72
def loadC (P : Program) (t : Nat) (x : Gk) (fin : Fv) : Tc :=
  match undF P t with
  | none => .bad 73
  | some d => Bool.casesOn (isAggD d) ⟨fun rec e w k => x.run e fun v => ptrK v fun b a => cellAt w.h b a fun v => fin.run rec e w k v⟩
    (let n := sizeT P t; ⟨fun rec e w k => x.run e fun v => ptrK v fun b a => cellsAt w.h b a n fun l => fin.run rec e w k (.agg l)⟩)
def isOne (v : V) (k : Bool) : Bool := match v.t with
  | 31 | 32 => bad 76
  | _ => k
/-- an aggregate's cells -/
def asCells (v : V) (n : Nat) (k : List V → Bool) : Bool := isN v.t 31 (isN v.l.length n (k v.l) (bad 77)) (bad 78)
def storeC (P : Program) (t : Nat) (x y : Gk) (fin : Fv) : Tc :=
  match undF P t with
  | none => .bad 79
  | some d => Bool.casesOn (isAggD d) (Bool.casesOn (Nat.beq (sizeT P t) 1) (.bad 80) ⟨fun rec e w k => x.run e fun v => y.run e fun u => isOne u (ptrK v fun b a => storeAt w b a [u] fun w => fin.run rec e w k .undef)⟩)
    (let n := sizeT P t; ⟨fun rec e w k => x.run e fun v => y.run e fun u => asCells u n fun l => ptrK v fun b a => storeAt w b a l fun w => fin.run rec e w k .undef⟩)
structure Bs where
  r : R3
def allocC (P : Program) (t : Nat) (fin : Fv) : Tc :=
  match zeroL P t with
  | some l => Nat.casesOn (l.length) (.bad 83) fun n' => Bool.casesOn (Nat.ble (n' + 1) 512) (.bad 84) (Bs.casesOn ⟨rowS l⟩ fun row => ⟨fun rec e w k => w.new (.small (n' + 1) 1 0 row) fun b w => fin.run rec e w k (.ptr b 0)⟩)
  | none => .bad 85
def boxC (x : Gk) (fin : Fv) : Tc :=
  ⟨fun rec e w k => x.run e fun v => match v.t with
    | 31 => newRow w v.l 0 fun b w => fin.run rec e w k (.ptr b 0)
    | 32 => bad 86
    | _ => newRow w [v] 0 fun b w => fin.run rec e w k (.ptr b 0)⟩
/-- parts laid into cells -/
def putL : Nat → List V → List V → (List V → Bool) → Bool
  | _, [], cs, k => k cs
  | 0, v :: l, _ :: cs, k => putL 0 l cs fun r => k (v :: r)
  | n + 1, l, c :: cs, k => putL n l cs fun r => k (c :: r)
  | _, _, [], _ => bad 87
structure Fl where
  run : Env → List V → (List V → Bool) → Bool
def fillC (place : Nat → Option (Nat × Nat × Bool)) : List (Nat × Gk) → Fl
  | [] => ⟨fun _ cs k => k cs⟩
  | (i, x) :: l => match place i with
    | none => ⟨fun _ _ _ => bad 88⟩
    | some (off, sz, agg) => Bool.casesOn agg
      (Bool.casesOn (Nat.beq sz 1) ⟨fun _ _ _ => bad 89⟩ ⟨fun e cs k => x.run e fun v => isOne v (putL off [v] cs fun cs => (fillC place l).run e cs k)⟩)
      (Nat.casesOn sz ⟨fun _ _ _ => bad 423⟩ fun sz => ⟨fun e cs k => x.run e fun v => asCells v (Nat.succ sz) fun vs => putL off vs cs fun cs => (fillC place l).run e cs k⟩)
def elemAt (P : Program) (e i : Nat) : Option (Nat × Nat × Bool) := match undF P e with
  | some d => some (i * sizeT P e, sizeT P e, isAggD d)
  | none => none
/-- have all fields a row? -/
def allInfo (P : Program) : List Field → Bool
  | [] => true
  | f :: l => match infoF P f.type with
    | some _ => allInfo P l
    | none => false
def buildC (P : Program) (t : Nat) (ps : List (Nat × Gk)) (fin : Fv) : Tc :=
  match undF P t, zeroL P t with
  | some (.struct fs), some z => Bool.casesOn (allInfo P fs.toList) (.bad 424) ⟨fun rec e w k => (fillC (fieldOf P t) ps).run e z fun l => fin.run rec e w k (.agg l)⟩
  | some (.array _ e), some z => match undF P e with
    | none => .bad 427
    | some _ => ⟨fun rec ee w k => (fillC (elemAt P e) ps).run ee z fun l => fin.run rec ee w k (.agg l)⟩
  | _, _ => .bad 90
def timesL : Nat → List V → List V
  | 0, _ => []
  | n + 1, l => l ++ timesL n l
def buildSliceC (P : Program) (t len : Nat) (ps : List (Nat × Gk)) (fin : Fv) : Tc :=
  match undF P t with
  | some (.slice e) => match zeroL P e with
    | some z => withSize P e fun es => Bool.casesOn (Nat.beq z.length es && Nat.ble (Nat.mul len es) 16777216) (.bad 425) (let cs := timesL len z; ⟨fun rec ee w k => (fillC (elemAt P e) ps).run ee cs fun l => newRow w l 0 fun b w => fin.run rec ee w k (.sl b 0 len len)⟩)
    | none => .bad 91
  | _ => .bad 92
def newSame (w : W) (n : Nat) (v : V) (k : Nat → W → Bool) : Bool :=
  Bool.casesOn (Nat.ble n 512) (Bool.casesOn (Nat.ble n 262144) (bad 93) (w.new (.large n 1 0 (r6 v)) k)) (w.new (.small n 1 0 (r3 v)) k)
def makeSliceC (P : Program) (t : Nat) (l c : Gk) (fin : Fv) : Tc :=
  match undF P t with
  | some (.slice e) => match zeroL P e, infoF P e with
    | some z, some i =>
      withSize P e fun es =>
      let by' := i.bytes
      ⟨fun rec ee w k => l.run ee fun lv => c.run ee fun cv => Bool.casesOn (Nat.blt lv.t 8 && Nat.blt cv.t 8 && Nat.ble lv.a cv.a && Nat.ble (Nat.mul by' cv.a) 281474976710656 && Nat.blt cv.a 9223372036854775808) (bad 94)
        (fN lv.a fun n => fN cv.a fun c => match z with
          | [] => bad 95
          | v :: z' => isN (v :: z').length es (Bool.casesOn (z'.all (sameV v)) (newRow w (timesL c (v :: z')) 0 fun b w => fin.run rec ee w k (.sl b 0 n c))
            (fN (Nat.mul c es) fun sz => newSame w sz v fun b w => fin.run rec ee w k (.sl b 0 n c))) (bad 420))⟩
    | _, _ => .bad 96
  | _ => .bad 97
structure Gko where
  run : Env → (Option V → Bool) → Bool
def gko (x : Option Gk) : Gko := match x with
  | none => ⟨fun _ k => k none⟩
  | some x => ⟨fun e k => x.run e fun v => k (some v)⟩
def bound (v : Option V) (d : Nat) (k : Nat → Bool) : Bool := match v with
  | none => k d
  | some v => Bool.casesOn (Nat.blt v.t 8) (bad 98) (fN v.a k)
/-- the slice behind: of known room -/
def subSl (es b o l h m : Nat) (k : V → Bool) : Bool :=
  Bool.casesOn (Nat.ble l h && Nat.ble h m) (bad 99)
    (fN (Nat.sub h l) fun n' => fN (Nat.sub m l) fun c' => fN (Bool.casesOn (Nat.beq m l) (Nat.add o (Nat.mul l es)) o) fun o => fN b fun b => k (.sl b o n' c'))
def sliceC (P : Program) (t : Nat) (x : Gk) (lo hi mx : Gko) (fin : Fv) : Tc :=
  match undF P t with
  | some (.slice e) =>
    withSize P e fun es =>
    ⟨fun rec ee w k => x.run ee fun v => lo.run ee fun lv => hi.run ee fun hv => mx.run ee fun mv =>
      let fin' (v : V) : Bool := fin.run rec ee w k v
      match v.t with
      | 23 => bound mv v.d fun m => bound hv v.c fun h => bound lv 0 fun l => Bool.casesOn (Nat.ble m v.d) (bad 100) (subSl es v.b v.a l h m fin')
      | 19 => bound mv 0 fun m => bound hv 0 fun h => bound lv 0 fun l => Bool.casesOn (Nat.beq l 0 && Nat.beq h 0 && Nat.beq m 0) (bad 101) (fin' .nils)
      | 24 => match v.x with
        | .slu m j d => match mv with
          | none => bound hv v.c fun h => bound lv 0 fun l => Bool.casesOn (Nat.ble l h && Nat.ble h m) (bad 102)
              (Bool.casesOn (Nat.blt l m)
                (Bool.casesOn (Nat.beq h l) (bad 103) (w.fresh fun j w => fin.run rec ee w k ⟨25, .o, [], 0, 0, 0, j⟩))
                (vBA v fun b a => fN (Nat.add a (Nat.mul l es)) fun o => fN (Nat.sub h l) fun n' => fN (Nat.sub m l) fun m' => fN (Nat.add d l) fun d' => fin' (.slu b o n' m' j d')))
          | some mv => bound (some mv) 0 fun mm => bound hv v.c fun h => bound lv 0 fun l => Bool.casesOn (Nat.ble mm m) (bad 104) (subSl es v.b v.a l h mm fin')
        | _ => bad 105
      | _ => bad 106⟩
  | some (.array n e) =>
    withSize P e fun es =>
    ⟨fun rec ee w k => x.run ee fun v => lo.run ee fun lv => hi.run ee fun hv => mx.run ee fun mv => match mv with
      | some _ => bad 107
      | none => isN v.t 17 (bound hv n fun h => bound lv 0 fun l => subSl es v.b v.a l h n fun v => fin.run rec ee w k v) (bad 108)⟩
  | some .string => ⟨fun rec ee w k => x.run ee fun v => lo.run ee fun lv => hi.run ee fun hv => mx.run ee fun mv => match mv with
      | some _ => bad 109
      | none => strK v fun s => fN s.size fun sz => bound hv sz fun h => bound lv 0 fun l => Bool.casesOn (Nat.ble l h && Nat.ble h sz) (bad 110) (fin.run rec ee w k ⟨27, .str (s.extract l h), [], 0, 0, 0, 0⟩)⟩
  | _ => .bad 112
def lenK (v : V) (k : Nat → Bool) : Bool := match v.t with
  | 23 | 24 => fN v.c k
  | 19 | 25 => k 0
  | 27 => match v.x with
    | .str s => fN s.size k
    | _ => bad 113
  | _ => bad 114
/-- an object that is no row -/
def othAt (w : W) (r : Nat) (k : Oth → Bool) : Bool := Ob.casesOn ((gH r).f w.h) fun kk _ _ _ _ _ o => isN kk 3 (k o) (bad 417)
def mapAt (w : W) (r : Nat) (k : List (Nat × V) → Bool) : Bool := othAt w r fun o => match o with
  | .map es => k es
  | _ => bad 115
def lenC (P : Program) (t : Nat) (x : Gk) (fin : Fv) : Tc :=
  match undF P t with
  | some .string => pure1 x (fun v c => isN v.t 27 (lenK v fun n => c (.nat 3 n)) (bad 418)) fin
  | some (.slice _) => pure1 x (fun v c => Bool.casesOn (Nat.beq v.t 27) (lenK v fun n => c (.nat 3 n)) (bad 416)) fin
  | some (.array n _) => pure0 (.nat 3 n) fin
  | some (.map _ _) => ⟨fun rec e w k => x.run e fun v => match v.t with
    | 20 => fin.run rec e w k (.nat 3 0)
    | 26 => vA v fun r => mapAt w r fun es => fN es.length fun n => fin.run rec e w k (.nat 3 n)
    | _ => bad 116⟩
  | some (.pointer a) => match undF P a with
    | some (.array n _) => pure0 (.nat 3 n) fin
    | _ => .bad 117
  | _ => .bad 118
def appL : List V → List V → (List V → Bool) → Bool
  | [], r, k => k r
  | v :: l, r, k => appL l r fun q => k (v :: q)
def dropO (w : W) (b : Nat) (k : W → Bool) : Bool := setOb w b .no k
/-- a new row of unknown room: j: its capacity; p: both, and an element's size -/
def capP (j es : Nat) : Nat := Nat.add (Nat.mul j 65536) es
def appended (w : W) (es : Nat) (old new : List V) (need : Nat) (fin : V → W → Bool) : Bool :=
  appL old new fun l => w.fresh fun j w => fN (capP j es) fun p => newRow w l p fun b w => fin (.slu b 0 need need j 0) w
/-- is there so much memory? -/
def fitsN (need by' : Nat) (k : Bool) : Bool := Bool.casesOn (Nat.ble (Nat.mul need (Nat.succ by')) 140737488355328) (bad 412) k
/-- the second argument's type is none of numbers -/
def appT (P : Program) (t2 : Option Nat) : Bool := match t2 with
  | none => false
  | some x => match undF P x with
    | some (.slice _) => true
    | some .string => true
    | _ => false
/-- is it a row of one's own, of that room? -/
def rowP (w : W) (b p : Nat) (k : Bool) : Bool := Ob.casesOn ((gH b).f w.h) fun kk _ ww pp _ _ _ => isN ww 1 (isN pp p (Bool.casesOn (Nat.beq kk 1) (isN kk 2 k (bad 413)) k) (bad 413)) (bad 413)
/-- onto a slice that may have room, or not: another row stands for both -/
def appendC (P : Program) (t : Nat) (t2 : Option Nat) (x y : Gk) (fin : Fv) : Tc :=
  match undF P t with
  | some (.slice e) => match infoF P e, zeroL P e with
    | some i, some z =>
      Bool.casesOn (appT P t2 && Nat.beq z.length i.size && Nat.blt i.size 65536) (.bad 119)
      (sx i.size fun es => sx i.bytes fun by' => Nat.casesOn es (.bad 120) fun es' => ⟨fun rec ee w k => x.run ee fun v => y.run ee fun u => lenK u fun n => sliceCells w (es' + 1) u fun new =>
      let fin' (v : V) (w : W) : Bool := fin.run rec ee w k v
      match v.t with
      | 23 => fN (Nat.add v.c n) fun need => Bool.casesOn (Nat.ble need v.d)
          (fitsN need by' (vBA v fun b a => cellsAt w.h b a (Nat.mul v.c (es' + 1)) fun old => appended w (es' + 1) old new need fin'))
          (Nat.casesOn n (fin' v w) fun _ => vBA v fun b o => fN (Nat.add o (Nat.mul v.c (es' + 1))) fun i => storeAt w b i new fun w => fN v.d fun c => fin' (.sl b o need c) w)
      | 19 => Nat.casesOn n (fin' .nils w) fun n' => fitsN (Nat.succ n') by' (appended w (es' + 1) [] new (Nat.succ n') fin')
      | 24 => match v.x with
        | .slu m j d => fN (Nat.add v.c n) fun need => Bool.casesOn (Nat.ble need m)
            (isN v.a 0 (isN d 0 (fitsN need by' (vBA v fun b _ => cellsAt w.h b 0 (Nat.mul v.c (es' + 1)) fun old => rowP w b (capP j (es' + 1)) (dropO w b fun w => appended w (es' + 1) old new need fin'))) (bad 414)) (bad 121))
            (Nat.casesOn n (fin' v w) fun _ => vBA v fun b o => fN (Nat.add o (Nat.mul v.c (es' + 1))) fun i => storeAt w b i new fun w => fin' (.slu b o need m j d) w)
        | _ => bad 122
      | _ => bad 123⟩)
    | _, _ => .bad 124
  | _ => .bad 124
def copyC (P : Program) (t : Nat) (x y : Gk) (fin : Fv) : Tc :=
  match undF P t with
  | some (.slice e) =>
    withSize P e fun es =>
    ⟨fun rec ee w k => x.run ee fun v => y.run ee fun u => Bool.casesOn (Nat.beq v.t 27) (lenK v fun dn => lenK u fun sn => fN (Bool.casesOn (Nat.ble sn dn) dn sn) fun n =>
      sliceCells w es u fun cs => takeL (Nat.mul n es) cs fun cs => Nat.casesOn n (fin.run rec ee w k (.nat 3 0)) fun n' => match v.t with
        | 23 | 24 => vBA v fun b a => storeAt w b a cs fun w => fin.run rec ee w k (.nat 3 (Nat.succ n'))
        | _ => bad 125) (bad 415)⟩
  | _ => .bad 126
def clearC (P : Program) (t : Nat) (x : Gk) (fin : Fv) : Tc :=
  match undF P t with
  | some (.slice e) => match zeroL P e with
    | some z => ⟨fun rec ee w k => x.run ee fun v => Bool.casesOn (Nat.beq v.t 27) (lenK v fun n => Nat.casesOn n (fin.run rec ee w k .undef) fun n' => match v.t with
        | 23 | 24 => vBA v fun b a => storeAt w b a (timesL (Nat.succ n') z) fun w => fin.run rec ee w k .undef
        | _ => bad 127) (bad 419)⟩
    | none => .bad 128
  | _ => .bad 129
/-- the least, or the greatest, of each and a number -/
def minL (less : Bool) (n : Int) : List Int → (List Int → Bool) → Bool
  | [], c => c []
  | a :: l, c => fI (Bool.casesOn less (Bool.casesOn (decide (a < n)) n a) (Bool.casesOn (decide (a < n)) a n)) fun a => minL less n l fun r => c (a :: r)
def minV (less : Bool) (n : Nat) (v : V) (c : V → Bool) : Bool := vecK v (fun k j l => isN k 3 (minL less (Int.ofNat n) l fun l => vecN 3 j l c) (bad 130)) fun _ => bad 130
def minC (less : Bool) (x y : Gk) (fin : Fv) : Tc := pure2 x y (fun v u c =>
  Bool.casesOn (Nat.blt v.t 8 && Nat.beq v.t u.t) (Bool.casesOn (Nat.beq v.t 3) (Bool.casesOn (Nat.beq u.t 3) (bad 130) (minV less u.a v c)) (minV less v.a u c))
    (Bool.casesOn (xor less (Nat.blt u.a v.a)) (c v) (c u))) fin
def findE (key : Nat) : List (Nat × V) → (V → Bool) → (Unit → Bool) → Bool
  | [], _, e => e ()
  | (a, v) :: l, k, e => Bool.casesOn (Nat.beq key a) (findE key l k e) (k v)
def putE (key : Nat) (v : V) : List (Nat × V) → (List (Nat × V) → Bool) → Bool
  | [], k => k [(key, v)]
  | (a, u) :: l, k => Bool.casesOn (Nat.beq key a) (putE key v l fun r => k ((a, u) :: r)) (k ((a, v) :: l))
def delE (key : Nat) : List (Nat × V) → (List (Nat × V) → Bool) → Bool
  | [], k => k []
  | (a, u) :: l, k => Bool.casesOn (Nat.beq key a) (delE key l fun r => k ((a, u) :: r)) (k l)
def u64Key (P : Program) (t : Nat) : Bool := match undF P t with
  | some (.int .u64) => true
  | _ => false
/-- a type's zero value -/
def zeroV (P : Program) (t : Nat) : Option V := match infoF P t with
  | some i => match i.zero with
    | some (.agg cs) => match ofVs cs.toList with
      | some l => some (.agg l)
      | none => none
    | some z => ofV z
    | none => none
  | none => none
def lookupC (P : Program) (t : Nat) (x i : Gk) (ok : Bool) (fin : Fv) : Tc :=
  match undF P t with
  | some (.map kt e) => match zeroV P e with
    | none => .bad 131
    | some zv => Bool.casesOn (u64Key P kt) (.bad 132)
        (let out (rec : Rec) (e : Env) (w : W) (k : Ex → Env → W → Bool) (v : V) (b : Nat) : Bool := Bool.casesOn ok (fin.run rec e w k v) (fin.run rec e w k (.tup [v, .bool b]))
        ⟨fun rec ee w k => x.run ee fun v => i.run ee fun iv => isN iv.t 7 (match v.t with
          | 26 => vA v fun r => mapAt w r fun es => findE iv.a es (fun v => out rec ee w k v 1) (fun _ => out rec ee w k zv 0)
          | 20 => out rec ee w k zv 0
          | _ => bad 133) (bad 134)⟩)
  | _ => .bad 136
def mapUpdateC (P : Program) (t : Nat) (m i x : Gk) (fin : Fv) : Tc :=
  match undF P t with
  | some (.map kt _) => Bool.casesOn (u64Key P kt) (.bad 137)
    ⟨fun rec ee w k => m.run ee fun v => i.run ee fun iv => x.run ee fun u => isN iv.t 7 (isN v.t 26
      (vA iv fun key => vA v fun r => mapAt w r fun es => putE key u es fun es => setOb w r (.oth (.map es)) fun w => fin.run rec ee w k .undef) (bad 138)) (bad 139)⟩
  | _ => .bad 140
def deleteC (P : Program) (t : Nat) (m i : Gk) (fin : Fv) : Tc :=
  match undF P t with
  | some (.map kt _) => Bool.casesOn (u64Key P kt) (.bad 141)
    ⟨fun rec ee w k => m.run ee fun v => i.run ee fun iv => isN iv.t 7 (isN v.t 26
      (vA v fun r => mapAt w r fun es => delE iv.a es fun es => setOb w r (.oth (.map es)) fun w => fin.run rec ee w k .undef) (bad 142)) (bad 143)⟩
  | _ => .bad 144
def makeFuncC (fn : Fn) (nf : Nat) (cs : Gl) (fin : Fv) : Tc :=
  match fn with
  | .func f => ⟨fun rec e w k => cs.run e fun l => fin.run rec e w k ⟨33, .o, l, 0, 0, nf, f⟩⟩
  | _ => .bad 145
/-- has a type an interface's methods? -/
def hasM (ms : List Method) : List (String × TypeId) → Bool
  | [] => true
  | (n, s) :: l => Bool.casesOn (ms.any fun m => m.name == n && m.sig == s) false (hasM ms l)
def meets (P : Program) (want : List (String × TypeId)) (t : Nat) : Bool := match infoF P t with
  | some i => hasM i.methods.toList want
  | none => false
def typeAssertC (P : Program) (x : Gk) (asserted : Nat) (ok : Bool) (fin : Fv) : Tc :=
  match undF P asserted with
  | some (.interface want) => pure1 x (fun v c => isN v.t 30 (Bool.casesOn (meets P want.toList v.a) (bad 146) (Bool.casesOn ok (c v) (c (.tup [v, .bool 1])))) (bad 147)) fin
  | _ => .bad 148
def pickC (c a b : Gk) (fin : Fv) : Tc := ⟨fun rec e w k => c.run e fun v => test v w fun t w => Bool.casesOn t (b.run e fun v => fin.run rec e w k v) (a.run e fun v => fin.run rec e w k v)⟩

/-- a call of a value -/
def callV (rec : Rec) (v : V) (args : List V) (w : W) (k : V → W → Bool) : Bool :=
  match v.t with
  | 33 => match v.b, v.l with
    | 0, [] => vA v fun f => rec.call f args w k
    | 0, l => appL args l fun l => vA v fun f => rec.call f l w k
    | n, l => takeL n l fun first => dropL n l fun cap => appL args cap fun r => appL first r fun l => vA v fun f => rec.call f l w k
  | 34 => vA v fun l => rec.round l args w k
  | _ => bad 150
/-- methods that interface values are asked for: by type and name -/
def methOf (P : Program) (t : Nat) (name : String) : Option Nat :=
  match infoF P t with
  | some i => match i.methods.find? (·.name == name) with
    | some m => match m.func, m.path.toList, undF P t with
      | some (f, true), [], some (.pointer _) => some f
      | _, _, _ => none
    | none => none
  | none => none
/-- functions without a body of Go: which they are -/
def extOf : Nat → Nat
  | 253 => 1
  | 294 => 2
  | _ => 0
def countB (c : Nat) : List UInt8 → Nat → Nat
  | [], n => n
  | b :: l, n => countB c l (Bool.casesOn (Nat.beq b.toNat c) n (n + 1))
def findB (c : Nat) : List UInt8 → Nat → Option Nat
  | [], _ => none
  | b :: l, i => Bool.casesOn (Nat.beq b.toNat c) (findB c l (i + 1)) (some i)
def extC (n : Nat) (l : List V) (k : V → Bool) : Bool :=
  match l with
  | [s, c] => strK s fun b => isN c.t 4 (Bool.casesOn (Nat.blt c.a 256) (bad 218) (match n with
      | 0 => fN (countB c.a b.data.toList 0) fun n => k (.nat 3 n)
      | _ => match findB c.a b.data.toList 0 with
        | some i => fN i fun i => k (.nat 3 i)
        | none => k (.num 11 0))) (bad 151)
  | _ => bad 153
def rangeC (P : Program) (t : Nat) (x : Gk) (fin : Fv) : Tc :=
  match undF P t with
  | some .string => ⟨fun rec e w k => x.run e fun v => strK v fun s => w.new (.oth (.sit s 0)) fun b w => fin.run rec e w k (.ptr b 0)⟩
  | _ => .bad 155
def nextC (x : Gk) (isStr : Bool) (fin : Fv) : Tc :=
  Bool.casesOn isStr (.bad 156) ⟨fun rec e w k => x.run e fun v => ptrK v fun vb va => isN va 0 (othAt w vb fun o => match o with
    | .sit s pos => match tbAt (tbOf s.data.toList) pos with
      | none => Bool.casesOn (Nat.ble s.size pos) (bad 426) (fin.run rec e w k (.tup [.bool 0]))
      | some b => fN b.toNat fun c => Bool.casesOn (Nat.blt c 128) (bad 157) (fN (Nat.succ pos) fun p => setOb w vb (.oth (.sit s p)) fun w => fin.run rec e w k (.tup [.bool 1, .nat 3 pos, .nat 2 c]))
    | _ => bad 158) (bad 159)⟩
def oneG (l : List Gk) (f : Gk → Tc) : Tc := match l with
  | [x] => f x
  | _ => .bad 166
def twoG (l : List Gk) (f : Gk → Gk → Tc) : Tc := match l with
  | [x, y] => f x y
  | _ => .bad 166
def hdT (l : List Nat) (f : Nat → Tc) : Tc := match l with
  | t :: _ => f t
  | [] => .bad 166
def twoT (l : List Nat) (f : Nat → Nat → Tc) : Tc := match l with
  | [t, u] => f t u
  | _ => .bad 166
def capC (P : Program) (t : Nat) (x : Gk) (fin : Fv) : Tc := match undF P t with
  | some (.slice _) => pure1 x (fun v c => isN v.t 23 (fN v.d fun n => c (.nat 3 n)) (bad 164)) fin
  | _ => .bad 165
def biC (P : Program) (b : Builtin) (args : List Gk) (ts : List Nat) (fin : Fv) : Tc := match b with
  | .len => oneG args fun x => hdT ts fun t => lenC P t x fin
  | .append => twoG args fun x y => twoT ts fun t t2 => appendC P t (some t2) x y fin
  | .copy => twoG args fun x y => hdT ts fun t => copyC P t x y fin
  | .clear => oneG args fun x => hdT ts fun t => clearC P t x fin
  | .delete => twoG args fun x y => hdT ts fun t => deleteC P t x y fin
  | .min => twoG args fun x y => minC false x y fin
  | .max => twoG args fun x y => minC true x y fin
  | .cap => oneG args fun x => hdT ts fun t => capC P t x fin
  | _ => .bad 166
def callC (P : Program) (c : Call) (callee : Gk) (args : List Gk) (al : Gl) (fin : Fv) : Tc :=
  match c.callee with
  | .value (.func f) => match extOf f with
    | 0 => ⟨fun rec e w k => al.run e fun l => rec.call f l w fun v w => fin.run rec e w k v⟩
    | Nat.succ n => ⟨fun rec e w k => al.run e fun l => extC n l fun v => fin.run rec e w k v⟩
  | .value _ => ⟨fun rec e w k => callee.run e fun v => al.run e fun l => callV rec v l w fun v w => fin.run rec e w k v⟩
  | .invoke _ name => ⟨fun rec e w k => callee.run e fun v => al.run e fun l => isN v.t 30 (match v.l with
    | [r] => vA v fun t => match methOf P t name with
      | some f => fN f fun f => rec.call f (r :: l) w fun v w => fin.run rec e w k v
      | none => bad 161
    | _ => bad 162) (bad 163)⟩
  | .builtin b => biC P b args c.argTypes.toList fin
def deferC (c : Call) (al : Gl) (fin : Fv) : Tc :=
  match c.callee with
  | .value (.func f) => ⟨fun rec e w k => al.run e fun l => W.casesOn w fun h nx ms ds r => Option.casesOn r (fin.run rec e ⟨h, nx, ms, .call f l :: ds, none⟩ k .undef) fun _ => bad 167⟩
  | _ => .bad 168

/-! ### Which slots are looked at outside their region -/
def slotsOf : Operand → List Nat
  | .tmp i => [i]
  | _ => []
def sl1 (x : Operand) : List Nat := slotsOf x
def slL : List Operand → List Nat
  | [] => []
  | x :: l => slotsOf x ++ slL l
def slP : List (Nat × Operand) → List Nat
  | [] => []
  | (_, x) :: l => slotsOf x ++ slP l
def slO : Option Operand → List Nat
  | none => []
  | some x => slotsOf x
def slC (c : Call) : List Nat := (match c.callee with
  | .value f => slotsOf f
  | .invoke x _ => slotsOf x
  | .builtin _ => []) ++ slL c.args.toList
def readsO (o : Op) : List Nat :=
  Op.casesOn o slotsOf slotsOf (fun a b c => slotsOf a ++ slotsOf b ++ slotsOf c) (fun _ => []) (fun _ x => slotsOf x) (fun _ ps => slP ps.toList) (fun _ _ ps => slP ps.toList) (fun _ a b c => slotsOf a ++ slotsOf b ++ slotsOf c) (fun _ x => slotsOf x) (fun _ a b => slotsOf a ++ slotsOf b) (fun _ => []) (fun _ => []) slotsOf (fun _ _ x y _ => slotsOf x ++ slotsOf y) (fun _ _ x => slotsOf x) (fun _ _ x => slotsOf x) (fun _ x => slotsOf x)
    (fun _ x => slotsOf x) (fun _ a b => slL a.toList ++ slL b.toList) (fun _ x => slO x) (fun _ x => slotsOf x) (fun _ a b => slotsOf a ++ slotsOf b) (fun _ x l h m => slotsOf x ++ slO l ++ slO h ++ slO m) (fun _ x _ => slotsOf x) (fun _ x _ => slotsOf x) (fun _ a b => slotsOf a ++ slotsOf b) (fun _ a b => slotsOf a ++ slotsOf b) (fun _ a b _ => slotsOf a ++ slotsOf b) (fun _ a b c => slotsOf a ++ slotsOf b ++ slotsOf c) (fun _ a b => slotsOf a ++ slotsOf b) (fun _ a b c => slotsOf a ++ slotsOf b ++ slotsOf c) (fun _ x => slotsOf x) (fun x _ => slotsOf x) slotsOf (fun x _ _ _ => slotsOf x) (fun x _ => slotsOf x) slC
    slC slC slotsOf (fun a b => slotsOf a ++ slotsOf b) (fun _ x _ => slotsOf x) (fun _ _ => [])
def readsOf (o : Oper) : List Nat := readsO o.op
def bitsOf : List Nat → Nat → Nat
  | [], n => n
  | i :: l, n => bitsOf l (Nat.lor n (Nat.shiftLeft 1 i))
def has (n i : Nat) : Bool := Bool.casesOn (Nat.beq (Nat.land n (Nat.shiftLeft 1 i)) 0) true false
def openIn : List Nat → Nat → Nat → Nat
  | [], _, n => n
  | i :: l, wr, n => Bool.casesOn (has wr i) (openIn l wr (Nat.lor n (Nat.shiftLeft 1 i))) (openIn l wr n)
/-! ### Regions: what is done one behind the other -/
/-- an operation · one that is done again, to see that it comes to the same · some that are tried -/
inductive It where
  | go (i : Nat) (o : Oper)
  | re (i : Nat) (o : Oper)
  | dry (l : List (Nat × Oper))
def guardR (ops : List Oper) (o : Oper) : List Nat := match o.guard with
  | none => []
  | some (j, _) => match (ops[j]?).bind (·.dst) with
    | some d => [d]
    | none => []
def goR (ops : List Oper) (o : Oper) (n : Nat) : Nat := bitsOf (guardR ops o) (bitsOf (readsOf o) n)
def dryR (ops : List Oper) : List (Nat × Oper) → Nat → Nat
  | [], n => n
  | (_, o) :: l, n => goR ops o (dryR ops l n)
/-- the slots that are looked at later on in the region -/
def readM (ops : List Oper) : List It → Nat
  | [] => 0
  | .go _ o :: l => goR ops o (readM ops l)
  | .re _ o :: l => bitsOf (match o.dst with
    | some d => [d]
    | none => []) (bitsOf (readsOf o) (readM ops l))
  | .dry d :: l => dryR ops d (readM ops l)
/-! ### What is known of slots, statically -/
/-- m: how many slots; ex: those that are looked at outside their region, as bits -/
structure Cx where
  m : Nat
  ex : Nat
/-- bs: the slots that are spoken of, as bits -/
structure Sg where
  bs : Nat
  l : List (Nat × Src)
def sg0 : Sg := ⟨0, []⟩
def findS : List (Nat × Src) → Nat → Option Src
  | [], _ => none
  | (i, s) :: l, j => Bool.casesOn (Nat.beq i j) (findS l j) (some s)
def isEx (c : Cx) (i : Nat) : Bool := Bool.casesOn (Nat.beq (Nat.land c.ex (Nat.shiftLeft 1 i)) 0) true false
def srcOf (c : Cx) (g : Sg) (x : Operand) : Option Src :=
  match x with
  | .tmp i => Bool.casesOn (isEx c i) (findS g.l i) (Bool.casesOn (Nat.blt i c.m) none (Bool.casesOn (Nat.blt i 216) none (some (.env i))))
  | .const v => match ofV v with
    | some u => some (.con u)
    | none => none
  | .global g => Bool.casesOn (Nat.blt g 3) none (some (.con (.ptr g 0)))
  | .func f => some (.con (.num 33 f))
/-- does it hang on a slot? -/
def Src.on : Src → Nat → Bool
  | .env i, j => Nat.beq i j
  | .acc _, _ => false
  | .con _, _ => false
  | .off s _, j => s.on j
def Src.bits : Src → Nat
  | .env i => Nat.shiftLeft 1 i
  | .acc _ => 0
  | .con _ => 0
  | .off s _ => s.bits
def killS : List (Nat × Src) → Nat → List (Nat × Src)
  | [], _ => []
  | (i, s) :: l, j => Bool.casesOn (Nat.beq i j || s.on j) ((i, s) :: killS l j) (killS l j)
/-- what would be lost -/
def lostS : List (Nat × Src) → Nat → List Nat
  | [], _ => []
  | (i, s) :: l, j => Bool.casesOn (Nat.beq i j) (Bool.casesOn (s.on j) (lostS l j) (i :: lostS l j)) (lostS l j)
def Sg.has (g : Sg) (d : Nat) : Bool := Bool.casesOn (Nat.beq (Nat.land g.bs (Nat.shiftLeft 1 d)) 0) true false
def Sg.lost (g : Sg) (d : Nat) : List Nat := Bool.casesOn (g.has d) [] (lostS g.l d)
def Sg.kill (g : Sg) (d : Nat) : Sg := Bool.casesOn (g.has d) g ⟨g.bs, killS g.l d⟩
/-- one more -/
def Sg.add {β : Type} (g : Sg) (d : Nat) (s : Src) (k : Sg → β) : β := Sg.casesOn (g.kill d) fun mk l => sx (Nat.lor mk (Nat.lor (Nat.shiftLeft 1 d) s.bits)) fun mk => k ⟨mk, (d, s) :: l⟩
/-- places laid into slots of their own, ahead of what would lose them -/
def matT (c : Cx) : List Nat → Sg → (Sg → Fv) → Fv
  | [], g, next => next g
  | i :: l, g, next => match Bool.casesOn (isEx c i) (Bool.casesOn (Nat.blt i c.m) none (Bool.casesOn (Nat.blt i 216) none (findS g.l i))) none with
    | some s => let nx := g.add i (.env i) fun g => matT c l g next; ⟨fun rec e w k v => (srcK s).run e fun u => (setter i).f e u fun e => nx.run rec e w k v⟩
    | none => ⟨fun _ _ _ _ _ => bad 402⟩
/-- one value more among those without a slot: the eldest goes -/
def Src.shift : Src → Src
  | .acc i => .acc (Nat.succ i)
  | .off s n => .off s.shift n
  | s => s
def Src.eldest : Src → Bool
  | .acc i => Nat.ble 2 i
  | .off s _ => s.eldest
  | _ => false
/-- what must be laid into slots ahead: the eldest, where it is looked at later on -/
def gone : List (Nat × Src) → Nat → List Nat
  | [], _ => []
  | (i, s) :: l, rd => Bool.casesOn (s.eldest && has rd i) (gone l rd) (i :: gone l rd)
def shiftS : List (Nat × Src) → List (Nat × Src)
  | [] => []
  | (i, s) :: l => Bool.casesOn s.eldest ((i, s.shift) :: shiftS l) (shiftS l)
def Sg.shift (g : Sg) : Sg := ⟨g.bs, shiftS g.l⟩
/-- a value into a slot -/
def setC (d : Nat) (next : Sg → Tc) (g : Sg) : Fv := let nx := next (g.kill d); ⟨fun rec e w k v => (setter d).f e v fun e => nx.run rec e w k⟩
/-- a value among those without a slot -/
def pushC (d : Nat) (next : Sg → Tc) (g : Sg) : Fv := let nx := g.shift.add d (.acc 0) next; ⟨fun rec e w k v => e.push v fun e => nx.run rec e w k⟩
/-- a value that nobody looks at -/
def dropC (next : Sg → Tc) (g : Sg) : Fv := let nx := next g; ⟨fun rec e w k _ => nx.run rec e w k⟩
/-- rd: the slots that are looked at later on in the region -/
def finC (c : Cx) (g : Sg) (rd : Nat) (d : Option Nat) (next : Sg → Tc) : Fv :=
  match d with
  | none => dropC next g
  | some d => Bool.casesOn (Nat.blt d c.m) ⟨fun _ _ _ _ _ => bad 169⟩ (Bool.casesOn (Nat.blt d 216) ⟨fun _ _ _ _ _ => bad 169⟩
    (Bool.casesOn (isEx c d)
      (Bool.casesOn (has rd d) (matT c (g.lost d) g fun g => dropC next (g.kill d)) (matT c (gone (g.kill d).l rd) (g.kill d) fun g => pushC d next g))
      (matT c (g.lost d) g fun g => setC d next g)))

def gkX (c : Cx) (g : Sg) (x : Operand) : Gk := srcO (srcOf c g x)
def gkL (c : Cx) (g : Sg) : List Operand → List (Option Src)
  | [] => []
  | x :: l => srcOf c g x :: gkL c g l
def glX (c : Cx) (g : Sg) (l : List Operand) : Gl := srcL (gkL c g l)
def gkP (c : Cx) (g : Sg) : List (Nat × Operand) → List (Nat × Gk)
  | [] => []
  | (i, x) :: l => (i, srcO (srcOf c g x)) :: gkP c g l
def gkM (c : Cx) (g : Sg) : List Operand → List Gk
  | [] => []
  | x :: l => srcO (srcOf c g x) :: gkM c g l
def gkO (c : Cx) (g : Sg) (x : Option Operand) : Gko := match x with
  | none => gko none
  | some x => gko (some (gkX c g x))
def oNo (n : Nat) (_ : Program) (_ : Cx) (_ : Sg) (_ : Fv) : Tc := .bad n
def oMove (x : Operand) (P : Program) (cx : Cx) (g : Sg) (fin : Fv) : Tc := let x := gkX cx g x; ⟨fun rec e w k => x.run e fun v => fin.run rec e w k v⟩
def oPick (c a b : Operand) (P : Program) (cx : Cx) (g : Sg) (fin : Fv) : Tc := pickC (gkX cx g c) (gkX cx g a) (gkX cx g b) fin
def oAlloc (t : Nat) (P : Program) (cx : Cx) (g : Sg) (fin : Fv) : Tc := allocC P t fin
def oBox (_ : Nat) (x : Operand) (P : Program) (cx : Cx) (g : Sg) (fin : Fv) : Tc := boxC (gkX cx g x) fin
def oBuild (t : Nat) (ps : Array (Nat × Operand)) (P : Program) (cx : Cx) (g : Sg) (fin : Fv) : Tc := buildC P t (gkP cx g ps.toList) fin
def oBuildSlice (t n : Nat) (ps : Array (Nat × Operand)) (P : Program) (cx : Cx) (g : Sg) (fin : Fv) : Tc := buildSliceC P t n (gkP cx g ps.toList) fin
def oLoad (t : Nat) (x : Operand) (P : Program) (cx : Cx) (g : Sg) (fin : Fv) : Tc := loadC P t (gkX cx g x) fin
def oStore (t : Nat) (x y : Operand) (P : Program) (cx : Cx) (g : Sg) (fin : Fv) : Tc := storeC P t (gkX cx g x) (gkX cx g y) fin
def oNilCheck (x : Operand) (P : Program) (cx : Cx) (g : Sg) (fin : Fv) : Tc := let x := gkX cx g x; ⟨fun rec e w k => x.run e fun v => nilCheckV v (fin.run rec e w k v)⟩
def oBin (op : BinOp) (t : Nat) (x y : Operand) (_ : Nat) (P : Program) (cx : Cx) (g : Sg) (fin : Fv) : Tc := binC P op t (gkX cx g x) (gkX cx g y) fin
def oUn (op : UnOp) (_ : Nat) (x : Operand) (P : Program) (cx : Cx) (g : Sg) (fin : Fv) : Tc := unC op (gkX cx g x) fin
def oConv (s d : Nat) (x : Operand) (P : Program) (cx : Cx) (g : Sg) (fin : Fv) : Tc := convC P s d (gkX cx g x) fin
def oMkI (t : Nat) (x : Operand) (P : Program) (cx : Cx) (g : Sg) (fin : Fv) : Tc := match undF P t with
  | none => .bad 171
  | some (.interface _) => .bad 171
  | some _ => let x := gkX cx g x; ⟨fun rec e w k => x.run e fun v => fin.run rec e w k ⟨30, .o, [v], 0, 0, 0, t⟩⟩
def oMkF (fn : Fn) (fs cs : Array Operand) (P : Program) (cx : Cx) (g : Sg) (fin : Fv) : Tc := makeFuncC fn fs.toList.length (glX cx g (fs.toList ++ cs.toList)) fin
def oMkM (_ : Nat) (r : Option Operand) (P : Program) (cx : Cx) (g : Sg) (fin : Fv) : Tc := match r with
  | none => ⟨fun rec e w k => w.new (.oth (.map [])) fun b w => fin.run rec e w k (.num 26 b)⟩
  | some _ => .bad 174
def oMkS (t : Nat) (l c : Operand) (P : Program) (cx : Cx) (g : Sg) (fin : Fv) : Tc := makeSliceC P t (gkX cx g l) (gkX cx g c) fin
def oSlice (t : Nat) (x : Operand) (l h m : Option Operand) (P : Program) (cx : Cx) (g : Sg) (fin : Fv) : Tc := match h, m with
  | none, some _ => .bad 422
  | _, _ => sliceC P t (gkX cx g x) (gkO cx g l) (gkO cx g h) (gkO cx g m) fin
def oFieldAddr (s : Nat) (x : Operand) (f : Nat) (P : Program) (cx : Cx) (g : Sg) (fin : Fv) : Tc := match fieldOf P s f with
  | some (off, sz, _) => Nat.casesOn sz (.bad 170) fun _ => pure1 (gkX cx g x) (fun v c => ptrK v fun b a => fN (Nat.add a off) fun o => c (.ptr b o)) fin
  | none => .bad 172
def oField (s : Nat) (x : Operand) (f : Nat) (P : Program) (cx : Cx) (g : Sg) (fin : Fv) : Tc := fieldC P s (gkX cx g x) f fin
def oIndexAddr (t : Nat) (x i : Operand) (P : Program) (cx : Cx) (g : Sg) (fin : Fv) : Tc := indexAddrC P t (gkX cx g x) (gkX cx g i) fin
def oIndex (t : Nat) (x i : Operand) (P : Program) (cx : Cx) (g : Sg) (fin : Fv) : Tc := indexC P t (gkX cx g x) (gkX cx g i) fin
def oLookup (t : Nat) (x i : Operand) (ok : Bool) (P : Program) (cx : Cx) (g : Sg) (fin : Fv) : Tc := lookupC P t (gkX cx g x) (gkX cx g i) ok fin
def oMapUp (t : Nat) (m k x : Operand) (P : Program) (cx : Cx) (g : Sg) (fin : Fv) : Tc := mapUpdateC P t (gkX cx g m) (gkX cx g k) (gkX cx g x) fin
def oRange (t : Nat) (x : Operand) (P : Program) (cx : Cx) (g : Sg) (fin : Fv) : Tc := rangeC P t (gkX cx g x) fin
def oNext (x : Operand) (b : Bool) (P : Program) (cx : Cx) (g : Sg) (fin : Fv) : Tc := nextC (gkX cx g x) b fin
def oAssert (x : Operand) (_ t : Nat) (ok : Bool) (P : Program) (cx : Cx) (g : Sg) (fin : Fv) : Tc := typeAssertC P (gkX cx g x) t ok fin
def oExtract (x : Operand) (i : Nat) (P : Program) (cx : Cx) (g : Sg) (fin : Fv) : Tc := pure1 (gkX cx g x) (fun v c => isN v.t 32 (nth v.l i c) (bad 173)) fin
def calleeK (cx : Cx) (g : Sg) : Callee → Gk
  | .value f => gkX cx g f
  | .invoke x _ => gkX cx g x
  | .builtin _ => .no
def oCall (c : Call) (P : Program) (cx : Cx) (g : Sg) (fin : Fv) : Tc := callC P c (calleeK cx g c.callee) (gkM cx g c.args.toList) (glX cx g c.args.toList) fin
def oDefer (c : Call) (P : Program) (cx : Cx) (g : Sg) (fin : Fv) : Tc := deferC c (glX cx g c.args.toList) fin
def opC (o : Op) : Program → Cx → Sg → Fv → Tc :=
  Op.casesOn o oMove oMove oPick oAlloc oBox oBuild oBuildSlice (fun _ _ _ _ => oNo 500) oLoad oStore (fun _ => oNo 501) (fun _ => oNo 502) oNilCheck oBin oUn oConv (fun _ _ => oNo 503)
    oMkI oMkF oMkM (fun _ _ => oNo 504) oMkS oSlice oFieldAddr oField oIndexAddr oIndex oLookup oMapUp (fun _ _ _ => oNo 505) (fun _ _ _ _ => oNo 506) oRange oNext (fun _ => oNo 507) oAssert oExtract oCall
    (fun _ => oNo 508) oDefer (fun _ => oNo 509) (fun _ _ => oNo 510) (fun _ _ _ => oNo 511) (fun _ _ => oNo 512)

/-- an operation that says no more than where a value lies: nothing is done; is it to be seen that it is a place? -/
abbrev Al := Option (Src × Bool)
def aNo (_ : Nat) (_ : Program) (_ : Cx) (_ : Sg) : Al := none
def aMove (x : Operand) (_ : Nat) (_ : Program) (c : Cx) (g : Sg) : Al := match srcOf c g x with
  | some s => some (s, false)
  | none => none
def aOff (s : Src) (off : Nat) : Src × Bool := match s with
  | .off s n => (.off s (Nat.add n off), false)
  | s => (.off s off, true)
def aCheck (x : Operand) (t : Nat) (P : Program) (c : Cx) (g : Sg) : Al := match undF P t with
  | some (.pointer _) => match srcOf c g x with
    | some s => some (aOff s 0)
    | none => none
  | _ => none
def aField (s : Nat) (x : Operand) (f : Nat) (_ : Nat) (P : Program) (c : Cx) (g : Sg) : Al := match fieldOf P s f with
  | some (off, Nat.succ _, _) => match srcOf c g x with
    | some s => some (aOff s off)
    | none => none
  | _ => none
def aliasOf (o : Op) : Nat → Program → Cx → Sg → Al :=
  Op.casesOn o aMove aMove (fun _ _ _ => aNo) (fun _ => aNo) (fun _ _ => aNo) (fun _ _ => aNo) (fun _ _ _ => aNo) (fun _ _ _ _ => aNo) (fun _ _ => aNo) (fun _ _ _ => aNo) (fun _ => aNo) (fun _ => aNo) aCheck (fun _ _ _ _ _ => aNo) (fun _ _ _ => aNo) (fun _ _ _ => aNo) (fun _ _ => aNo)
    (fun _ _ => aNo) (fun _ _ _ => aNo) (fun _ _ => aNo) (fun _ _ => aNo) (fun _ _ _ => aNo) (fun _ _ _ _ _ => aNo) aField (fun _ _ _ => aNo) (fun _ _ _ => aNo) (fun _ _ _ => aNo) (fun _ _ _ _ => aNo) (fun _ _ _ _ => aNo) (fun _ _ _ => aNo) (fun _ _ _ _ => aNo) (fun _ _ => aNo) (fun _ _ => aNo) (fun _ => aNo) (fun _ _ _ _ => aNo) (fun _ _ => aNo) (fun _ => aNo)
    (fun _ => aNo) (fun _ => aNo) (fun _ => aNo) (fun _ _ => aNo) (fun _ _ _ => aNo) (fun _ _ => aNo)
def ptrC (s : Src) (next : Tc) : Tc := match s with
  | .off s _ => ⟨fun rec e w k => (srcK s).run e fun v => ptrK v fun _ _ => next.run rec e w k⟩
  | _ => .bad 428
/-- is a guard's truth known? 0: false, 1: true, 2: neither -/
def findG : List (Nat × Nat) → Nat → Option Nat
  | [], _ => none
  | (i, b) :: l, j => Bool.casesOn (Nat.beq i j) (findG l j) (some b)
def wantN (b : Bool) : Nat := Bool.casesOn b 0 1
/-- what is known of guards in a slot that is written is known no more -/
def killG (ops : List Oper) (d : Nat) : List (Nat × Nat) → List (Nat × Nat)
  | [] => []
  | (j, b) :: l => match (ops[j]?).bind (·.dst) with
    | none => (j, b) :: killG ops d l
    | some gd => Bool.casesOn (Nat.beq gd d) ((j, b) :: killG ops d l) (killG ops d l)
def killO (ops : List Oper) (d : Option Nat) (gs : List (Nat × Nat)) : List (Nat × Nat) := match d with
  | none => gs
  | some d => killG ops d gs
/-- an operation that is passed over: its slot is undef -/
def skipC (c : Cx) (g : Sg) (rd : Nat) (d : Option Nat) (next : Sg → Tc) : Tc :=
  match d with
  | none => next g
  | some d => Bool.casesOn (isEx c d) (Bool.casesOn (Nat.blt d c.m) (.bad 175) (match g.lost d with
      | [] => g.add d (.con .undef) next
      | _ => .bad 175)) (pure0 .undef (finC c g rd (some d) next))
/-- one that is done -/
def doC (P : Program) (c : Cx) (g : Sg) (rd : Nat) (o : Oper) (next : Sg → Tc) : Tc :=
  match o.dst with
  | none => opC o.op P c g (finC c g rd none next)
  | some d => match Bool.casesOn (isEx c d) (aliasOf o.op o.type P c g) none with
    | some (s, chk) => match g.lost d with
      | [] => Bool.casesOn (Nat.blt d c.m) (.bad 429) (let nx := g.add d s next; Bool.casesOn chk nx (ptrC s nx))
      | _ => opC o.op P c g (finC c g rd (some d) next)
    | none => opC o.op P c g (finC c g rd (some d) next)
def guardC (s : Option Src) (yes no undef : Tc) : Tc :=
  ⟨fun rec e w k => (srcO s).run e fun v => isN v.t 32 (undef.run rec e w k) (test v w fun t w => Bool.casesOn t (no.run rec e w k) (yes.run rec e w k))⟩
/-- one operation of a region, as its guard has it; gs: what is known of guards; sk: those that were passed over, as bits -/
def goC (P : Program) (c : Cx) (ops : List Oper) (rd i : Nat) (o : Oper) (g : Sg) (gs : List (Nat × Nat)) (sk : Nat) (next : Sg → List (Nat × Nat) → Nat → Tc) : Tc :=
  let yes (gs : List (Nat × Nat)) := doC P c g rd o fun g => next g (killO ops o.dst gs) sk
  let no (gs : List (Nat × Nat)) := skipC c g rd o.dst fun g => next g ((i, 2) :: killO ops o.dst gs) (Nat.lor sk (Nat.shiftLeft 1 i))
  match o.guard with
  | none => yes gs
  | some (j, want) => match findG gs j with
    | some b => Bool.casesOn (Nat.beq b (wantN want)) (no gs) (yes gs)
    | none => match (ops[j]?).bind (·.dst) with
      | none => .bad 176
      | some gd => guardC (srcOf c g (.tmp gd)) (Bool.casesOn want (no ((j, 1) :: gs)) (yes ((j, 1) :: gs))) (Bool.casesOn want (yes ((j, 0) :: gs)) (no ((j, 0) :: gs))) (no ((j, 2) :: gs))
/-- are these the same? -/
def sameI : List Int → List Int → Bool
  | [], [] => true
  | a :: l, b :: r => Bool.casesOn (eqI a b) false (sameI l r)
  | _, _ => false
def sameX : X → X → Bool
  | .o, .o => true
  | .str s, .str t => s.data.toList == t.data.toList
  | .slu m j d, .slu m' j' d' => Nat.beq m m' && Nat.beq j j' && Nat.beq d d'
  | .vec k j l, .vec k' j' l' => Nat.beq k k' && Nat.beq j j' && sameI l l'
  | .vb j l, .vb j' l' => Nat.beq j j' && l == l'
  | _, _ => false
def sameF (f : V → V → Bool) : List V → List V → Bool
  | [], [] => true
  | a :: l, b :: r => f a b && sameF f l r
  | _, _ => false
def sameN : Nat → V → V → Bool
  | 0, _, _ => false
  | n + 1, v, u => Nat.beq v.t u.t && Nat.beq v.a u.a && Nat.beq v.b u.b && Nat.beq v.c u.c && Nat.beq v.d u.d && sameX v.x u.x && sameF (sameN n) v.l u.l
def againC (s : Option Src) (next : Tc) : Fv := ⟨fun rec e w k v => (srcO s).run e fun u => Bool.casesOn (sameN 8 u v) (bad 601) (next.run rec e w k)⟩
def reC (P : Program) (c : Cx) (g : Sg) (o : Oper) (next : Tc) : Tc := match o.dst with
  | none => .bad 600
  | some d => Bool.casesOn (Nat.blt d c.m) (.bad 614) (opC o.op P c g (againC (srcOf c g (.tmp d)) next))
def okC : Tc := ⟨fun _ _ _ _ => true⟩
def dryC (P : Program) (c : Cx) (ops : List Oper) : List (Nat × Oper) → Sg → List (Nat × Nat) → Nat → Tc
  | [], _, _, _ => okC
  | (i, o) :: l, g, gs, sk => sx (dryR ops l 0) fun rd => goC P c ops rd i o g gs sk fun g gs sk => dryC P c ops l g gs sk
def bothC (a b : Tc) : Tc := ⟨fun rec e w k => Bool.casesOn (a.run rec e w k) false (b.run rec e w k)⟩
def regC (P : Program) (c : Cx) (ops : List Oper) : List It → Sg → List (Nat × Nat) → Nat → Tc → Tc
  | [], _, _, _, next => next
  | .go i o :: l, g, gs, sk, next => sx (readM ops l) fun rd => goC P c ops rd i o g gs sk fun g gs sk => regC P c ops l g gs sk next
  | .re i o :: l, g, gs, sk, next => Bool.casesOn (has sk i) (reC P c g o (regC P c ops l g gs sk next)) (regC P c ops l g gs sk next)
  | .dry d :: l, g, gs, sk, next => bothC (dryC P c ops d g gs sk) (regC P c ops l g gs sk next)

/-! ### The order in which a region is done -/
def straight : List Oper → Nat → List It
  | [], _ => []
  | o :: l, i => .go i o :: straight l (i + 1)
/-- what an operation does: 0 it reckons, 1 it looks at the world, 2 it acts, 3 it makes an object -/
def kX0 (_ : Program) : Nat := 0
def kX1 (_ : Program) : Nat := 1
def kX2 (_ : Program) : Nat := 2
def kX3 (_ : Program) : Nat := 3
def kBin (op : BinOp) (t : Nat) (_ _ : Operand) (_ : Nat) (P : Program) : Nat := match undF P t with
  | some (.int _) | some .string | some .bool => 0
  | _ => 1
def kConv (s d : Nat) (_ : Operand) (P : Program) : Nat := match undF P s, undF P d with
  | some (.slice _), _ => 1
  | some .string, some (.slice _) => 2
  | _, _ => 0
def kBi (P : Program) (b : Builtin) (ts : List Nat) : Nat := match b with
  | .len => match ts with
    | t :: _ => match undF P t with
      | some (.map _ _) => 1
      | _ => 0
    | [] => 2
  | .min => 0
  | .max => 0
  | .cap => 0
  | _ => 2
def kCall (c : Call) (P : Program) : Nat := match c.callee with
  | .builtin b => kBi P b c.argTypes.toList
  | _ => 2
def kindOf (o : Op) : Program → Nat :=
  Op.casesOn o (fun _ => kX0) (fun _ => kX0) (fun _ _ _ => kX0) (fun _ => kX3) (fun _ _ => kX3) (fun _ _ => kX0) (fun _ _ _ => kX3) (fun _ _ _ _ => kX2) (fun _ _ => kX1) (fun _ _ _ => kX2) (fun _ => kX2) (fun _ => kX2) (fun _ => kX0) kBin (fun _ _ _ => kX0) kConv (fun _ _ => kX2)
    (fun _ _ => kX0) (fun _ _ _ => kX0) (fun _ _ => kX3) (fun _ _ => kX2) (fun _ _ _ => kX3) (fun _ _ _ _ _ => kX0) (fun _ _ _ => kX0) (fun _ _ _ => kX0) (fun _ _ _ => kX0) (fun _ _ _ => kX0) (fun _ _ _ _ => kX1) (fun _ _ _ _ => kX2) (fun _ _ _ => kX2) (fun _ _ _ _ => kX2) (fun _ _ => kX3) (fun _ _ => kX2) (fun _ => kX2) (fun _ _ _ _ => kX0) (fun _ _ => kX0) kCall
    (fun _ => kX2) (fun _ => kX2) (fun _ => kX2) (fun _ _ => kX2) (fun _ _ _ => kX2) (fun _ _ => kX2)
def bindsN (e : Edge) : Bool := match e.ground with
  | .textOnly _ | .gcOnly _ => false
  | _ => true
/-- the ancestors of all, each in 64 bits of a number -/
def fld (T i : Nat) : Nat := Nat.land (Nat.shiftRight T (Nat.mul 64 i)) 18446744073709551615
/-- the slots that operations write, and 1, each in 8 bits of a number; here: as a bit -/
def wrB (Dt i : Nat) : Nat := Nat.shiftRight (Nat.shiftLeft 1 (Nat.land (Nat.shiftRight Dt (Nat.mul 8 i)) 255)) 1
def within (a b : Nat) : Bool := Nat.beq (Nat.land a b) a
/-- an operation's ancestors, and the slots that those write which it names itself -/
def edgeK (T Dt i : Nat) : List Edge → Nat → Nat → (Nat → Nat → Tc) → Tc
  | [], a, w, k => k a w
  | e :: l, a, w, k => Bool.casesOn (bindsN e) (edgeK T Dt i l a w k)
      (Bool.casesOn (Nat.blt e.on i) (.bad 611) (sx (Nat.lor a (Nat.lor (Nat.shiftLeft 1 e.on) (fld T e.on))) fun a => sx (Nat.lor w (wrB Dt e.on)) fun w => edgeK T Dt i l a w k))
/-- those that look at a slot, as bits -/
def rdrs (ops : List Oper) (d : Nat) : List Oper → Nat → Nat → Nat
  | [], _, n => n
  | o :: l, j, n => Bool.casesOn (Nat.beq (Nat.land d (goR ops o 0)) 0) (rdrs ops d l (j + 1) (Nat.lor n (Nat.shiftLeft 1 j))) (rdrs ops d l (j + 1) n)
/-- T: ancestors; Dt: what they write; Wb, Rb: the slots written and looked at so far; E, A, R: those that act, make, look, as bits; V: those whose slots are written anew later on -/
def plan (P : Program) (ops : List Oper) : List Oper → Nat → Nat → Nat → Nat → Nat → Nat → Nat → Nat → Nat → (Nat → Nat → Nat → Nat → Nat → Tc) → Tc
  | [], _, T, _, _, _, E, A, R, V, k => k T E A R V
  | o :: l, i, T, Dt, Wb, Rb, E, A, R, V, k =>
    sx (match o.dst with | some d => Nat.succ d | none => 0) fun d1 => sx (Nat.shiftRight (Nat.shiftLeft 1 d1) 1) fun d => sx (goR ops o 0) fun r =>
    edgeK T Dt i o.after.toList 0 0 fun a w =>
    Bool.casesOn (Nat.blt d1 217) (.bad 612) (Bool.casesOn (Nat.beq (Nat.land d (Nat.lor Wb r)) 0) (.bad 612) (Bool.casesOn (within (Nat.land r Wb) w) (.bad 612)
    (sx (Bool.casesOn (Nat.beq (Nat.land d Rb) 0) (rdrs ops d ops 0 0) 0) fun q => Bool.casesOn (within q a) (.bad 612)
    (sx (Nat.lor T (Nat.shiftLeft a (Nat.mul 64 i))) fun T => sx (Nat.lor Dt (Nat.shiftLeft d1 (Nat.mul 8 i))) fun Dt => sx (Nat.lor Wb d) fun Wb => sx (Nat.lor Rb r) fun Rb => sx (Nat.lor V q) fun V => sx (Nat.shiftLeft 1 i) fun b =>
      match kindOf o.op P with
      | 0 => plan P ops l (i + 1) T Dt Wb Rb E A R V k
      | 1 => sx (Nat.lor R b) fun R => plan P ops l (i + 1) T Dt Wb Rb E A R V k
      | 2 => sx (Nat.lor E b) fun E => plan P ops l (i + 1) T Dt Wb Rb E A R V k
      | _ => sx (Nat.lor A b) fun A => plan P ops l (i + 1) T Dt Wb Rb E A R V k))))
def idx : List Oper → Nat → List (Nat × Oper)
  | [], _ => []
  | o :: l, i => (i, o) :: idx l (i + 1)
def those (M : Nat) (y : Bool) : List (Nat × Oper) → List (Nat × Oper)
  | [] => []
  | (i, o) :: l => Bool.casesOn (Bool.casesOn (has M i) (not y) y) (those M y l) ((i, o) :: those M y l)
/-- what may be done, of those that make and change nothing; those that are left -/
def pass (T A : Nat) : List (Nat × Oper) → Nat → (List (Nat × Oper) → Nat → List It) → List It
  | [], D, k => k [] D
  | (i, o) :: l, D, k => Bool.casesOn (Bool.casesOn (has A i) (within (fld T i) D) false) (pass T A l D fun r D => k ((i, o) :: r) D) (.go i o :: sx (Nat.lor D (Nat.shiftLeft 1 i)) fun D => pass T A l D k)
/-- what is wanted, in order -/
def birth (M : Nat) : List (Nat × Oper) → Nat → (List (Nat × Oper) → Nat → List It) → List It
  | [], D, k => k [] D
  | (i, o) :: l, D, k => Bool.casesOn (has M i) (birth M l D fun r D => k ((i, o) :: r) D) (.go i o :: sx (Nat.lor D (Nat.shiftLeft 1 i)) fun D => birth M l D k)
/-- what might be done by now, and is done later -/
def later (T E D : Nat) : List (Nat × Oper) → List (Nat × Oper)
  | [] => []
  | (i, o) :: l => Bool.casesOn (within (Nat.land (fld T i) E) D) (later T E D l) ((i, o) :: later T E D l)
/-- what was looked at, and may be looked at later, too -/
def looks (M : Nat) : List (Nat × Oper) → List It → List It
  | [], r => r
  | (i, o) :: l, r => Bool.casesOn (has M i) (looks M l r) (.re i o :: looks M l r)
def minus (a b : Nat) : Nat := Nat.xor a (Nat.land a b)
/-- rl: those that look at the world; the first list: those that act; the second: what else is left -/
def phases (T E A R : Nat) (rl : List (Nat × Oper)) : List (Nat × Oper) → List (Nat × Oper) → Nat → List It
  | [], l, D => pass T A l D fun l D => birth 18446744073709551615 l D fun _ _ => []
  | (e, o) :: es, l, D => pass T A l D fun l D => birth (fld T e) l D fun l D =>
      let go := It.go e o :: looks (minus (Nat.land R D) (fld T e)) rl (phases T E A R rl es l (Nat.lor D (Nat.shiftLeft 1 e)))
      match later T E D l with
      | [] => go
      | d => .dry d :: go

/-! ### Is an order a good one? -/
/-- all that may come by now is done, or tried, or this -/
def full (T E D Y i : Nat) : List (Nat × Oper) → Bool
  | [] => true
  | (j, _) :: l => Bool.casesOn (Bool.casesOn (has (Nat.lor D Y) j) (Bool.casesOn (Nat.beq j i) (Bool.casesOn (within (Nat.land (fld T j) E) D) true false) true) true) false (full T E D Y i l)
/-- tried, one behind the other -/
def goodD (T ER : Nat) : List (Nat × Oper) → Nat → Nat → (Nat → Bool) → Bool
  | [], _, Y, k => k Y
  | (i, _) :: l, D, Y, k => Bool.casesOn (has (Nat.lor D ER) i) (Bool.casesOn (within (fld T i) D) false (sx (Nat.lor Y (Nat.shiftLeft 1 i)) fun Y => sx (Nat.lor D (Nat.shiftLeft 1 i)) fun D => goodD T ER l D Y k)) false
/-- D: done; Y: tried; B: done when the last one that acts was; Q: to be looked at again -/
def goodI (T E A R V N : Nat) (il : List (Nat × Oper)) : List It → Nat → Nat → Nat → Nat → Bool
  | [], D, _, _, Q => Bool.casesOn (Nat.beq Q 0) false (within N D)
  | .go i _ :: l, D, Y, B, Q => Bool.casesOn (Nat.beq Q 0) false (Bool.casesOn (has D i) (Bool.casesOn (within (fld T i) D) false
      (sx (Nat.lor D (Nat.shiftLeft 1 i)) fun D' =>
        Bool.casesOn (has E i)
          (Bool.casesOn (has R i) (goodI T E A R V N il l D' Y B 0) (Bool.casesOn (within (Nat.land A D) B) false (goodI T E A R V N il l D' Y B 0)))
          (Bool.casesOn (within (Nat.land (Nat.lor E A) D) (fld T i)) false (Bool.casesOn (full T E D Y i il) false (sx (minus (Nat.land R D) (fld T i)) fun Q => goodI T E A R V N il l D' 0 D' Q))))) false)
  | .re i _ :: l, D, Y, B, Q => Bool.casesOn (has Q i) false (Bool.casesOn (has V i) (sx (minus Q (Nat.shiftLeft 1 i)) fun Q => goodI T E A R V N il l D Y B Q) false)
  | .dry d :: l, D, Y, B, Q => Bool.casesOn (Nat.beq Q 0) false (goodD T (Nat.lor E R) d D Y fun Y => goodI T E A R V N il l D Y B Q)
def drawnC (P : Program) (c : Cx) (ops : List Oper) (nx : Tc) : Tc :=
  let il := idx ops 0
  Bool.casesOn (Nat.ble ops.length 63) (.bad 610) (plan P ops ops 0 0 0 0 0 0 0 0 0 fun T E A R V =>
    let its := phases T E A R (those R true il) (those E true il) (those E false il) 0
    Bool.casesOn (goodI T E A R V (Nat.sub (Nat.shiftLeft 1 ops.length) 1) il its 0 0 0 0) (.bad 613) (regC P c ops its sg0 [] 0 nx))

/-! ### Which slots are looked at outside their region, of code -/
def exReg : List Oper → Nat → Nat → Nat
  | [], _, n => n
  | o :: l, wr, n => exReg l (match o.dst with | some d => Nat.lor wr (Nat.shiftLeft 1 d) | none => wr) (openIn (readsOf o) wr n)
def exCode : Code → Nat → Nat
  | .region _ ops _, n => exReg ops.toList 0 n
  | .seq a b, n => exCode b (exCode a n)
  | .cond c a b, n => exCode b (exCode a (bitsOf (slotsOf c) n))
  | .block _ b, n => exCode b n
  | .loop b, n => exCode b n
  | .rangeFunc f _ a b, n => exCode b (exCode a (bitsOf (slotsOf f) n))
  | .scope b, n => exCode b n
  | _, n => n
def exRes : List ResultVar → Nat → Nat
  | [], n => n
  | .tmp t :: l, n => exRes l (Nat.lor n (Nat.shiftLeft 1 t))
  | .cell a _ :: l, n => exRes l (Nat.lor n (Nat.shiftLeft 1 a))
def cxOf (fn : Func) : Cx := ⟨fn.ntmps, match fn.body with | some c => exCode c (exRes fn.results.toList 0) | none => 0⟩

/-! ### Code -/
def loopAt (w : W) (l : Nat) (k : Loo → Env → Nat → Jp → Bool) : Bool := othAt w l fun o => match o with
  | .loop lo e st j => k lo e st j
  | _ => bad 181
/-- the block for a loop's deferred calls: an outermost loop's is new -/
def enter (w : W) (k : Nat → W → Bool) : Bool :=
  Option.casesOn w.r (w.new (.oth .marks) fun d w => W.casesOn w fun h nx ms ds r => k d ⟨h, nx, ms, .mark d :: ds, r⟩) fun l => loopAt w l fun lo _ _ _ => k lo.defers w
def endC : Tc := ⟨fun _ e w k => k .n e w⟩
def sem (P : Program) (c : Cx) : Code → Tc → Tc
  | .skip, nx => nx
  | .region _ ops draw, nx => let l := ops.toList; Bool.casesOn draw (regC P c l (straight l 0) sg0 [] 0 nx) (drawnC P c l nx)
  | .seq a b, nx => sem P c a (sem P c b nx)
  | .cond x a b, nx => let t := sem P c a nx; let f := sem P c b nx
    ⟨fun rec e w k => (srcO (srcOf c sg0 x)).run e fun v => test v w fun t' w => Bool.casesOn t' (f.run rec e w k) (t.run rec e w k)⟩
  | .block id b, nx => let s := sem P c b endC; ⟨fun rec e w k => s.run rec e w fun x e w => Ex.casesOn x (nx.run rec e w k) (fun i => Bool.casesOn (Nat.beq i id) (k (.x i) e w) (nx.run rec e w k)) (k .r e w)⟩
  | .loop b, nx => ⟨fun rec e w k => rec.loop c.m c.ex b e w fun x e w => Ex.casesOn x (nx.run rec e w k) (fun i => k (.x i) e w) (k .r e w)⟩
  | .rangeFunc f ps assign body, nx => ⟨fun rec e w k => (srcO (srcOf c sg0 f)).run e fun v => enter w fun d w => w.new (.oth (.loop ⟨c.m, c.ex, ps.toList, assign, body, d⟩ e 0 .none)) fun l w =>
      isN v.t 33 (callV rec v [.num 34 l] w fun _ w => loopAt w l fun _ _ st j => isN st 1 (bad 182) (dropO w l fun w => Jp.casesOn j (nx.run rec e w k) (fun id => k (.x id) e w) (k .r e w))) (bad 184)⟩
  | .exit id, _ => ⟨fun _ e w k => k (.x id) e w⟩
  | .ret, _ => ⟨fun _ e w k => k .r e w⟩
  | .label _, nx => nx
  | _, _ => .bad 183

/-! ### Calls -/
/-- what a function hands back -/
structure Rs where
  run : Env → W → (V → Bool) → Bool
def resOne (P : Program) (c : Cx) : ResultVar → Rs
  | .tmp t => ⟨fun e _ k => (srcO (srcOf c sg0 (.tmp t))).run e k⟩
  | .cell a t => match undF P t with
    | none => ⟨fun _ _ _ => bad 185⟩
    | some d => Bool.casesOn (isAggD d) ⟨fun e w k => (srcO (srcOf c sg0 (.tmp a))).run e fun v => ptrK v fun b a => cellAt w.h b a k⟩
      (let n := sizeT P t; ⟨fun e w k => (srcO (srcOf c sg0 (.tmp a))).run e fun v => ptrK v fun b a => cellsAt w.h b a n fun l => k (.agg l)⟩)
structure Rl where
  run : Env → W → (List V → Bool) → Bool
def resAll (P : Program) (c : Cx) : List ResultVar → Rl
  | [] => ⟨fun _ _ k => k []⟩
  | r :: l => ⟨fun e w k => (resOne P c r).run e w fun v => (resAll P c l).run e w fun vs => k (v :: vs)⟩
def resC (P : Program) (c : Cx) : List ResultVar → Rs
  | [r] => resOne P c r
  | l => ⟨fun e w k => (resAll P c l).run e w fun vs => k (.tup vs)⟩
structure Fc where
  run : Rec → List V → W → (V → W → Bool) → Bool
def argsIn (m : Nat) : Nat → List V → Env → (Env → Bool) → Bool
  | _, [], e, k => k e
  | i, v :: l, e, k => Bool.casesOn (Nat.blt i m) (bad 215) ((setter i).f e v fun e => argsIn m (i + 1) l e k)
/-- a function; lv: what is done behind its body -/
def fnX (P : Program) (lv : Program → Cx → List ResultVar → Rec → List Dd → Option Nat → (V → W → Bool) → Env → W → Bool) (f : Nat) : Fc :=
  match fnF P f with
  | none => ⟨fun _ _ _ _ => bad 188⟩
  | some fn => match fn.body with
    | none => ⟨fun _ _ _ _ => bad 189⟩
    | some c =>
      let cx := cxOf fn
      Cx.casesOn cx fun m ex => fN' ex fun ex =>
      Bool.casesOn (Nat.ble m 216) ⟨fun _ _ _ _ => bad 190⟩ (let s := sem P ⟨m, ex⟩ c endC; ⟨fun rec args w k => argsIn m 0 args u3 fun e => W.casesOn w fun h nx ms ds r => s.run rec e ⟨h, nx, ms, [], none⟩ fun x e w =>
        Ex.casesOn x (lv P ⟨m, ex⟩ fn.results.toList rec ds r k e w) (fun _ => bad 191) (lv P ⟨m, ex⟩ fn.results.toList rec ds r k e w)⟩)
where
  fN' (n : Nat) (k : Nat → Fc) : Fc := Nat.casesOn n (k 0) (fun m => k (Nat.succ m))
/-- behind the body of a function that is a deferred call: it defers nothing -/
def leaveD (P : Program) (c : Cx) (rs : List ResultVar) (_ : Rec) (ds : List Dd) (r : Option Nat) (k : V → W → Bool) (e : Env) (w : W) : Bool :=
  W.casesOn w fun h nx ms ds' _ => match ds' with
    | [] => (resC P c rs).run e ⟨h, nx, ms, [], none⟩ fun v => k v ⟨h, nx, ms, ds, r⟩
    | _ => bad 216
def fnD (P : Program) (f : Nat) : Fc := fnX P leaveD f
def undo (P : Program) (rec : Rec) : List Dd → W → (W → Bool) → Bool
  | [], w, k => k w
  | .mark b :: l, w, k => othAt w b fun o => match o with
    | .marks => dropO w b fun w => undo P rec l w k
    | _ => bad 217
  | .call f args :: l, w, k => (fnD P f).run rec args w fun _ w => undo P rec l w k
/-- behind a function's body -/
def leaveC (P : Program) (c : Cx) (rs : List ResultVar) (rec : Rec) (ds : List Dd) (r : Option Nat) (k : V → W → Bool) (e : Env) (w : W) : Bool :=
  W.casesOn w fun h nx ms ds' _ => undo P rec ds' ⟨h, nx, ms, [], none⟩ fun w => (resC P c rs).run e w fun v => W.casesOn w fun h nx ms _ _ => k v ⟨h, nx, ms, ds, r⟩
def fnC (P : Program) (f : Nat) : Fc := fnX P leaveC f

/-! ### Functions that have a law of their own -/
/-- Table.All behind its collecting and sorting -/
def restOf : Code → Option Code
  | .seq _ (.seq _ (.seq _ r)) => some r
  | _ => none
def insN (n : Nat) : List Nat → List Nat
  | [] => [n]
  | a :: l => Bool.casesOn (Nat.blt a n) (n :: a :: l) (a :: insN n l)
def sortN : List Nat → List Nat
  | [] => []
  | a :: l => insN a (sortN l)
def forceN : List Nat → (List V → Bool) → Bool
  | [], k => k []
  | a :: l, k => fN a fun a => forceN l fun r => k (.nat 7 a :: r)
def allC (P : Program) (f : Nat) : Fc :=
  match fnF P f with
  | none => ⟨fun _ _ _ _ => bad 192⟩
  | some fn => match fn.body.bind restOf with
    | none => ⟨fun _ _ _ _ => bad 193⟩
    | some c => let cx : Cx := ⟨fn.ntmps, exCode c 0⟩; let s := sem P cx c endC
      ⟨fun rec args w k => match args with
      | [t, y] => isN t.t 17 (ptrK t fun tb ta => cellAt w.h tb ta fun mv => isN mv.t 26
        (vA mv fun mr => mapAt w mr fun es => forceN (sortN (es.map (·.1))) fun l => fN l.length fun len => Bool.casesOn (Nat.ble len 12) (bad 430) (Nat.casesOn len (bad 431) fun n =>
          appended w 1 [] l (Nat.succ n) fun v w => W.casesOn w fun h nx ms ds r =>
          argsIn 216 0 [t, y] u3 fun e => (setter 4).f e v fun e =>
          s.run rec e ⟨h, nx, ms, [], none⟩ fun x _ w =>
            let fin (_ : Unit) := W.casesOn w fun h nx ms ds' _ => match ds' with
              | [] => k .undef ⟨h, nx, ms, ds, r⟩
              | _ => bad 194
            Ex.casesOn x (fin ()) (fun _ => bad 195) (fin ()))) (bad 196)) (bad 197)
      | _ => bad 198⟩
/-- eight owners: are they numbers of that kind, and how many are the key? -/
def cntR1 (key : Nat) (r : R1) (c : Nat) (k : Nat → Bool) : Bool := N8.casesOn r fun a b x d e f g h =>
  Bx.casesOn a fun a => Bx.casesOn b fun b => Bx.casesOn x fun x => Bx.casesOn d fun d => Bx.casesOn e fun e => Bx.casesOn f fun f => Bx.casesOn g fun g => Bx.casesOn h fun h =>
  Bool.casesOn (Nat.beq (Nat.land a.t (Nat.land b.t (Nat.land x.t (Nat.land d.t (Nat.land e.t (Nat.land f.t (Nat.land g.t h.t))))))) 7) (bad 199)
  (Bool.casesOn (Nat.beq (Nat.lor a.t (Nat.lor b.t (Nat.lor x.t (Nat.lor d.t (Nat.lor e.t (Nat.lor f.t (Nat.lor g.t h.t))))))) 7) (bad 199)
  (fN (Nat.add c (Nat.add (Nat.sub 1 (Nat.add (Nat.sub a.a key) (Nat.sub key a.a))) (Nat.add (Nat.sub 1 (Nat.add (Nat.sub b.a key) (Nat.sub key b.a))) (Nat.add (Nat.sub 1 (Nat.add (Nat.sub x.a key) (Nat.sub key x.a))) (Nat.add (Nat.sub 1 (Nat.add (Nat.sub d.a key) (Nat.sub key d.a)))
    (Nat.add (Nat.sub 1 (Nat.add (Nat.sub e.a key) (Nat.sub key e.a))) (Nat.add (Nat.sub 1 (Nat.add (Nat.sub f.a key) (Nat.sub key f.a))) (Nat.add (Nat.sub 1 (Nat.add (Nat.sub g.a key) (Nat.sub key g.a))) (Nat.sub 1 (Nat.add (Nat.sub h.a key) (Nat.sub key h.a)))))))))))
    k))
structure G61 where
  f : R6 → R1
def g61 (x : Nat) : G61 := dg x 0 fun b' => dg x 3 fun c' => dg x 6 fun a => dg x 9 fun b => dg x 12 fun c => ⟨fun n => (p8 b').f ((p8 c').f ((p8 a).f ((p8 b).f ((p8 c).f n))))⟩
/-- eight by eight -/
def count8 (s : R6) (key : Nat) : Nat → Nat → Nat → (Nat → Bool) → Bool
  | 0, _, c, k => k c
  | n + 1, i, c, k => cntR1 key ((g61 i).f s) c fun c => fN (Nat.succ i) fun i => count8 s key n i c k
def countC : Fc :=
  ⟨fun _ args w k => match args with
    | [p, key] => isN key.t 7 (ptrK p fun pb pa => fN (Nat.add pa 1) fun pa => cellAt w.h pb pa fun sv => isN sv.t 23 (isN sv.a 0 (
        vBA sv fun b _ => Ob.casesOn ((gH b).f w.h) fun kk n _ _ _ l _ => Bool.casesOn (Nat.ble sv.c n) (bad 201)
          (isN kk 2 (Nat.casesOn key.a (k (.nat 3 0) w) fun key' => isN (Nat.land sv.c 7) 0 (count8 l (Nat.succ key') (Nat.shiftRight sv.c 3) 0 0 fun c => k (.nat 3 c) w) (bad 200)) (bad 200))) (bad 202)) (bad 202)) (bad 204)
    | _ => bad 205⟩
/-- the two rows that are there from the first: which bytes are blanks; what the kernel makes -/
def spL : List V := (List.range 256).map fun i => V.nat 4 (Bool.casesOn (Bool.casesOn (Nat.beq i 32) (Bool.casesOn (Nat.ble 9 i) false (Nat.ble i 13)) true) 0 1)
def mkL : List V := [1, 1, 2, 1, 4, 1, 3, 2, 5, 2].map fun i => V.nat 3 i
/-- are the cells these numbers? -/
def rowIs (o : Ob) : List V → Nat → Bool → Bool
  | [], _, k => k
  | v :: l, i, k => cellOf o i fun u => isN u.t v.t (isN u.a v.a (fN (Nat.succ i) fun i => rowIs o l i k) (bad 220)) (bad 220)
/-- a function that is known to return true, and to change nothing that is spoken of -/
def trueC : Fc := ⟨fun _ args w k => match args with
  | [] => rowIs ((gH 0).f w.h) spL 0 (rowIs ((gH 2).f w.h) mkL 0 (k (.bool 1) w))
  | _ => bad 219⟩
/-- sp: a function that is known to return true; 0: none -/
def callS (P : Program) (sp f : Nat) : Fc :=
  Bool.casesOn (Nat.beq f 18) (Bool.casesOn (Nat.beq f 30) (Bool.casesOn (Bool.casesOn (Nat.beq f 0) (Nat.beq f sp) false) (fnC P f) trueC) countC) (allC P f)
def parsIn : List Nat → List V → Env → (Env → Bool) → Bool
  | [], [], e, k => k e
  | i :: ps, v :: l, e, k => Bool.casesOn (Nat.blt i 216) (bad 206) ((setter i).f e v fun e => parsIn ps l e k)
  | _, _, _, _ => bad 207
/-- a round is over -/
def endRd (w : W) (l st : Nat) (j : Jp) (k : W → Bool) : Bool := loopAt w l fun lo e _ _ => setOb w l (.oth (.loop lo e st j)) k
def roundC (P : Program) (rec : Rec) (l : Nat) (args : List V) (w : W) (k : V → W → Bool) : Bool :=
  W.casesOn w fun h nx ms ds r =>
  loopAt ⟨h, nx, ms, ds, r⟩ l fun lo e st _ => isN st 0 (Loo.casesOn lo fun m ex ps assign body _ =>
    parsIn ps args e fun e1 => (sem P ⟨m, ex⟩ assign endC).run rec e1 ⟨h, nx, ms, [], some l⟩ fun x e2 w2 => Ex.casesOn x (
      loopAt w2 l fun lo e st j => isN st 0 (setOb w2 l (.oth (.loop lo e 1 j)) fun w2 => (sem P ⟨m, ex⟩ body endC).run rec e2 w2 fun x _ w3 =>
        let fin (st : Nat) (j : Jp) (b : Nat) : Bool := endRd w3 l st j fun w => W.casesOn w fun h nx ms _ _ => k (.bool b) ⟨h, nx, ms, ds, r⟩
        Ex.casesOn x (fin 0 .none 1) (fun id => fin 2 (.x id) 0) (fin 2 .r 0)) (bad 214)) (fun _ => bad 208) (bad 209)) (bad 210)
def ev (P : Program) (sp : Nat) : Nat → Rec
  | 0 => ⟨fun _ _ _ _ => bad 211, fun _ _ _ _ _ _ => bad 212, fun _ _ _ _ => bad 213⟩
  | n + 1 => ⟨fun f args w k => (callS P sp f).run (ev P sp n) args w k,
    fun m ex c e w k => (sem P ⟨m, ex⟩ c endC).run (ev P sp n) e w fun x e w => Ex.casesOn x ((ev P sp n).loop m ex c e w k) (fun id => k (.x id) e w) (k .r e w),
    fun l args w k => roundC P (ev P sp n) l args w k⟩

end Go.Proofs.YtcajgbpcimimhaaGreatDoor.Vm
namespace Go.Proofs.YtcajgbpcimimhaaGreatDoor.Vm
open Go

/-- a laid row that is only read; j: its capacity's name -/
def rowL (j : Nat) (l : List V) : Ob := .small l.length 0 (capP j 1) (rowS l)
/-- the first state -/
def start (ms : List (List Bool)) (k : W → Bool) : Bool := (sH 0).f h0 (rowL 1 spL) fun h => (sH 2).f h (rowL 2 mkL) fun h => k ⟨h, 3, ms, [], none⟩
/-- it returned true -/
def endK (v : V) (_ : W) : Bool := isN v.t 16 (isN v.a 1 true (bad 1000)) (bad 1000)
/-- an argument as it comes: its number, a mask, what it is behind the mask and one more, or 0 -/
def argV (j c d : Nat) : V := ⟨36, .o, [], d, c, 0, j⟩
end Go.Proofs.YtcajgbpcimimhaaGreatDoor.Vm
