/- Literal states: is a state one of these, but for what is forgotten? Conditions: as each theorem names them. -/
import Derived.Test.YtcajgbpcimimhaaGreatDoorVmEvalG
set_option linter.unusedVariables false
namespace Go.Proofs.YtcajgbpcimimhaaGreatDoor.Vm
open Go
/-- both -/
def an (a b : Bool) : Bool := Bool.casesOn a false b
def qL {α : Type} (f : α → α → Bool) : List α → List α → Bool
  | [], [] => true
  | a :: l, b :: r => an (f a b) (qL f l r)
  | _, _ => false
def qI (i j : Int) : Bool := Int.casesOn i (fun a => Int.casesOn j (fun b => Nat.beq a b) fun _ => false) fun a => Int.casesOn j (fun _ => false) fun b => Nat.beq a b
def qB (a b : Bool) : Bool := Bool.casesOn a (Bool.casesOn b true false) b
def qX (x y : X) : Bool := match x, y with
  | .o, .o => true
  | .slu m j d, .slu m' j' d' => an (Nat.beq m m') (an (Nat.beq j j') (Nat.beq d d'))
  | .vec k j l, .vec k' j' l' => an (Nat.beq k k') (an (Nat.beq j j') (qL qI l l'))
  | .vb j l, .vb j' l' => an (Nat.beq j j') (qL qB l l')
  | _, _ => false
def qV : Nat → V → V → Bool
  | 0, _, _ => false
  | n + 1, u, v => V.casesOn u fun t x l d c b a => V.casesOn v fun t' x' l' d' c' b' a' =>
      an (Nat.beq t t') (an (qX x x') (an (qL (qV n) l l') (an (Nat.beq d d') (an (Nat.beq c c') (an (Nat.beq b b') (Nat.beq a a'))))))
def qN8 {α : Type} (f : α → α → Bool) (x y : N8 α) : Bool := N8.casesOn x fun a b c d e g h i => N8.casesOn y fun a' b' c' d' e' g' h' i' =>
  an (f a a') (an (f b b') (an (f c c') (an (f d d') (an (f e e') (an (f g g') (an (f h h') (f i i')))))))
def qBx (a b : Bx) : Bool := Bx.casesOn a fun u => Bx.casesOn b fun v => qV 3 u v
def qR1 : R1 → R1 → Bool := qN8 qBx
def qR2 : R2 → R2 → Bool := qN8 qR1
def qR3 : R3 → R3 → Bool := qN8 qR2
def qR4 : R4 → R4 → Bool := qN8 qR3
def qR5 : R5 → R5 → Bool := qN8 qR4
def qR6 : R6 → R6 → Bool := qN8 qR5
def qE (x y : Nat × V) : Bool := an (Nat.beq x.1 y.1) (qV 3 x.2 y.2)
def qO (x y : Oth) : Bool := match x, y with
  | .none, .none => true
  | .map es, .map es' => qL qE es es'
  | .marks, .marks => true
  | _, _ => false
def qOb (x y : Ob) : Bool := Ob.casesOn x fun k n w p s l o => Ob.casesOn y fun k' n' w' p' s' l' o' =>
  an (Nat.beq k k') (an (Nat.beq n n') (an (Nat.beq w w') (an (Nat.beq p p') (an (qR3 s s') (an (qR6 l l') (qO o o'))))))
/-- a literal state: what is known of objects and slots -/
structure Lit where
  nx : Nat
  ms : List (List Bool)
  obs : List (Nat × Ob)
  env : List (Nat × V)
def litH : List (Nat × Ob) → Hp → (Hp → Bool) → Bool
  | [], h, k => k h
  | (i, o) :: l, h, k => (sH i).f h o fun h => litH l h k
def litE : List (Nat × V) → Env → (Env → Bool) → Bool
  | [], e, k => k e
  | (i, v) :: l, e, k => (setter i).f e v fun e => litE l e k
def Lit.go (L : Lit) (k : Env → W → Bool) : Bool := litH L.obs h0 fun h => litE L.env u3 fun e => k e ⟨h, L.nx, L.ms, [], none⟩
/-- of each listed object: is it there? -/
def obsT (nx : Nat) (h : Hp) : List (Nat × Ob) → Bool
  | [] => true
  | (i, o) :: l => an (Nat.blt i nx) (an (qOb o ((gH i).f h)) (obsT nx h l))
/-- the slots that are looked at elsewhere -/
def envT (ex : Nat) (e e' : Env) : Nat → Bool
  | 0 => true
  | i + 1 => an (Bool.casesOn (has ex i) true (qBx ((getter i).f e) ((getter i).f e'))) (envT ex e e' i)
def tst (L : Lit) (m ex : Nat) (e : Env) (w : W) : Bool := W.casesOn w fun h nx ms ds r =>
  an (Nat.beq L.nx nx) (an (qL (qL qB) L.ms ms) (an (List.casesOn ds true fun _ _ => false) (an (Option.casesOn r true fun _ => false)
    (an (obsT nx h L.obs) (litE L.env u3 fun e' => envT ex e' e m)))))
/-! ### Short names for what literal states are made of -/
abbrev q (t a : Nat) : Bx := ⟨⟨t, .o, [], 0, 0, 0, a⟩⟩
abbrev q3 (b a : Nat) : Bx := ⟨⟨17, .o, [], 0, 0, b, a⟩⟩
abbrev u : Bx := ⟨.undef⟩
def e1 : R1 := r1 .undef
def e2 : R2 := r2 .undef
def e3 : R3 := z3
def f1 (v : V) : R1 := r1 v
def f2 (v : V) : R2 := r2 v
def f3 (v : V) : R3 := r3 v
def f4 (v : V) : R4 := all8 (r3 v)
def f5 (v : V) : R5 := all8 (all8 (r3 v))
def f6 (v : V) : R6 := r6 v
/-! ### A run that is cut at a loop's head -/
def seqL : Nat → Code → List Code
  | n + 1, .seq a b => a :: seqL n b
  | _, _ => []
def seqR : Nat → Code → Code
  | n + 1, .seq _ b => seqR n b
  | _, c => c
/-- a region, a loop in its block, the rest -/
def loopOf : Code → Option (Code × Nat × Code × Code)
  | .seq (.seq r (.block id (.loop b))) z => some (r, id, b, z)
  | _ => none
/-- so many rounds of a loop, from its head on -/
def iterC (P : Program) (rec : Rec) (c : Cx) (b : Code) : Nat → Env → W → (Env → W → Bool) → (Ex → Env → W → Bool) → Bool
  | 0, e, w, kh, _ => kh e w
  | n + 1, e, w, kh, kx => (sem P c b endC).run rec e w fun x e w => Ex.casesOn x (iterC P rec c b n e w kh kx) (fun id => kx (.x id) e w) (kx .r e w)
def tower (P : Program) (c : Cx) : List Code → Tc → Tc
  | [], nx => nx
  | x :: l, nx => sem P c x (tower P c l nx)
def cutT (L : Lit) (c : Cx) : Tc := ⟨fun _ e w _ => tst L c.m c.ex e w⟩
def headC (P : Program) (rec : Rec) (c : Cx) (l : List Code) (r : Code) (L : Lit) (args : List V) (w : W) : Bool :=
  Bool.casesOn (Nat.ble c.m 216) false (argsIn c.m 0 args u3 fun e => (tower P c l (sem P c r (cutT L c))).run rec e w fun _ _ _ => false)
def kfC (P : Program) (rec : Rec) (c : Cx) (rs : List ResultVar) : Ex → Env → W → Bool :=
  fun x e w => Ex.casesOn x (leaveC P c rs rec [] none endK e w) (fun _ => false) (leaveC P c rs rec [] none endK e w)
def kxC (P : Program) (rec : Rec) (c : Cx) (id : Nat) (z : Code) (kf : Ex → Env → W → Bool) : Ex → Env → W → Bool :=
  fun x e w => Ex.casesOn x false (fun i => Bool.casesOn (Nat.beq i id) false ((sem P c z endC).run rec e w kf)) (kf .r e w)
/-- the parts of a function with such a loop behind n others -/
def withF (P : Program) (f n : Nat) (k : Cx → List Code → Code → Nat → Code → Code → List ResultVar → Bool) : Bool :=
  match fnF P f with
  | none => false
  | some fn => match fn.body with
    | none => false
    | some d => match loopOf (seqR n d) with
      | none => false
      | some (r, id, b, z) => fN (cxOf fn).m fun m => fN (cxOf fn).ex fun ex => k ⟨m, ex⟩ (seqL n d) r id b z fn.results.toList
/-- the head of the next stretch -/
def nextT : List (Nat × Lit) → Cx → Env → W → Bool
  | [], _ => fun _ _ => false
  | (_, L) :: _, c => tst L c.m c.ex
def runHead (P : Program) (rec : Rec) (f n : Nat) (L : Lit) (args : List V) (w : W) : Bool := withF P f n fun c l r _ _ _ _ => headC P rec c l r L args w
def runSeg (P : Program) (rec : Rec) (f n : Nat) (j : Nat) (L : Lit) (kh : Cx → Env → W → Bool) : Bool :=
  withF P f n fun c _ _ id b z rs => L.go fun e w => iterC P rec c b j e w (kh c) (kxC P rec c id z (kfC P rec c rs))
end Go.Proofs.YtcajgbpcimimhaaGreatDoor.Vm
