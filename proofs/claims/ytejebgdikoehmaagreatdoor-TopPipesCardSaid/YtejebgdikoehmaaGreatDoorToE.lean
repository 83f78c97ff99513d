/- The symbolic executor in haste: the same, of bare recursors, so that the kernel runs it well. -/
import Derived.Test.YtejebgdikoehmaaGreatDoorToD
namespace Go.Proofs.YtejebgdikoehmaaGreatDoor
open Go
set_option linter.unusedVariables false
noncomputable section
def bq {α : Type} (c : Bool) (a b : α) : α := Bool.rec (motive := fun _ => α) b a c
def ob {α β : Type} (x : Option α) (f : α → Option β) : Option β := Option.rec (motive := fun _ => Option β) none f x
def oe {α : Type} (x y : Option α) : Option α := Option.rec (motive := fun _ => Option α) y some x
def notX (b : Bool) : Bool := Bool.rec (motive := fun _ => Bool) true false b
def beqX (a b : Bool) : Bool := Bool.rec (motive := fun _ => Bool) (notX b) b a
def sg (n : Nat) (T : Sts) : Option Value := Sts.rec (motive := fun _ => Option Value) none (fun t v _ ih => Bool.rec (motive := fun _ => Option Value) ih (some v) (Nat.beq t n)) T
/-- A value by its kind. -/
def vc {α : Type} (d : α) (fb : Bool → α) (fi : IntKind → Int → α) (fs : ByteArray → α) (fp : Option Addr → α) (fl : Option Addr → Nat → Nat → α) (fa : Array Value → α) (ft : Array Value → α) (v : Value) : α :=
  Value.rec (motive_1 := fun _ => α) (motive_2 := fun _ => Unit) (motive_3 := fun _ => Unit) fb fi (fun _ _ => d) (fun _ _ _ => d) fs fp fl (fun _ => d) (fun _ => d) (fun _ _ _ _ _ => d) d (fun _ _ _ => d) d (fun a _ => fa a) (fun a _ => ft a) (fun _ _ => ()) () (fun _ _ _ _ => ()) v
def isN {α : Type} (a : Option α) : Bool := Option.rec (motive := fun _ => Bool) true (fun _ => false) a
def pl (v : Value) : Bool :=
  Value.rec (motive_1 := fun _ => Bool) (motive_2 := fun _ => Unit) (motive_3 := fun _ => Unit) (fun _ => true) (fun _ _ => true) (fun _ _ => true) (fun _ _ _ => true) (fun _ => true)
    (fun a => isN a) (fun a _ _ => isN a) (fun a => isN a) (fun a => isN a) (fun _ _ _ _ _ => false) true (fun _ v _ => plain1 v) true (fun a _ => a.toList.all plain1) (fun a _ => a.toList.isEmpty) (fun _ _ => ()) () (fun _ _ _ _ => ()) v
def xv (T : Sts) (x : Operand) : Option Value := Operand.rec (motive := fun _ => Option Value) (fun t => sg t T) (fun v => bq (pl v) (some v) none) (fun _ => none) (fun f => some (.func (.func f) #[] #[])) x
def vA : Value → Option Addr := vc none (fun _ => none) (fun _ _ => none) (fun _ => none) (fun a => a) (fun _ _ _ => none) (fun _ => none) (fun _ => none)
def vB : Value → Option Bool := vc none (fun b => some b) (fun _ _ => none) (fun _ => none) (fun _ => none) (fun _ _ _ => none) (fun _ => none) (fun _ => none)
def natI (n : Int) : Option Nat := Int.rec (motive := fun _ => Option Nat) (fun m => some m) (fun _ => none) n
def vN : Value → Option Nat := vc none (fun _ => none) (fun _ n => natI n) (fun _ => none) (fun _ => none) (fun _ _ _ => none) (fun _ => none) (fun _ => none)
def vKI : Value → Option (IntKind × Int) := vc none (fun _ => none) (fun k n => some (k, n)) (fun _ => none) (fun _ => none) (fun _ _ _ => none) (fun _ => none) (fun _ => none)
def vS : Value → Option (List UInt8) := vc none (fun _ => none) (fun _ _ => none) (fun s => some s.data.toList) (fun _ => none) (fun _ _ _ => none) (fun _ => none) (fun _ => none)
def vG : Value → Option (List Value) := vc none (fun _ => none) (fun _ _ => none) (fun _ => none) (fun _ => none) (fun _ _ _ => none) (fun a => some a.toList) (fun _ => none)
def vT : Value → Option (List Value) := vc none (fun _ => none) (fun _ _ => none) (fun _ => none) (fun _ => none) (fun _ _ _ => none) (fun _ => none) (fun a => some a.toList)
/-- The heap. -/
def hg (h : Tr SObj) : Nat → Option SObj := Tr.rec (motive := fun _ => Nat → Option SObj) (fun _ => none) (fun _ v _ gl gr n => Bool.rec (motive := fun _ => Option SObj) (Bool.rec (motive := fun _ => Option SObj) (gr (Nat.sub (Nat.div n 2) 1)) (gl (Nat.div n 2)) (Nat.beq (Nat.mod n 2) 1)) v (Nat.beq n 0)) h
def hp (d : Nat) : Tr SObj → Nat → Option SObj → Tr SObj := Nat.rec (motive := fun _ => Tr SObj → Nat → Option SObj → Tr SObj) (fun t _ _ => t)
  (fun _ ih t n x => Tr.rec (motive := fun _ => Tr SObj)
    (Bool.rec (motive := fun _ => Tr SObj) (Bool.rec (motive := fun _ => Tr SObj) (.node .nil none (ih .nil (Nat.sub (Nat.div n 2) 1) x)) (.node (ih .nil (Nat.div n 2) x) none .nil) (Nat.beq (Nat.mod n 2) 1)) (.node .nil x .nil) (Nat.beq n 0))
    (fun l v r _ _ => Bool.rec (motive := fun _ => Tr SObj) (Bool.rec (motive := fun _ => Tr SObj) (.node l v (ih r (Nat.sub (Nat.div n 2) 1) x)) (.node (ih l (Nat.div n 2) x) v r) (Nat.beq (Nat.mod n 2) 1)) (.node l x r) (Nat.beq n 0)) t) d
/-- Lists. -/
def nth {α : Type} (c : List α) : Nat → Option α := List.rec (motive := fun _ => Nat → Option α) (fun _ => none) (fun v _ ih n => Bool.rec (motive := fun _ => Option α) (ih (Nat.sub n 1)) (some v) (Nat.beq n 0)) c
def takeX {α : Type} (c : List α) : Nat → Option (List α) := List.rec (motive := fun _ => Nat → Option (List α)) (fun n => bq (Nat.beq n 0) (some []) none)
  (fun v _ ih n => Bool.rec (motive := fun _ => Option (List α)) (ob (ih (Nat.sub n 1)) fun l => some (v :: l)) (some []) (Nat.beq n 0)) c
def takeAt {α : Type} (c : List α) : Nat → Nat → Option (List α) := List.rec (motive := fun _ => Nat → Nat → Option (List α)) (fun o n => bq (Nat.beq o 0) (bq (Nat.beq n 0) (some []) none) none)
  (fun v r ih o n => Bool.rec (motive := fun _ => Option (List α)) (ih (Nat.sub o 1) n) (takeX (v :: r) n) (Nat.beq o 0)) c
def putX (vs : List Value) : List Value → Option (List Value) := List.rec (motive := fun _ => List Value → Option (List Value)) (fun c => some c) (fun v _ ih c => List.rec (motive := fun _ => Option (List Value)) none (fun _ r _ => ob (ih r) fun l => some (v :: l)) c) vs
def putAt (vs : List Value) (c : List Value) : Nat → Option (List Value) := List.rec (motive := fun _ => Nat → Option (List Value)) (fun o => bq (Nat.beq o 0) (putX vs []) none)
  (fun v r ih o => Bool.rec (motive := fun _ => Option (List Value)) (ob (ih (Nat.sub o 1)) fun l => some (v :: l)) (putX vs (v :: r)) (Nat.beq o 0)) c
def lenX {α : Type} (l : List α) : Nat := List.rec (motive := fun _ => Nat) 0 (fun _ _ ih => Nat.succ ih) l
def appX {α : Type} (a b : List α) : List α := List.rec (motive := fun _ => List α) b (fun x _ ih => x :: ih) a
def snocX {α : Type} (l : List α) (x : α) : List α := List.rec (motive := fun _ => List α) [x] (fun v _ ih => v :: ih) l
def cellX (S : St) (a : Addr) : Option Value := ob (hg S.h a.block) fun o => SObj.rec (motive := fun _ => Option Value) (fun c _ _ _ _ => bq (isN a.spot) (nth c a.off) none) (fun _ _ => none) o
def cellsX (S : St) (a : Addr) (n : Nat) : Option (List Value) := ob (hg S.h a.block) fun o => SObj.rec (motive := fun _ => Option (List Value)) (fun c _ _ _ _ => bq (isN a.spot) (takeAt c a.off n) none) (fun _ _ => none) o
def addX (a : Addr) (n : Nat) : Addr := bq (Nat.beq n 0) a ⟨a.block, Nat.add a.off n, none⟩
def oneX (v : Value) : Bool := vc true (fun _ => true) (fun _ _ => true) (fun _ => true) (fun _ => true) (fun _ _ _ => true) (fun _ => false) (fun _ => false) v
def onesX (l : List Value) : Bool := List.rec (motive := fun _ => Bool) true (fun v _ ih => bq (oneX v) ih false) l
def cellsOfX (v : Value) : List Value := vc [v] (fun _ => [v]) (fun _ _ => [v]) (fun _ => [v]) (fun _ => [v]) (fun _ _ _ => [v]) (fun a => a.toList) (fun _ => [v]) v
def storeX (S : St) (a : Addr) (vs : List Value) : Option St :=
  ob (hg S.h a.block) fun o => SObj.rec (motive := fun _ => Option St)
    (fun c e lo hi op => bq (isN a.spot)
      (bq (onesX vs) (bq (bq (Nat.ble hi lo) true (bq (Nat.ble (Nat.add a.off (lenX vs)) lo) true (Nat.ble hi a.off))) (ob (putAt vs c a.off) fun c' => some ⟨hp 24 S.h a.block (some (.cells c' e lo hi op)), S.n⟩) none) none) none) (fun _ _ => none) o
/-- Types, as closed terms. -/
def aggX (E : Env) (t : TypeId) : Option (Option Nat) := match E.tt.get t with | some ti => some (bif isAggD ti.desc then some ti.size else none) | none => none
def sizX (E : Env) (t : TypeId) : Option Nat := match E.tt.get t with | some ti => some ti.size | none => none
def foffX (E : Env) (t : TypeId) (f : Nat) : Option Nat := match E.tt.get t with
  | some ⟨.struct fs, _, _, _⟩ => (match fs[f]? with | some fd => (match E.tt.get fd.1 with | some ti => bif Nat.beq ti.size 0 then none else some fd.2 | none => none) | none => none)
  | _ => none
/-- A struct's field: its place, and how many cells if it is an aggregate. -/
def fldX (E : Env) (t : TypeId) (f : Nat) : Option (Nat × Option Nat) := match E.tt.get t with
  | some ⟨.struct fs, _, _, _⟩ => (match fs[f]? with | some fd => (match aggX E fd.1 with | some q => some (fd.2, q) | none => none) | none => none)
  | _ => none
/-- A slice's elements: their type, how many cells, the cells at first. -/
def slZX (E : Env) (t : TypeId) : Option (TypeId × Nat × List Value) := match E.tt.get t with
  | some ⟨.slice e, _, _, _⟩ => (match E.tt.get e with | some ti => some (e, ti.size, ti.zero) | none => none)
  | _ => none
def slElX (E : Env) (t : TypeId) : Option Nat := match slZX E t with | some q => some q.2.1 | none => none
def isSlX (E : Env) (t : TypeId) : Bool := match E.tt.get t with
  | some ⟨.slice _, _, _, _⟩ => true
  | _ => false
def arElX (E : Env) (t : TypeId) : Option (Nat × Nat) := match E.tt.get t with
  | some ⟨.array n e, _, _, _⟩ => (match sizX E e with | some s => some (n, s) | none => none)
  | _ => none
def isIntX (E : Env) (t : TypeId) : Bool := match E.tt.get t with
  | some ⟨.int _, _, _, _⟩ => true
  | _ => false
def intX (E : Env) (t : TypeId) : Option IntKind := match E.tt.get t with
  | some ⟨.int k, _, _, _⟩ => some k
  | _ => none
def strX (E : Env) (t : TypeId) : Bool := match E.tt.get t with
  | some ⟨.string, _, _, _⟩ => true
  | _ => false
def placesX (E : Env) (t : TypeId) : Option (List (Nat × Nat) × List Value) := match E.tt.get t with
  | some ⟨.struct fs, _, z, _⟩ => (match places E fs with | some pl => some (pl, z) | none => none)
  | _ => none
def tdK (d : TD) : Nat := TD.rec (motive := fun _ => Nat) 9 9 9 3 4 9 (fun _ => 9) (fun _ => 0) (fun _ => 1) (fun _ _ => 9) (fun _ _ => 2) (fun _ => 9) d
def tyK (E : Env) (t : TypeId) : Nat := match E.tt.get t with | some ti => tdK ti.desc | none => 9
def zeroX (E : Env) (t : TypeId) : Option (List Value) := match E.tt.get t with | some ti => some ti.zero | none => none
/-- What only reads. -/
def fLoad (t : TypeId) (x : Operand) (E : Env) (T : Sts) (S : St) : Option Value := ob (xv T x) fun v => ob (vA v) fun a => ob (aggX E t) fun q =>
  Option.rec (motive := fun _ => Option Value) (cellX S a) (fun n => ob (cellsX S a n) fun l => some (.agg ⟨l⟩)) q
def fNil (x : Operand) (E : Env) (T : Sts) (S : St) : Option Value := ob (xv T x) fun v => ob (vA v) fun _ => some v
def fFieldAddr (t : TypeId) (x : Operand) (f : Nat) (E : Env) (T : Sts) (S : St) : Option Value := ob (foffX E t f) fun o => ob (xv T x) fun v => ob (vA v) fun a => some (.pointer (some (addX a o)))
def fField (t : TypeId) (x : Operand) (f : Nat) (E : Env) (T : Sts) (S : St) : Option Value := ob (fldX E t f) fun p => ob (xv T x) fun v => ob (vG v) fun l =>
  Option.rec (motive := fun _ => Option Value) (nth l p.1) (fun n => ob (takeAt l p.1 n) fun l' => some (.agg ⟨l'⟩)) p.2
def fPick (c a b : Operand) (E : Env) (T : Sts) (S : St) : Option Value := ob (xv T c) fun v => ob (vB v) fun q => bq q (xv T a) (xv T b)
def fIndexAddr (t : TypeId) (x ix : Operand) (E : Env) (T : Sts) (S : St) : Option Value := ob (xv T ix) fun i => ob (vN i) fun n => ob (xv T x) fun v =>
  vc none (fun _ => none) (fun _ _ => none) (fun _ => none)
    (fun a => ob a fun a => ob (arElX E t) fun p => bq (Nat.blt n p.1) (some (.pointer (some (addX a (Nat.mul n p.2))))) none)
    (fun a len _ => ob a fun a => ob (slElX E t) fun s => bq (Nat.blt n len) (some (.pointer (some (addX a (Nat.mul n s))))) none)
    (fun _ => none) (fun _ => none) v
def fExtract (x : Operand) (i : Nat) (E : Env) (T : Sts) (S : St) : Option Value := ob (xv T x) fun v => ob (vT v) fun l => nth l i
/-- Whole numbers. -/
def limX (k : IntKind) : Nat := IntKind.rec (motive := fun _ => Nat) 128 32768 2147483648 9223372036854775808 256 65536 4294967296 18446744073709551616 k
def bitsX (k : IntKind) : Nat := IntKind.rec (motive := fun _ => Nat) 8 16 32 64 8 16 32 64 k
def sgnX (k : IntKind) : Bool := IntKind.rec (motive := fun _ => Bool) true true true true false false false false k
def kN (k : IntKind) : Nat := IntKind.rec (motive := fun _ => Nat) 0 1 2 3 4 5 6 7 k
def kEq (k k' : IntKind) : Bool := Nat.beq (kN k) (kN k')
def wrapX (k : IntKind) (m : Nat) : Int := Bool.rec (motive := fun _ => Int) (k.wrap (.ofNat m)) (.ofNat m) (Nat.blt m (limX k))
def i2 {α : Type} (f : Nat → Nat → α) (d : α) (a b : Int) : α := Int.rec (motive := fun _ => α) (fun m => Int.rec (motive := fun _ => α) (fun n => f m n) (fun _ => d) b) (fun _ => d) a
def ltI (a b : Int) : Bool := Int.rec (motive := fun _ => Bool) (fun m => Int.rec (motive := fun _ => Bool) (fun n => Nat.blt m n) (fun _ => false) b) (fun m => Int.rec (motive := fun _ => Bool) (fun _ => true) (fun n => Nat.blt n m) b) a
def eqI (a b : Int) : Bool := Int.rec (motive := fun _ => Bool) (fun m => Int.rec (motive := fun _ => Bool) (fun n => Nat.beq m n) (fun _ => false) b) (fun m => Int.rec (motive := fun _ => Bool) (fun _ => false) (fun n => Nat.beq m n) b) a
def subX (k : IntKind) (m n : Nat) : Option Value := Bool.rec (motive := fun _ => Option Value) (bq (sgnX k) (bq (Nat.ble (Nat.sub n m) (limX k)) (some (.int k (.negSucc (Nat.sub (Nat.sub n m) 1)))) none) none) (some (.int k (wrapX k (Nat.sub m n)))) (Nat.ble n m)
def arX (op : BinOp) (k : IntKind) (m n : Nat) : Option Value := BinOp.rec (motive := fun _ => Option Value)
  (some (.int k (wrapX k (Nat.add m n)))) (subX k m n) (some (.int k (wrapX k (Nat.mul m n))))
  (bq (Nat.beq n 0) none (some (.int k (wrapX k (Nat.div m n))))) (bq (Nat.beq n 0) none (some (.int k (.ofNat (Nat.mod m n)))))
  none none none none none none none none none none none none op
def cmX (op : BinOp) (a b : Int) : Option Value := BinOp.rec (motive := fun _ => Option Value) none none none none none none none none none none none
  (some (.bool (eqI a b))) (some (.bool (notX (eqI a b)))) (some (.bool (ltI a b))) (some (.bool (notX (ltI b a)))) (some (.bool (ltI b a))) (some (.bool (notX (ltI a b)))) op
def minX (a b : Nat) : Nat := Bool.rec (motive := fun _ => Nat) b a (Nat.ble a b)
def maxX (a b : Nat) : Nat := Bool.rec (motive := fun _ => Nat) a b (Nat.ble a b)
def bitX (op : BinOp) (k : IntKind) (m n : Nat) : Option Value := bq (Nat.blt m (limX k)) (bq (Nat.blt n (limX k))
  (BinOp.rec (motive := fun _ => Option Value) none none none none none (some (.int k (.ofNat (Nat.land m n)))) (some (.int k (.ofNat (Nat.lor m n)))) (some (.int k (.ofNat (Nat.xor m n)))) none none none none none none none none none op) none) none
def shX (op : BinOp) (k : IntKind) (m n : Nat) : Option Value := BinOp.rec (motive := fun _ => Option Value) none none none none none none none none
  (some (.int k (wrapX k (Nat.mul m (Nat.pow 2 (minX n (bitsX k))))))) (some (.int k (.ofNat (Nat.div m (Nat.pow 2 (minX n (bitsX k))))))) none none none none none none none op
/-- Reckoning, bits, shifts, comparing. -/
def opK {α : Type} (a b c d : α) (op : BinOp) : α := BinOp.rec (motive := fun _ => α) a a a a a b b b c c b d d d d d d op
def bytesEqX (a : List UInt8) : List UInt8 → Bool := List.rec (motive := fun _ => List UInt8 → Bool) (fun b => List.rec (motive := fun _ => Bool) true (fun _ _ _ => false) b)
  (fun x _ ih b => List.rec (motive := fun _ => Bool) false (fun y s _ => Bool.rec (motive := fun _ => Bool) false (ih s) (Nat.beq x.toNat y.toNat)) b) a
def binS (op : BinOp) (a b : List UInt8) : Option Value := BinOp.rec (motive := fun _ => Option Value)
  (bq (Nat.ble (Nat.add (lenX a) (lenX b)) 1000000) (some (.string ⟨⟨appX a b⟩⟩)) none) none none none none none none none none none none (some (.bool (bytesEqX a b))) (some (.bool (notX (bytesEqX a b)))) none none none none op
/-- What may be nil: of which kind, and whether it is. -/
def nilK (v : Value) : Option (Nat × Bool) :=
  Value.rec (motive_1 := fun _ => Option (Nat × Bool)) (motive_2 := fun _ => Unit) (motive_3 := fun _ => Unit) (fun _ => none) (fun _ _ => none) (fun _ _ => none) (fun _ _ _ => none) (fun _ => none)
    (fun a => some (0, isN a)) (fun a _ _ => some (1, isN a)) (fun a => some (2, isN a)) (fun _ => none)
    (fun _ _ _ _ _ => some (4, false)) (some (4, true)) (fun _ _ _ => some (3, false)) (some (3, true)) (fun _ _ => none) (fun _ _ => none) (fun _ _ => ()) () (fun _ _ _ _ => ()) v
def isC (x : Operand) : Bool := Operand.rec (motive := fun _ => Bool) (fun _ => false) (fun _ => true) (fun _ => false) (fun _ => false) x
/-- Whether two are alike, where one is nil. -/
def eqN (E : Env) (t : TypeId) (x y : Operand) (a b : Value) : Option Bool := ob (nilK a) fun p => ob (nilK b) fun q => bq (Nat.beq p.1 q.1) (bq (Nat.beq (tyK E t) p.1)
    (bq p.2 (bq q.2 (bq (Nat.beq p.1 3) (bq (isC x) (some true) (bq (isC y) (some true) none)) (some true)) (some false)) (bq q.2 (some false) none)) none) none
def fEq (op : BinOp) (t : TypeId) (x y : Operand) (a : Value) (E : Env) (T : Sts) : Option Value := ob (xv T y) fun b => BinOp.rec (motive := fun _ => Option Value) none none none none none none none none none none none
  (ob (eqN E t x y a b) fun r => some (.bool r)) (ob (eqN E t x y a b) fun r => some (.bool (notX r))) none none none none op
def fBin (op : BinOp) (t : TypeId) (x y : Operand) (u : TypeId) (E : Env) (T : Sts) (S : St) : Option Value := ob (xv T x) fun a =>
  Value.rec (motive_1 := fun _ => Option Value) (motive_2 := fun _ => Unit) (motive_3 := fun _ => Unit) (fun _ => none)
    (fun k m => ob (xv T y) fun b => ob (vKI b) fun p => opK (bq (kEq k p.1) (i2 (arX op k) none m p.2) none) (bq (kEq k p.1) (i2 (bitX op k) none m p.2) none) (i2 (shX op k) none m p.2) (bq (kEq k p.1) (cmX op m p.2) none) op)
    (fun _ _ => none) (fun _ _ _ => none)
    (fun s => ob (xv T y) fun b => ob (vS b) fun r => binS op s.data.toList r)
    (fun a => fEq op t x y (.pointer a) E T) (fun a l c => fEq op t x y (.slice a l c) E T) (fun a => fEq op t x y (.map a) E T) (fun _ => none)
    (fun f a b _ _ => fEq op t x y (.func f a b) E T) (fEq op t x y .nilFunc E T) (fun u v _ => fEq op t x y (.iface u v) E T) (fEq op t x y .nilIface E T) (fun _ _ => none) (fun _ _ => none) (fun _ _ => ()) () (fun _ _ _ _ => ()) a
def fUn (op : UnOp) (t : TypeId) (x : Operand) (E : Env) (T : Sts) (S : St) : Option Value := ob (xv T x) fun a => ob (vB a) fun b => UnOp.rec (motive := fun _ => Option Value) none none (some (.bool (notX b))) none op
def fConv (s d : TypeId) (x : Operand) (E : Env) (T : Sts) (S : St) : Option Value := ob (xv T x) fun a => ob (vN a) fun n => bq (isIntX E s) (ob (intX E d) fun k => bq (Nat.blt n (limX k)) (some (.int k (.ofNat n))) none) none
/-- Strings. -/
def optN (T : Sts) (d : Nat) (x : Option Operand) : Option Nat := Option.rec (motive := fun _ => Option Nat) (some d) (fun x => ob (xv T x) vN) x
def fSlice (t : TypeId) (x : Operand) (lo hi mx : Option Operand) (E : Env) (T : Sts) (S : St) : Option Value := ob (xv T x) fun v => ob (vS v) fun s => bq (isN mx) (bq (strX E t)
  (ob (optN T 0 lo) fun l => ob (optN T (lenX s) hi) fun h => bq (Nat.ble l h) (ob (takeAt s l (Nat.sub h l)) fun r => some (.string ⟨⟨r⟩⟩)) none) none) none
def fIndex (t : TypeId) (x ix : Operand) (E : Env) (T : Sts) (S : St) : Option Value := ob (xv T x) fun v => ob (vS v) fun s => bq (strX E t) (ob (xv T ix) fun i => ob (vN i) fun n => ob (nth s n) fun b => some (.int .u8 (.ofNat b.toNat))) none
def fLen (a : Operand) (t : TypeId) (E : Env) (T : Sts) (S : St) : Option Value := ob (xv T a) fun v => vc none (fun _ => none) (fun _ _ => none) (fun s => bq (strX E t) (some (.int .i64 (.ofNat (lenX s.data.toList)))) none) (fun _ => none)
  (fun _ n _ => bq (isSlX E t) (some (.int .i64 (.ofNat n))) none) (fun _ => none) (fun _ => none) v
def mmX (f : Nat → Nat → Nat) (x y : Operand) (T : Sts) : Option Value := ob (xv T x) fun a => ob (vKI a) fun p => ob (xv T y) fun b => ob (vKI b) fun q => bq (kEq p.1 q.1) (i2 (fun m n => some (.int p.1 (.ofNat (f m n)))) none p.2 q.2) none
/-- len, max, min; the rest. -/
def biK {α : Type} (l mx mn o : α) (b : Builtin) : α := Builtin.rec (motive := fun _ => α) o o o o o o o o l o mx mn o o o o o o o o o o o o o o b
def fBi (b : Builtin) (args : List Operand) (ts : List TypeId) (E : Env) (T : Sts) (S : St) : Option Value := List.rec (motive := fun _ => Option Value) none (fun x r _ => List.rec (motive := fun _ => Option Value)
    (biK (ob (nth ts 0) fun t => fLen x t E T S) none none none b)
    (fun y r _ => bq (Nat.beq (lenX r) 0) (biK none (mmX maxX x y T) (mmX minX x y T) none b) none) r) args
def fPCall (c : Call) (E : Env) (T : Sts) (S : St) : Option Value := Callee.rec (motive := fun _ => Option Value) (fun _ => none) (fun _ _ => none) (fun b => fBi b c.args.toList c.argTypes.toList E T S) c.callee
/-- A struct. -/
def fillX (T : Sts) (pl : List (Nat × Nat)) (ps : List (Nat × Operand)) : List Value → Option (List Value) := List.rec (motive := fun _ => List Value → Option (List Value)) (fun z => some z)
  (fun p _ ih z => ob (xv T p.2) fun v => ob (nth pl p.1) fun q => bq (Nat.beq (lenX (cellsOfX v)) q.2) (ob (putAt (cellsOfX v) z q.1) ih) none) ps
def fBuild (t : TypeId) (ps : Array (Nat × Operand)) (E : Env) (T : Sts) (S : St) : Option Value := ob (placesX E t) fun p => ob (fillX T p.1 ps.toList p.2) fun l => some (.agg ⟨l⟩)
def no0 : Env → Sts → St → Option Value := fun _ _ _ => none
def fast (op : Op) : Env → Sts → St → Option Value := Op.rec (motive := fun _ => Env → Sts → St → Option Value)
  (fun x _ T _ => xv T x) (fun x _ T _ => xv T x) fPick (fun _ => no0) (fun _ _ => no0) fBuild (fun _ _ _ => no0) (fun _ _ _ _ => no0) fLoad (fun _ _ _ => no0) (fun _ => no0) (fun _ => no0) fNil fBin fUn fConv (fun _ _ => no0) (fun _ _ => no0)
  (fun _ _ _ => no0) (fun _ _ => no0) (fun _ _ => no0) (fun _ _ _ => no0) fSlice fFieldAddr fField fIndexAddr fIndex (fun _ _ _ _ => no0) (fun _ _ _ _ => no0) (fun _ _ _ => no0) (fun _ _ _ _ => no0) (fun _ _ => no0) (fun _ _ => no0) (fun _ => no0)
  (fun _ _ _ _ => no0) fExtract fPCall (fun _ => no0) (fun _ => no0) (fun _ => no0) (fun _ _ => no0) (fun _ _ _ => no0) (fun _ _ => no0) op
def xPure (E : Env) (T : Sts) (S : St) (o : Oper) : Option Value := oe (fast o.op E T S) (sPure E T S o)
/-- What turns the heap. -/
def fStore (t : TypeId) (a x : Operand) (E : Env) (T : Sts) (S : St) : Option St := ob (xv T a) fun p => ob (vA p) fun ad => ob (xv T x) fun v => ob (sizX E t) fun n => bq (Nat.beq n 0) none (bq (Nat.beq (lenX (cellsOfX v)) n) (storeX S ad (cellsOfX v)) none)
def evL (T : Sts) (l : List Operand) : Option (List Value) := List.rec (motive := fun _ => Option (List Value)) (some []) (fun x _ ih => ob (xv T x) fun v => ob ih fun r => some (v :: r)) l
def isFn (v : Value) : Option (FuncId × List Value × List Value) := Value.rec (motive_1 := fun _ => Option (FuncId × List Value × List Value)) (motive_2 := fun _ => Unit) (motive_3 := fun _ => Unit) (fun _ => none) (fun _ _ => none) (fun _ _ => none) (fun _ _ _ => none) (fun _ => none) (fun _ => none) (fun _ _ _ => none) (fun _ => none) (fun _ => none)
  (fun f a b _ _ => Fn.rec (motive := fun _ => Option (FuncId × List Value × List Value)) (fun f => some (f, a.toList, b.toList)) (fun _ => none) (fun _ _ => none) (fun _ _ _ _ => none) (fun _ => none) f) none (fun _ _ _ => none) none (fun _ _ => none) (fun _ _ => none) (fun _ _ => ()) () (fun _ _ _ _ => ()) v
def fECall (c : Call) (callF : CallF) (T : Sts) (S : St) : Option (Value × St) := Callee.rec (motive := fun _ => Option (Value × St)) (fun f => ob (xv T f) fun fv => ob (isFn fv) fun g => ob (evL T c.args.toList) fun args => callF g.1 (appX g.2.1 (appX args g.2.2)) S) (fun _ _ => none) (fun _ => none) c.callee
def no1 : Env → CallF → Sts → St → Option (Value × St) := fun _ _ _ _ => none
def fastE (op : Op) : Env → CallF → Sts → St → Option (Value × St) := Op.rec (motive := fun _ => Env → CallF → Sts → St → Option (Value × St))
  (fun _ => no1) (fun _ => no1) (fun _ _ _ => no1) (fun _ => no1) (fun _ _ => no1) (fun _ _ => no1) (fun _ _ _ => no1) (fun _ _ _ _ => no1) (fun _ _ => no1) (fun t a x E _ T S => ob (fStore t a x E T S) fun S' => some (undefV, S')) (fun _ => no1) (fun _ => no1) (fun _ => no1) (fun _ _ _ _ _ => no1) (fun _ _ _ => no1) (fun _ _ _ => no1) (fun _ _ => no1) (fun _ _ => no1)
  (fun _ _ _ => no1) (fun _ _ => no1) (fun _ _ => no1) (fun _ _ _ => no1) (fun _ _ _ _ _ => no1) (fun _ _ _ => no1) (fun _ _ _ => no1) (fun _ _ _ => no1) (fun _ _ _ => no1) (fun _ _ _ _ => no1) (fun _ _ _ _ => no1) (fun _ _ _ => no1) (fun _ _ _ _ => no1) (fun _ _ => no1) (fun _ _ => no1) (fun _ => no1)
  (fun _ _ _ _ => no1) (fun _ _ => no1) (fun c _ F T S => fECall c F T S) (fun _ => no1) (fun _ => no1) (fun _ => no1) (fun _ _ => no1) (fun _ _ _ => no1) (fun _ _ => no1) op
def xEff (E : Env) (callF : CallF) (T : Sts) (o : Oper) (S : St) : Option (Value × St) := oe (fastE o.op E callF T S) (sEff E callF T o S)
/-- What lays. -/
def aAlloc (t : TypeId) (E : Env) (T : Sts) : Option ((Nat → Value) × SObj) := ob (zeroX E t) fun z => some (ptrTo, .cells z t 0 0 0)
def aBox (t : TypeId) (x : Operand) (E : Env) (T : Sts) : Option ((Nat → Value) × SObj) := ob (xv T x) fun v => some (ptrTo, .cells (cellsOfX v) t 0 0 0)
def aSlice (t : TypeId) (n : Nat) (ps : Array (Nat × Operand)) (E : Env) (T : Sts) : Option ((Nat → Value) × SObj) := bq (Nat.beq n 1) (ob (slZX E t) fun q => ob (fillX T [(0, q.2.1)] ps.toList q.2.2) fun l => bq (Nat.ble q.2.1 1000) (some (idSlice 1 1, .cells l q.1 0 0 0)) none) none
def no2 : Env → Sts → Option ((Nat → Value) × SObj) := fun _ _ => none
def fastA (op : Op) : Env → Sts → Option ((Nat → Value) × SObj) := Op.rec (motive := fun _ => Env → Sts → Option ((Nat → Value) × SObj))
  (fun _ => no2) (fun _ => no2) (fun _ _ _ => no2) aAlloc aBox (fun _ _ => no2) aSlice (fun _ _ _ _ => no2) (fun _ _ => no2) (fun _ _ _ => no2) (fun _ => no2) (fun _ => no2) (fun _ => no2) (fun _ _ _ _ _ => no2) (fun _ _ _ => no2) (fun _ _ _ => no2) (fun _ _ => no2) (fun _ _ => no2)
  (fun _ _ _ => no2) (fun _ _ => no2) (fun _ _ => no2) (fun _ _ _ => no2) (fun _ _ _ _ _ => no2) (fun _ _ _ => no2) (fun _ _ _ => no2) (fun _ _ _ => no2) (fun _ _ _ => no2) (fun _ _ _ _ => no2) (fun _ _ _ _ => no2) (fun _ _ _ => no2) (fun _ _ _ _ => no2) (fun _ _ => no2) (fun _ _ => no2) (fun _ => no2)
  (fun _ _ _ _ => no2) (fun _ _ => no2) (fun _ => no2) (fun _ => no2) (fun _ => no2) (fun _ => no2) (fun _ _ => no2) (fun _ _ _ => no2) (fun _ _ => no2) op
def xAlloc (E : Env) (T : Sts) (o : Oper) : Option ((Nat → Value) × SObj) := oe (fastA o.op E T) (sAlloc E T o)
def xNew (S : St) (o : SObj) : Option (Nat × St) := bq (Nat.blt S.n 1000000) (some (S.n, ⟨hp 24 S.h S.n (some o), Nat.succ S.n⟩)) none
/-- Which kind an operation is of. -/
def slK (E : Env) (t : TypeId) : Kd := match E.tt.get t with | some ⟨.slice _, _, _, _⟩ => .alloc | _ => .pure
def biKd (b : Builtin) : Kd := Builtin.rec (motive := fun _ => Kd) .eff .pure .eff .eff .eff .eff .eff .eff .pure .eff .pure .pure .eff .eff .eff .eff .eff .eff .eff .eff .pure .eff .eff .eff .eff .eff b
def kdX0 (E : Env) (op : Op) : Kd := Op.rec (motive := fun _ => Kd)
  (fun _ => .pure) (fun _ => .pure) (fun _ _ _ => .pure) (fun _ => .alloc) (fun _ _ => .alloc) (fun _ _ => .pure) (fun _ _ _ => .alloc) (fun _ _ _ _ => .eff) (fun _ _ => .pure) (fun _ _ _ => .eff) (fun _ => .pure) (fun _ => .pure) (fun _ => .pure) (fun _ _ _ _ _ => .pure) (fun _ _ _ => .pure) (fun _ d _ => slK E d) (fun _ _ => .pure) (fun _ _ => .pure)
  (fun _ _ _ => .pure) (fun _ _ => .alloc) (fun _ _ => .pure) (fun _ _ _ => .alloc) (fun _ _ _ _ _ => .pure) (fun _ _ _ => .pure) (fun _ _ _ => .pure) (fun _ _ _ => .pure) (fun _ _ _ => .pure) (fun _ _ _ _ => .pure) (fun _ _ _ _ => .eff) (fun _ _ _ => .pure) (fun _ _ _ _ => .pure) (fun _ _ => .pure) (fun _ _ => .pure) (fun _ => .pure)
  (fun _ _ _ _ => .pure) (fun _ _ => .pure) (fun c => Callee.rec (motive := fun _ => Kd) (fun _ => .eff) (fun _ _ => .eff) biKd c.callee) (fun _ => .pure) (fun _ => .pure) (fun _ => .pure) (fun _ _ => .pure) (fun _ _ _ => .pure) (fun _ _ => .pure) op
def kdX {α : Type} (a b c : α) (k : Kd) : α := Kd.rec (motive := fun _ => α) a b c k
def xOp (E : Env) (callF : CallF) (T : Sts) (o : Oper) (S : St) : Option (Value × St) :=
  kdX (ob (xPure E T S o) fun v => some (v, S)) (ob (xAlloc E T o) fun p => ob (xNew S p.2) fun q => some (p.1 q.1, q.2)) (xEff E callF T o S) (kdX0 E o.op)
def xWanted (ops : List Oper) (T : Sts) (o : Oper) : Option Bool := Option.rec (motive := fun _ => Option Bool) (some true)
  (fun p => ob (nth ops p.1) fun q => ob q.dst fun d => ob (sg d T) fun v => vc none (fun b => some (beqX b p.2)) (fun _ _ => none) (fun _ => none) (fun _ => none) (fun _ _ _ => none) (fun _ => none) (fun _ => some false) v) o.guard
/-- What goes on with a slot that is written, or none. -/
def dk {α : Type} (T : Sts) (d : Option Tmp) (v : Value) (k : Sts → α) : α := Option.rec (motive := fun _ => α) (k T) (fun d => k (.cons d v T)) d
def xOps (E : Env) (callF : CallF) (ops : List Oper) (l : List Oper) : Sts → St → Option (Sts × St) := List.rec (motive := fun _ => Sts → St → Option (Sts × St)) (fun T S => some (T, S))
  (fun o _ ih T S => ob (xWanted ops T o) fun b => bq b (ob (xOp E callF T o S) fun p => dk T o.dst p.1 fun T' => ih T' p.2) (dk T o.dst undefV fun T' => ih T' S)) l
end
end Go.Proofs.YtejebgdikoehmaaGreatDoor
/- The symbolic executor in haste: drawn regions, code, calls. -/
namespace Go.Proofs.YtejebgdikoehmaaGreatDoor
open Go
set_option linter.unusedVariables false
noncomputable section
def bindX (e : Edge) : Bool := Ground.rec (motive := fun _ => Bool) true true true true (fun _ => false) (fun _ => false) e.ground
def nthN (l : List Nat) : Nat → Nat := List.rec (motive := fun _ => Nat → Nat) (fun _ => 0) (fun v _ ih n => Bool.rec (motive := fun _ => Nat) (ih (Nat.sub n 1)) v (Nat.beq n 0)) l
def maskX (acc : List Nat) (l : List Edge) : Nat := List.rec (motive := fun _ => Nat) 0 (fun e _ ih => Bool.rec (motive := fun _ => Nat) ih (Nat.lor (Nat.lor ih (Nat.pow 2 e.on)) (nthN acc e.on)) (bindX e)) l
def masksX (l : List Oper) : List Nat → List Nat := List.rec (motive := fun _ => List Nat → List Nat) (fun acc => acc) (fun o _ ih acc => ih (snocX acc (maskX acc o.after.toList))) l
def kdN (k : Kd) : Nat := Kd.rec (motive := fun _ => Nat) 0 1 2 k
def quietX (op : Op) : Bool := Op.rec (motive := fun _ => Bool)
  (fun _ => true) (fun _ => true) (fun _ _ _ => true) (fun _ => false) (fun _ _ => false) (fun _ _ => true) (fun _ _ _ => false) (fun _ _ _ _ => false) (fun _ _ => false) (fun _ _ _ => false) (fun _ => false) (fun _ => false) (fun _ => true)
  (fun b _ _ _ _ => BinOp.rec (motive := fun _ => Bool) true true true true true true true true true true true false false true true true true b) (fun _ _ _ => true) (fun _ _ _ => false) (fun _ _ => false) (fun _ _ => true)
  (fun _ _ _ => true) (fun _ _ => false) (fun _ _ => false) (fun _ _ _ => false) (fun _ _ _ _ _ => true) (fun _ _ _ => true) (fun _ _ _ => true) (fun _ _ _ => true) (fun _ _ _ => false) (fun _ _ _ _ => false) (fun _ _ _ _ => false) (fun _ _ _ => false) (fun _ _ _ _ => false) (fun _ _ => false) (fun _ _ => false) (fun _ => false)
  (fun _ _ _ _ => false) (fun _ _ => true) (fun _ => false) (fun _ => false) (fun _ => false) (fun _ => false) (fun _ _ => false) (fun _ _ _ => false) (fun _ _ => false) op
/-- 0: what reads; 1: what lays; 2: what turns; 3: what reads no heap. -/
def kindsX (E : Env) (l : List Oper) : List Nat := List.rec (motive := fun _ => List Nat) [] (fun o _ ih => Bool.rec (motive := fun _ => Nat) (kdN (kdX0 E o.op)) 3 (quietX o.op) :: ih) l
def loX (mk : Nat) (ks : List Nat) : Nat → Nat := List.rec (motive := fun _ => Nat → Nat) (fun _ => 0) (fun k _ ih j => Bool.rec (motive := fun _ => Nat) (ih (Nat.succ j)) (Bool.rec (motive := fun _ => Nat) (ih (Nat.succ j)) (Nat.succ (ih (Nat.succ j))) (Nat.testBit mk j)) (Nat.beq k 2)) ks
def hiX (i : Nat) (ks : List Nat) : List Nat → Nat := List.rec (motive := fun _ => List Nat → Nat) (fun _ => 0) (fun k _ ih ms => List.rec (motive := fun _ => Nat) 0 (fun m r _ => Bool.rec (motive := fun _ => Nat) (ih r) (Bool.rec (motive := fun _ => Nat) (Nat.succ (ih r)) (ih r) (Nat.testBit m i)) (Nat.beq k 2)) ms) ks
/-- Per operation: the reads that float, with the stretch over which they do. -/
def floGo (ks0 ms0 : List Nat) (ks : List Nat) : List Nat → Nat → List (Option (Nat × Nat)) := List.rec (motive := fun _ => List Nat → Nat → List (Option (Nat × Nat))) (fun _ _ => [])
  (fun k _ ih ms i => List.rec (motive := fun _ => List (Option (Nat × Nat))) [] (fun m r _ => Bool.rec (motive := fun _ => List (Option (Nat × Nat))) (none :: ih r (Nat.succ i)) (Bool.rec (motive := fun _ => List (Option (Nat × Nat))) (some (loX m ks0 0, hiX i ks0 ms0) :: ih r (Nat.succ i)) (none :: ih r (Nat.succ i)) (Nat.beq (loX m ks0 0) (hiX i ks0 ms0))) (Nat.beq k 0)) ms) ks
def floX (ks ms : List Nat) : List (Option (Nat × Nat)) := floGo ks ms ks ms 0
def mergeX (n0 bits U : Nat) (al : List (Nat × SObj)) : Tr SObj → Tr SObj := List.rec (motive := fun _ => Tr SObj → Tr SObj) (fun h => h)
  (fun p _ ih h => Bool.rec (motive := fun _ => Tr SObj) (ih h) (Bool.rec (motive := fun _ => Tr SObj) (ih (hp 24 h (Nat.add n0 p.1) (some p.2))) (ih h) (Nat.testBit U p.1)) (Nat.testBit bits p.1)) al
/-- A read that is to be looked at again. -/
structure Chk where
  T : Sts
  o : Oper
  msk : Nat
  lo : Nat
  hi : Nat
  v : Value
def sam1 (E : Env) (n0 : Nat) (al : List (Nat × SObj)) (c : Chk) (p : St × Nat) : Bool := Option.rec (motive := fun _ => Bool) false (fun v => veq v c.v) (xPure E c.T ⟨mergeX n0 c.msk p.2 al p.1.h, p.1.n⟩ c.o)
def samX (E : Env) (n0 : Nat) (al : List (Nat × SObj)) (c : Chk) (ms : List (St × Nat)) : Nat → Bool := List.rec (motive := fun _ => Nat → Bool) (fun j => Nat.blt c.hi j)
  (fun p _ ih j => bq (Nat.blt j c.lo) (ih (Nat.succ j)) (bq (Nat.blt c.hi j) true (bq (sam1 E n0 al c p) (ih (Nat.succ j)) false))) ms
def chkX (E : Env) (n0 : Nat) (al : List (Nat × SObj)) (ms : List (St × Nat)) (cs : List Chk) : Bool := List.rec (motive := fun _ => Bool) true (fun c _ ih => bq (Nat.ble c.lo c.hi) (bq (samX E n0 al c ms 0) ih false) false) cs
/-- How far a region has come: its slots, the last heap, what has joined, the blocks laid, how many operations; the heaps so far, what is to be looked at again. -/
structure XSt where
  T : Sts
  M : St
  U : Nat
  al : List (Nat × SObj)
  i : Nat
  ms : List (St × Nat)
  cs : List Chk
def xRun (E : Env) (callF : CallF) (ops : List Oper) (n0 : Nat) (l : List Oper) : List Nat → List (Option (Nat × Nat)) → XSt → Option XSt :=
  List.rec (motive := fun _ => List Nat → List (Option (Nat × Nat)) → XSt → Option XSt) (fun _ _ s => some s)
    (fun o _ ih mks fls s => List.rec (motive := fun _ => Option XSt) none (fun mk mr _ => List.rec (motive := fun _ => Option XSt) none (fun fl fr _ => ob (xWanted ops s.T o) fun w => bq w
      (kdX (ob (xPure E s.T ⟨mergeX n0 mk s.U s.al s.M.h, s.M.n⟩ o) fun v => dk s.T o.dst v fun T' => ih mr fr ⟨T', s.M, s.U, s.al, Nat.succ s.i, s.ms, Option.rec (motive := fun _ => List Chk) s.cs (fun q => ⟨s.T, o, mk, q.1, q.2, v⟩ :: s.cs) fl⟩)
           (ob (xAlloc E s.T o) fun p => dk s.T o.dst (p.1 (Nat.add n0 s.i)) fun T' => ih mr fr ⟨T', s.M, s.U, snocX s.al (s.i, p.2), Nat.succ s.i, s.ms, s.cs⟩)
           (ob (xEff E callF s.T o ⟨mergeX n0 mk s.U s.al s.M.h, s.M.n⟩) fun p => dk s.T o.dst p.1 fun T' => ih mr fr ⟨T', p.2, Nat.lor s.U mk, s.al, Nat.succ s.i, snocX s.ms (p.2, Nat.lor s.U mk), s.cs⟩) (kdX0 E o.op))
      (kdX (dk s.T o.dst undefV fun T' => ih mr fr ⟨T', s.M, s.U, s.al, Nat.succ s.i, s.ms, s.cs⟩)
           (dk s.T o.dst undefV fun T' => ih mr fr ⟨T', s.M, s.U, s.al, Nat.succ s.i, s.ms, s.cs⟩)
           (dk s.T o.dst undefV fun T' => ih mr fr ⟨T', ⟨mergeX n0 mk s.U s.al s.M.h, s.M.n⟩, Nat.lor s.U mk, s.al, Nat.succ s.i, snocX s.ms (⟨mergeX n0 mk s.U s.al s.M.h, s.M.n⟩, Nat.lor s.U mk), s.cs⟩) (kdX0 E o.op))) fls) mks) l
def xDraw (E : Env) (callF : CallF) (ops : List Oper) (T : Sts) (S : St) : Option (Sts × St) :=
  bq (Nat.blt (Nat.add S.n (lenX ops)) 1000000)
    (ob (xRun E callF ops S.n ops (masksX ops []) (floX (kindsX E ops) (masksX ops [])) ⟨T, ⟨S.h, Nat.add S.n (lenX ops)⟩, 0, [], 0, [(⟨S.h, Nat.add S.n (lenX ops)⟩, 0)], []⟩) fun s =>
      bq (chkX E S.n s.al s.ms s.cs) (some (s.T, ⟨mergeX S.n (Nat.sub (Nat.pow 2 (lenX ops)) 1) s.U s.al s.M.h, s.M.n⟩)) none) none
def exX {α : Type} (n r : α) (e : Nat → α) (x : SExit) : α := SExit.rec (motive := fun _ => α) n r e x
def xLoop (body : Sts → St → Option (SExit × Sts × St)) (n : Nat) : Sts → St → Option (SExit × Sts × St) := Nat.rec (motive := fun _ => Sts → St → Option (SExit × Sts × St)) (fun _ _ => none)
  (fun _ ih T S => ob (body T S) fun p => exX (ih p.2.1 p.2.2) (some p) (fun _ => some p) p.1) n
def xCode (E : Env) (callF : CallF) (c : Code) : Sts → St → Option (SExit × Sts × St) := Code.rec (motive := fun _ => Sts → St → Option (SExit × Sts × St))
  (fun T S => some (.normal, T, S))
  (fun _ ops draw T S => ob (bq draw (xDraw E callF ops.toList T S) (xOps E callF ops.toList ops.toList T S)) fun p => some (.normal, p.1, p.2))
  (fun _ _ ia ib T S => ob (ia T S) fun p => exX (ib p.2.1 p.2.2) (some p) (fun _ => some p) p.1)
  (fun c _ _ ia ib T S => ob (xv T c) fun v => ob (vB v) fun b => bq b (ia T S) (ib T S))
  (fun id _ ib T S => ob (ib T S) fun p => exX (some p) (some p) (fun i => bq (Nat.beq i id) (some (.normal, p.2.1, p.2.2)) (some p)) p.1)
  (fun _ ib T S => xLoop ib 3000 T S)
  (fun _ _ _ _ _ _ _ _ => none)
  (fun id T S => some (.exit id, T, S))
  (fun _ _ _ _ => none)
  (fun _ T S => some (.normal, T, S))
  (fun _ _ _ => none)
  (fun T S => some (.ret, T, S))
  (fun _ _ _ => none) c
def resX (E : Env) (T : Sts) (S : St) (l : List ResultVar) : Option (List Value) := List.rec (motive := fun _ => Option (List Value)) (some [])
  (fun r _ ih => ResultVar.rec (motive := fun _ => Option (List Value)) (fun t => ob (sg t T) fun v => ob ih fun l => some (v :: l))
    (fun a ty => ob (sg a T) fun p => ob (vA p) fun ad => ob ih fun l => ob (aggX E ty) fun q => Option.rec (motive := fun _ => Option (List Value)) (ob (cellX S ad) fun v => some (v :: l)) (fun n => ob (cellsX S ad n) fun c => some (.agg ⟨c⟩ :: l)) q) r) l
def tupX (l : List Value) : Value := List.rec (motive := fun _ => Value) (.tuple ⟨[]⟩) (fun v r _ => List.rec (motive := fun _ => Value) v (fun _ _ _ => .tuple ⟨v :: r⟩) r) l
def initX (l : List Value) : Nat → Sts → Sts := List.rec (motive := fun _ => Nat → Sts → Sts) (fun _ T => T) (fun v _ ih i T => ih (Nat.succ i) (.cons i v T)) l
def xBody (E : Env) (callF : CallF) (fn : Func) (args : List Value) (S : St) : Option (Value × St) := ob fn.body fun c => bq (Nat.ble (lenX args) fn.ntmps)
  (ob (xCode E callF c (initX args 0 .nil) S) fun p => exX (ob (resX E p.2.1 p.2.2 fn.results.toList) fun vs => some (tupX vs, p.2.2)) (ob (resX E p.2.1 p.2.2 fn.results.toList) fun vs => some (tupX vs, p.2.2)) (fun _ => none) p.1) none
def fgX (t : Tr Func) : Nat → Option Func := Tr.rec (motive := fun _ => Nat → Option Func) (fun _ => none) (fun _ v _ gl gr n => Bool.rec (motive := fun _ => Option Func) (Bool.rec (motive := fun _ => Option Func) (gr (Nat.sub (Nat.div n 2) 1)) (gl (Nat.div n 2)) (Nat.beq (Nat.mod n 2) 1)) v (Nat.beq n 0)) t
def xCall (E : Env) (sp : SpecF) (ft : Tr Func) (n : Nat) : CallF := Nat.rec (motive := fun _ => CallF) (fun _ _ _ => none)
  (fun _ ih f args S => Option.rec (motive := fun _ => Option (Value × St)) (ob (fgX ft f) fun fn => xBody E ih fn args S) (fun h => h args S) (sp f)) n
end
end Go.Proofs.YtejebgdikoehmaaGreatDoor
/- The symbolic executor in haste is the executor: its parts. -/
namespace Go.Proofs.YtejebgdikoehmaaGreatDoor
open Go
set_option linter.unusedVariables false
set_option linter.unusedSimpArgs false
theorem ob_some {α β : Type} {x : Option α} {f : α → Option β} {r : β} (h : ob x f = some r) : ∃ a, x = some a ∧ f a = some r := by
  cases x with
  | none => cases h
  | some a => exact ⟨a, rfl, h⟩
theorem bq_some {α : Type} {c : Bool} {a : Option α} {r : α} (h : bq c a none = some r) : c = true ∧ a = some r := by
  cases c with
  | false => cases h
  | true => exact ⟨rfl, h⟩
theorem bq_nsome {α : Type} {c : Bool} {a : Option α} {r : α} (h : bq c none a = some r) : c = false ∧ a = some r := by
  cases c with
  | true => cases h
  | false => exact ⟨rfl, h⟩
theorem bq_eq {α : Type} (c : Bool) (a b : α) : bq c a b = cond c a b := by cases c <;> rfl
theorem notX_eq (b : Bool) : notX b = !b := by cases b <;> rfl
theorem beqX_eq (a b : Bool) : beqX a b = (a == b) := by cases a <;> cases b <;> rfl
theorem sg_eq (n : Nat) : ∀ T : Sts, sg n T = T.get n
  | .nil => rfl
  | .cons t v r => by
    have ih := sg_eq n r
    show (Bool.rec (motive := fun _ => Option Value) (sg n r) (some v) (Nat.beq t n) : Option Value) = _
    simp only [Sts.get]
    cases Nat.beq t n
    · exact ih
    · rfl
theorem isN_eq {α : Type} (a : Option α) : isN a = a.isNone := by cases a <;> rfl
theorem isN_true {α : Type} {a : Option α} (h : isN a = true) : a = none := by
  cases a with
  | none => rfl
  | some _ => cases h
theorem pl_eq (v : Value) : pl v = plain v := by
  cases v with
  | pointer a => cases a <;> rfl
  | slice a l c => cases a <;> rfl
  | map a => cases a <;> rfl
  | chan a => cases a <;> rfl
  | _ => rfl
theorem xv_eq (T : Sts) (x : Operand) : xv T x = evalO T x := by
  cases x with
  | tmp t => exact sg_eq t T
  | const v =>
    show bq (pl v) (some v) none = _
    rw [bq_eq, pl_eq]; rfl
  | global g => rfl
  | func f => rfl
theorem vA_some {v : Value} {a : Addr} (h : vA v = some a) : v = .pointer (some a) := by
  cases v <;> first | (cases h; done) | skip
  rename_i b
  have h : b = some a := h
  rw [h]
theorem vB_some {v : Value} {b : Bool} (h : vB v = some b) : v = .bool b := by
  cases v <;> cases h
  rfl
theorem natI_some {n : Int} {m : Nat} (h : natI n = some m) : n = m := by
  cases n <;> cases h
  rfl
theorem vN_some {v : Value} {m : Nat} (h : vN v = some m) : ∃ k, v = .int k m := by
  cases v <;> first | (cases h; done) | skip
  rename_i k n
  exact ⟨k, by rw [natI_some h]⟩
theorem vKI_some {v : Value} {p : IntKind × Int} (h : vKI v = some p) : v = .int p.1 p.2 := by
  cases v <;> cases h
  rfl
theorem vS_some {v : Value} {s : List UInt8} (h : vS v = some s) : v = .string ⟨⟨s⟩⟩ := by
  cases v <;> cases h
  rfl
theorem vG_some {v : Value} {l : List Value} (h : vG v = some l) : v = .agg ⟨l⟩ := by
  cases v <;> cases h
  rfl
theorem vT_some {v : Value} {l : List Value} (h : vT v = some l) : v = .tuple ⟨l⟩ := by
  cases v <;> cases h
  rfl
theorem tr_get {α : Type} (rec : Nat → Option α) (gl gr : Nat → Option α) (v : Option α) (n : Nat) :
    (Bool.rec (motive := fun _ => Option α) (Bool.rec (motive := fun _ => Option α) (gr (Nat.sub (Nat.div n 2) 1)) (gl (Nat.div n 2)) (Nat.beq (Nat.mod n 2) 1)) v (Nat.beq n 0) : Option α) = bif Nat.beq n 0 then v else bif Nat.beq (Nat.mod n 2) 1 then gl (Nat.div n 2) else gr (Nat.sub (Nat.div n 2) 1) := by
  cases Nat.beq n 0 <;> cases Nat.beq (Nat.mod n 2) 1 <;> rfl
theorem hg_eq : ∀ (h : Tr SObj) (n : Nat), hg h n = h.get n
  | .nil, n => rfl
  | .node l v r, n => by
    have e := tr_get (hg l) (hg l) (hg r) v n
    refine Eq.trans e ?_
    rw [hg_eq l, hg_eq r]; rfl
theorem fgX_eq : ∀ (h : Tr Func) (n : Nat), fgX h n = h.get n
  | .nil, n => rfl
  | .node l v r, n => by
    have e := tr_get (fgX l) (fgX l) (fgX r) v n
    refine Eq.trans e ?_
    rw [fgX_eq l, fgX_eq r]; rfl
theorem hp_eq : ∀ (d : Nat) (h : Tr SObj) (n : Nat) (x : Option SObj), hp d h n x = h.put d n x
  | 0, h, n, x => rfl
  | d + 1, .nil, n, x => by
    have ih := hp_eq d
    show (Bool.rec (motive := fun _ => Tr SObj) (Bool.rec (motive := fun _ => Tr SObj) (.node .nil none (hp d .nil (Nat.sub (Nat.div n 2) 1) x)) (.node (hp d .nil (Nat.div n 2) x) none .nil) (Nat.beq (Nat.mod n 2) 1)) (.node .nil x .nil) (Nat.beq n 0) : Tr SObj) = _
    rw [ih, ih]
    simp only [Tr.put]
    cases Nat.beq n 0 <;> cases Nat.beq (Nat.mod n 2) 1 <;> rfl
  | d + 1, .node l v r, n, x => by
    have ih := hp_eq d
    show (Bool.rec (motive := fun _ => Tr SObj) (Bool.rec (motive := fun _ => Tr SObj) (.node l v (hp d r (Nat.sub (Nat.div n 2) 1) x)) (.node (hp d l (Nat.div n 2) x) v r) (Nat.beq (Nat.mod n 2) 1)) (.node l x r) (Nat.beq n 0) : Tr SObj) = _
    rw [ih, ih]
    simp only [Tr.put]
    cases Nat.beq n 0 <;> cases Nat.beq (Nat.mod n 2) 1 <;> rfl
theorem nth_eq {α : Type} : ∀ (c : List α) (n : Nat), nth c n = c[n]?
  | [], n => rfl
  | v :: c, 0 => rfl
  | v :: c, n + 1 => nth_eq c n
theorem takeX_some {α : Type} : ∀ {c : List α} {n : Nat} {l : List α}, takeX c n = some l → n ≤ c.length ∧ l = c.take n
  | [], n, l, h => by
    obtain ⟨h1, h2⟩ := bq_some h
    rw [nbeq, decide_eq_true_eq] at h1
    cases h2
    exact ⟨by simp [h1], by simp⟩
  | v :: c, 0, l, h => by cases h; exact ⟨Nat.zero_le _, rfl⟩
  | v :: c, n + 1, l, h => by
    obtain ⟨l', h1, h2⟩ := ob_some (show ob (takeX c n) _ = some l from h)
    cases h2
    obtain ⟨g1, g2⟩ := takeX_some h1
    exact ⟨by simp; exact g1, by rw [g2]; rfl⟩
theorem takeAt_some {α : Type} : ∀ {c : List α} {o n : Nat} {l : List α}, takeAt c o n = some l → o + n ≤ c.length ∧ l = (c.drop o).take n
  | [], o, n, l, h => by
    obtain ⟨h1, h2⟩ := bq_some h
    obtain ⟨h3, h4⟩ := bq_some h2
    rw [nbeq, decide_eq_true_eq] at h1 h3
    cases h4
    exact ⟨by simp [h1, h3], by simp⟩
  | v :: c, 0, n, l, h => by
    obtain ⟨g1, g2⟩ := takeX_some (show takeX (v :: c) n = some l from h)
    exact ⟨by simpa using g1, by simpa using g2⟩
  | v :: c, o + 1, n, l, h => by
    obtain ⟨g1, g2⟩ := takeAt_some (show takeAt c o n = some l from h)
    exact ⟨by simp; omega, by rw [g2]; rfl⟩
theorem putX_some : ∀ {vs c c' : List Value}, putX vs c = some c' → vs.length ≤ c.length ∧ c' = vs ++ c.drop vs.length
  | [], c, c', h => by cases h; exact ⟨Nat.zero_le _, rfl⟩
  | v :: vs, [], c', h => by cases h
  | v :: vs, x :: c, c', h => by
    obtain ⟨l, h1, h2⟩ := ob_some (show ob (putX vs c) _ = some c' from h)
    cases h2
    obtain ⟨g1, g2⟩ := putX_some h1
    exact ⟨by simp; exact g1, by rw [g2]; rfl⟩
theorem putAt_some {vs : List Value} : ∀ {c : List Value} {o : Nat} {c' : List Value}, putAt vs c o = some c' → o + vs.length ≤ c.length ∧ c' = splice c o vs
  | [], o, c', h => by
    obtain ⟨h1, h2⟩ := bq_some h
    rw [nbeq, decide_eq_true_eq] at h1
    obtain ⟨g1, g2⟩ := putX_some h2
    subst h1
    exact ⟨by simpa using g1, by rw [g2]; simp [splice]⟩
  | v :: c, 0, c', h => by
    obtain ⟨g1, g2⟩ := putX_some (show putX vs (v :: c) = some c' from h)
    exact ⟨by simpa using g1, by rw [g2]; simp [splice]⟩
  | v :: c, o + 1, c', h => by
    obtain ⟨l, h1, h2⟩ := ob_some (show ob (putAt vs c o) _ = some c' from h)
    cases h2
    obtain ⟨g1, g2⟩ := putAt_some h1
    refine ⟨by simp; omega, ?_⟩
    rw [g2]
    simp only [splice, List.take_succ_cons, List.cons_append]
    congr 2
    rw [show o + 1 + vs.length = (o + vs.length) + 1 from by omega]
    rfl
theorem lenX_eq {α : Type} : ∀ l : List α, lenX l = l.length
  | [] => rfl
  | _ :: l => by
    show Nat.succ (lenX l) = _
    rw [lenX_eq l]; rfl
theorem appX_eq {α : Type} : ∀ a b : List α, appX a b = a ++ b
  | [], b => rfl
  | x :: a, b => by
    show x :: appX a b = _
    rw [appX_eq a b]; rfl
theorem snocX_eq {α : Type} : ∀ (l : List α) (x : α), snocX l x = l ++ [x]
  | [], x => rfl
  | y :: l, x => by
    show y :: snocX l x = _
    rw [snocX_eq l x]; rfl
section
variable {E : Env} {S S' : St} {a : Addr} {v : Value} {l vs : List Value} {n : Nat}
theorem cellsX_some (h : cellsX S a n = some l) : cellsAt S a n = some l := by
  obtain ⟨o, h1, h2⟩ := ob_some h
  rw [hg_eq] at h1
  cases o with
  | map es c => cases h2
  | cells c e lo hi op =>
    obtain ⟨h3, h4⟩ := bq_some h2
    obtain ⟨g1, g2⟩ := takeAt_some h4
    have h3 := isN_true h3
    unfold cellsAt
    rw [h1, h3]
    simp only [nble, decide_eq_true g1, cond_true, g2]
theorem cellX_some (h : cellX S a = some v) : cellsAt S a 1 = some [v] := by
  obtain ⟨o, h1, h2⟩ := ob_some h
  rw [hg_eq] at h1
  cases o with
  | map es c => cases h2
  | cells c e lo hi op =>
    obtain ⟨h3, h4⟩ := bq_some h2
    have h3 := isN_true h3
    rw [nth_eq] at h4
    have hl := (List.getElem?_eq_some_iff.1 h4).1
    unfold cellsAt
    rw [h1, h3]
    simp only [nble, decide_eq_true (show a.off + 1 ≤ c.length by omega), cond_true]
    rw [List.drop_eq_getElem_cons hl]
    have := (List.getElem?_eq_some_iff.1 h4).2
    simp [this]
theorem addX_eq (a : Addr) (n : Nat) : addX a n = a.add n := by
  unfold addX Addr.add
  rw [bq_eq, nbeq]
  by_cases h : n = 0
  · rw [decide_eq_true h, if_pos h]; rfl
  · rw [decide_eq_false h, if_neg h]; rfl
theorem oneX_eq (v : Value) : oneX v = one v := by cases v <;> rfl
theorem onesX_eq : ∀ l : List Value, onesX l = l.all one
  | [] => rfl
  | v :: l => by
    show bq (oneX v) (onesX l) false = _
    rw [bq_eq, oneX_eq, onesX_eq l, List.all_cons]
    cases one v <;> rfl
theorem cellsOfX_eq (v : Value) : cellsOfX v = v.cells.toList := by cases v <;> rfl
theorem storeX_some (hne : vs ≠ []) (h : storeX S a vs = some S') : storeCellsAt S a vs = some S' := by
  obtain ⟨o, h1, h2⟩ := ob_some h
  rw [hg_eq] at h1
  cases o with
  | map es c => cases h2
  | cells c e lo hi op =>
    obtain ⟨h3, h4⟩ := bq_some h2
    obtain ⟨h5, h6⟩ := bq_some h4
    obtain ⟨h7, h8⟩ := bq_some h6
    obtain ⟨c', h9, h10⟩ := ob_some h8
    have h3 := isN_true h3
    obtain ⟨g1, g2⟩ := putAt_some h9
    rw [onesX_eq] at h5
    cases h10
    cases vs with
    | nil => exact (hne rfl).elim
    | cons x xs =>
      unfold storeCellsAt
      simp only [h1, h3]
      have hor : (Nat.ble hi lo || Nat.ble (a.off + (x :: xs).length) lo || Nat.ble hi a.off) = true := by
        rw [← h7, lenX_eq]
        simp only [bq_eq]
        show _ = cond (Nat.ble hi lo) true (cond (Nat.ble (a.off + (x :: xs).length) lo) true (Nat.ble hi a.off))
        cases Nat.ble hi lo <;> cases Nat.ble (a.off + (x :: xs).length) lo <;> rfl
      rw [hor, h5, nble, decide_eq_true g1, g2, hp_eq]
      rfl
end
end Go.Proofs.YtejebgdikoehmaaGreatDoor
/- The symbolic executor in haste is the executor: what reads, one by one. -/
namespace Go.Proofs.YtejebgdikoehmaaGreatDoor
open Go
set_option linter.unusedVariables false
set_option linter.unusedSimpArgs false
section
variable {E : Env} {T : Sts} {S S' : St} {v : Value} {dst : Option Tmp} {ty : TypeId} {pos : String} {after : Array Edge} {guard : Option (Nat × Bool)}
theorem aggX_some {t : TypeId} {q : Option Nat} (h : aggX E t = some q) : ∃ ti, E.tt.get t = some ti ∧ q = (bif isAggD ti.desc then some ti.size else none) := by
  unfold aggX at h
  split at h
  · rename_i ti ht
    cases h
    exact ⟨ti, ht, rfl⟩
  · cases h
theorem sizX_some {t : TypeId} {n : Nat} (h : sizX E t = some n) : ∃ ti, E.tt.get t = some ti ∧ n = ti.size := by
  unfold sizX at h
  split at h
  · rename_i ti ht
    cases h
    exact ⟨ti, ht, rfl⟩
  · cases h
theorem loadV_of {t : TypeId} {a : Addr} {q : Option Nat} (hq : aggX E t = some q) (h : Option.rec (motive := fun _ => Option Value) (cellX S a) (fun n => ob (cellsX S a n) fun l => some (.agg ⟨l⟩)) q = some v) : loadV E S t a = some v := by
  obtain ⟨ti, ht, rfl⟩ := aggX_some hq
  unfold loadV
  rw [ht]
  cases hb : isAggD ti.desc with
  | true =>
    rw [hb] at h
    obtain ⟨l, h1, h2⟩ := ob_some (show ob (cellsX S a ti.size) _ = some v from h)
    cases h2
    simp only [hb, cond_true, cellsX_some h1]
  | false =>
    rw [hb] at h
    have h := cellX_some (show cellX S a = some v from h)
    simp only [hb, cond_false, h]
theorem f_load {t : TypeId} {x : Operand} (h : fLoad t x E T S = some v) : sPure E T S ⟨dst, .load t x, ty, pos, after, guard⟩ = some v := by
  obtain ⟨u, h1, h2⟩ := ob_some h
  obtain ⟨a, h3, h4⟩ := ob_some h2
  obtain ⟨q, h5, h6⟩ := ob_some h4
  rw [xv_eq] at h1
  have := vA_some h3
  subst this
  simp only [sPure, h1]
  exact loadV_of h5 h6
theorem f_nil {x : Operand} (h : fNil x E T S = some v) : sPure E T S ⟨dst, .nilCheck x, ty, pos, after, guard⟩ = some v := by
  obtain ⟨u, h1, h2⟩ := ob_some h
  obtain ⟨a, h3, h4⟩ := ob_some h2
  rw [xv_eq] at h1
  have := vA_some h3
  subst this
  cases h4
  simp only [sPure, h1]
theorem f_fieldAddr {t : TypeId} {x : Operand} {f : Nat} (h : fFieldAddr t x f E T S = some v) : sPure E T S ⟨dst, .fieldAddr t x f, ty, pos, after, guard⟩ = some v := by
  obtain ⟨o, h1, h2⟩ := ob_some h
  obtain ⟨u, h3, h4⟩ := ob_some h2
  obtain ⟨a, h5, h6⟩ := ob_some h4
  rw [xv_eq] at h3
  have := vA_some h5
  subst this
  cases h6
  unfold foffX at h1
  split at h1
  · rename_i fs _ _ _ ht
    split at h1
    · rename_i fd hf
      split at h1
      · rename_i ti hti
        cases hz : Nat.beq ti.size 0 with
        | true => rw [hz] at h1; cases h1
        | false =>
          rw [hz] at h1
          cases h1
          simp only [sPure, h3, ht, hf, hti, hz, cond_false, addX_eq]
      · cases h1
    · cases h1
  · cases h1
theorem partV_of {t : TypeId} {l : List Value} {off : Nat} {q : Option Nat} (hq : aggX E t = some q) (h : Option.rec (motive := fun _ => Option Value) (nth l off) (fun n => ob (takeAt l off n) fun l' => some (.agg ⟨l'⟩)) q = some v) : partV E t ⟨l⟩ off = some v := by
  obtain ⟨ti, ht, rfl⟩ := aggX_some hq
  unfold partV
  rw [ht]
  cases hb : isAggD ti.desc with
  | true =>
    rw [hb] at h
    obtain ⟨l', h1, h2⟩ := ob_some (show ob (takeAt l off ti.size) _ = some v from h)
    cases h2
    obtain ⟨g1, g2⟩ := takeAt_some h1
    simp only [hb, cond_true, g2]
    congr 2
    apply Array.ext'
    simp [List.extract_eq_take_drop]
  | false =>
    rw [hb] at h
    have h := (nth_eq l off).symm.trans (show nth l off = some v from h)
    simp only [hb, cond_false]
    rw [← h]
    simp
theorem f_field {t : TypeId} {x : Operand} {f : Nat} (h : fField t x f E T S = some v) : sPure E T S ⟨dst, .field t x f, ty, pos, after, guard⟩ = some v := by
  obtain ⟨p, h1, h2⟩ := ob_some h
  obtain ⟨u, h3, h4⟩ := ob_some h2
  obtain ⟨l, h5, h6⟩ := ob_some h4
  rw [xv_eq] at h3
  have := vG_some h5
  subst this
  unfold fldX at h1
  split at h1
  · rename_i fs _ _ _ ht
    split at h1
    · rename_i fd hf
      split at h1
      · rename_i q hq
        cases h1
        simp only [sPure, h3, ht, hf]
        exact partV_of hq h6
      · cases h1
    · cases h1
  · cases h1
theorem f_pick {c a b : Operand} (h : fPick c a b E T S = some v) : sPure E T S ⟨dst, .pick c a b, ty, pos, after, guard⟩ = some v := by
  obtain ⟨u, h1, h2⟩ := ob_some h
  obtain ⟨q, h3, h4⟩ := ob_some h2
  rw [xv_eq] at h1
  have := vB_some h3
  subst this
  rw [xv_eq, xv_eq, bq_eq] at h4
  cases q with
  | true => simp only [sPure, h1]; exact h4
  | false => simp only [sPure, h1]; exact h4
theorem slElX_some {t : TypeId} {s : Nat} (h : slElX E t = some s) : ∃ e a b c ti, E.tt.get t = some ⟨.slice e, a, b, c⟩ ∧ E.tt.get e = some ti ∧ s = ti.size := by
  unfold slElX at h
  split at h
  · rename_i q hq
    cases h
    unfold slZX at hq
    split at hq
    · rename_i e a b c ht
      split at hq
      · rename_i ti hti
        cases hq
        exact ⟨e, a, b, c, ti, ht, hti, rfl⟩
      · cases hq
    · cases hq
  · cases h
theorem arElX_some {t : TypeId} {p : Nat × Nat} (h : arElX E t = some p) : ∃ e a b c ti, E.tt.get t = some ⟨.array p.1 e, a, b, c⟩ ∧ E.tt.get e = some ti ∧ p.2 = ti.size := by
  unfold arElX at h
  split at h
  · rename_i n e a b c ht
    split at h
    · rename_i s hs
      cases h
      obtain ⟨ti, h1, h2⟩ := sizX_some hs
      exact ⟨e, a, b, c, ti, ht, h1, h2⟩
    · cases h
  · cases h
theorem f_indexAddr {t : TypeId} {x ix : Operand} (h : fIndexAddr t x ix E T S = some v) : sPure E T S ⟨dst, .indexAddr t x ix, ty, pos, after, guard⟩ = some v := by
  obtain ⟨i, h1, h2⟩ := ob_some h
  obtain ⟨n, h3, h4⟩ := ob_some h2
  obtain ⟨u, h5, h6⟩ := ob_some h4
  rw [xv_eq] at h1 h5
  obtain ⟨k, rfl⟩ := vN_some h3
  cases u with
  | pointer a =>
    obtain ⟨ad, h7, h8⟩ := ob_some (show ob a _ = some v from h6)
    subst h7
    obtain ⟨p, h9, h10⟩ := ob_some h8
    obtain ⟨h11, h12⟩ := bq_some h10
    obtain ⟨e, za, zb, zc, ti, g1, g2, g3⟩ := arElX_some h9
    cases h12
    rw [nblt, decide_eq_true_eq] at h11
    simp only [sPure, h1, h5, g1, g2, decide_eq_true (show (0 : Int) ≤ n by omega), decide_eq_true (show (n : Int) < p.1 by omega), Bool.and_self, cond_true, addX_eq, g3]
    rfl
  | slice a len cap =>
    obtain ⟨ad, h7, h8⟩ := ob_some (show ob a _ = some v from h6)
    subst h7
    obtain ⟨s, h9, h10⟩ := ob_some h8
    obtain ⟨h11, h12⟩ := bq_some h10
    obtain ⟨e, za, zb, zc, ti, g1, g2, g3⟩ := slElX_some h9
    cases h12
    rw [nblt, decide_eq_true_eq] at h11
    simp only [sPure, h1, h5, g1, g2, decide_eq_true (show (0 : Int) ≤ n by omega), decide_eq_true (show (n : Int) < len by omega), Bool.and_self, cond_true, addX_eq, g3]
    rfl
  | _ => cases h6
theorem f_extract {x : Operand} {i : Nat} (h : fExtract x i E T S = some v) : sPure E T S ⟨dst, .extract x i, ty, pos, after, guard⟩ = some v := by
  obtain ⟨u, h1, h2⟩ := ob_some h
  obtain ⟨l, h3, h4⟩ := ob_some h2
  rw [xv_eq] at h1
  have := vT_some h3
  subst this
  rw [nth_eq] at h4
  simp only [sPure, h1]
  simpa using h4
theorem fold_splice (off : Nat) : ∀ (x : List Value) (j : Nat) (cs : Array Value), off + j + x.length ≤ cs.size → ((x.zipIdx j).foldl (fun cs (c, j) => cs.setIfInBounds (off + j) c) cs).toList = splice cs.toList (off + j) x
  | [], j, cs, h => by simp [splice]
  | a :: x, j, cs, h => by
    simp only [List.length_cons] at h
    simp only [List.zipIdx_cons, List.foldl_cons]
    rw [fold_splice off x (j + 1) _ (by simp; omega)]
    simp only [splice, Array.toList_setIfInBounds, List.length_cons]
    have hl : cs.toList.length = cs.size := by simp
    have e1 : (cs.toList.set (off + j) a).take (off + (j + 1)) = cs.toList.take (off + j) ++ [a] := by
      rw [show off + (j + 1) = off + j + 1 from by omega, List.take_set, List.take_succ_eq_append_getElem (by omega)]
      rw [List.set_append_right _ _ (by simp; omega)]
      simp [show min (off + j) cs.size = off + j by omega]
    have e2 : (cs.toList.set (off + j) a).drop (off + (j + 1) + x.length) = cs.toList.drop (off + j + (x.length + 1)) := by
      rw [List.drop_set_of_lt (by omega)]
      congr 1
      omega
    rw [e1, e2]
    simp
theorem fillX_some {pl : List (Nat × Nat)} : ∀ {ps : List (Nat × Operand)} {z l : List Value}, fillX T pl ps z = some l → ∃ vs, evalParts T ps = some vs ∧ Instr.fill (fun i => pl[i]?) z.toArray vs = some l.toArray
  | [], z, l, h => by cases h; exact ⟨[], rfl, rfl⟩
  | (i, x) :: ps, z, l, h => by
    obtain ⟨v, h1, h2⟩ := ob_some (show ob (xv T x) _ = some l from h)
    obtain ⟨q, h3, h4⟩ := ob_some h2
    obtain ⟨h5, h6⟩ := bq_some h4
    obtain ⟨z', h7, h8⟩ := ob_some h6
    obtain ⟨vs, g1, g2⟩ := fillX_some (show fillX T pl ps z' = some l from h8)
    rw [xv_eq] at h1
    rw [nth_eq] at h3
    rw [lenX_eq, nbeq, decide_eq_true_eq, cellsOfX_eq] at h5
    obtain ⟨k1, k2⟩ := putAt_some h7
    rw [cellsOfX_eq] at k1 k2
    refine ⟨(i, v) :: vs, by simp only [evalParts, h1, g1], ?_⟩
    simp only [Instr.fill]
    simp only at h3
    rw [h3]
    simp only
    have hsz : v.cells.size = q.2 := by rw [← h5]; simp
    have hcl : v.cells.toList.length = v.cells.size := by simp
    rw [if_neg (by simp only [List.size_toArray, Bool.or_eq_true, decide_eq_true_eq]; omega)]
    rw [← g2]
    congr 1
    apply Array.ext'
    have := fold_splice q.1 v.cells.toList 0 z.toArray (by simp only [List.size_toArray]; omega)
    rw [Nat.add_zero] at this
    rw [← Array.foldl_toList, Array.toList_zipIdx, this, k2]
theorem f_build {t : TypeId} {ps : Array (Nat × Operand)} (h : fBuild t ps E T S = some v) : sPure E T S ⟨dst, .build t ps, ty, pos, after, guard⟩ = some v := by
  obtain ⟨p, h1, h2⟩ := ob_some h
  obtain ⟨l, h3, h4⟩ := ob_some h2
  cases h4
  obtain ⟨vs, g1, g2⟩ := fillX_some h3
  unfold placesX at h1
  split at h1
  · rename_i fs _ z _ ht
    split at h1
    · rename_i pl hpl
      cases h1
      simp only [sPure, ht, g1, hpl, g2]
    · cases h1
  · cases h1
theorem f_len {x : Operand} {t : TypeId} {c : Call} (hc : c.callee = .builtin .len) (ha : c.args.toList = [x]) (ht : c.argTypes.toList[0]? = some t) (h : fLen x t E T S = some v) : sPure E T S ⟨dst, .call c, ty, pos, after, guard⟩ = some v := by
  obtain ⟨u, h1, h2⟩ := ob_some h
  rw [xv_eq] at h1
  have ht' : (c.argTypes[0]? : Option TypeId) = some t := by rw [← Array.getElem?_toList]; exact ht
  have hev : evalL T c.args.toList = some [u] := by rw [ha]; simp only [evalL, h1]
  simp only [sPure, hc, hev]
  cases u with
  | string s =>
    obtain ⟨g1, g2⟩ := bq_some (show bq (strX E t) _ none = some v from h2)
    cases g2
    unfold strX at g1
    split at g1
    · rename_i a b c ht2
      have hs : lenX s.data.toList = s.size := by rw [lenX_eq]; rfl
      simp only [lenB, typeAt, ht', ht2, hs]
      rfl
    · cases g1
  | slice a n cap =>
    obtain ⟨g1, g2⟩ := bq_some (show bq (isSlX E t) _ none = some v from h2)
    cases g2
    unfold isSlX at g1
    split at g1
    · rename_i e a b c ht2
      simp only [lenB, typeAt, ht', ht2]
      rfl
    · cases g1
  | _ => cases h2
theorem storeV_of {t : TypeId} {a x : Operand} (h : fStore t a x E T S = some S') : ∃ ad u, evalO T a = some (.pointer (some ad)) ∧ evalO T x = some u ∧ storeV E S t ad u = some S' := by
  obtain ⟨p, h1, h2⟩ := ob_some h
  obtain ⟨ad, h3, h4⟩ := ob_some h2
  obtain ⟨u, h5, h6⟩ := ob_some h4
  obtain ⟨n, h7, h8⟩ := ob_some h6
  obtain ⟨h9, h10⟩ := bq_nsome h8
  obtain ⟨h11, h12⟩ := bq_some h10
  rw [xv_eq] at h1 h5
  have := vA_some h3
  subst this
  obtain ⟨ti, ht, rfl⟩ := sizX_some h7
  rw [lenX_eq, cellsOfX_eq, nbeq, decide_eq_true_eq] at h11
  rw [nbeq, decide_eq_false_iff_not] at h9
  rw [cellsOfX_eq] at h12
  refine ⟨ad, u, h1, h5, ?_⟩
  unfold storeV
  have hsz : u.cells.size = ti.size := by rw [← h11]; simp
  rw [ht]
  simp only [nbeq, decide_eq_true hsz, cond_true]
  exact storeX_some (fun e => by rw [e] at h11; exact h9 h11.symm) h12
end
end Go.Proofs.YtejebgdikoehmaaGreatDoor
/- The symbolic executor in haste is the executor: what the model reckons by itself. -/
namespace Go.Proofs.YtejebgdikoehmaaGreatDoor
open Go
set_option linter.unusedVariables false
set_option linter.unusedSimpArgs false
theorem pureRun_bind {α β : Type} (P : Program) (f : α → Sem β) : ∀ s : Sem α, pureRun P (s >>= f) = (pureRun P s).bind fun a => pureRun P (f a)
  | .pure a => rfl
  | .program k => by
    show pureRun P (.program fun p => k p >>= f) = _
    simp only [pureRun]
    exact pureRun_bind P f (k P)
  | .mark m k => by
    show pureRun P (.mark m (k >>= f)) = _
    simp only [pureRun]
    exact pureRun_bind P f k
  | .load _ _ _ => rfl
  | .store _ _ _ _ => rfl
  | .new _ _ => rfl
  | .shape _ _ => rfl
  | .freeze _ _ _ => rfl
  | .frozen _ _ => rfl
  | .getObj _ _ => rfl
  | .setObj _ _ _ => rfl
  | .choose _ _ => rfl
  | .sys _ _ => rfl
  | .halt _ => rfl
theorem pureRun_pure {α : Type} (P : Program) (a : α) : pureRun P (pure a : Sem α) = some a := rfl
theorem pureRun_program (P : Program) : pureRun P (program : Sem Program) = some P := rfl
/-- Whole numbers. -/
theorem eqI_eq (a b : Int) : eqI a b = (a == b) := by
  cases a with
  | ofNat m => cases b with
    | ofNat n =>
      show Nat.beq m n = _
      rw [nbeq]
      by_cases h : m = n
      · subst h; simp
      · rw [decide_eq_false h]; symm; simp; omega
    | negSucc n => show false = _; symm; simp
  | negSucc m => cases b with
    | ofNat n => show false = _; symm; simp
    | negSucc n =>
      show Nat.beq m n = _
      rw [nbeq]
      by_cases h : m = n
      · subst h; simp
      · rw [decide_eq_false h]; symm; simp; omega
theorem ltI_eq (a b : Int) : ltI a b = decide (a < b) := by
  cases a with
  | ofNat m => cases b with
    | ofNat n =>
      show Nat.blt m n = _
      rw [nblt]
      congr 1
      simp
    | negSucc n => show false = _; symm; simp; omega
  | negSucc m => cases b with
    | ofNat n => show true = _; symm; simp; omega
    | negSucc n =>
      show Nat.blt n m = _
      rw [nblt]
      congr 1
      simp
      omega
theorem kEq_true {k k' : IntKind} (h : kEq k k' = true) : k' = k := by cases k <;> cases k' <;> first | rfl | cases h
theorem wrap_id (k : IntKind) {m : Nat} (h : m < limX k) : k.wrap (m : Int) = m := by
  cases k <;> (simp only [limX] at h; simp [IntKind.wrap, IntKind.bits, IntKind.signed]; omega)
theorem wrapX_eq (k : IntKind) (m : Nat) : wrapX k m = k.wrap (m : Int) := by
  unfold wrapX
  cases h : Nat.blt m (limX k) with
  | false => rfl
  | true =>
    rw [nblt, decide_eq_true_eq] at h
    exact (wrap_id k h).symm
theorem wrap_neg (k : IntKind) {m : Nat} (hs : sgnX k = true) (h : m + 1 ≤ limX k) : k.wrap (Int.negSucc m) = Int.negSucc m := by
  cases k <;> first | cases hs; done | (simp only [limX] at h; simp only [IntKind.wrap, IntKind.bits, IntKind.signed]; rw [Int.negSucc_eq]; simp; omega)
theorem minX_eq (a b : Nat) : minX a b = min a b := by
  unfold minX
  cases h : Nat.ble a b with
  | true => rw [nble, decide_eq_true_eq] at h; exact (Nat.min_eq_left h).symm
  | false => rw [nble, decide_eq_false_iff_not] at h; show b = _; exact (Nat.min_eq_right (by omega)).symm
theorem bitsX_eq (k : IntKind) : bitsX k = k.bits := by cases k <;> rfl
theorem i2_some {α : Type} {f : Nat → Nat → Option α} {a b : Int} {r : α} (h : i2 f none a b = some r) : ∃ m n : Nat, a = m ∧ b = n ∧ f m n = some r := by
  cases a with
  | negSucc m => cases h
  | ofNat m => cases b with
    | negSucc n => cases h
    | ofNat n => exact ⟨m, n, rfl, rfl, h⟩
section
variable {E : Env} {T : Sts} {S S' : St} {v : Value} {dst : Option Tmp} {ty : TypeId} {pos : String} {after : Array Edge} {guard : Option (Nat × Bool)} {P : Program}
theorem arX_run {op : BinOp} {t : TypeId} {k : IntKind} {m n : Nat} (h : arX op k m n = some v) : pureRun P (binOp op t (.int k m) (.int k n)) = some v ∧ plain v = true := by
  have key : ∀ {o : BinOp} {r : Int}, pureRun P (binOp o t (.int k m) (.int k n)) = some (.int k r) → pureRun P (binOp o t (.int k m) (.int k n)) = some (.int k r) ∧ plain (.int k r) = true := fun h => ⟨h, rfl⟩
  cases op with
  | add =>
    cases h
    refine key ?_
    rw [wrapX_eq]
    simp [binOp, Op.intArith, pureRun_pure]
  | mul =>
    cases h
    refine key ?_
    rw [wrapX_eq]
    simp [binOp, Op.intArith, pureRun_pure]
  | sub =>
    have h : subX k m n = some v := h
    unfold subX at h
    cases hle : Nat.ble n m with
    | true =>
      rw [hle] at h
      rw [nble, decide_eq_true_eq] at hle
      cases h
      refine key ?_
      rw [wrapX_eq, show ((Nat.sub m n : Nat) : Int) = (m : Int) - n from by show ((m - n : Nat) : Int) = _; omega]
      simp [binOp, Op.intArith, pureRun_pure]
    | false =>
      rw [hle] at h
      rw [nble, decide_eq_false_iff_not] at hle
      obtain ⟨h1, h2⟩ := bq_some h
      obtain ⟨h3, h4⟩ := bq_some h2
      rw [nble, decide_eq_true_eq] at h3
      cases h4
      refine key ?_
      have e : Int.negSucc (Nat.sub (Nat.sub n m) 1) = (m : Int) - n := by
        rw [Int.negSucc_eq]
        show -(((n - m - 1 : Nat) : Int) + 1) = _
        omega
      have hlim : Nat.sub (Nat.sub n m) 1 + 1 ≤ limX k := by
        have : Nat.sub (Nat.sub n m) 1 + 1 = Nat.sub n m := by show n - m - 1 + 1 = n - m; omega
        rw [this]; exact h3
      have hw := wrap_neg k h1 hlim
      rw [e] at hw ⊢
      simp [binOp, Op.intArith, pureRun_pure, hw]
  | quo =>
    obtain ⟨h1, h2⟩ := bq_nsome h
    rw [nbeq, decide_eq_false_iff_not] at h1
    cases h2
    refine key ?_
    rw [wrapX_eq]
    simp [binOp, Op.intDiv, pureRun_pure, h1]
    rfl
  | rem =>
    obtain ⟨h1, h2⟩ := bq_nsome h
    rw [nbeq, decide_eq_false_iff_not] at h1
    cases h2
    refine key ?_
    simp [binOp, Op.intDiv, pureRun_pure, h1]
    rfl
  | _ => cases h
theorem cmX_run {op : BinOp} {t : TypeId} {k : IntKind} {a b : Int} (h : cmX op a b = some v) : pureRun P (binOp op t (.int k a) (.int k b)) = some v ∧ plain v = true := by
  cases op <;> first
    | (cases h; done)
    | (cases h
       refine ⟨?_, rfl⟩
       simp only [notX_eq, eqI_eq, ltI_eq]
       simp [binOp, Op.intCmp, pureRun_pure]
       try first
         | done
         | rfl
         | (by_cases hq : b < a <;> simp [hq] <;> omega)
         | (by_cases hq : a < b <;> simp [hq] <;> omega))
theorem lim_pow (k : IntKind) : ∃ j, limX k = 2 ^ j := by cases k <;> first | exact ⟨7, rfl⟩ | exact ⟨15, rfl⟩ | exact ⟨31, rfl⟩ | exact ⟨63, rfl⟩ | exact ⟨8, rfl⟩ | exact ⟨16, rfl⟩ | exact ⟨32, rfl⟩ | exact ⟨64, rfl⟩
theorem lim_le (k : IntKind) : limX k ≤ 2 ^ k.bits := by cases k <;> decide
theorem ofInt_nat (k : IntKind) {m : Nat} (h : m < limX k) : (BitVec.ofInt k.bits (m : Int)).toNat = m := by
  have := lim_le k
  rw [BitVec.toNat_ofInt]
  have e : ((m : Int) % ((2 ^ k.bits : Nat) : Int)).toNat = m % 2 ^ k.bits := by
    rw [← Int.natCast_emod, Int.toNat_natCast]
  rw [e, Nat.mod_eq_of_lt (by omega)]
theorem bitX_run {op : BinOp} {t : TypeId} {k : IntKind} {m n : Nat} (h : bitX op k m n = some v) : pureRun P (binOp op t (.int k m) (.int k n)) = some v ∧ plain v = true := by
  obtain ⟨h1, h2⟩ := bq_some h
  obtain ⟨h3, h4⟩ := bq_some h2
  rw [nblt, decide_eq_true_eq] at h1 h3
  have a1 := ofInt_nat k h1
  have a2 := ofInt_nat k h3
  obtain ⟨j, hj⟩ := lim_pow k
  cases op with
  | and =>
    cases h4
    refine ⟨?_, rfl⟩
    have hl : m &&& n < limX k := Nat.lt_of_le_of_lt Nat.and_le_left h1
    simp only [binOp, Op.intBits, ne_eq, not_true_eq_false, if_false, BitVec.toNat_and, a1, a2, wrap_id k hl, pureRun_pure]
    rfl
  | or =>
    cases h4
    refine ⟨?_, rfl⟩
    have hl : m ||| n < limX k := by rw [hj] at h1 h3 ⊢; exact Nat.or_lt_two_pow h1 h3
    simp only [binOp, Op.intBits, ne_eq, not_true_eq_false, if_false, BitVec.toNat_or, a1, a2, wrap_id k hl, pureRun_pure]
    rfl
  | xor =>
    cases h4
    refine ⟨?_, rfl⟩
    have hl : m ^^^ n < limX k := by rw [hj] at h1 h3 ⊢; exact Nat.xor_lt_two_pow h1 h3
    simp only [binOp, Op.intBits, ne_eq, not_true_eq_false, if_false, BitVec.toNat_xor, a1, a2, wrap_id k hl, pureRun_pure]
    rfl
  | _ => cases h4
theorem shX_run {op : BinOp} {t : TypeId} {k k' : IntKind} {m n : Nat} (h : shX op k m n = some v) : pureRun P (binOp op t (.int k m) (.int k' n)) = some v ∧ plain v = true := by
  cases op with
  | shl =>
    cases h
    refine ⟨?_, rfl⟩
    rw [wrapX_eq, minX_eq, bitsX_eq]
    have hn : ¬ ((n : Int) < 0) := by omega
    simp only [binOp, Op.shift, hn, if_false, pureRun_pure, Int.toNat_natCast]
    congr 3
  | shr =>
    cases h
    refine ⟨?_, rfl⟩
    rw [minX_eq, bitsX_eq]
    have hn : ¬ ((n : Int) < 0) := by omega
    simp only [binOp, Op.shift, hn, if_false, pureRun_pure, Int.toNat_natCast]
    congr 2
    have : ((2 : Int) ^ min n k.bits) = ((2 ^ min n k.bits : Nat) : Int) := by rw [Int.natCast_pow]; rfl
    rw [this]
    exact (Int.ofNat_fdiv _ _).symm
  | _ => cases h
theorem opK_some {α : Type} {a b c d : Option α} {op : BinOp} {r : α} (h : opK a b c d op = some r) : a = some r ∨ b = some r ∨ c = some r ∨ d = some r := by
  cases op <;> first | exact Or.inl h | exact Or.inr (Or.inl h) | exact Or.inr (Or.inr (Or.inl h)) | exact Or.inr (Or.inr (Or.inr h))
end
end Go.Proofs.YtejebgdikoehmaaGreatDoor
/- The symbolic executor in haste is the executor: binary operations. -/
namespace Go.Proofs.YtejebgdikoehmaaGreatDoor
open Go
set_option linter.unusedVariables false
set_option linter.unusedSimpArgs false
theorem bytesEqX_eq : ∀ (a b : List UInt8), bytesEqX a b = (a == b)
  | [], [] => rfl
  | [], _ :: _ => rfl
  | x :: a, [] => rfl
  | x :: a, y :: b => by
    have ih := bytesEqX_eq a b
    show (Bool.rec (motive := fun _ => Bool) false (bytesEqX a b) (Nat.beq x.toNat y.toNat) : Bool) = _
    rw [nbeq]
    by_cases h : x = y
    · subst h
      rw [decide_eq_true rfl]
      show bytesEqX a b = _
      rw [ih]
      simp
    · rw [decide_eq_false (fun e => h (UInt8.toNat_inj.1 e))]
      symm
      show (x :: a == y :: b) = false
      simp [h]
theorem bytes_toList (s : List UInt8) : (⟨⟨s⟩⟩ : ByteArray).toList = s := by
  rw [Go.ByteArray.toList_eq]
theorem bytes_eq (a b : List UInt8) : ((⟨⟨a⟩⟩ : ByteArray).toList == (⟨⟨b⟩⟩ : ByteArray).toList) = (a == b) := by rw [bytes_toList, bytes_toList]
theorem bytes_append (a b : List UInt8) : (⟨⟨a⟩⟩ ++ ⟨⟨b⟩⟩ : ByteArray) = ⟨⟨a ++ b⟩⟩ := by
  apply ByteArray.ext
  simp
section
variable {E : Env} {T : Sts} {S S' : St} {v : Value} {dst : Option Tmp} {ty : TypeId} {pos : String} {after : Array Edge} {guard : Option (Nat × Bool)} {P : Program}
theorem binS_run {op : BinOp} {t : TypeId} {a b : List UInt8} (h : binS op a b = some v) : pureRun P (binOp op t (.string ⟨⟨a⟩⟩) (.string ⟨⟨b⟩⟩)) = some v ∧ plain v = true := by
  cases op with
  | add =>
    obtain ⟨h1, h2⟩ := bq_some h
    cases h2
    refine ⟨?_, rfl⟩
    rw [nble, decide_eq_true_eq, lenX_eq, lenX_eq] at h1
    have h1 : a.length + b.length ≤ 1000000 := h1
    have hm : ¬ (((((⟨⟨a⟩⟩ : ByteArray).size + (⟨⟨b⟩⟩ : ByteArray).size : Nat) : Int)) > IntKind.i64.max) := by
      have e : IntKind.i64.max = 9223372036854775807 := by rfl
      rw [e]
      have e1 : (⟨⟨a⟩⟩ : ByteArray).size = a.length := rfl
      have e2 : (⟨⟨b⟩⟩ : ByteArray).size = b.length := rfl
      rw [e1, e2]
      omega
    simp only [binOp, Op.stringOp, hm, if_false, pureRun_pure, appX_eq, bytes_append]
  | eql =>
    cases h
    refine ⟨?_, rfl⟩
    simp only [binOp, Op.stringOp, pureRun_pure, bytesEqX_eq, bytes_eq]
  | neq =>
    cases h
    refine ⟨?_, rfl⟩
    simp only [binOp, Op.stringOp, pureRun_pure, bytesEqX_eq, bytes_eq, notX_eq]
  | _ => cases h
theorem sPure_bin {op : BinOp} {t u : TypeId} {x y : Operand} {a b : Value} (ha : evalO T x = some a) (hb : evalO T y = some b) (pa : plain a = true) (pb : plain b = true) :
    sPure E T S ⟨dst, .binOp op t x y u, ty, pos, after, guard⟩ = gen E T ⟨dst, .binOp op t x y u, ty, pos, after, guard⟩ := by
  cases op <;> simp only [sPure, ha, hb, pa, pb, Bool.and_self, cond_true]
theorem gen_bin {op : BinOp} {t u : TypeId} {x y : Operand} {a b : Value} (ha : evalO T x = some a) (hb : evalO T y = some b) (pa : plain a = true) (pb : plain b = true)
    (hg : pureRun E.P (eqGuard op t x y a b) = some ()) (hr : pureRun E.P (binOp op t a b) = some v ∧ plain v = true) :
    gen E T ⟨dst, .binOp op t x y u, ty, pos, after, guard⟩ = some v := by
  have hev : evalL T (Op.binOp op t x y u).operands.toList = some [a, b] := by
    simp only [Op.operands, evalL, ha, hb]
  unfold gen
  simp only [hev, List.all_cons, List.all_nil, pa, pb, Bool.and_self, cond_true, execOp, ha, hb, Option.getD_some, pureRun_bind, hg, Option.bind_some, hr.1, pureRun_pure, hr.2]
theorem guard_int {op : BinOp} {t : TypeId} {x y : Operand} {k k' : IntKind} {m n : Int} : pureRun P (eqGuard op t x y (.int k m) (.int k' n)) = some () := by cases op <;> rfl
theorem f_bin_int {op : BinOp} {t u : TypeId} {x y : Operand} {k : IntKind} {m : Int} (ha : evalO T x = some (.int k m)) (h : (ob (xv T y) fun b => ob (vKI b) fun p => opK (bq (kEq k p.1) (i2 (arX op k) none m p.2) none) (bq (kEq k p.1) (i2 (bitX op k) none m p.2) none) (i2 (shX op k) none m p.2) (bq (kEq k p.1) (cmX op m p.2) none) op) = some v) :
    sPure E T S ⟨dst, .binOp op t x y u, ty, pos, after, guard⟩ = some v := by
  obtain ⟨b, h1, h2⟩ := ob_some h
  obtain ⟨⟨k', n⟩, h3, h4⟩ := ob_some h2
  rw [xv_eq] at h1
  have := vKI_some h3
  subst this
  simp only at h1 h4
  rw [sPure_bin ha h1 rfl rfl]
  refine gen_bin ha h1 rfl rfl guard_int ?_
  rcases opK_some h4 with q | q | q | q
  · obtain ⟨q1, q2⟩ := bq_some q
    have := kEq_true q1
    subst this
    obtain ⟨m', n', rfl, rfl, q3⟩ := i2_some q2
    exact arX_run q3
  · obtain ⟨q1, q2⟩ := bq_some q
    have := kEq_true q1
    subst this
    obtain ⟨m', n', rfl, rfl, q3⟩ := i2_some q2
    exact bitX_run q3
  · obtain ⟨m', n', rfl, rfl, q3⟩ := i2_some q
    exact shX_run q3
  · obtain ⟨q1, q2⟩ := bq_some q
    have := kEq_true q1
    subst this
    exact cmX_run q2
theorem guard_str {op : BinOp} {t : TypeId} {x y : Operand} {a b : ByteArray} : pureRun P (eqGuard op t x y (.string a) (.string b)) = some () := by cases op <;> rfl
theorem f_bin_str {op : BinOp} {t u : TypeId} {x y : Operand} {s : List UInt8} (ha : evalO T x = some (.string ⟨⟨s⟩⟩)) (h : (ob (xv T y) fun b => ob (vS b) fun r => binS op s r) = some v) :
    sPure E T S ⟨dst, .binOp op t x y u, ty, pos, after, guard⟩ = some v := by
  obtain ⟨b, h1, h2⟩ := ob_some h
  obtain ⟨r, h3, h4⟩ := ob_some h2
  rw [xv_eq] at h1
  have := vS_some h3
  subst this
  rw [sPure_bin ha h1 rfl rfl]
  exact gen_bin ha h1 rfl rfl guard_str (binS_run h4)
theorem tyK_some {t : TypeId} {n : Nat} (h : Nat.beq (tyK E t) n = true) (hn : n ≠ 9) : ∃ ti, E.tt.get t = some ti ∧ tdK ti.desc = n := by
  rw [nbeq, decide_eq_true_eq] at h
  unfold tyK at h
  split at h
  · rename_i ti ht
    exact ⟨ti, ht, h⟩
  · exact (hn h.symm).elim
theorem tdK_ptr {d : TD} (h : tdK d = 0) : ∃ e, d = .pointer e := by cases d <;> first | exact ⟨_, rfl⟩ | cases h
theorem tdK_slice {d : TD} (h : tdK d = 1) : ∃ e, d = .slice e := by cases d <;> first | exact ⟨_, rfl⟩ | cases h
theorem tdK_map {d : TD} (h : tdK d = 2) : ∃ k e, d = .map k e := by cases d <;> first | exact ⟨_, _, rfl⟩ | cases h
theorem tdK_iface {d : TD} (h : tdK d = 3) : d = .iface := by cases d <;> first | rfl | cases h
theorem tdK_func {d : TD} (h : tdK d = 4) : d = .func := by cases d <;> first | rfl | cases h
/-- Two nil ones are alike. -/
theorem nil_run (hT : TOk E) {t : TypeId} {x y : Operand} {ti : TI} {a b : Value} (ht : E.tt.get t = some ti)
    (h : (∃ e, ti.desc = .pointer e ∧ a = .pointer none ∧ b = .pointer none) ∨ (∃ e l c l' c', ti.desc = .slice e ∧ a = .slice none l c ∧ b = .slice none l' c') ∨ (∃ k e, ti.desc = .map k e ∧ a = .map none ∧ b = .map none) ∨
      (ti.desc = .iface ∧ a = .nilIface ∧ b = .nilIface ∧ (isC x = true ∨ isC y = true)) ∨ (ti.desc = .func ∧ a = .nilFunc ∧ b = .nilFunc)) :
    (∀ op, pureRun E.P (eqGuard op t x y a b) = some ()) ∧ pureRun E.P (Op.equal t a b) = some true := by
  obtain ⟨info, d, hk⟩ := hT _ _ ht
  have hd := hk.desc
  have hu : pureRun E.P (underlying t) = some d := by
    unfold Go.underlying
    simp only [pureRun_bind, pureRun_program, Option.bind_some, hk.und]
    rfl
  have he : ∀ a b, (∀ D, pureRun E.P (Op.equalIn (D + 1) t a b) = some true) → pureRun E.P (Op.equal t a b) = some true := fun a b q => q 9999
  rcases h with ⟨e, h1, rfl, rfl⟩ | ⟨e, l, c, l', c', h1, rfl, rfl⟩ | ⟨k, e, h1, rfl, rfl⟩ | ⟨h1, rfl, rfl, hc⟩ | ⟨h1, rfl, rfl⟩
  all_goals
    rw [h1] at hd
    cases d <;> simp only [TD.of] at hd <;> try cases hd
    refine ⟨fun op => ?_, ?_⟩
  · cases op <;> rfl
  · refine he _ _ fun D => ?_
    simp only [Op.equalIn, pureRun_bind, hu, Option.bind_some]
    rfl
  · cases op <;> rfl
  · refine he _ _ fun D => ?_
    simp only [Op.equalIn, pureRun_bind, hu, Option.bind_some]
    rfl
  · cases op <;> rfl
  · refine he _ _ fun D => ?_
    simp only [Op.equalIn, pureRun_bind, hu, Option.bind_some]
    rfl
  · have hxy : ((match x with | .const _ => true | _ => false) || (match y with | .const _ => true | _ => false)) = true := by
      rcases hc with hc | hc
      · cases x <;> first | rfl | cases hc
      · cases y <;> first | (cases x <;> rfl) | cases hc
    cases op <;> first | rfl | (unfold eqGuard; cases x <;> cases y <;> first | rfl | (cases hxy))
  · refine he _ _ fun D => ?_
    simp only [Op.equalIn, pureRun_bind, hu, Option.bind_some]
    rfl
  · cases op <;> rfl
  · refine he _ _ fun D => ?_
    simp only [Op.equalIn, pureRun_bind, hu, Option.bind_some]
    rfl
end
end Go.Proofs.YtejebgdikoehmaaGreatDoor
/- The symbolic executor in haste is the executor: what reads, all. -/
namespace Go.Proofs.YtejebgdikoehmaaGreatDoor
open Go
set_option linter.unusedVariables false
set_option linter.unusedSimpArgs false
/-- What may be nil. -/
inductive Nk : Value → Nat → Bool → Prop
  | ptr (a : Option Addr) : Nk (.pointer a) 0 a.isNone
  | slice (a : Option Addr) (l c : Nat) : Nk (.slice a l c) 1 a.isNone
  | map (a : Option Nat) : Nk (.map a) 2 a.isNone
  | iface (t : TypeId) (v : Value) : Nk (.iface t v) 3 false
  | nilIface : Nk .nilIface 3 true
  | func (f : Fn) (a b : Array Value) : Nk (.func f a b) 4 false
  | nilFunc : Nk .nilFunc 4 true
theorem nilK_some {v : Value} {p : Nat × Bool} (h : nilK v = some p) : Nk v p.1 p.2 := by
  cases v with
  | pointer a =>
    cases h
    rw [isN_eq]; exact .ptr a
  | slice a l c =>
    cases h
    rw [isN_eq]; exact .slice a l c
  | map a =>
    cases h
    rw [isN_eq]; exact .map a
  | func f a b => cases h; exact .func f a b
  | nilFunc => cases h; exact .nilFunc
  | iface t u => cases h; exact .iface t u
  | nilIface => cases h; exact .nilIface
  | _ => cases h
section
variable {E : Env} {T : Sts} {S S' : St} {v : Value} {dst : Option Tmp} {ty : TypeId} {pos : String} {after : Array Edge} {guard : Option (Nat × Bool)} {P : Program}
theorem iface_run (hT : TOk E) {t : TypeId} {x y : Operand} {ti : TI} {u : TypeId} {w : Value} (ht : E.tt.get t = some ti) (hd : ti.desc = .iface) :
    (∀ op, pureRun E.P (eqGuard op t x y .nilIface (.iface u w)) = some ()) ∧ pureRun E.P (Op.equal t .nilIface (.iface u w)) = some false ∧
    (∀ op, pureRun E.P (eqGuard op t x y (.iface u w) .nilIface) = some ()) ∧ pureRun E.P (Op.equal t (.iface u w) .nilIface) = some false := by
  obtain ⟨info, d, hk⟩ := hT _ _ ht
  have hd' := hk.desc
  rw [hd] at hd'
  cases d <;> simp only [TD.of] at hd' <;> try cases hd'
  rename_i ms
  have hu : pureRun E.P (underlying t) = some (.interface ms) := by
    unfold Go.underlying
    simp only [pureRun_bind, pureRun_program, Option.bind_some, hk.und]
    rfl
  have he : ∀ a b, (∀ D, pureRun E.P (Op.equalIn (D + 1) t a b) = some false) → pureRun E.P (Op.equal t a b) = some false := fun a b q => q 9999
  refine ⟨fun op => by cases op <;> rfl, he _ _ fun D => ?_, fun op => by cases op <;> rfl, he _ _ fun D => ?_⟩
  · simp only [Op.equalIn, pureRun_bind, hu, Option.bind_some]
    rfl
  · simp only [Op.equalIn, pureRun_bind, hu, Option.bind_some]
    rfl
theorem sPure_eql {t u : TypeId} {x y : Operand} {a b : Value} {r : Bool} (ha : evalO T x = some a) (hb : evalO T y = some b)
    (h1 : plain a = true → plain b = true → (∀ op, pureRun E.P (eqGuard op t x y a b) = some ()) ∧ pureRun E.P (binOp .eql t a b) = some (.bool r) ∧ pureRun E.P (binOp .neq t a b) = some (.bool (!r)))
    (h2 : (plain a && plain b) = false → eqV E S t a b = some r) :
    sPure E T S ⟨dst, .binOp .eql t x y u, ty, pos, after, guard⟩ = some (.bool r) ∧ sPure E T S ⟨dst, .binOp .neq t x y u, ty, pos, after, guard⟩ = some (.bool (!r)) := by
  cases hp : (plain a && plain b) with
  | false =>
    have := h2 hp
    simp only [sPure, ha, hb, hp, cond_false, this]
    exact ⟨trivial, trivial⟩
  | true =>
    rw [Bool.and_eq_true] at hp
    obtain ⟨g1, g2, g3⟩ := h1 hp.1 hp.2
    rw [sPure_bin ha hb hp.1 hp.2, sPure_bin ha hb hp.1 hp.2]
    exact ⟨gen_bin ha hb hp.1 hp.2 (g1 _) ⟨g2, rfl⟩, gen_bin ha hb hp.1 hp.2 (g1 _) ⟨g3, rfl⟩⟩
theorem eq_bins {t : TypeId} {a b : Value} {r : Bool} (h : pureRun P (Op.equal t a b) = some r) (e1 : binOp .eql t a b = do pure (.bool (← Op.equal t a b))) (e2 : binOp .neq t a b = do pure (.bool (!(← Op.equal t a b)))) :
    pureRun P (binOp .eql t a b) = some (.bool r) ∧ pureRun P (binOp .neq t a b) = some (.bool (!r)) := by
  rw [e1, e2]
  simp only [pureRun_bind, h, Option.bind_some, pureRun_pure]
  exact ⟨trivial, trivial⟩
theorem eqN_ok (hT : TOk E) {t u : TypeId} {x y : Operand} {a b : Value} {r : Bool} (ha : evalO T x = some a) (hb : evalO T y = some b) (h : eqN E t x y a b = some r) :
    sPure E T S ⟨dst, .binOp .eql t x y u, ty, pos, after, guard⟩ = some (.bool r) ∧ sPure E T S ⟨dst, .binOp .neq t x y u, ty, pos, after, guard⟩ = some (.bool (!r)) := by
  obtain ⟨p, h1, h2⟩ := ob_some h
  obtain ⟨q, h3, h4⟩ := ob_some h2
  obtain ⟨h5, h6⟩ := bq_some h4
  obtain ⟨h7, h8⟩ := bq_some h6
  rw [nbeq, decide_eq_true_eq] at h5
  have n1 := nilK_some h1
  have n2 := nilK_some h3
  obtain ⟨k, i⟩ := p
  obtain ⟨k', j⟩ := q
  simp only at h5 h7 h8 n1 n2
  subst h5
  have both : ∀ {d : TD} {ti : TI}, E.tt.get t = some ti → ((∃ e, ti.desc = .pointer e ∧ a = .pointer none ∧ b = .pointer none) ∨ (∃ e l c l' c', ti.desc = .slice e ∧ a = .slice none l c ∧ b = .slice none l' c') ∨ (∃ k e, ti.desc = .map k e ∧ a = .map none ∧ b = .map none) ∨
      (ti.desc = .iface ∧ a = .nilIface ∧ b = .nilIface ∧ (isC x = true ∨ isC y = true)) ∨ (ti.desc = .func ∧ a = .nilFunc ∧ b = .nilFunc)) → (plain a && plain b) = true → r = true →
      binOp .eql t a b = (do pure (.bool (← Op.equal t a b))) → binOp .neq t a b = (do pure (.bool (!(← Op.equal t a b)))) →
      sPure E T S ⟨dst, .binOp .eql t x y u, ty, pos, after, guard⟩ = some (.bool r) ∧ sPure E T S ⟨dst, .binOp .neq t x y u, ty, pos, after, guard⟩ = some (.bool (!r)) := by
    intro d ti ht hc hp hr e1 e2
    subst hr
    obtain ⟨g1, g2⟩ := nil_run hT ht hc
    have g3 := eq_bins g2 e1 e2
    exact sPure_eql ha hb (fun _ _ => ⟨g1, g3⟩) (fun q => by rw [hp] at q; cases q)
  cases n1 with
  | ptr a =>
    cases n2 with
    | ptr b =>
      obtain ⟨ti, ht, hd⟩ := tyK_some h7 (by omega)
      obtain ⟨e, hd⟩ := tdK_ptr hd
      cases a with
      | none =>
        cases b with
        | none => exact both (d := .other) ht (Or.inl ⟨e, hd, rfl, rfl⟩) rfl (by cases h8; rfl) rfl rfl
        | some b =>
          cases h8
          exact sPure_eql ha hb (fun _ q => by cases q) (fun _ => by unfold eqV; rw [ht]; simp only [hd]; rfl)
      | some a =>
        cases b with
        | none =>
          cases h8
          exact sPure_eql ha hb (fun q _ => by cases q) (fun _ => by unfold eqV; rw [ht]; simp only [hd])
        | some b => cases h8
  | slice a l c =>
    cases n2 with
    | slice b l' c' =>
      obtain ⟨ti, ht, hd⟩ := tyK_some h7 (by omega)
      obtain ⟨e, hd⟩ := tdK_slice hd
      cases a with
      | none =>
        cases b with
        | none => exact both (d := .other) ht (Or.inr (Or.inl ⟨e, l, c, l', c', hd, rfl, rfl⟩)) rfl (by cases h8; rfl) rfl rfl
        | some b =>
          cases h8
          exact sPure_eql ha hb (fun _ q => by cases q) (fun _ => by unfold eqV; rw [ht]; simp only [hd]; rfl)
      | some a =>
        cases b with
        | none =>
          cases h8
          exact sPure_eql ha hb (fun q _ => by cases q) (fun _ => by unfold eqV; rw [ht]; simp only [hd])
        | some b => cases h8
  | map a =>
    cases n2 with
    | map b =>
      obtain ⟨ti, ht, hd⟩ := tyK_some h7 (by omega)
      obtain ⟨k, e, hd⟩ := tdK_map hd
      cases a with
      | none =>
        cases b with
        | none => exact both (d := .other) ht (Or.inr (Or.inr (Or.inl ⟨k, e, hd, rfl, rfl⟩))) rfl (by cases h8; rfl) rfl rfl
        | some b =>
          cases h8
          exact sPure_eql ha hb (fun _ q => by cases q) (fun _ => by unfold eqV; rw [ht]; simp only [hd]; rfl)
      | some a =>
        cases b with
        | none =>
          cases h8
          exact sPure_eql ha hb (fun q _ => by cases q) (fun _ => by unfold eqV; rw [ht]; simp only [hd])
        | some b => cases h8
  | iface t1 w =>
    cases n2 with
    | iface t2 w2 => cases h8
    | nilIface =>
      obtain ⟨ti, ht, hd⟩ := tyK_some h7 (by omega)
      have hd := tdK_iface hd
      cases h8
      have hr := iface_run (x := x) (y := y) (u := t1) (w := w) hT ht hd
      exact sPure_eql ha hb (fun _ _ => ⟨hr.2.2.1, eq_bins hr.2.2.2 rfl rfl⟩) (fun _ => by unfold eqV; rw [ht]; simp only [hd])
  | nilIface =>
    obtain ⟨ti, ht, hd⟩ := tyK_some h7 (by omega)
    have hd := tdK_iface hd
    cases n2 with
    | iface t2 w2 =>
      cases h8
      have hr := iface_run (x := x) (y := y) (u := t2) (w := w2) hT ht hd
      exact sPure_eql ha hb (fun _ _ => ⟨hr.1, eq_bins hr.2.1 rfl rfl⟩) (fun _ => by unfold eqV; rw [ht]; simp only [hd])
    | nilIface =>
      have hc : (isC x = true ∨ isC y = true) ∧ r = true := by
        cases hx : isC x with
        | true => rw [hx] at h8; cases h8; exact ⟨Or.inl rfl, rfl⟩
        | false =>
          rw [hx] at h8
          cases hy : isC y with
          | true => rw [hy] at h8; cases h8; exact ⟨Or.inr rfl, rfl⟩
          | false => rw [hy] at h8; cases h8
      exact both (d := .other) ht (Or.inr (Or.inr (Or.inr (Or.inl ⟨hd, rfl, rfl, hc.1⟩)))) rfl hc.2 rfl rfl
  | func f a1 b1 =>
    cases n2 with
    | func f2 a2 b2 => cases h8
    | nilFunc =>
      obtain ⟨ti, ht, hd⟩ := tyK_some h7 (by omega)
      have hd := tdK_func hd
      cases h8
      exact sPure_eql ha hb (fun q _ => by cases q) (fun _ => by unfold eqV; rw [ht]; simp only [hd])
  | nilFunc =>
    obtain ⟨ti, ht, hd⟩ := tyK_some h7 (by omega)
    have hd := tdK_func hd
    cases n2 with
    | func f2 a2 b2 =>
      cases h8
      exact sPure_eql ha hb (fun _ q => by cases q) (fun _ => by unfold eqV; rw [ht]; simp only [hd])
    | nilFunc => exact both (d := .other) ht (Or.inr (Or.inr (Or.inr (Or.inr ⟨hd, rfl, rfl⟩)))) rfl (by cases h8; rfl) rfl rfl
theorem f_eq (hT : TOk E) {op : BinOp} {t u : TypeId} {x y : Operand} {a : Value} (ha : evalO T x = some a) (h : fEq op t x y a E T = some v) : sPure E T S ⟨dst, .binOp op t x y u, ty, pos, after, guard⟩ = some v := by
  obtain ⟨b, h1, h2⟩ := ob_some h
  rw [xv_eq] at h1
  cases op with
  | eql =>
    obtain ⟨r, h3, h4⟩ := ob_some h2
    cases h4
    exact (eqN_ok hT ha h1 h3).1
  | neq =>
    obtain ⟨r, h3, h4⟩ := ob_some h2
    cases h4
    rw [notX_eq]
    exact (eqN_ok hT ha h1 h3).2
  | _ => cases h2
theorem f_bin (hT : TOk E) {op : BinOp} {t u : TypeId} {x y : Operand} (h : fBin op t x y u E T S = some v) : sPure E T S ⟨dst, .binOp op t x y u, ty, pos, after, guard⟩ = some v := by
  obtain ⟨a, h1, h2⟩ := ob_some h
  rw [xv_eq] at h1
  cases a with
  | int k m => exact f_bin_int h1 h2
  | string s => exact f_bin_str (s := s.data.toList) h1 h2
  | pointer a => exact f_eq hT h1 h2
  | slice a l c => exact f_eq hT h1 h2
  | map a => exact f_eq hT h1 h2
  | func f a b => exact f_eq hT h1 h2
  | nilFunc => exact f_eq hT h1 h2
  | iface t w => exact f_eq hT h1 h2
  | nilIface => exact f_eq hT h1 h2
  | _ => cases h2
end
end Go.Proofs.YtejebgdikoehmaaGreatDoor
/- The symbolic executor in haste is the executor: operations that read. -/
namespace Go.Proofs.YtejebgdikoehmaaGreatDoor
open Go
set_option linter.unusedVariables false
set_option linter.unusedSimpArgs false
theorem ba_extract (s : List UInt8) (l h : Nat) : (⟨⟨(s.drop l).take (h - l)⟩⟩ : ByteArray) = (⟨⟨s⟩⟩ : ByteArray).extract l h := by
  apply ByteArray.ext
  rw [ByteArray.data_extract]
  apply Array.ext'
  simp [List.extract_eq_take_drop]
theorem ba_get (s : List UInt8) (n : Nat) : (⟨⟨s⟩⟩ : ByteArray)[n]? = s[n]? := by
  by_cases h : n < s.length
  · rw [List.getElem?_eq_getElem h]
    have hs : n < (⟨⟨s⟩⟩ : ByteArray).size := h
    rw [getElem?_def, dif_pos hs]
    rfl
  · rw [List.getElem?_eq_none (by omega), getElem?_def, dif_neg (show ¬ n < (⟨⟨s⟩⟩ : ByteArray).size from h)]
theorem maxX_eq (a b : Nat) : maxX a b = max a b := by
  unfold maxX
  cases h : Nat.ble a b with
  | true => rw [nble, decide_eq_true_eq] at h; show b = _; exact (Nat.max_eq_right h).symm
  | false => rw [nble, decide_eq_false_iff_not] at h; show a = _; exact (Nat.max_eq_left (by omega)).symm
section
variable {E : Env} {T : Sts} {S S' : St} {v : Value} {dst : Option Tmp} {ty : TypeId} {pos : String} {after : Array Edge} {guard : Option (Nat × Bool)} {P : Program} {o : Oper}
theorem gen_of {vs : List Value} (he : evalL T o.op.operands.toList = some vs) (hp : vs.all plain = true) (hr : pureRun E.P (execOp (fun x => (evalO T x).getD undefV) o) = some (.value v)) (hv : plain v = true) : gen E T o = some v := by
  unfold gen
  simp only [he, hp, cond_true, hr, hv]
theorem pureRun_und {t : TypeId} {ti : TI} {inf : TypeInfo} {d : TypeDesc} (h : TOk1 E.P t ti inf d) : pureRun E.P (underlying t) = some d := by
  unfold Go.underlying
  simp only [pureRun_bind, pureRun_program, Option.bind_some, h.und]
  rfl
theorem f_un {op : UnOp} {t : TypeId} {x : Operand} (h : fUn op t x E T S = some v) : sPure E T S ⟨dst, .unOp op t x, ty, pos, after, guard⟩ = some v := by
  obtain ⟨a, h1, h2⟩ := ob_some h
  obtain ⟨b, h3, h4⟩ := ob_some h2
  rw [xv_eq] at h1
  have := vB_some h3
  subst this
  cases op <;> try (cases h4; done)
  cases h4
  show gen E T _ = _
  refine gen_of (vs := [.bool b]) (by simp only [Op.operands, evalL, h1]) rfl ?_ rfl
  simp only [execOp, h1, Option.getD_some, Op.unary, notX_eq]
  rfl
theorem intX_some {t : TypeId} {k : IntKind} (h : intX E t = some k) : ∃ a b c, E.tt.get t = some ⟨.int k, a, b, c⟩ := by
  unfold intX at h
  split at h
  · rename_i k' a b c ht
    cases h
    exact ⟨a, b, c, ht⟩
  · cases h
theorem isIntX_some {t : TypeId} (h : isIntX E t = true) : ∃ k a b c, E.tt.get t = some ⟨.int k, a, b, c⟩ := by
  unfold isIntX at h
  split at h
  · rename_i k a b c ht
    exact ⟨k, a, b, c, ht⟩
  · cases h
theorem strX_some {t : TypeId} (h : strX E t = true) : ∃ a b c, E.tt.get t = some ⟨.string, a, b, c⟩ := by
  unfold strX at h
  split at h
  · rename_i a b c ht
    exact ⟨a, b, c, ht⟩
  · cases h
theorem int_und (hT : TOk E) {t : TypeId} {k : IntKind} {a : Nat} {b : List Value} {c : Nat} (h : E.tt.get t = some ⟨.int k, a, b, c⟩) : pureRun E.P (underlying t) = some (.int k) := by
  obtain ⟨inf, d, hk⟩ := hT _ _ h
  have e := hk.desc
  cases d <;> simp only [TD.of] at e <;> cases e
  exact pureRun_und hk
theorem str_und (hT : TOk E) {t : TypeId} {a : Nat} {b : List Value} {c : Nat} (h : E.tt.get t = some ⟨.string, a, b, c⟩) : pureRun E.P (underlying t) = some .string := by
  obtain ⟨inf, d, hk⟩ := hT _ _ h
  have e := hk.desc
  cases d <;> simp only [TD.of] at e <;> cases e
  exact pureRun_und hk
theorem f_conv (hT : TOk E) {s d : TypeId} {x : Operand} (h : fConv s d x E T S = some v) : sPure E T S ⟨dst, .convert s d x, ty, pos, after, guard⟩ = some v := by
  obtain ⟨a, h1, h2⟩ := ob_some h
  obtain ⟨n, h3, h4⟩ := ob_some h2
  obtain ⟨h5, h6⟩ := bq_some h4
  obtain ⟨k, h7, h8⟩ := ob_some h6
  obtain ⟨h9, h10⟩ := bq_some h8
  rw [xv_eq] at h1
  rw [nblt, decide_eq_true_eq] at h9
  obtain ⟨k0, rfl⟩ := vN_some h3
  cases h10
  obtain ⟨ks, a1, a2, a3, e1⟩ := isIntX_some h5
  obtain ⟨b1, b2, b3, e2⟩ := intX_some h7
  have : sPure E T S ⟨dst, .convert s d x, ty, pos, after, guard⟩ = gen E T ⟨dst, .convert s d x, ty, pos, after, guard⟩ := by simp only [sPure, h1]
  rw [this]
  refine gen_of (vs := [.int k0 n]) (by simp only [Op.operands, evalL, h1]) rfl ?_ rfl
  simp only [execOp, h1, Option.getD_some, convert, pureRun_bind, int_und hT e1, int_und hT e2, Option.bind_some]
  have hw := wrap_id k h9
  show some (Next.value (.int k (k.wrap n))) = _
  rw [hw]
  rfl
theorem optN_none {d n : Nat} (h : optN T d none = some n) : n = d := by cases h; rfl
theorem optN_some {d n : Nat} {x : Operand} (h : optN T d (some x) = some n) : ∃ k, evalO T x = some (.int k n) := by
  obtain ⟨v, h1, h2⟩ := ob_some (show ob (xv T x) vN = some n from h)
  rw [xv_eq] at h1
  obtain ⟨k, rfl⟩ := vN_some h2
  exact ⟨k, h1⟩
theorem run_bnd {k : IntKind} {n y : Nat} {c : BoundsCode} (h : n ≤ y) : pureRun P (Instr.sliceBound (.int k n) y c) = some n := by
  have hc : (0 : Int) ≤ n ∧ (n : Int) ≤ y := by omega
  simp only [Instr.sliceBound, asIntOf, pureRun_bind, pureRun_pure, Option.bind_some, hc, and_self, if_true, Int.toNat_natCast]
theorem f_slice (hT : TOk E) {t : TypeId} {x : Operand} {lo hi mx : Option Operand} (h : fSlice t x lo hi mx E T S = some v) : sPure E T S ⟨dst, .slice t x lo hi mx, ty, pos, after, guard⟩ = some v := by
  obtain ⟨u, h1, h2⟩ := ob_some h
  obtain ⟨s, h3, h4⟩ := ob_some h2
  obtain ⟨h5, h6⟩ := bq_some h4
  obtain ⟨h7, h8⟩ := bq_some h6
  obtain ⟨l, h9, h10⟩ := ob_some h8
  obtain ⟨hh, h11, h12⟩ := ob_some h10
  obtain ⟨h13, h14⟩ := bq_some h12
  obtain ⟨r, h15, h16⟩ := ob_some h14
  cases h16
  rw [xv_eq] at h1
  have := vS_some h3
  subst this
  have := isN_true h5
  subst this
  rw [nble, decide_eq_true_eq] at h13
  obtain ⟨g1, g2⟩ := takeAt_some h15
  have g1 : l + (hh - l) ≤ s.length := g1
  have g2 : r = (s.drop l).take (hh - l) := g2
  have hle : hh ≤ s.length := by rw [Nat.add_sub_cancel' h13] at g1; exact g1
  obtain ⟨b1, b2, b3, e⟩ := strX_some h7
  have hs : sPure E T S ⟨dst, .slice t x lo hi none, ty, pos, after, guard⟩ = gen E T ⟨dst, .slice t x lo hi none, ty, pos, after, guard⟩ := by simp only [sPure, h1]
  rw [hs, g2, ba_extract]
  have hsz : (⟨⟨s⟩⟩ : ByteArray).size = s.length := rfl
  rw [lenX_eq] at h11
  have hrun : ∀ (a b : Option Value), (match a with | none => l = 0 | some w => ∃ k, w = .int k (l : Int)) → (match b with | none => hh = s.length | some w => ∃ k, w = .int k (hh : Int)) →
      pureRun E.P (Instr.sliceAt t (.string ⟨⟨s⟩⟩) a b none) = some (.string ((⟨⟨s⟩⟩ : ByteArray).extract l hh)) := by
    intro a b qa qb
    have hb : pureRun E.P (Instr.sliceBounds false s.length s.length a b none) = some (l, hh, s.length) := by
      have e1 : pureRun E.P (match b with | some v => Instr.sliceBound v s.length .sliceAlen | none => pure s.length : Sem Nat) = some hh := by
        cases b with
        | none => simp only at qb; subst qb; rfl
        | some w => obtain ⟨k, rfl⟩ := qb; exact run_bnd hle
      have e2 : pureRun E.P (match a with | some v => Instr.sliceBound v hh .sliceB | none => pure 0 : Sem Nat) = some l := by
        cases a with
        | none => simp only at qa; subst qa; rfl
        | some w => obtain ⟨k, rfl⟩ := qa; exact run_bnd h13
      unfold Instr.sliceBounds
      cases a <;> cases b <;> (try dsimp only at e1 e2) <;> simp only [pureRun_bind, e1, e2, pureRun_pure, Option.bind_some, Option.isSome, Bool.false_eq_true, if_false] <;> (dsimp only at qb; rw [qb])
    simp only [Instr.sliceAt, pureRun_bind, str_und hT e, Option.bind_some, Instr.slice, hsz, hb, Option.isSome, Bool.false_eq_true, if_false]
    rfl
  cases lo with
  | none =>
    have ql := optN_none h9
    cases hi with
    | none =>
      have qh := optN_none h11
      refine gen_of (vs := [.string ⟨⟨s⟩⟩]) (by simp [Op.operands, evalL, h1]) rfl ?_ rfl
      simp only [execOp, h1, Option.getD_some, Option.map_none, pureRun_bind, hrun none none ql qh, Option.bind_some]
      rfl
    | some y =>
      obtain ⟨k, qh⟩ := optN_some h11
      refine gen_of (vs := [.string ⟨⟨s⟩⟩, .int k hh]) (by simp [Op.operands, evalL, h1, qh]) rfl ?_ rfl
      simp only [execOp, h1, qh, Option.getD_some, Option.map_none, Option.map_some, pureRun_bind, hrun none (some (.int k hh)) ql ⟨k, rfl⟩, Option.bind_some]
      rfl
  | some z =>
    obtain ⟨k', ql⟩ := optN_some h9
    cases hi with
    | none =>
      have qh := optN_none h11
      refine gen_of (vs := [.string ⟨⟨s⟩⟩, .int k' l]) (by simp [Op.operands, evalL, h1, ql]) rfl ?_ rfl
      simp only [execOp, h1, ql, Option.getD_some, Option.map_none, Option.map_some, pureRun_bind, hrun (some (.int k' l)) none ⟨k', rfl⟩ qh, Option.bind_some]
      rfl
    | some y =>
      obtain ⟨k, qh⟩ := optN_some h11
      refine gen_of (vs := [.string ⟨⟨s⟩⟩, .int k' l, .int k hh]) (by simp [Op.operands, evalL, h1, qh, ql]) rfl ?_ rfl
      simp only [execOp, h1, qh, ql, Option.getD_some, Option.map_none, Option.map_some, pureRun_bind, hrun (some (.int k' l)) (some (.int k hh)) ⟨k', rfl⟩ ⟨k, rfl⟩, Option.bind_some]
      rfl
theorem f_index (hT : TOk E) {t : TypeId} {x ix : Operand} (h : fIndex t x ix E T S = some v) : sPure E T S ⟨dst, .index t x ix, ty, pos, after, guard⟩ = some v := by
  obtain ⟨u, h1, h2⟩ := ob_some h
  obtain ⟨s, h3, h4⟩ := ob_some h2
  obtain ⟨h5, h6⟩ := bq_some h4
  obtain ⟨i, h7, h8⟩ := ob_some h6
  obtain ⟨n, h9, h10⟩ := ob_some h8
  obtain ⟨b, h11, h12⟩ := ob_some h10
  cases h12
  rw [xv_eq] at h1 h7
  rw [nth_eq] at h11
  have := vS_some h3
  subst this
  obtain ⟨k, rfl⟩ := vN_some h9
  obtain ⟨b1, b2, b3, e⟩ := strX_some h5
  have hs : sPure E T S ⟨dst, .index t x ix, ty, pos, after, guard⟩ = gen E T ⟨dst, .index t x ix, ty, pos, after, guard⟩ := by simp only [sPure, h1, h7]
  rw [hs]
  refine gen_of (vs := [.string ⟨⟨s⟩⟩, .int k n]) (by simp [Op.operands, evalL, h1, h7]) rfl ?_ rfl
  have hn : (0 : Int) ≤ n := by omega
  simp only [execOp, h1, h7, Option.getD_some, Instr.index, asIntOf, pureRun_bind, pureRun_pure, Option.bind_some, str_und hT e, hn, if_true, Int.toNat_natCast, ba_get, h11]
  rfl
theorem mm_run {b : Builtin} {f : Nat → Nat → Nat} {c : Call} {x y : Operand} (hb : (b = .max ∧ f = maxX) ∨ (b = .min ∧ f = minX)) (hc : c.callee = .builtin b) (ha : c.args.toList = [x, y]) (h : mmX f x y T = some v) :
    sPure E T S ⟨dst, .call c, ty, pos, after, guard⟩ = some v := by
  obtain ⟨u, h1, h2⟩ := ob_some h
  obtain ⟨⟨k, m⟩, h3, h4⟩ := ob_some h2
  obtain ⟨w, h5, h6⟩ := ob_some h4
  obtain ⟨⟨k', n⟩, h7, h8⟩ := ob_some h6
  obtain ⟨h9, h10⟩ := bq_some h8
  rw [xv_eq] at h1 h5
  have := vKI_some h3
  subst this
  have := vKI_some h7
  subst this
  have := kEq_true h9
  subst this
  obtain ⟨m', n', rfl, rfl, h11⟩ := i2_some h10
  cases h11
  have hev : evalL T c.args.toList = some [.int k' m', .int k' n'] := by rw [ha]; simp only [evalL, h1, h5]
  have hs : sPure E T S ⟨dst, .call c, ty, pos, after, guard⟩ = gen E T ⟨dst, .call c, ty, pos, after, guard⟩ := by
    rcases hb with ⟨rfl, _⟩ | ⟨rfl, _⟩ <;> simp only [sPure, hc, hev]
  rw [hs]
  refine gen_of (vs := [.int k' m', .int k' n']) ?_ rfl ?_ rfl
  · have : (Op.call c).operands.toList = c.args.toList := by simp [Op.operands, Call.operands, hc]
    rw [this]; exact hev
  · have hmap : c.args.map (fun x => (evalO T x).getD undefV) = #[.int k' m', .int k' n'] := by
      apply Array.ext'
      rw [Array.toList_map, ha]
      simp [h1, h5]
    rcases hb with ⟨rfl, rfl⟩ | ⟨rfl, rfl⟩
    · simp only [execOp, resolve, hc, hmap, pureRun_bind, pureRun_pure, Option.bind_some, invoke, builtin, Builtin.max_, List.foldlM_cons, List.foldlM_nil, Builtin.max2]
      rw [maxX_eq]
      congr 3
      show (if (n' : Int) > m' then (n' : Int) else m') = ((max m' n' : Nat) : Int)
      omega
    · simp only [execOp, resolve, hc, hmap, pureRun_bind, pureRun_pure, Option.bind_some, invoke, builtin, Builtin.min_, List.foldlM_cons, List.foldlM_nil, Builtin.min2]
      rw [minX_eq]
      congr 3
      show (if (n' : Int) < m' then (n' : Int) else m') = ((min m' n' : Nat) : Int)
      omega
theorem f_bi {b : Builtin} {c : Call} (hc : c.callee = .builtin b) (h : fBi b c.args.toList c.argTypes.toList E T S = some v) : sPure E T S ⟨dst, .call c, ty, pos, after, guard⟩ = some v := by
  generalize ha : c.args.toList = l at h
  cases l with
  | nil => cases h
  | cons x r =>
    cases r with
    | nil =>
      cases b <;> try (cases h; done)
      obtain ⟨t, h1, h2⟩ := ob_some (show ob (nth c.argTypes.toList 0) _ = some v from h)
      rw [nth_eq] at h1
      exact f_len hc ha h1 h2
    | cons y r =>
      obtain ⟨h1, h2⟩ := bq_some (show bq (Nat.beq (lenX r) 0) _ none = some v from h)
      rw [nbeq, decide_eq_true_eq, lenX_eq] at h1
      have := List.eq_nil_of_length_eq_zero h1
      subst this
      cases b <;> try (cases h2; done)
      · exact mm_run (Or.inl ⟨rfl, rfl⟩) hc ha h2
      · exact mm_run (Or.inr ⟨rfl, rfl⟩) hc ha h2
theorem fast_some (hT : TOk E) (h : fast o.op E T S = some v) : sPure E T S o = some v := by
  obtain ⟨dst, op, ty, pos, after, guard⟩ := o
  cases op with
  | move x => exact (xv_eq T x).symm.trans h
  | assign x => exact (xv_eq T x).symm.trans h
  | pick c a b => exact f_pick h
  | build t ps => exact f_build h
  | load t x => exact f_load h
  | nilCheck x => exact f_nil h
  | binOp op t x y u => exact f_bin hT h
  | unOp op t x => exact f_un h
  | convert s d x => exact f_conv hT h
  | slice t x lo hi mx => exact f_slice hT h
  | fieldAddr t x f => exact f_fieldAddr h
  | field t x f => exact f_field h
  | indexAddr t x ix => exact f_indexAddr h
  | index t x ix => exact f_index hT h
  | extract x i => exact f_extract h
  | call c =>
    have h : fPCall c E T S = some v := h
    unfold fPCall at h
    generalize hc : c.callee = k at h
    cases k with
    | builtin b => exact f_bi hc h
    | _ => cases h
  | _ => cases h
theorem oe_some {α : Type} {x y : Option α} {r : α} (h : oe x y = some r) : x = some r ∨ y = some r := by
  cases x with
  | none => exact Or.inr h
  | some a => exact Or.inl h
theorem xPure_some (hT : TOk E) (h : xPure E T S o = some v) : sPure E T S o = some v := (oe_some h).elim (fast_some hT) id
end
end Go.Proofs.YtejebgdikoehmaaGreatDoor
/- The symbolic executor in haste is the executor: an operation, operations in order. -/
namespace Go.Proofs.YtejebgdikoehmaaGreatDoor
open Go
set_option linter.unusedVariables false
set_option linter.unusedSimpArgs false
theorem fill_mono {place place' : Nat → Option (Nat × Nat)} (hp : ∀ i p, place i = some p → place' i = some p) : ∀ {ps : List (Nat × Value)} {z r : Array Value}, Instr.fill place z ps = some r → Instr.fill place' z ps = some r
  | [], z, r, h => h
  | (i, v) :: ps, z, r, h => by
    simp only [Instr.fill] at h ⊢
    cases hi : place i with
    | none => rw [hi] at h; cases h
    | some p =>
      rw [hi] at h
      rw [hp i p hi]
      simp only at h ⊢
      split at h
      · cases h
      · rename_i hc
        rw [if_neg hc]
        exact fill_mono hp h
theorem evL_eq (T : Sts) : ∀ l : List Operand, evL T l = evalL T l
  | [] => rfl
  | x :: l => by
    show ob (xv T x) (fun v => ob (evL T l) fun r => some (v :: r)) = _
    rw [xv_eq, evL_eq T l]
    simp only [evalL]
    cases evalO T x <;> cases evalL T l <;> rfl
theorem isFn_some {v : Value} {g : FuncId × List Value × List Value} (h : isFn v = some g) : v = .func (.func g.1) ⟨g.2.1⟩ ⟨g.2.2⟩ := by
  cases v with
  | func f a b =>
    cases f <;> cases h
    rfl
  | _ => cases h
section
variable {E : Env} {callF : CallF} {T T' : Sts} {S S' : St} {v : Value} {o : Oper} {r : Value × St}
theorem xEff_some (h : xEff E callF T o S = some r) : sEff E callF T o S = some r := by
  rcases oe_some h with h | h
  · obtain ⟨dst, op, ty, pos, after, guard⟩ := o
    cases op with
    | store t a x =>
      obtain ⟨S1, h1, h2⟩ := ob_some (show ob (fStore t a x E T S) _ = some r from h)
      cases h2
      obtain ⟨ad, u, g1, g2, g3⟩ := storeV_of h1
      simp only [sEff, g1, g2, g3]
    | call c =>
      have h : fECall c callF T S = some r := h
      unfold fECall at h
      generalize hc : c.callee = k at h
      cases k with
      | value f =>
        obtain ⟨fv, h1, h2⟩ := ob_some (show ob (xv T f) _ = some r from h)
        obtain ⟨g, h3, h4⟩ := ob_some h2
        obtain ⟨args, h5, h6⟩ := ob_some h4
        rw [xv_eq] at h1
        rw [evL_eq] at h5
        have := isFn_some h3
        subst this
        rw [appX_eq, appX_eq, ← List.append_assoc] at h6
        simp only [sEff, h5, hc, h1, callVal]
        exact h6
      | _ => cases h
    | _ => cases h
  · exact h
theorem xAlloc_some {p : (Nat → Value) × SObj} (h : xAlloc E T o = some p) : sAlloc E T o = some p := by
  rcases oe_some h with h | h
  · obtain ⟨dst, op, ty, pos, after, guard⟩ := o
    cases op with
    | alloc t =>
      obtain ⟨z, h1, h2⟩ := ob_some (show ob (zeroX E t) _ = some p from h)
      cases h2
      unfold zeroX at h1
      split at h1
      · rename_i ti ht
        cases h1
        simp only [sAlloc, ht]
      · cases h1
    | box t x =>
      obtain ⟨u, h1, h2⟩ := ob_some (show ob (xv T x) _ = some p from h)
      cases h2
      rw [xv_eq] at h1
      simp only [sAlloc, h1, cellsOfX_eq]
    | buildSlice t n ps =>
      obtain ⟨h1, h2⟩ := bq_some (show bq (Nat.beq n 1) _ none = some p from h)
      obtain ⟨q, h3, h4⟩ := ob_some h2
      obtain ⟨l, h5, h6⟩ := ob_some h4
      obtain ⟨h7, h8⟩ := bq_some h6
      rw [nbeq, decide_eq_true_eq] at h1
      rw [nble, decide_eq_true_eq] at h7
      subst h1
      cases h8
      obtain ⟨vs, g1, g2⟩ := fillX_some h5
      unfold slZX at h3
      split at h3
      · rename_i e a b c ht
        split at h3
        · rename_i ti hti
          cases h3
          have g3 : Instr.fill (fun i => some (i * ti.size, ti.size)) (repZero ti.zero 1).toArray vs = some l.toArray := by
            have e1 : repZero ti.zero 1 = ti.zero := by simp [repZero]
            rw [e1]
            refine fill_mono (fun i p hp => ?_) g2
            cases i with
            | zero => simp at hp; rw [← hp]; simp
            | succ i => simp at hp
          have hk : (Nat.ble (1 * ti.size) 16777216 && known 1) = true := by
            rw [Bool.and_eq_true]
            refine ⟨?_, rfl⟩
            rw [nble, decide_eq_true_eq]
            have h7 : ti.size ≤ 1000 := h7
            omega
          simp only [sAlloc, ht, g1, hti, hk, cond_true, g3]
        · cases h3
      · cases h3
    | _ => cases h
  · exact h
theorem kdX0_eq : kdX0 E o.op = kindO E o := by
  obtain ⟨dst, op, ty, pos, after, guard⟩ := o
  cases op with
  | convert s d x =>
    show slK E d = _
    simp only [kindO]
    unfold slK
    rfl
  | call c =>
    simp only [kindO]
    show (Callee.rec (motive := fun _ => Kd) (fun _ => .eff) (fun _ _ => .eff) biKd c.callee : Kd) = _
    generalize c.callee = k
    cases k with
    | builtin b => cases b <;> rfl
    | _ => rfl
  | _ => rfl
theorem xWanted_some {ops : List Oper} {b : Bool} (h : xWanted ops T o = some b) : wantedS ops T o = some b := by
  unfold xWanted at h
  unfold wantedS
  generalize o.guard = g at h
  cases g with
  | none => exact h
  | some p =>
    obtain ⟨q, h1, h2⟩ := ob_some (show ob (nth ops p.1) _ = some b from h)
    obtain ⟨d, h3, h4⟩ := ob_some h2
    obtain ⟨u, h5, h6⟩ := ob_some h4
    rw [nth_eq] at h1
    rw [sg_eq] at h5
    obtain ⟨j, want⟩ := p
    simp only at h1 h6 ⊢
    rw [h1]
    simp only [Option.bind_some, h3, h5]
    cases u with
    | bool b' =>
      cases h6
      rw [beqX_eq]
    | tuple l => cases h6; rfl
    | _ => cases h6
theorem xNew_some {ob : SObj} {q : Nat × St} (h : xNew S ob = some q) : sNew S ob = some q := by
  obtain ⟨h1, h2⟩ := bq_some h
  cases h2
  unfold sNew
  rw [h1, hp_eq]
  rfl
theorem xOp_some (hT : TOk E) (h : xOp E callF T o S = some r) : sOp E callF T o S = some r := by
  unfold xOp at h
  rw [kdX0_eq] at h
  unfold sOp
  cases hk : kindO E o with
  | pure =>
    rw [hk] at h
    obtain ⟨v, h1, h2⟩ := ob_some (show ob (xPure E T S o) _ = some r from h)
    cases h2
    simp only [xPure_some hT h1]
  | alloc =>
    rw [hk] at h
    obtain ⟨p, h1, h2⟩ := ob_some (show ob (xAlloc E T o) _ = some r from h)
    obtain ⟨q, h3, h4⟩ := ob_some h2
    cases h4
    simp only [xAlloc_some h1, xNew_some h3]
  | eff =>
    rw [hk] at h
    exact xEff_some (show xEff E callF T o S = some r from h)
theorem dk_eq {α : Type} (T : Sts) (d : Option Tmp) (v : Value) (k : Sts → α) : dk T d v k = k (putT T d v) := by cases d <;> rfl
theorem xOps_some (hT : TOk E) {ops : List Oper} : ∀ {l : List Oper} {T : Sts} {S : St} {q : Sts × St}, xOps E callF ops l T S = some q → sOps E callF ops l T S = some q
  | [], T, S, q, h => by cases h; rfl
  | o :: l, T, S, q, h => by
    obtain ⟨b, h1, h2⟩ := ob_some (show ob (xWanted ops T o) _ = some q from h)
    have h1 := xWanted_some h1
    simp only [sOps, h1]
    cases b with
    | true =>
      obtain ⟨p, h3, h4⟩ := ob_some (show ob (xOp E callF T o S) _ = some q from h2)
      rw [dk_eq] at h4
      simp only [xOp_some hT h3]
      exact xOps_some hT h4
    | false =>
      have h2 : dk T o.dst undefV (fun T' => xOps E callF ops l T' S) = some q := h2
      rw [dk_eq] at h2
      exact xOps_some hT h2
end
end Go.Proofs.YtejebgdikoehmaaGreatDoor
/- The symbolic executor in haste is the executor: regions whose order is drawn. -/
namespace Go.Proofs.YtejebgdikoehmaaGreatDoor
open Go
set_option linter.unusedVariables false
set_option linter.unusedSimpArgs false
theorem bindX_eq (e : Edge) : bindX e = Region.binds .any e := by
  obtain ⟨on, g⟩ := e
  cases g <;> rfl
theorem nthN_eq : ∀ (l : List Nat) (i : Nat), nthN l i = l.getD i 0
  | [], i => rfl
  | v :: l, 0 => rfl
  | v :: l, i + 1 => by
    show nthN l i = _
    rw [nthN_eq l i]; rfl
theorem maskX_eq (acc : List Nat) : ∀ l : List Edge, maskX acc l = maskOf acc l
  | [] => rfl
  | e :: l => by
    show (Bool.rec (motive := fun _ => Nat) (maskX acc l) (Nat.lor (Nat.lor (maskX acc l) (Nat.pow 2 e.on)) (nthN acc e.on)) (bindX e) : Nat) = _
    rw [maskX_eq acc l, bindX_eq, nthN_eq]
    simp only [maskOf]
    cases Region.binds .any e <;> rfl
theorem masksX_eq : ∀ (l : List Oper) (acc : List Nat), masksX l acc = masks l acc
  | [], acc => rfl
  | o :: l, acc => by
    show masksX l (snocX acc (maskX acc o.after.toList)) = _
    rw [masksX_eq l, snocX_eq, maskX_eq]
    rfl
/-- The blocks laid, of the records. -/
def alOf : List Rec → Nat → List (Nat × SObj)
  | [], _ => []
  | r :: rs, k => match r.ob with
    | some ob => (k, ob) :: alOf rs (k + 1)
    | none => alOf rs (k + 1)
theorem alOf_snoc (r : Rec) : ∀ (rs : List Rec) (k : Nat), alOf (rs ++ [r]) k = alOf rs k ++ (match r.ob with | some ob => [(k + rs.length, ob)] | none => [])
  | [], k => by
    cases h : r.ob <;> simp [alOf, h]
  | q :: rs, k => by
    simp only [List.cons_append, alOf, List.length_cons]
    have ih := alOf_snoc r rs (k + 1)
    rw [show k + 1 + rs.length = k + (rs.length + 1) from by omega] at ih
    cases q.ob with
    | none => exact ih
    | some ob => simp only [List.cons_append, ih]
theorem mergeX_eq (n0 bits U : Nat) : ∀ (rs : List Rec) (k : Nat) (h : Tr SObj), mergeX n0 bits U (alOf rs k) h = merge n0 bits U rs k h
  | [], k, h => rfl
  | r :: rs, k, h => by
    simp only [alOf, merge]
    cases r.ob with
    | none => exact mergeX_eq n0 bits U rs (k + 1) h
    | some ob =>
      show (Bool.rec (motive := fun _ => Tr SObj) (mergeX n0 bits U (alOf rs (k + 1)) h) (Bool.rec (motive := fun _ => Tr SObj) (mergeX n0 bits U (alOf rs (k + 1)) (hp 24 h (Nat.add n0 k) (some ob))) (mergeX n0 bits U (alOf rs (k + 1)) h) (Nat.testBit U k)) (Nat.testBit bits k) : Tr SObj) = _
      rw [mergeX_eq n0 bits U rs (k + 1), mergeX_eq n0 bits U rs (k + 1), hp_eq]
      cases Nat.testBit bits k <;> cases Nat.testBit U k <;> rfl
section
variable {E : Env} {callF : CallF} {ops : List Oper} {n0 : Nat}
/-- How the two runs stand to each other. -/
structure XR (d : DrawSt) (s : XSt) : Prop where
  T : s.T = d.T
  M : d.ms.getLast? = some s.M
  U : d.us.getLast? = some s.U
  al : s.al = alOf d.recs 0
  i : s.i = d.recs.length
  m1 : s.ms.map (·.1) = d.ms
  m2 : s.ms.map (·.2) = d.us
/-- What a record tells that a look at it wants. -/
def Looked (E : Env) (o : Oper) (mk : Nat) (fl : Option (Nat × Nat)) (r : Rec) (cs : List Chk) : Prop :=
  r.k = kindO E o ∧ (r.k = .pure → r.w = true → ∀ q, fl = some q → (⟨r.T, o, mk, q.1, q.2, r.v⟩ : Chk) ∈ cs)
theorem xRun_some (hT : TOk E) : ∀ {l : List Oper} {mks : List Nat} {fls : List (Option (Nat × Nat))} {s s' : XSt} {d : DrawSt}, xRun E callF ops n0 l mks fls s = some s' → XR d s →
    ∃ d' rs, drawRun E callF ops n0 l mks d = some d' ∧ XR d' s' ∧ d'.recs = d.recs ++ rs ∧ rs.length = l.length ∧ (∀ c, c ∈ s.cs → c ∈ s'.cs) ∧
      ∀ (j : Nat) (o : Oper) (mk : Nat) (fl : Option (Nat × Nat)) (r : Rec), l[j]? = some o → mks[j]? = some mk → fls[j]? = some fl → rs[j]? = some r → Looked E o mk fl r s'.cs
  | [], mks, fls, s, s', d, h, hR => by
    cases h
    exact ⟨d, [], by cases mks <;> rfl, hR, by simp, rfl, fun c hc => hc, fun j o mk fl r ho => by simp at ho⟩
  | o :: l, [], fls, s, s', d, h, hR => by cases h
  | o :: l, mk :: mks, [], s, s', d, h, hR => by cases h
  | o :: l, mk :: mks, fl :: fls, s, s', d, h, hR => by
    obtain ⟨w, hw, h⟩ := ob_some (show ob (xWanted ops s.T o) _ = some s' from h)
    have hw := xWanted_some hw
    rw [hR.T] at hw
    have hm : mergeX n0 mk s.U s.al s.M.h = merge n0 mk s.U d.recs 0 s.M.h := by rw [hR.al, mergeX_eq]
    -- one step, then the rest
    have fin : ∀ (r : Rec) (s1 : XSt) (d1 : DrawSt), drawStep E callF ops n0 mk o d = some d1 → d1.recs = d.recs ++ [r] → XR d1 s1 → (∀ c, c ∈ s.cs → c ∈ s1.cs) → Looked E o mk fl r s1.cs → xRun E callF ops n0 l mks fls s1 = some s' →
        ∃ d' rs, drawRun E callF ops n0 (o :: l) (mk :: mks) d = some d' ∧ XR d' s' ∧ d'.recs = d.recs ++ rs ∧ rs.length = (o :: l).length ∧ (∀ c, c ∈ s.cs → c ∈ s'.cs) ∧
          ∀ (j : Nat) (o' : Oper) (mk' : Nat) (fl' : Option (Nat × Nat)) (r : Rec), (o :: l)[j]? = some o' → (mk :: mks)[j]? = some mk' → (fl :: fls)[j]? = some fl' → rs[j]? = some r → Looked E o' mk' fl' r s'.cs := by
      intro r s1 d1 hstep hrecs hR1 hcs hlk hrun
      obtain ⟨d', rs, g1, g2, g3, g4, g5, g6⟩ := xRun_some hT hrun hR1
      refine ⟨d', r :: rs, ?_, g2, by rw [g3, hrecs]; simp, by simp [g4], fun c hc => g5 c (hcs c hc), fun j o' mk' fl' r' ho hmk hfl hr => ?_⟩
      · simp only [drawRun, hstep]; exact g1
      · cases j with
        | zero =>
          simp at ho hmk hfl hr
          subst ho hmk hfl hr
          exact ⟨hlk.1, fun a b q hq => g5 _ (hlk.2 a b q hq)⟩
        | succ j => exact g6 j o' mk' fl' r' (by simpa using ho) (by simpa using hmk) (by simpa using hfl) (by simpa using hr)
    have hlen : s.i = d.recs.length := hR.i
    cases hk : kindO E o with
    | pure =>
      cases w with
      | true =>
        have h := show kdX (ob (xPure E s.T ⟨mergeX n0 mk s.U s.al s.M.h, s.M.n⟩ o) _) _ _ (kdX0 E o.op) = some s' from h
        rw [kdX0_eq, hk] at h
        obtain ⟨v, h1, h2⟩ := ob_some (show ob (xPure E s.T ⟨mergeX n0 mk s.U s.al s.M.h, s.M.n⟩ o) _ = some s' from h)
        rw [dk_eq, hR.T] at h2
        have h1 := xPure_some hT h1
        rw [hm, hR.T] at h1
        refine fin ⟨d.T, v, true, .pure, none⟩ _ ⟨putT d.T o.dst v, d.recs ++ [⟨d.T, v, true, .pure, none⟩], d.ms, d.us⟩ ?_ rfl ?_ ?_ ?_ h2
        · simp only [drawStep, hR.M, hR.U, hw, hk, cond_true, h1]
        · exact ⟨rfl, hR.M, hR.U, by simp only; rw [alOf_snoc, hR.al]; simp, by simp [hlen], hR.m1, hR.m2⟩
        · intro c hc
          cases fl with
          | none => exact hc
          | some q => exact List.mem_cons_of_mem _ hc
        · refine ⟨hk.symm, fun _ _ q hq => ?_⟩
          subst hq
          exact List.mem_cons_self
      | false =>
        have h := show kdX (dk s.T o.dst undefV _) _ _ (kdX0 E o.op) = some s' from h
        rw [kdX0_eq, hk] at h
        have h2 := show dk s.T o.dst undefV (fun T' => xRun E callF ops n0 l mks fls ⟨T', s.M, s.U, s.al, Nat.succ s.i, s.ms, s.cs⟩) = some s' from h
        rw [dk_eq, hR.T] at h2
        refine fin ⟨d.T, undefV, false, .pure, none⟩ ⟨putT d.T o.dst undefV, s.M, s.U, s.al, Nat.succ s.i, s.ms, s.cs⟩ ⟨putT d.T o.dst undefV, d.recs ++ [⟨d.T, undefV, false, .pure, none⟩], d.ms, d.us⟩ ?_ rfl ?_ (fun c hc => hc) ⟨hk.symm, fun _ q => by cases q⟩ h2
        · simp only [drawStep, hR.M, hR.U, hw, hk, cond_false]
        · exact ⟨rfl, hR.M, hR.U, by simp only; rw [alOf_snoc, hR.al]; simp, by simp [hlen], hR.m1, hR.m2⟩
    | alloc =>
      cases w with
      | true =>
        have h := show kdX _ (ob (xAlloc E s.T o) _) _ (kdX0 E o.op) = some s' from h
        rw [kdX0_eq, hk] at h
        obtain ⟨p, h1, h2⟩ := ob_some (show ob (xAlloc E s.T o) _ = some s' from h)
        rw [dk_eq, hR.T] at h2
        have h1 := xAlloc_some h1
        rw [hR.T] at h1
        obtain ⟨f, ob1⟩ := p
        refine fin ⟨d.T, f (n0 + d.recs.length), true, .alloc, some ob1⟩ ⟨putT d.T o.dst (f (Nat.add n0 s.i)), s.M, s.U, snocX s.al (s.i, ob1), Nat.succ s.i, s.ms, s.cs⟩ ⟨putT d.T o.dst (f (n0 + d.recs.length)), d.recs ++ [⟨d.T, f (n0 + d.recs.length), true, .alloc, some ob1⟩], d.ms, d.us⟩ ?_ rfl ?_ (fun c hc => hc) ⟨hk.symm, fun q => by cases q⟩ h2
        · simp only [drawStep, hR.M, hR.U, hw, hk, cond_true, h1]
        · refine ⟨by simp only [hlen]; rfl, hR.M, hR.U, ?_, by simp [hlen], hR.m1, hR.m2⟩
          simp only
          rw [alOf_snoc, hR.al, snocX_eq, hlen]
          simp
      | false =>
        have h := show kdX _ (dk s.T o.dst undefV _) _ (kdX0 E o.op) = some s' from h
        rw [kdX0_eq, hk] at h
        have h2 := show dk s.T o.dst undefV (fun T' => xRun E callF ops n0 l mks fls ⟨T', s.M, s.U, s.al, Nat.succ s.i, s.ms, s.cs⟩) = some s' from h
        rw [dk_eq, hR.T] at h2
        refine fin ⟨d.T, undefV, false, .alloc, none⟩ ⟨putT d.T o.dst undefV, s.M, s.U, s.al, Nat.succ s.i, s.ms, s.cs⟩ ⟨putT d.T o.dst undefV, d.recs ++ [⟨d.T, undefV, false, .alloc, none⟩], d.ms, d.us⟩ ?_ rfl ?_ (fun c hc => hc) ⟨hk.symm, fun q => by cases q⟩ h2
        · simp only [drawStep, hR.M, hR.U, hw, hk, cond_false]
        · exact ⟨rfl, hR.M, hR.U, by simp only; rw [alOf_snoc, hR.al]; simp, by simp [hlen], hR.m1, hR.m2⟩
    | eff =>
      cases w with
      | true =>
        have h := show kdX _ _ (ob (xEff E callF s.T o ⟨mergeX n0 mk s.U s.al s.M.h, s.M.n⟩) _) (kdX0 E o.op) = some s' from h
        rw [kdX0_eq, hk] at h
        obtain ⟨p, h1, h2⟩ := ob_some (show ob (xEff E callF s.T o ⟨mergeX n0 mk s.U s.al s.M.h, s.M.n⟩) _ = some s' from h)
        rw [dk_eq, hR.T] at h2
        have h1 := xEff_some h1
        rw [hm, hR.T] at h1
        obtain ⟨v, M'⟩ := p
        refine fin ⟨d.T, v, true, .eff, none⟩ ⟨putT d.T o.dst v, M', Nat.lor s.U mk, s.al, Nat.succ s.i, snocX s.ms (M', Nat.lor s.U mk), s.cs⟩ ⟨putT d.T o.dst v, d.recs ++ [⟨d.T, v, true, .eff, none⟩], d.ms ++ [M'], d.us ++ [s.U ||| mk]⟩ ?_ rfl ?_ (fun c hc => hc) ⟨hk.symm, fun q => by cases q⟩ h2
        · simp only [drawStep, hR.M, hR.U, hw, hk, cond_true, h1]
        · exact ⟨rfl, by simp, by simp, by simp only; rw [alOf_snoc, hR.al]; simp, by simp [hlen], by simp only; rw [snocX_eq, List.map_append, hR.m1]; rfl, by simp only; rw [snocX_eq, List.map_append, hR.m2]; rfl⟩
      | false =>
        have h := show kdX _ _ (dk s.T o.dst undefV _) (kdX0 E o.op) = some s' from h
        rw [kdX0_eq, hk] at h
        have h2 := show dk s.T o.dst undefV (fun T' => xRun E callF ops n0 l mks fls ⟨T', ⟨mergeX n0 mk s.U s.al s.M.h, s.M.n⟩, Nat.lor s.U mk, s.al, Nat.succ s.i, snocX s.ms (⟨mergeX n0 mk s.U s.al s.M.h, s.M.n⟩, Nat.lor s.U mk), s.cs⟩) = some s' from h
        rw [dk_eq, hR.T, hm] at h2
        refine fin ⟨d.T, undefV, false, .eff, none⟩ ⟨putT d.T o.dst undefV, ⟨merge n0 mk s.U d.recs 0 s.M.h, s.M.n⟩, Nat.lor s.U mk, s.al, Nat.succ s.i, snocX s.ms (⟨merge n0 mk s.U d.recs 0 s.M.h, s.M.n⟩, Nat.lor s.U mk), s.cs⟩ ⟨putT d.T o.dst undefV, d.recs ++ [⟨d.T, undefV, false, .eff, none⟩], d.ms ++ [⟨merge n0 mk s.U d.recs 0 s.M.h, s.M.n⟩], d.us ++ [s.U ||| mk]⟩ ?_ rfl ?_ (fun c hc => hc) ⟨hk.symm, fun q => by cases q⟩ h2
        · simp only [drawStep, hR.M, hR.U, hw, hk, cond_false]
        · exact ⟨rfl, by simp, by simp, by simp only; rw [alOf_snoc, hR.al]; simp, by simp [hlen], by simp only; rw [snocX_eq, List.map_append, hR.m1]; rfl, by simp only; rw [snocX_eq, List.map_append, hR.m2]; rfl⟩
end
end Go.Proofs.YtejebgdikoehmaaGreatDoor
/- The symbolic executor in haste is the executor: what floats is looked at. -/
namespace Go.Proofs.YtejebgdikoehmaaGreatDoor
open Go
set_option linter.unusedVariables false
set_option linter.unusedSimpArgs false
theorem quietX_eq (op : Op) : quietX op = quietOp op := by
  cases op with
  | binOp b t x y u => cases b <;> rfl
  | _ => rfl
theorem quiet_pure {E : Env} {o : Oper} (h : quietOp o.op = true) : kindO E o = .pure := by
  obtain ⟨dst, op, ty, pos, after, guard⟩ := o
  cases op <;> first | rfl | cases h
section
variable {E : Env} {callF : CallF} {n0 : Nat}
theorem kindsX_get (E : Env) : ∀ (l : List Oper) (j : Nat), (kindsX E l)[j]? = (l[j]?).map fun o => if quietOp o.op = true then 3 else kdN (kindO E o)
  | [], j => by simp [kindsX]
  | o :: l, 0 => by
    show some (Bool.rec (motive := fun _ => Nat) (kdN (kdX0 E o.op)) 3 (quietX o.op) : Nat) = _
    rw [quietX_eq, kdX0_eq]
    simp only [List.getElem?_cons_zero, Option.map_some]
    cases quietOp o.op <;> rfl
  | o :: l, j + 1 => by
    have ih := kindsX_get E l j
    exact ih
theorem kindsX_len (E : Env) : ∀ l : List Oper, (kindsX E l).length = l.length
  | [] => rfl
  | o :: l => by
    show (kindsX E l).length + 1 = _
    rw [kindsX_len E l]; rfl
/-- Kinds told by numbers and by records. -/
def KR : List Nat → List Rec → Prop
  | [], [] => True
  | k :: ks, r :: rs => (Nat.beq k 2 = decide (r.k = .eff)) ∧ KR ks rs
  | _, _ => False
theorem KR.of : ∀ {l : List Oper} {rs : List Rec}, rs.length = l.length → (∀ (j : Nat) (o : Oper) (r : Rec), l[j]? = some o → rs[j]? = some r → r.k = kindO E o) → KR (kindsX E l) rs
  | [], [], _, _ => trivial
  | [], _ :: _, h, _ => by cases h
  | _ :: _, [], h, _ => by cases h
  | o :: l, r :: rs, h, hk => by
    refine ⟨?_, KR.of (l := l) (by simpa using h) fun j o' r' ho hr => hk (j + 1) o' r' (by simpa using ho) (by simpa using hr)⟩
    have h0 := hk 0 o r rfl rfl
    show Nat.beq (Bool.rec (motive := fun _ => Nat) (kdN (kdX0 E o.op)) 3 (quietX o.op) : Nat) 2 = _
    rw [quietX_eq, kdX0_eq, h0]
    cases hq : quietOp o.op with
    | true => rw [quiet_pure (E := E) hq]; rfl
    | false => cases kindO E o <;> rfl
theorem loX_eq (mk : Nat) : ∀ {ks : List Nat} {rs : List Rec} (j : Nat), KR ks rs → loX mk ks j = loOf mk rs j
  | [], [], j, _ => rfl
  | [], _ :: _, j, h => h.elim
  | _ :: _, [], j, h => h.elim
  | k :: ks, r :: rs, j, h => by
    have ih := loX_eq mk (j + 1) h.2
    show (Bool.rec (motive := fun _ => Nat) (loX mk ks (Nat.succ j)) (Bool.rec (motive := fun _ => Nat) (loX mk ks (Nat.succ j)) (Nat.succ (loX mk ks (Nat.succ j))) (Nat.testBit mk j)) (Nat.beq k 2) : Nat) = _
    rw [show loX mk ks (Nat.succ j) = loOf mk rs (j + 1) from ih, h.1]
    simp only [loOf]
    cases decide (r.k = .eff) <;> cases Nat.testBit mk j <;> rfl
theorem hiX_eq (i : Nat) : ∀ {ks : List Nat} {rs : List Rec} (ms : List Nat), KR ks rs → hiX i ks ms = hiOf i rs ms
  | [], [], ms, _ => by cases ms <;> rfl
  | [], _ :: _, ms, h => h.elim
  | _ :: _, [], ms, h => h.elim
  | k :: ks, r :: rs, [], h => rfl
  | k :: ks, r :: rs, m :: ms, h => by
    have ih := hiX_eq i ms h.2
    show (Bool.rec (motive := fun _ => Nat) (hiX i ks ms) (Bool.rec (motive := fun _ => Nat) (Nat.succ (hiX i ks ms)) (hiX i ks ms) (Nat.testBit m i)) (Nat.beq k 2) : Nat) = _
    rw [ih, h.1]
    simp only [hiOf]
    cases decide (r.k = .eff) <;> cases Nat.testBit m i <;> rfl
theorem floGo_get (ks0 ms0 : List Nat) : ∀ (ks ms : List Nat) (i j k m : Nat), ks[j]? = some k → ms[j]? = some m → (floGo ks0 ms0 ks ms i)[j]? = some (if k = 0 ∧ loX m ks0 0 ≠ hiX (i + j) ks0 ms0 then some (loX m ks0 0, hiX (i + j) ks0 ms0) else none)
  | [], ms, i, j, k, m, hk, hm => by simp at hk
  | _ :: _, [], i, j, k, m, hk, hm => by simp at hm
  | k' :: ks, m' :: ms, i, j, k, m, hk, hm => by
    have e : floGo ks0 ms0 (k' :: ks) (m' :: ms) i = (if k' = 0 ∧ loX m' ks0 0 ≠ hiX i ks0 ms0 then some (loX m' ks0 0, hiX i ks0 ms0) else none) :: floGo ks0 ms0 ks ms (i + 1) := by
      show (Bool.rec (motive := fun _ => List (Option (Nat × Nat))) (none :: floGo ks0 ms0 ks ms (Nat.succ i)) (Bool.rec (motive := fun _ => List (Option (Nat × Nat))) (some (loX m' ks0 0, hiX i ks0 ms0) :: floGo ks0 ms0 ks ms (Nat.succ i)) (none :: floGo ks0 ms0 ks ms (Nat.succ i)) (Nat.beq (loX m' ks0 0) (hiX i ks0 ms0))) (Nat.beq k' 0) : List (Option (Nat × Nat))) = _
      rw [nbeq, nbeq]
      by_cases h1 : k' = 0
      · rw [decide_eq_true h1]
        by_cases h2 : loX m' ks0 0 = hiX i ks0 ms0
        · rw [decide_eq_true h2, if_neg (fun q => q.2 h2)]
        · rw [decide_eq_false h2, if_pos ⟨h1, h2⟩]
      · rw [decide_eq_false h1, if_neg (fun q => h1 q.1)]
    rw [e]
    cases j with
    | zero =>
      simp at hk hm
      subst hk hm
      simp
    | succ j =>
      have := floGo_get ks0 ms0 ks ms (i + 1) j k m (by simpa using hk) (by simpa using hm)
      rw [show i + 1 + j = i + (j + 1) from by omega] at this
      simpa using this
/-- A look told by the slow executor. -/
theorem samX_same (hT : TOk E) {recs : List Rec} {c : Chk} {r : Rec} (hcT : c.T = r.T) (hcv : c.v = r.v) : ∀ (l : List (St × Nat)) (j : Nat), samX E n0 (alOf recs 0) c l j = true → c.lo ≤ c.hi →
    sameAt E n0 recs c.msk c.o r (l.map (·.1)) (l.map (·.2)) (c.lo - j) (c.hi + 1 - (if j ≤ c.lo then c.lo else j)) = true
  | [], j, h, hl => by
    have h : Nat.blt c.hi j = true := h
    rw [nblt, decide_eq_true_eq] at h
    simp only [List.map_nil, sameAt, nbeq, decide_eq_true_eq]
    split <;> omega
  | p :: l, j, h, hl => by
    have h : bq (Nat.blt j c.lo) (samX E n0 (alOf recs 0) c l (j + 1)) (bq (Nat.blt c.hi j) true (bq (sam1 E n0 (alOf recs 0) c p) (samX E n0 (alOf recs 0) c l (j + 1)) false)) = true := h
    simp only [List.map_cons, sameAt]
    rw [nblt, nblt] at h
    by_cases h1 : j < c.lo
    · rw [decide_eq_true h1] at h
      have ih := samX_same hT hcT hcv l (j + 1) h hl
      rw [nbeq, decide_eq_false (show ¬ c.lo - j = 0 by omega), cond_false, if_pos (show j ≤ c.lo by omega)]
      rw [if_pos (show j + 1 ≤ c.lo by omega)] at ih
      rw [show c.lo - j - 1 = c.lo - (j + 1) from by omega]
      exact ih
    · rw [decide_eq_false h1] at h
      rw [nbeq, decide_eq_true (show c.lo - j = 0 by omega), cond_true]
      by_cases h2 : c.hi < j
      · rw [nbeq, decide_eq_true (show c.hi + 1 - (if j ≤ c.lo then c.lo else j) = 0 by split <;> omega)]
        rfl
      · rw [decide_eq_false h2] at h
        rw [nbeq, decide_eq_false (show ¬ c.hi + 1 - (if j ≤ c.lo then c.lo else j) = 0 by split <;> omega), cond_false]
        have h3 : sam1 E n0 (alOf recs 0) c p = true ∧ samX E n0 (alOf recs 0) c l (j + 1) = true := by
          cases hs : sam1 E n0 (alOf recs 0) c p with
          | false => rw [hs] at h; cases h
          | true => rw [hs] at h; exact ⟨rfl, h⟩
        have ih := samX_same hT hcT hcv l (j + 1) h3.2 hl
        rw [Bool.and_eq_true]
        constructor
        · have h4 := h3.1
          unfold sam1 at h4
          cases hx : xPure E c.T ⟨mergeX n0 c.msk p.2 (alOf recs 0) p.1.h, p.1.n⟩ c.o with
          | none => rw [hx] at h4; cases h4
          | some v =>
            rw [hx] at h4
            have hx := xPure_some hT hx
            rw [mergeX_eq, hcT] at hx
            rw [hx]
            simp only
            rw [← hcv]
            exact h4
        · rw [show c.lo - (j + 1) = 0 from by omega, if_neg (by omega)] at ih
          have e : c.hi + 1 - (if j ≤ c.lo then c.lo else j) - 1 = c.hi + 1 - (j + 1) := by split <;> omega
          rw [e]
          exact ih
theorem chkX_mem {al : List (Nat × SObj)} {ms : List (St × Nat)} : ∀ {cs : List Chk}, chkX E n0 al ms cs = true → ∀ c ∈ cs, c.lo ≤ c.hi ∧ samX E n0 al c ms 0 = true
  | [], _, c, hc => by cases hc
  | x :: cs, h, c, hc => by
    have h : bq (Nat.ble x.lo x.hi) (bq (samX E n0 al x ms 0) (chkX E n0 al ms cs) false) false = true := h
    have h1 : Nat.ble x.lo x.hi = true ∧ samX E n0 al x ms 0 = true ∧ chkX E n0 al ms cs = true := by
      cases a : Nat.ble x.lo x.hi with
      | false => rw [a] at h; cases h
      | true =>
        rw [a] at h
        cases b : samX E n0 al x ms 0 with
        | false => rw [b] at h; cases h
        | true => rw [b] at h; exact ⟨rfl, rfl, h⟩
    rcases List.mem_cons.1 hc with e | e
    · subst e
      rw [nble, decide_eq_true_eq] at h1
      exact ⟨h1.1, h1.2.1⟩
    · exact chkX_mem h1.2.2 c e
theorem drawCheck_of {d : DrawSt} {am : List Nat} : ∀ (os : List Oper) (mks : List Nat) (rs : List Rec) (i : Nat), mks.length = os.length → rs.length = os.length →
    (∀ (j : Nat) (o : Oper) (mk : Nat) (r : Rec), os[j]? = some o → mks[j]? = some mk → rs[j]? = some r → r.k = .pure → r.w = true → quietOp o.op = false →
      loOf mk d.recs 0 = hiOf (i + j) d.recs am ∨ (loOf mk d.recs 0 ≤ hiOf (i + j) d.recs am ∧ sameAt E n0 d.recs mk o r d.ms d.us (loOf mk d.recs 0) (hiOf (i + j) d.recs am + 1 - loOf mk d.recs 0) = true)) →
    drawCheck E n0 d am os mks rs i = true
  | [], _, _, i, _, _, _ => by simp only [drawCheck]
  | _ :: _, [], _, i, h, _, _ => by cases h
  | _ :: _, _ :: _, [], i, _, h, _ => by cases h
  | o :: os, mk :: mks, r :: rs, i, h1, h2, h => by
    have ih := drawCheck_of os mks rs (i + 1) (by simpa using h1) (by simpa using h2) fun j o' mk' r' ho hm hr a b c => by
      have := h (j + 1) o' mk' r' (by simpa using ho) (by simpa using hm) (by simpa using hr) a b c
      rw [show i + (j + 1) = i + 1 + j from by omega] at this
      exact this
    simp only [drawCheck, ih, Bool.and_true]
    cases hc : (decide (r.k = .pure) && r.w && !(quietOp o.op)) with
    | false => rfl
    | true =>
      simp only [Bool.and_eq_true, decide_eq_true_eq, Bool.not_eq_true'] at hc
      have := h 0 o mk r rfl rfl rfl hc.1.1 hc.1.2 hc.2
      rw [Nat.add_zero] at this
      simp only [cond_true, Bool.or_eq_true, Bool.and_eq_true, nbeq, nble, decide_eq_true_eq]
      exact this
theorem xDraw_some (hT : TOk E) {ops : List Oper} {T : Sts} {S : St} {q : Sts × St} (h : xDraw E callF ops T S = some q) : sDraw E callF ops T S = some q := by
  obtain ⟨h1, h2⟩ := bq_some h
  obtain ⟨s, h3, h4⟩ := ob_some h2
  obtain ⟨h5, h6⟩ := bq_some h4
  cases h6
  rw [lenX_eq] at h1 h3 ⊢
  rw [masksX_eq] at h3
  have h1' : Nat.blt (S.n + ops.length) 1000000 = true := h1
  obtain ⟨d, rs, g1, g2, g3, g4, g5, g6⟩ := xRun_some (d := ⟨T, [], [⟨S.h, S.n + ops.length⟩], [0]⟩) hT h3 ⟨rfl, rfl, rfl, rfl, rfl, rfl, rfl⟩
  simp only [List.nil_append] at g3
  have hml : (masks ops []).length = ops.length := by rw [masks_length]; simp
  have hkr : KR (kindsX E ops) rs := KR.of g4 fun j o r ho hr => by
    have hj := (List.getElem?_eq_some_iff.1 ho).1
    have hm := List.getElem?_eq_getElem (show j < (masks ops []).length by omega)
    have hk : (kindsX E ops)[j]? = some (if quietOp o.op = true then 3 else kdN (kindO E o)) := by rw [kindsX_get, ho]; rfl
    have hf := floGo_get (kindsX E ops) (masks ops []) (kindsX E ops) (masks ops []) 0 j _ _ hk hm
    exact (g6 j o _ _ r ho hm hf hr).1
  have hchk : drawCheck E S.n d (masks ops []) ops (masks ops []) d.recs 0 = true := by
    refine drawCheck_of ops (masks ops []) d.recs 0 hml (by rw [g3, g4]) fun j o mk r ho hm hr hk hw hq => ?_
    rw [g3] at hr ⊢
    rw [Nat.zero_add]
    have hkj : (kindsX E ops)[j]? = some 0 := by
      rw [kindsX_get, ho]
      have hk0 : (kindsX E ops)[j]? = some (if quietOp o.op = true then 3 else kdN (kindO E o)) := by rw [kindsX_get, ho]; rfl
      have hf := floGo_get (kindsX E ops) (masks ops []) (kindsX E ops) (masks ops []) 0 j _ _ hk0 hm
      have := (g6 j o _ _ r ho hm hf hr).1
      rw [hk] at this
      simp [hq, ← this, kdN]
    have hf := floGo_get (kindsX E ops) (masks ops []) (kindsX E ops) (masks ops []) 0 j _ _ hkj hm
    rw [Nat.zero_add, loX_eq mk 0 hkr, hiX_eq j (masks ops []) hkr] at hf
    by_cases he : loOf mk rs 0 = hiOf j rs (masks ops [])
    · exact Or.inl he
    · rw [if_pos ⟨rfl, he⟩] at hf
      have hc := (g6 j o _ _ r ho hm hf hr).2 hk hw _ rfl
      rw [g2.al] at h5
      obtain ⟨k1, k2⟩ := chkX_mem h5 _ hc
      have := samX_same (recs := d.recs) (r := r) hT rfl rfl _ 0 k2 k1
      rw [g2.m1, g2.m2, g3] at this
      refine Or.inr ⟨k1, ?_⟩
      simpa using this
  unfold sDraw
  simp only [h1', cond_true, g1, hchk, g2.M, g2.U]
  rw [g2.T, g2.al, mergeX_eq]
  rfl
end
end Go.Proofs.YtejebgdikoehmaaGreatDoor
/- The symbolic executor in haste: code and calls are right. -/
namespace Go.Proofs.YtejebgdikoehmaaGreatDoor
open Go
set_option linter.unusedVariables false
set_option linter.unusedSimpArgs false
section
variable {E : Env} {callF : CallF} {T : Sts} {S S' : St} {v : Value}
theorem xLoop_some {f g : Sts → St → Option (SExit × Sts × St)} (hfg : ∀ T S p, f T S = some p → g T S = some p) : ∀ {n : Nat} {T : Sts} {S : St} {p : SExit × Sts × St}, xLoop f n T S = some p → sLoop g n T S = some p
  | 0, T, S, p, h => by cases h
  | n + 1, T, S, p, h => by
    obtain ⟨q, h1, h2⟩ := ob_some (show ob (f T S) _ = some p from h)
    have h1 := hfg _ _ _ h1
    obtain ⟨e, T1, S1⟩ := q
    simp only [sLoop, h1]
    cases e with
    | normal => exact xLoop_some hfg (show xLoop f n T1 S1 = some p from h2)
    | ret => exact h2
    | exit i => exact h2
theorem xCode_some (hT : TOk E) : ∀ (c : Code) {T : Sts} {S : St} {p : SExit × Sts × St}, xCode E callF c T S = some p → sCode E callF c T S = some p := by
  intro c
  induction c with
  | skip => intro T S p h; exact h
  | label l => intro T S p h; exact h
  | exit id => intro T S p h; exact h
  | ret => intro T S p h; exact h
  | region id ops draw =>
    intro T S p h
    obtain ⟨q, h1, h2⟩ := ob_some (show ob (bq draw (xDraw E callF ops.toList T S) (xOps E callF ops.toList ops.toList T S)) _ = some p from h)
    cases h2
    simp only [sCode]
    cases draw with
    | true => rw [cond_true, xDraw_some hT h1]
    | false => rw [cond_false, xOps_some hT h1]
  | seq a b iha ihb =>
    intro T S p h
    obtain ⟨q, h1, h2⟩ := ob_some (show ob (xCode E callF a T S) _ = some p from h)
    have h1 := iha h1
    obtain ⟨e, T1, S1⟩ := q
    simp only [sCode, h1]
    cases e with
    | normal => exact ihb h2
    | ret => exact h2
    | exit i => exact h2
  | cond c a b iha ihb =>
    intro T S p h
    obtain ⟨v, h1, h2⟩ := ob_some (show ob (xv T c) _ = some p from h)
    obtain ⟨q, h3, h4⟩ := ob_some h2
    rw [xv_eq] at h1
    have := vB_some h3
    subst this
    simp only [sCode, h1]
    cases q with
    | true => exact iha h4
    | false => exact ihb h4
  | block id b ih =>
    intro T S p h
    obtain ⟨q, h1, h2⟩ := ob_some (show ob (xCode E callF b T S) _ = some p from h)
    have h1 := ih h1
    obtain ⟨e, T1, S1⟩ := q
    simp only [sCode, h1]
    cases e with
    | normal => exact h2
    | ret => exact h2
    | exit i =>
      have h2 : bq (Nat.beq i id) (some (SExit.normal, T1, S1)) (some (SExit.exit i, T1, S1)) = some p := h2
      rw [bq_eq] at h2
      exact h2
  | loop b ih =>
    intro T S p h
    simp only [sCode]
    exact xLoop_some (fun T S p h => ih h) (show xLoop (xCode E callF b) 3000 T S = some p from h)
  | _ => intro T S p h; cases h
theorem resX_some : ∀ {l : List ResultVar} {vs : List Value}, resX E T S l = some vs → resVals E T S l = some vs
  | [], vs, h => h
  | .tmp t :: l, vs, h => by
    obtain ⟨v, h1, h2⟩ := ob_some (show ob (sg t T) _ = some vs from h)
    obtain ⟨r, h3, h4⟩ := ob_some h2
    cases h4
    rw [sg_eq] at h1
    simp only [resVals, h1, resX_some (show resX E T S l = some r from h3)]
  | .cell a ty :: l, vs, h => by
    obtain ⟨p, h1, h2⟩ := ob_some (show ob (sg a T) _ = some vs from h)
    obtain ⟨ad, h3, h4⟩ := ob_some h2
    obtain ⟨r, h5, h6⟩ := ob_some h4
    obtain ⟨q, h7, h8⟩ := ob_some h6
    rw [sg_eq] at h1
    have := vA_some h3
    subst this
    have h5 := resX_some (show resX E T S l = some r from h5)
    have hl : ∃ v, loadV E S ty ad = some v ∧ vs = v :: r := by
      cases q with
      | none =>
        obtain ⟨v, k1, k2⟩ := ob_some (show ob (cellX S ad) _ = some vs from h8)
        cases k2
        exact ⟨v, loadV_of h7 k1, rfl⟩
      | some n =>
        obtain ⟨c, k1, k2⟩ := ob_some (show ob (cellsX S ad n) _ = some vs from h8)
        cases k2
        refine ⟨.agg ⟨c⟩, loadV_of h7 ?_, rfl⟩
        show ob (cellsX S ad n) _ = _
        rw [k1]
        rfl
    obtain ⟨v, k1, rfl⟩ := hl
    simp only [resVals, h1, h5, k1]
theorem tupX_eq : ∀ l : List Value, tupX l = tupOf l
  | [] => rfl
  | [v] => rfl
  | v :: u :: r => rfl
theorem initX_eq : ∀ (l : List Value) (i : Nat) (T : Sts), initX l i T = initT l i T
  | [], i, T => rfl
  | v :: l, i, T => initX_eq l (i + 1) (.cons i v T)
/-- The functions that have been looked at. -/
def FtOk (E : Env) (ft : Tr Func) : Prop := ∀ f fn, ft.get f = some fn → E.P.funcs[f]? = some fn ∧ fnOk E fn = true
/-- A function's body. -/
theorem xBody_calls (hT : TOk E) (hmix : E.P.follows .mixedOrders = true) (hC : CallOk E.P callF) {f : FuncId} {fn : Func} {args args' : List Value} {σ : Rn} {w : World} (hf : E.P.funcs[f]? = some fn) (hfn : fnOk E fn = true)
    (h : xBody E callF fn args S = some (v, S')) (hw : WR σ S w) (hv : VRs σ args args') : (callFunc f args'.toArray).run E.P w = .ok (.enter f args'.toArray) w ∧ Calls E.P f args'.toArray w fun e w' => ∃ v', e = .returned v' ∧ Eff σ S w v S' v' w' := by
  obtain ⟨c, h1, h2⟩ := ob_some h
  obtain ⟨h3, h4⟩ := bq_some h2
  obtain ⟨p, h5, h6⟩ := ob_some h4
  obtain ⟨e, T1, S1⟩ := p
  rw [lenX_eq] at h3
  have hle := Nat.le_of_ble_eq_true h3
  rw [initX_eq] at h5
  have hcode := xCode_some hT c h5
  unfold fnOk at hfn
  rw [h1] at hfn
  simp only [Bool.and_eq_true, Bool.not_eq_true', nble, decide_eq_true_eq] at hfn
  obtain ⟨⟨hnm, hnt⟩, hc⟩ := hfn
  refine ⟨enter_of hf h1 hnm, calls_of_wp hf h1 ?_⟩
  refine sCode_sound hT hC hmix c hc hw (AR.init hv hle hnt) hcode fun a' w' hg => ?_
  obtain ⟨σ', q1, q2⟩ := hg
  have key : ∀ vs, resX E T1 S1 fn.results.toList = some vs → (v, S') = (tupX vs, S1) → a'.defers = [] ∧ ∃ v, (results fn a'.tmps).run E.P w' = .ok v w' ∧ ∃ v', Ending.returned v = Ending.returned v' ∧ Eff σ S w (tupX vs) S1 v' w' := by
    intro vs hr _
    obtain ⟨v', p1, p2⟩ := results_sound hT q1.wr q2 (resX_some hr)
    rw [tupX_eq]
    exact ⟨q2.nod, v', p2, v', rfl, σ', p1, q1⟩
  cases e with
  | normal =>
    obtain ⟨vs, k1, k2⟩ := ob_some (show ob (resX E T1 S1 fn.results.toList) _ = some (v, S') from h6)
    cases k2
    exact key vs k1 rfl
  | ret =>
    obtain ⟨vs, k1, k2⟩ := ob_some (show ob (resX E T1 S1 fn.results.toList) _ = some (v, S') from h6)
    cases k2
    exact key vs k1 rfl
  | exit i => cases h6
/-- CALLS, IN HASTE. -/
theorem xCall_sound (hT : TOk E) (hmix : E.P.follows .mixedOrders = true) {sp : SpecF} {ft : Tr Func} (hS : SpOk E.P sp) (hF : FtOk E ft) : ∀ k, CallOk E.P (xCall E sp ft k)
  | 0 => fun f args S v S' σ w args' h => by cases h
  | k + 1 => fun f args S v S' σ w args' h hw hv => by
    have ih := xCall_sound hT hmix hS hF k
    have h : (Option.rec (motive := fun _ => Option (Value × St)) (ob (fgX ft f) fun fn => xBody E (xCall E sp ft k) fn args S) (fun h => h args S) (sp f) : Option (Value × St)) = some (v, S') := h
    cases hs : sp f with
    | some g =>
      rw [hs] at h
      exact hS f g hs args S v S' σ w args' h hw hv
    | none =>
      rw [hs] at h
      obtain ⟨fn, h1, h2⟩ := ob_some (show ob (fgX ft f) _ = some (v, S') from h)
      rw [fgX_eq] at h1
      obtain ⟨g1, g2⟩ := hF f fn h1
      obtain ⟨k1, k2⟩ := xBody_calls hT hmix ih g1 g2 h2 hw hv
      rw [k1]
      exact k2
/-- A call from outside, of a function with a body. -/
theorem xCall_calls (hT : TOk E) (hmix : E.P.follows .mixedOrders = true) {sp : SpecF} {ft : Tr Func} (hS : SpOk E.P sp) (hF : FtOk E ft) {k : Nat} {f : FuncId} {fn : Func} {args args' : List Value} {σ : Rn} {w : World} (hs : sp f = none) (hf : ft.get f = some fn)
    (h : xCall E sp ft (k + 1) f args S = some (v, S')) (hw : WR σ S w) (hv : VRs σ args args') : Calls E.P f args'.toArray w fun e w' => ∃ v', e = .returned v' ∧ Eff σ S w v S' v' w' := by
  have h : (Option.rec (motive := fun _ => Option (Value × St)) (ob (fgX ft f) fun fn => xBody E (xCall E sp ft k) fn args S) (fun h => h args S) (sp f) : Option (Value × St)) = some (v, S') := h
  rw [hs] at h
  obtain ⟨fn', h1, h2⟩ := ob_some (show ob (fgX ft f) _ = some (v, S') from h)
  rw [fgX_eq, hf] at h1
  cases h1
  obtain ⟨g1, g2⟩ := hF f fn hf
  exact (xBody_calls hT hmix (xCall_sound hT hmix hS hF k) g1 g2 h2 hw hv).2
end
end Go.Proofs.YtejebgdikoehmaaGreatDoor
