/-
  An evaluator for the code of the model on symbolic values. Definitions alone.
-/
import Derived.WalkKit
import Derived.Below
import Derived.MapKept
import Derived.Lib.ConvBytes
import Derived.Laws.MakeOwn
import Derived.Great.BuildSlice
import Derived.Laws.StructEq
import Derived.WalkSpells
import Derived.Lib.SliceRun
set_option linter.unusedSimpArgs false
set_option linter.unusedVariables false
section
namespace Go.Ev

/-- A symbolic value: names of blocks in the place of addresses. 'l': closed, so that a test on it may be decided. -/
inductive SV where
  | any
  | int (l : Bool) (k : IntKind) (n : Int)
  | bool (l : Bool) (b : Bool)
  | str (s : ByteArray)
  | val (v : Value)
  | ptr (k r c : Nat)
  | sl (k len : Nat)
  | mp (k : Nat)
  | fn (f : FuncId) (cap : List SV)
  | agg (l : List SV)
  | tup (l : List SV)
  deriving Inhabited

/-- Where a name lies. -/
structure Ent where
  blk : Nat
  off : Nat
  w : Nat
  cap : Nat
  nil : Bool

abbrev Sg := Nat → Ent

mutual
def den (σ : Sg) : SV → Value
  | .any => undef
  | .int _ k n => .int k n
  | .bool _ b => .bool b
  | .str s => .string s
  | .val v => v
  | .ptr k r c => .pointer (some ⟨(σ k).blk, (σ k).off + (r * (σ k).w + c), Option.none⟩)
  | .sl k n => .slice (if (σ k).nil then Option.none else some ⟨(σ k).blk, (σ k).off, Option.none⟩) n (σ k).cap
  | .mp k => .map (some (σ k).blk)
  | .fn f cap => .func (.func f) #[] (denL σ cap).toArray
  | .agg l => .agg (denL σ l).toArray
  | .tup l => .tuple (denL σ l).toArray
def denL (σ : Sg) : List SV → List Value
  | [] => []
  | x :: r => den σ x :: denL σ r
end

/-- A column of a table. -/
inductive Col where
  | ints (k : IntKind) (g : Nat → Int)
  | bools (g : Nat → Bool)
  | strs (g : Nat → ByteArray)
  /-- closed values, for rows that are told by number -/
  | lit (l : List Value)

/-- a closed value of one cell -/
def litSV : Value → SV
  | .int k n => .int true k n
  | .bool b => .bool true b
  | .string s => .str s
  | _ => .bool true false

def Col.get : Col → Nat → SV
  | .ints k g, r => .int false k (g r)
  | .bools g, r => .bool false (g r)
  | .strs g, r => .str (g r)
  | .lit l, r => litSV (l.getD r (.bool false))

def upd {α : Type} (g : Nat → α) (r : Nat) (v : α) : Nat → α := fun i => bif Nat.beq i r then v else g i

def Col.set : Col → Nat → SV → Option Col
  | .ints k g, r, .int _ k' n => match decide (k = k') with
    | true => some (.ints k (upd g r n))
    | false => none
  | .bools g, r, .bool _ b => some (.bools (upd g r b))
  | .strs g, r, .str s => some (.strs (upd g r s))
  | _, _, _ => none

/-- a part of a map's values, by key -/
structure MCol where
  k : IntKind
  g : Int → Int

/-- a map of integers: which keys it has, what it says of any key -/
structure MapD where
  kk : IntKind
  dom : Int → Bool
  vs : List MCol
  agg : Bool

def MCol.vals : List MCol → Int → List SV
  | [], _ => []
  | c :: r, n => .int false c.k (c.g n) :: MCol.vals r n

def MapD.sv (m : MapD) (n : Int) : SV :=
  match m.agg with
  | true => .agg (MCol.vals m.vs n)
  | false => match m.vs with
    | [c] => .int false c.k (c.g n)
    | _ => .any

def updI {α : Type} (g : Int → α) (n : Int) (v : α) : Int → α := fun i => bif i == n then v else g i

def MCol.setL : List MCol → Int → List SV → Option (List MCol)
  | [], _, [] => some []
  | c :: r, n, .int _ k a :: l => match decide (k = c.k), MCol.setL r n l with
    | true, some q => some (⟨c.k, updI c.g n a⟩ :: q)
    | _, _ => none
  | _, _, _ => none

def MCol.zeros : List Value → Option (List MCol)
  | [] => some []
  | .int k a :: r => match a == 0, MCol.zeros r with
    | true, some q => some (⟨k, fun _ => 0⟩ :: q)
    | _, _ => none
  | _ => none

/-- the kinds are those of a zero value -/
def MCol.fit : List MCol → List Value → Bool
  | [], [] => true
  | c :: r, .int k a :: vs => decide (k = c.k) && (a == 0) && MCol.fit r vs
  | _, _ => false

def forceMs {α : Sort _} : List MCol → (List MCol → α) → α
  | [], f => f []
  | c :: r, f => forceMs r fun r => f (c :: r)

def MapD.force {α : Sort _} (m : MapD) (f : MapD → α) : α :=
  match m with
  | ⟨k, d, vs, a⟩ => forceMs vs fun vs => f ⟨k, d, vs, a⟩

/-- A block: a record, one that is read alone, a table (rows below n are known), one that is not to be used any more. -/
inductive Blk where
  | cells (l : List SV)
  | ro (l : List SV)
  | tab (n : Nat) (cols : List Col) (rw : Bool)
  | dead
  | map (m : MapD) (rw : Bool)

def Blk.rw : Blk → Bool
  | .cells _ => true
  | .ro _ => false
  | .tab _ _ rw => rw
  | .dead => false
  | .map _ rw => rw

/-- as a load sees it -/
def Blk.see : Blk → Blk
  | .ro l => .cells l
  | b => b

abbrev Heap := List (Nat × Blk)

def look : Heap → Nat → Option Blk
  | [], _ => none
  | (k, b) :: h, j => match Nat.beq k j with
    | true => some b
    | false => look h j

def putB : Heap → Nat → Blk → Heap
  | [], j, b => [(j, b)]
  | (k, c) :: h, j, b => match Nat.beq k j with
    | true => (k, b) :: h
    | false => (k, c) :: putB h j b

def putAll (h : Heap) : List (Nat × Blk) → Heap
  | [] => h
  | (k, b) :: r => putAll (putB h k b) r

/-! Forcing: so that the kernel's reckoning goes on with constructors. -/
def SV.force {α : Sort _} (s : SV) (f : SV → α) : α :=
  match s with
  | .any => f .any
  | .int l k n => f (.int l k n)
  | .bool l b => f (.bool l b)
  | .str x => f (.str x)
  | .val v => f (.val v)
  | .ptr k r c => f (.ptr k r c)
  | .sl k n => f (.sl k n)
  | .mp k => f (.mp k)
  | .fn g c => f (.fn g c)
  | .agg l => f (.agg l)
  | .tup l => f (.tup l)

def forceL {α : Sort _} : List SV → (List SV → α) → α
  | [], f => f []
  | x :: r, f => x.force fun x' => forceL r fun r' => f (x' :: r')

def SV.force2 {α : Sort _} (s : SV) (f : SV → α) : α :=
  match s with
  | .agg l => forceL l fun l' => f (.agg l')
  | .tup l => forceL l fun l' => f (.tup l')
  | .fn g l => forceL l fun l' => f (.fn g l')
  | s => s.force f

def Col.force {α : Sort _} (s : Col) (f : Col → α) : α :=
  match s with
  | .ints k g => f (.ints k g)
  | .bools g => f (.bools g)
  | .strs g => f (.strs g)
  | .lit l => f (.lit l)

def forceC {α : Sort _} : List Col → (List Col → α) → α
  | [], f => f []
  | x :: r, f => x.force fun x' => forceC r fun r' => f (x' :: r')

def Blk.force {α : Sort _} (s : Blk) (f : Blk → α) : α :=
  match s with
  | .cells l => forceL l fun l' => f (.cells l')
  | .ro l => forceL l fun l' => f (.ro l')
  | .tab n cols rw => forceC cols fun cols' => f (.tab n cols' rw)
  | .dead => f .dead
  | .map m rw => m.force fun m => f (.map m rw)

def forceH {α : Sort _} : Heap → (Heap → α) → α
  | [], f => f []
  | (k, b) :: r, f => b.force fun b' => forceH r fun r' => f ((k, b') :: r')

/-! Leaves -/
def ar (op : BinOp) (k : IntKind) (x y : Int) : Int :=
  match op with
  | .add => k.wrap (x + y)
  | .sub => k.wrap (x - y)
  | .mul => k.wrap (x * y)
  | .and => k.wrap (BitVec.ofInt k.bits x &&& BitVec.ofInt k.bits y).toNat
  | .or => k.wrap (BitVec.ofInt k.bits x ||| BitVec.ofInt k.bits y).toNat
  | .xor => k.wrap (BitVec.ofInt k.bits x ^^^ BitVec.ofInt k.bits y).toNat
  | .andNot => k.wrap (BitVec.ofInt k.bits x &&& ~~~BitVec.ofInt k.bits y).toNat
  | .quo => k.wrap (x.tdiv y)
  | .rem => x.tmod y
  | .shl => k.wrap (x * 2 ^ min y.toNat k.bits)
  | .shr => x.fdiv (2 ^ min y.toNat k.bits)
  | _ => 0

def cm (op : BinOp) (x y : Int) : Bool :=
  match op with
  | .eql => x == y
  | .neq => x != y
  | .lss => decide (x < y)
  | .leq => decide (x ≤ y)
  | .gtr => decide (x > y)
  | .geq => decide (x ≥ y)
  | _ => false

def conv (k : IntKind) (n : Int) : Int := k.wrap n
def seq (x y : ByteArray) : Bool := x.toList == y.toList
def chr (s : ByteArray) (i : Nat) : Int := ((s.data.getD i 0).toNat : Int)
/-- a string of bytes that are given as integers -/
def strOf (g : Nat → Int) (n : Nat) : ByteArray := ⟨((List.range n).map fun i => UInt8.ofNat (g i).toNat).toArray⟩
/-- a row behind another -/
def cat {α : Type} (n : Nat) (f g : Nat → α) : Nat → α := fun i => bif Nat.blt i n then f i else g (i - n)
def from_ {α : Type} (l : Nat) (g : Nat → α) : Nat → α := fun i => g (l + i)
def nth {α : Type} (l : List α) (d : α) : Nat → α := fun i => l.getD i d

/-! Operations -/
structure R where
  need : List Bool
  sv : SV
  upd : List (Nat × Blk)

def ofVal : Value → SV
  | .int k n => .int true k n
  | .bool b => .bool true b
  | .string s => .str s
  | v => .val v
def ofVals : List Value → List SV
  | [] => []
  | v :: r => ofVal v :: ofVals r
def ofConst : Value → SV
  | .agg cs => .agg (ofVals cs.toList)
  | v => ofVal v

def ev (F : List SV) : Operand → SV
  | .tmp t => (F[t]?).getD .any
  | .const v => ofConst v
  | .global g => .val (.pointer (some ⟨g, 0, Option.none⟩))
  | .func f => .fn f []

def blkOf (H : Heap) : SV → Option Blk
  | .ptr k _ _ => look H k
  | .sl k _ => look H k
  | .mp k => look H k
  | _ => none

def isAggD : TypeDesc → Bool
  | .struct _ => true
  | .array _ _ => true
  | _ => false

/-- one cell, and known -/
def SV.one : SV → Bool
  | .any => false
  | .agg _ => false
  | .tup _ => false
  | .val v => v.oneCell'
  | _ => true

def SV.cells : SV → List SV
  | .agg l => l
  | s => [s]

def segSet : List SV → Nat → List SV → List SV
  | x :: l, c + 1, vs => x :: segSet l c vs
  | _ :: l, 0, v :: vs => v :: segSet l 0 vs
  | l, _, _ => l

def setCols (cols : List Col) (c r : Nat) : List SV → Option (List Col)
  | [] => some cols
  | v :: vs => match cols[c]? with
    | some col => match col.set r v with
      | some col' => setCols (cols.set c col') (c + 1) r vs
      | none => none
    | none => none

def getCols (cols : List Col) (r : Nat) : List SV := cols.map (Col.get · r)

def ldC (P : Program) (t : TypeId) (b : Blk) (r c : Nat) : Option R :=
  match P.underlying t, P.info? t with
  | some d, some i =>
    match isAggD d, b with
    | true, .cells l => match Nat.beq r 0 && Nat.ble (c + i.size) l.length with
      | true => some ⟨[], .agg ((l.drop c).take i.size), []⟩
      | false => none
    | true, .tab n cols _ => match Nat.ble (c + i.size) cols.length with
      | true => some ⟨[Nat.blt r n], .agg (getCols ((cols.drop c).take i.size) r), []⟩
      | false => none
    | false, .cells l => match Nat.beq r 0, l[c]? with
      | true, some sv => some ⟨[], sv, []⟩
      | _, _ => none
    | false, .tab n cols _ => match cols[c]? with
      | some col => some ⟨[Nat.blt r n], col.get r, []⟩
      | none => none
    | _, .ro _ => none
    | _, .dead => none
    | _, .map _ _ => none
  | _, _ => none

def stC (P : Program) (t : TypeId) (k : Nat) (b : Blk) (r c : Nat) (v : SV) : Option R :=
  match P.info? t with
  | some i =>
    match Nat.beq i.size v.cells.length && v.cells.all SV.one, b with
    | true, .cells l => match Nat.beq r 0 && Nat.ble (c + v.cells.length) l.length with
      | true => some ⟨[], .val undef, [(k, .cells (segSet l c v.cells))]⟩
      | false => none
    | true, .tab n cols true => match setCols cols c r v.cells, Nat.blt 0 v.cells.length with
      | some cols', true => some ⟨[Nat.blt r n], .val undef, [(k, .tab n cols' true)]⟩
      | _, _ => none
    | _, _ => none
  | none => none

/-- the parts of a struct or an array laid into its cells -/
def fillC (place : Nat → Option (Nat × Nat)) : List (Nat × SV) → List SV → Option (List SV)
  | [], l => some l
  | (i, v) :: r, l => match place i with
    | some (off, size) => match Nat.beq v.cells.length size && Nat.ble (off + size) l.length && v.cells.all SV.one with
      | true => fillC place r (segSet l off v.cells)
      | false => none
    | none => none

/-- rows of single cells as columns -/
def intsOf (k : IntKind) : List SV → Option (List Int)
  | [] => some []
  | .int _ k' n :: r => match decide (k = k'), intsOf k r with
    | true, some l => some (n :: l)
    | _, _ => none
  | _ => none
def boolsOf : List SV → Option (List Bool)
  | [] => some []
  | .bool _ b :: r => match boolsOf r with
    | some l => some (b :: l)
    | none => none
  | _ => none
def strsOf : List SV → Option (List ByteArray)
  | [] => some []
  | .str s :: r => match strsOf r with
    | some l => some (s :: l)
    | none => none
  | _ => none
def colOf (l : List SV) : Option Col :=
  match l with
  | .int _ k _ :: _ => match intsOf k l with
    | some l => some (.ints k (nth l 0))
    | none => none
  | .bool _ _ :: _ => match boolsOf l with
    | some l => some (.bools (nth l false))
    | none => none
  | .str _ :: _ => match strsOf l with
    | some l => some (.strs (nth l .empty))
    | none => none
  | _ => none

def every (w : Nat) (l : List SV) : Nat → Nat → List SV
  | 0, _ => []
  | n + 1, i => (l.getD i .any) :: every w l n (i + w)

def colsOf (w n : Nat) (l : List SV) : Nat → Nat → Option (List Col)
  | 0, _ => some []
  | m + 1, c => match colOf (every w l n c) with
    | some col => match colsOf w n l m (c + 1) with
      | some r => some (col :: r)
      | none => none
    | none => none

def zeroCol : Value → Option Col
  | .int k n => match n == 0 with
    | true => some (.ints k fun _ => 0)
    | false => none
  | .bool false => some (.bools fun _ => false)
  | .string s => match Nat.beq s.size 0 with
    | true => some (.strs fun _ => .empty)
    | false => none
  | _ => none
def zeroCols : List Value → Option (List Col)
  | [] => some []
  | v :: r => match zeroCol v, zeroCols r with
    | some c, some cs => some (c :: cs)
    | _, _ => none

def binC (op : BinOp) : SV → SV → Option R
  | .int l k a, .int m k' b =>
    match op with
    | .shl | .shr => some ⟨[decide (0 ≤ b)], .int (l && m) k (ar op k a b), []⟩
    | _ => match decide (k = k') with
      | true => match op with
        | .add | .sub | .mul | .and | .or | .xor | .andNot => some ⟨[], .int (l && m) k (ar op k a b), []⟩
        | .quo | .rem => some ⟨[b != 0], .int (l && m) k (ar op k a b), []⟩
        | .eql | .neq | .lss | .leq | .gtr | .geq => some ⟨[], .bool (l && m) (cm op a b), []⟩
        | _ => none
      | false => none
  | .str a, .str b =>
    match op with
    | .add => some ⟨[Nat.ble (a.size + b.size) 9223372036854775807], .str (a ++ b), []⟩
    | .eql => some ⟨[], .bool false (seq a b), []⟩
    | .neq => some ⟨[], .bool false (!seq a b), []⟩
    | _ => none
  | _, _ => none

/-- equality of structs whose fields are integers, bools and strings, none of them blank: field by field -/
def eqF (P : Program) : Nat → List Field → List SV → List SV → Option Bool
  | _, [], [], [] => some true
  | i, f :: fs, x :: a, y :: b => match f.name != "_" && Nat.beq f.offset i, P.underlying f.type, eqF P (i + 1) fs a b with
    | true, some d, some q => match d, x, y with
      | .int _, .int _ k n, .int _ k' m => match decide (k = k') with
        | true => some ((n == m) && q)
        | false => none
      | .bool, .bool _ p, .bool _ p' => some ((p == p') && q)
      | .string, .str s, .str t => some (seq s t && q)
      | _, _, _ => none
    | _, _, _ => none
  | _, _, _, _ => none

def mvC : List (SV × Option Blk) → Option R
  | [(s, _)] => some ⟨[], s, []⟩
  | _ => none

def pickC : List (SV × Option Blk) → Option R
  | [(.bool true true, _), (a, _), _] => some ⟨[], a, []⟩
  | [(.bool true false, _), _, (b, _)] => some ⟨[], b, []⟩
  | [(.bool false c, _), (.bool _ p, _), (.bool _ q, _)] => some ⟨[], .bool false (bif c then p else q), []⟩
  | _ => none

def allocC (P : Program) (nm : Nat) (t : TypeId) : Option R :=
  match P.info? t with
  | some i => match i.zero with
    | some z => match (ofVals z.cells.toList).all SV.one with
      | true => some ⟨[], .ptr nm 0 0, [(nm, .cells (ofVals z.cells.toList))]⟩
      | false => none
    | none => none
  | none => none

def boxC (nm : Nat) : List (SV × Option Blk) → Option R
  | [(s, _)] => match s.cells.all SV.one with
    | true => some ⟨[], .ptr nm 0 0, [(nm, .cells s.cells)]⟩
    | false => none
  | _ => none

/-- where a struct's fields lie; all of them are known -/
def places (P : Program) : List Field → Option (List (Nat × Nat))
  | [] => some []
  | f :: r => match P.info? f.type, places P r with
    | some i, some l => some ((f.offset, i.size) :: l)
    | _, _ => none

def buildC (P : Program) (t : TypeId) (ix : List Nat) (x : List (SV × Option Blk)) : Option R :=
  match P.info? t with
  | some i => match i.zero with
    | some z => match P.underlying t with
      | some (.struct fs) => match places P fs.toList with
        | some pl => match fillC (fun j => pl[j]?) (ix.zip (x.map (·.1))) (ofVals z.cells.toList) with
          | some l => some ⟨[], .agg l, []⟩
          | none => none
        | none => none
      | some (.array _ e) => match P.info? e with
        | some g => match fillC (fun j => some (j * g.size, g.size)) (ix.zip (x.map (·.1))) (ofVals z.cells.toList) with
          | some l => some ⟨[], .agg l, []⟩
          | none => none
        | none => none
      | _ => none
    | none => none
  | none => none

def repeatL {α : Type} (l : List α) : Nat → List α
  | 0 => []
  | n + 1 => l ++ repeatL l n

mutual
/-- all names in it meet p -/
def SV.al (p : Nat → Bool) : SV → Bool
  | .ptr k _ _ => p k
  | .sl k _ => p k
  | .mp k => p k
  | .fn _ l => SV.alL p l
  | .agg l => SV.alL p l
  | .tup l => SV.alL p l
  | _ => true
def SV.alL (p : Nat → Bool) : List SV → Bool
  | [] => true
  | x :: r => SV.al p x && SV.alL p r
end

def buildSliceC (P : Program) (nm : Nat) (t : TypeId) (len : Nat) (ix : List Nat) (x : List (SV × Option Blk)) : Option R :=
  match P.underlying t with
  | some (.slice e) => match P.info? e with
    | some i => match i.zero with
      | some z => match Nat.ble (len * i.size) 16777216 && Nat.blt 0 i.size && Nat.beq z.cells.size i.size with
        | true => match len with
          | 0 => match zeroCols z.cells.toList, ix with
            | some cols, [] => some ⟨[], .sl nm 0, [(nm, .tab 0 cols true)]⟩
            | _, _ => none
          | _ => match fillC (fun j => some (j * i.size, i.size)) (ix.zip (x.map (·.1))) (repeatL (ofVals z.cells.toList) len) with
            | some l => match colsOf i.size len l i.size 0 with
              | some cols => some ⟨[], .sl nm len, [(nm, .tab len cols true)]⟩
              | none => match SV.alL (fun k => Nat.blt k nm || Nat.ble (nm + 16) k) l with
                | true => some ⟨[], .sl nm len, [(nm, .cells l)]⟩
                | false => none
            | none => none
        | false => none
      | none => none
    | none => none
  | _ => none

def loadC (P : Program) (t : TypeId) : List (SV × Option Blk) → Option R
  | [(.ptr _ r c, some b)] => ldC P t b.see r c
  | _ => none
def storeC (P : Program) (t : TypeId) : List (SV × Option Blk) → Option R
  | [(.ptr k r c, some b), (v, _)] => stC P t k b r c v
  | _ => none
def nilC : List (SV × Option Blk) → Option R
  | [(.ptr k r c, _)] => some ⟨[], .ptr k r c, []⟩
  | [(.fn f c, _)] => some ⟨[], .fn f c, []⟩
  | _ => none

def eqC (P : Program) (t : TypeId) (l l' : List SV) : Option Bool :=
  match P.underlying t with
  | some (.struct fs) => match P.stoodInHeld t || P.eqGuardType P.depth t with
    | false => eqF P 0 fs.toList l l'
    | true => none
  | _ => none

/-- a slice and nil -/
def nilE (P : Program) (op : BinOp) (t : TypeId) (need : List Bool) (q : Bool) : Option R :=
  match P.underlying t with
  | some (.slice _) => match op with
    | .eql => some ⟨need, .bool true q, []⟩
    | .neq => some ⟨need, .bool true (!q), []⟩
    | _ => none
  | _ => none

def binC' (P : Program) (op : BinOp) (t : TypeId) : List (SV × Option Blk) → Option R
  | [(.val (.slice a _ _), _), (.val (.slice none _ _), _)] => nilE P op t [] a.isNone
  | [(.sl _ n, some (.tab m _ _)), (.val (.slice none _ _), _)] => nilE P op t [Nat.blt 0 n, Nat.ble n m] false
  | [(.agg l, _), (.agg l', _)] => match op with
    | .eql => match eqC P t l l' with
      | some q => some ⟨[], .bool false q, []⟩
      | none => none
    | .neq => match eqC P t l l' with
      | some q => some ⟨[], .bool false (!q), []⟩
      | none => none
    | _ => none
  | [(.bool _ a, _), (.bool _ b, _)] => match P.underlying t with
    | some .bool => match op with
      | .eql => some ⟨[], .bool false (a == b), []⟩
      | .neq => some ⟨[], .bool false (!(a == b)), []⟩
      | _ => none
    | _ => none
  | [(x, _), (y, _)] => binC op x y
  | _ => none

def unC (op : UnOp) : List (SV × Option Blk) → Option R
  | [(.bool l b, _)] => match op with
    | .not => some ⟨[], .bool l (!b), []⟩
    | _ => none
  | [(.int l k n, _)] => match op with
    | .neg => some ⟨[], .int l k (ar .sub k 0 n), []⟩
    | .xor => some ⟨[], .int l k (ar .xor k (if k.signed then -1 else k.max) n), []⟩
    | _ => none
  | _ => none

def convC (P : Program) (nm : Nat) (s d : TypeId) : List (SV × Option Blk) → Option R
  | [(.int l _ n, _)] => match P.underlying s, P.underlying d with
    | some _, some (.int k') => some ⟨[], .int l k' (conv k' n), []⟩
    | _, _ => none
  | [(.str x, _)] => match P.underlying s, P.underlying d with
    | some _, some .string => some ⟨[], .str x, []⟩
    | some _, some (.slice e) => match P.underlying e with
      | some (.int .u8) => some ⟨[], .sl nm x.size, [(nm, .tab x.size [.ints .u8 (chr x)] true)]⟩
      | _ => none
    | _, _ => none
  | [(.sl _ len, some (.tab n [.ints .u8 g] _))] => match P.underlying s, P.underlying d with
    | some (.slice e), some .string => match P.underlying e with
      | some (.int .u8) => some ⟨[Nat.ble len n], .str (strOf g len), []⟩
      | _ => none
    | _, _ => none
  | [(.val (.slice none 0 0), _)] => match P.underlying s, P.underlying d with
    | some (.slice e), some .string => match P.underlying e with
      | some (.int .u8) => some ⟨[], .str .empty, []⟩
      | _ => none
    | _, _ => none
  | _ => none

def fieldAddrC (P : Program) (s : TypeId) (f : Nat) : List (SV × Option Blk) → Option R
  | [(.ptr k r c, _)] => match P.underlying s with
    | some (.struct fs) => match fs[f]? with
      | some fd => match P.info? fd.type with
        | some i => match Nat.beq i.size 0 with
          | true => none
          | false => some ⟨[], .ptr k r (c + fd.offset), []⟩
        | none => none
      | none => none
    | _ => none
  | _ => none

def partC (P : Program) (t : TypeId) (l : List SV) (off : Nat) : Option R :=
  match P.underlying t, P.info? t with
  | some d, some i => match isAggD d with
    | true => match Nat.ble (off + i.size) l.length with
      | true => some ⟨[], .agg ((l.drop off).take i.size), []⟩
      | false => none
    | false => match l[off]? with
      | some s => some ⟨[], s, []⟩
      | none => none
  | _, _ => none

def fieldC (P : Program) (s : TypeId) (f : Nat) : List (SV × Option Blk) → Option R
  | [(.agg l, _)] => match P.underlying s with
    | some (.struct fs) => match fs[f]? with
      | some fd => partC P fd.type l fd.offset
      | none => none
    | _ => none
  | _ => none

def indexAddrC (P : Program) (t : TypeId) : List (SV × Option Blk) → Option R
  | [(.sl k len, some (.tab n cols _)), (.int _ _ i, _)] => match P.underlying t with
    | some (.slice e) => match P.info? e with
      | some ie => match Nat.beq ie.size cols.length with
        | true => some ⟨[decide (0 ≤ i), decide (i < (len : Int)), Nat.blt i.toNat n], .ptr k i.toNat 0, []⟩
        | false => none
      | none => none
    | _ => none
  | [(.sl k len, some (.cells _)), (.int true _ i, _)] => match P.underlying t with
    | some (.slice e) => match P.info? e with
      | some ie => match decide (0 ≤ i) && decide (i < (len : Int)) with
        | true => some ⟨[], .ptr k 0 (i.toNat * ie.size), []⟩
        | false => none
      | none => none
    | _ => none
  | [(.ptr k r c, _), (.int true _ i, _)] => match P.underlying t with
    | some (.array m e) => match P.info? e with
      | some ie => match decide (0 ≤ i) && decide (i < (m : Int)) with
        | true => some ⟨[], .ptr k r (c + i.toNat * ie.size), []⟩
        | false => none
      | none => none
    | _ => none
  | _ => none

def indexC (P : Program) (t : TypeId) : List (SV × Option Blk) → Option R
  | [(.str s, _), (.int _ _ i, _)] => match P.underlying t with
    | some .string => some ⟨[decide (0 ≤ i), Nat.blt i.toNat s.size], .int false .u8 (chr s i.toNat), []⟩
    | _ => none
  | [(.agg l, _), (.int true _ i, _)] => match P.underlying t with
    | some (.array m e) => match P.info? e with
      | some ie => match decide (0 ≤ i) && decide (i < (m : Int)) with
        | true => partC P e l (i.toNat * ie.size)
        | false => none
      | none => none
    | _ => none
  | _ => none

def extractC (i : Nat) : List (SV × Option Blk) → Option R
  | [(.tup l, _)] => match l[i]? with
    | some s => some ⟨[], s, []⟩
    | none => none
  | _ => none

/-- columns from a row on -/
def fromCols (l : Nat) : List Col → List Col
  | [] => []
  | .ints k g :: r => .ints k (from_ l g) :: fromCols l r
  | .bools g :: r => .bools (from_ l g) :: fromCols l r
  | .strs g :: r => .strs (from_ l g) :: fromCols l r
  | .lit g :: r => .lit (g.drop l) :: fromCols l r

def view (nm k n : Nat) (cols : List Col) (rw : Bool) (l h : Nat) (need : List Bool) : R :=
  ⟨need ++ [Nat.ble l h, Nat.ble h n], .sl nm (h - l), match rw with
    | true => [(nm, .tab (h - l) (fromCols l cols) false), (k, .tab n cols false)]
    | false => [(nm, .tab (h - l) (fromCols l cols) false)]⟩

/-- a slice expression: its bounds as they stand -/
def sliceC (P : Program) (nm : Nat) (t : TypeId) (lo hi mx : Bool) (x : List (SV × Option Blk)) : Option R :=
  match P.underlying t with
  | some .string => match lo, hi, mx, x with
    | false, false, false, [(.str s, _)] => some ⟨[], .str (s.extract 0 s.size), []⟩
    | true, false, false, [(.str s, _), (.int _ _ a, _)] => some ⟨[decide (0 ≤ a), Nat.ble a.toNat s.size], .str (s.extract a.toNat s.size), []⟩
    | false, true, false, [(.str s, _), (.int _ _ b, _)] => some ⟨[decide (0 ≤ b), Nat.ble b.toNat s.size], .str (s.extract 0 b.toNat), []⟩
    | true, true, false, [(.str s, _), (.int _ _ a, _), (.int _ _ b, _)] => some ⟨[decide (0 ≤ a), decide (0 ≤ b), Nat.ble a.toNat b.toNat, Nat.ble b.toNat s.size], .str (s.extract a.toNat b.toNat), []⟩
    | _, _, _, _ => none
  | some (.slice e) => match P.info? e with
    | some ie => match lo, hi, mx, x with
      | false, false, false, [(.sl k len, some (.tab n cols rw))] => match Nat.beq ie.size cols.length with
        | true => some (view nm k n cols rw 0 len [])
        | false => none
      | true, false, false, [(.sl k len, some (.tab n cols rw)), (.int _ _ a, _)] => match Nat.beq ie.size cols.length with
        | true => some (view nm k n cols rw a.toNat len [decide (0 ≤ a)])
        | false => none
      | false, true, false, [(.sl k _, some (.tab n cols rw)), (.int _ _ b, _)] => match Nat.beq ie.size cols.length with
        | true => some (view nm k n cols rw 0 b.toNat [decide (0 ≤ b)])
        | false => none
      | true, true, false, [(.sl k _, some (.tab n cols rw)), (.int _ _ a, _), (.int _ _ b, _)] => match Nat.beq ie.size cols.length with
        | true => some (view nm k n cols rw a.toNat b.toNat [decide (0 ≤ a), decide (0 ≤ b)])
        | false => none
      | false, true, true, [(.sl k _, some (.tab n cols rw)), (.int lb _ b, _), (.int lm _ m, _)] => match Nat.beq ie.size cols.length with
        | true => match lb && lm with
          | true => match b == 0 && m == 0 with
            | true => some ⟨[], .sl nm 0, [(nm, .tab 0 cols true)]⟩
            | false => some (view nm k n cols rw 0 b.toNat [decide (0 ≤ b), decide (b ≤ m), Nat.ble m.toNat n])
          | false => some (view nm k n cols rw 0 b.toNat [decide (0 ≤ b), decide (b ≤ m), Nat.ble m.toNat n])
        | false => none
      | _, _, _, _ => none
    | none => none
  | _ => none

def makeSliceC (P : Program) (nm : Nat) (t : TypeId) : List (SV × Option Blk) → Option R
  | [(.int _ _ a, _), (.int _ _ b, _)] => match P.underlying t with
    | some (.slice e) => match P.info? e with
      | some ie => match ie.zero with
        | some z => match zeroCols z.cells.toList, Nat.beq z.cells.size ie.size with
          | some cols, true => some ⟨[decide (0 ≤ a), decide (a ≤ b), Nat.ble (b.toNat * ie.bytes) 140737488355328, Nat.ble b.toNat 140737488355328], .sl nm a.toNat, [(nm, .tab a.toNat cols true)]⟩
          | _, _ => none
        | none => none
      | none => none
    | _ => none
  | _ => none

def makeFuncC (f : Fn) (first : Nat) (x : List (SV × Option Blk)) : Option R :=
  match f, first with
  | .func g, 0 => some ⟨[], .fn g (x.map (·.1)), []⟩
  | _, _ => none

/-- the zero value of a map's element: its parts -/
def zeroM (P : Program) (t : TypeId) : Option (List Value × Bool) :=
  match P.info? t with
  | some i => match i.zero with
    | some (.agg cs) => some (cs.toList, true)
    | some v => some ([v], false)
    | none => none
  | none => none

def makeMapC (P : Program) (nm : Nat) (t : TypeId) (r : Bool) : List (SV × Option Blk) → Option R
  | [] => match P.underlying t, r with
    | some (.map kt et), false => match P.underlying kt, zeroM P et with
      | some (.int kk), some (zs, a) => match MCol.zeros zs with
        | some vs => some ⟨[], .mp nm, [(nm, .map ⟨kk, fun _ => false, vs, a⟩ true)]⟩
        | none => none
      | _, _ => none
    | _, _ => none
  | _ => none

def lookupC (P : Program) (t : TypeId) (ok : Bool) : List (SV × Option Blk) → Option R
  | [(.mp _, some (.map m _)), (.int _ q n, _)] => match P.underlying t with
    | some (.map kt et) => match P.underlying kt, zeroM P et with
      | some (.int kk), some (zs, a) => match decide (q = m.kk) && (decide (kk = m.kk) && (decide (a = m.agg) && MCol.fit m.vs zs)) with
        | true => match m.sv n with
          | .any => none
          | s => match ok with
            | true => some ⟨[], .tup [s, .bool false (m.dom n)], []⟩
            | false => some ⟨[], s, []⟩
        | false => none
      | _, _ => none
    | _ => none
  | _ => none

def isAggS : SV → Bool
  | .agg _ => true
  | _ => false

def mapUpdateC (P : Program) (t : TypeId) : List (SV × Option Blk) → Option R
  | [(.mp k, some (.map m true)), (.int _ q n, _), (v, _)] => match P.underlying t with
    | some (.map kt _) => match P.underlying kt with
      | some (.int kk) => match decide (q = m.kk) && (decide (kk = m.kk) && decide (isAggS v = m.agg)), MCol.setL m.vs n v.cells with
        | true, some vs => some ⟨[], .val undef, [(k, .map ⟨m.kk, updI m.dom n true, vs, m.agg⟩ true)]⟩
        | _, _ => none
      | _ => none
    | _ => none
  | _ => none

def lenC (P : Program) (t : Option TypeId) : List (SV × Option Blk) → Option R
  | [(.str s, _)] => match t with
    | some t => match P.underlying t with
      | some .string => some ⟨[], .int false .i64 s.size, []⟩
      | _ => none
    | none => none
  | [(.sl _ n, _)] => match t with
    | some t => match P.underlying t with
      | some (.slice _) => some ⟨[], .int false .i64 n, []⟩
      | _ => none
    | none => none
  | [(.val (.slice none 0 0), _)] => match t with
    | some t => match P.underlying t with
      | some (.slice _) => some ⟨[], .int true .i64 0, []⟩
      | _ => none
    | none => none
  | _ => none

def maxI (a b : Int) : Int := bif decide (b > a) then b else a
def minI (a b : Int) : Int := bif decide (b < a) then b else a
def mmC (mx : Bool) : List (SV × Option Blk) → Option R
  | [(.int l k a, _), (.int m _ b, _)] => match mx with
    | true => some ⟨[], .int (l && m) k (maxI a b), []⟩
    | false => some ⟨[], .int (l && m) k (minI a b), []⟩
  | _ => none

def catCols (n : Nat) : List Col → List Col → Option (List Col)
  | [], [] => some []
  | .ints k g :: r, .ints k' g' :: r' => match decide (k = k'), catCols n r r' with
    | true, some q => some (.ints k (cat n g g') :: q)
    | _, _ => none
  | .bools g :: r, .bools g' :: r' => match catCols n r r' with
    | some q => some (.bools (cat n g g') :: q)
    | none => none
  | .strs g :: r, .strs g' :: r' => match catCols n r r' with
    | some q => some (.strs (cat n g g') :: q)
    | none => none
  | _, _ => none

def isIntD : TypeDesc → Bool
  | .int _ => true
  | _ => false

/-- a zero value of the type's size is known -/
def zeroSize (i : TypeInfo) : Bool :=
  match i.zero with
  | some z => Nat.beq z.cells.size i.size
  | none => false

/-- what is appended: how many rows, what is known of them -/
def srcC (own : List Col) : SV × Option Blk → Option (List Bool × Nat × List Col)
  | (.val (.slice _ 0 _), _) => some ([], 0, own)
  | (.sl _ m, some (.tab n cols _)) => some ([Nat.ble m n], m, cols)
  | (.str s, _) => some ([], s.size, [.ints .u8 (chr s)])
  | _ => none

def appendC (P : Program) (nm : Nat) (st xt : Option TypeId) : List (SV × Option Blk) → Option R
  | [(.sl k len, some (.tab n cols true)), src] => match st, xt, srcC cols src with
    | some st, some xt, some (b, m, cols') => match P.underlying st, P.underlying xt with
      | some (.slice e), some d => match P.info? e, isIntD d with
        | some ie, false => match Nat.beq ie.size cols.length && Nat.blt 0 ie.bytes, catCols len cols cols' with
          | true, some q => match zeroSize ie with
            | true => some ⟨b ++ [Nat.ble len n, Nat.ble ((len + m) * ie.bytes) 1099511627776], .sl nm (len + m), [(nm, .tab (len + m) q true), (k, .dead)]⟩
            | false => none
          | _, _ => none
        | _, _ => none
      | _, _ => none
    | _, _, _ => none
  | [(.val (.slice none 0 0), _), src] => match st, xt, srcC [] src with
    | some st, some xt, some (b, m, cols') => match P.underlying st, P.underlying xt with
      | some (.slice e), some d => match P.info? e, isIntD d with
        | some ie, false => match Nat.beq ie.size cols'.length && Nat.blt 0 ie.bytes with
          | true => match zeroSize ie with
            | true => some ⟨b ++ [Nat.ble (m * ie.bytes) 1099511627776], .sl nm m, [(nm, .tab m cols' true)]⟩
            | false => none
          | false => none
        | _, _ => none
      | _, _ => none
    | _, _, _ => none
  | _ => none

def opC (P : Program) (nm : Nat) (op : Op) (x : List (SV × Option Blk)) : Option R :=
  match op with
  | .move _ => mvC x
  | .assign _ => mvC x
  | .pick _ _ _ => pickC x
  | .alloc t => allocC P nm t
  | .box _ _ => boxC nm x
  | .build t parts => buildC P t (parts.toList.map (·.1)) x
  | .buildSlice t len parts => buildSliceC P nm t len (parts.toList.map (·.1)) x
  | .load t _ => loadC P t x
  | .store t _ _ => storeC P t x
  | .nilCheck _ => nilC x
  | .binOp o t _ _ _ => binC' P o t x
  | .unOp o _ _ => unC o x
  | .convert s d _ => convC P nm s d x
  | .fieldAddr s _ f => fieldAddrC P s f x
  | .field s _ f => fieldC P s f x
  | .indexAddr t _ _ => indexAddrC P t x
  | .index t _ _ => indexC P t x
  | .extract _ i => extractC i x
  | .slice t _ lo hi mx => sliceC P nm t lo.isSome hi.isSome mx.isSome x
  | .makeSlice t _ _ => makeSliceC P nm t x
  | .makeFunc f first _ => makeFuncC f first.size x
  | .makeMap t r => makeMapC P nm t r.isSome x
  | .lookup t _ _ ok => lookupC P t ok x
  | .mapUpdate t _ _ _ => mapUpdateC P t x
  | .call ⟨.builtin .len, _, ts⟩ => lenC P ts[0]? x
  | .call ⟨.builtin .append, _, ts⟩ => appendC P nm ts[0]? ts[1]? x
  | .call ⟨.builtin .max, _, _⟩ => mmC true x
  | .call ⟨.builtin .min, _, _⟩ => mmC false x
  | _ => none

/-! Names -/
def Blk.al (p : Nat → Bool) : Blk → Bool
  | .cells l => SV.alL p l
  | .ro l => SV.alL p l
  | _ => true

def hal (p : Nat → Bool) : Heap → Bool
  | [] => true
  | (k, b) :: h => p k && b.al p && hal p h

/-- names below n -/
def lt (n : Nat) : Nat → Bool := fun k => Nat.blt k n
def allB : List Bool → Bool
  | [] => true
  | b :: r => b && allB r


end Go.Ev
end

section
namespace Go.Ev
open Go.RowKit

/-- names that are not new at n -/
def off (n : Nat) : Nat → Bool := fun k => Nat.blt k n || Nat.ble (n + 16) k

def Agree (p : Nat → Bool) (σ σ' : Sg) : Prop := ∀ k, p k = true → σ' k = σ k
theorem Agree.refl (p : Nat → Bool) (σ : Sg) : Agree p σ σ := fun _ _ => rfl
theorem Agree.mono {p q : Nat → Bool} {σ σ' : Sg} (h : Agree p σ σ') (hm : ∀ k, q k = true → p k = true) : Agree q σ σ' := fun k hk => h k (hm k hk)
theorem Agree.trans {p : Nat → Bool} {σ σ' σ'' : Sg} (h : Agree p σ σ') (h' : Agree p σ' σ'') : Agree p σ σ'' := fun k hk => (h' k hk).trans (h k hk)

theorem lt_off {n m : Nat} (h : n ≤ m) (k : Nat) (hk : lt n k = true) : off m k = true := by
  simp only [lt, off, Nat.blt_eq, Bool.or_eq_true] at *; left; omega
theorem lt_mono {n m : Nat} (h : n ≤ m) (k : Nat) (hk : lt n k = true) : lt m k = true := by
  simp only [lt, Nat.blt_eq] at *; omega

mutual
theorem den_congr {p : Nat → Bool} {σ σ' : Sg} (h : Agree p σ σ') : ∀ s : SV, s.al p = true → den σ' s = den σ s
  | .ptr k _ _, hs => by simp only [den, h k (by simpa [SV.al] using hs)]
  | .sl k _, hs => by simp only [den, h k (by simpa [SV.al] using hs)]
  | .mp k, hs => by simp only [den, h k (by simpa [SV.al] using hs)]
  | .fn _ l, hs => by simp only [den, denL_congr h l (by simpa [SV.al] using hs)]
  | .agg l, hs => by simp only [den, denL_congr h l (by simpa [SV.al] using hs)]
  | .tup l, hs => by simp only [den, denL_congr h l (by simpa [SV.al] using hs)]
  | .any, _ => by simp only [den]
  | .int _ _ _, _ => by simp only [den]
  | .bool _ _, _ => by simp only [den]
  | .str _, _ => by simp only [den]
  | .val _, _ => by simp only [den]
theorem denL_congr {p : Nat → Bool} {σ σ' : Sg} (h : Agree p σ σ') : ∀ l : List SV, SV.alL p l = true → denL σ' l = denL σ l
  | [], _ => rfl
  | x :: r, hs => by
    simp only [SV.alL, Bool.and_eq_true] at hs
    simp only [denL, den_congr h x hs.1, denL_congr h r hs.2]
end

mutual
theorem SV.al_mono {p q : Nat → Bool} (h : ∀ k, p k = true → q k = true) : ∀ s : SV, s.al p = true → s.al q = true
  | .ptr k _ _, hs => by simp only [SV.al] at *; exact h _ hs
  | .sl k _, hs => by simp only [SV.al] at *; exact h _ hs
  | .mp k, hs => by simp only [SV.al] at *; exact h _ hs
  | .fn _ l, hs => by simp only [SV.al] at *; exact SV.alL_mono h l hs
  | .agg l, hs => by simp only [SV.al] at *; exact SV.alL_mono h l hs
  | .tup l, hs => by simp only [SV.al] at *; exact SV.alL_mono h l hs
  | .any, _ => rfl
  | .int _ _ _, _ => rfl
  | .bool _ _, _ => rfl
  | .str _, _ => rfl
  | .val _, _ => rfl
theorem SV.alL_mono {p q : Nat → Bool} (h : ∀ k, p k = true → q k = true) : ∀ l : List SV, SV.alL p l = true → SV.alL q l = true
  | [], _ => rfl
  | x :: r, hs => by
    simp only [SV.alL, Bool.and_eq_true] at *
    exact ⟨SV.al_mono h x hs.1, SV.alL_mono h r hs.2⟩
end

theorem SV.alL_mem {p : Nat → Bool} {l : List SV} (h : SV.alL p l = true) {s : SV} (hs : s ∈ l) : s.al p = true := by
  induction l with
  | nil => cases hs
  | cons x r ih =>
    simp only [SV.alL, Bool.and_eq_true] at h
    rcases List.mem_cons.1 hs with rfl | hs
    · exact h.1
    · exact ih h.2 hs

theorem Blk.al_mono {p q : Nat → Bool} (h : ∀ k, p k = true → q k = true) (b : Blk) (hb : b.al p = true) : b.al q = true := by
  cases b with
  | cells l => exact SV.alL_mono h l hb
  | ro l => exact SV.alL_mono h l hb
  | tab _ _ _ => rfl
  | dead => rfl
  | map _ _ => rfl

theorem hal_mono {p q : Nat → Bool} (h : ∀ k, p k = true → q k = true) (H : Heap) (hH : hal p H = true) : hal q H = true := by
  induction H with
  | nil => rfl
  | cons x H ih =>
    obtain ⟨k, b⟩ := x
    simp only [hal, Bool.and_eq_true] at *
    exact ⟨⟨h _ hH.1.1, b.al_mono h hH.1.2⟩, ih hH.2⟩

theorem denL_map (σ : Sg) (l : List SV) : denL σ l = l.map (den σ) := by
  induction l with
  | nil => rfl
  | cons x r ih => simp [denL, ih]

theorem denL_length (σ : Sg) (l : List SV) : (denL σ l).length = l.length := by simp [denL_map]

/-! ### Lookups -/
theorem look_putB (h : Heap) (k : Nat) (b : Blk) (j : Nat) : look (putB h k b) j = if j = k then some b else look h j := by
  induction h with
  | nil =>
    simp only [putB, look]
    cases hk : Nat.beq k j with
    | true => have := Nat.eq_of_beq_eq_true hk; simp [this]
    | false => have := Nat.ne_of_beq_eq_false hk; simp [Ne.symm this]
  | cons x h ih =>
    obtain ⟨i, c⟩ := x
    simp only [putB]
    cases hi : Nat.beq i k with
    | true =>
      have := Nat.eq_of_beq_eq_true hi
      subst this
      simp only [look]
      cases hj : Nat.beq i j with
      | true => have := Nat.eq_of_beq_eq_true hj; simp [this]
      | false => have := Nat.ne_of_beq_eq_false hj; simp [Ne.symm this]
    | false =>
      have hik := Nat.ne_of_beq_eq_false hi
      simp only [look, ih]
      cases hj : Nat.beq i j with
      | true => have := Nat.eq_of_beq_eq_true hj; subst this; simp [hik]
      | false => rfl

/-- entries of 'u' laid over 'h': the LAST of a name wins; 'u' is to bear a name once -/
theorem look_putAll (h : Heap) (u : List (Nat × Blk)) (j : Nat) (hu : u.Pairwise (fun x y => x.1 ≠ y.1)) :
    look (putAll h u) j = match look u j with | some b => some b | none => look h j := by
  induction u generalizing h with
  | nil => simp [putAll, look]
  | cons x u ih =>
    obtain ⟨k, b⟩ := x
    simp only [putAll]
    rw [ih _ (List.pairwise_cons.1 hu).2, look_putB]
    simp only [look]
    cases hk : Nat.beq k j with
    | true =>
      have := Nat.eq_of_beq_eq_true hk
      subst this
      have hno : look u k = none := by
        have hp := (List.pairwise_cons.1 hu).1
        clear ih hu hk
        induction u with
        | nil => rfl
        | cons y u ih =>
          obtain ⟨i, c⟩ := y
          have hne : k ≠ i := hp (i, c) (by simp)
          simp only [look]
          have : Nat.beq i k = false := by
            cases hb : Nat.beq i k with
            | true => exact absurd (Nat.eq_of_beq_eq_true hb) (Ne.symm hne)
            | false => rfl
          rw [this]
          exact ih fun z hz => hp z (by simp [hz])
      simp [hno]
    | false =>
      have := Nat.ne_of_beq_eq_false hk
      simp [Ne.symm this]

theorem hal_look {p : Nat → Bool} {h : Heap} (hh : hal p h = true) {k : Nat} {b : Blk} (hl : look h k = some b) : p k = true ∧ b.al p = true := by
  induction h with
  | nil => cases hl
  | cons x h ih =>
    obtain ⟨i, c⟩ := x
    simp only [hal, Bool.and_eq_true] at hh
    simp only [look] at hl
    cases hb : Nat.beq i k with
    | true =>
      rw [hb] at hl
      have := Nat.eq_of_beq_eq_true hb
      subst this
      simp only [Option.some.injEq] at hl
      subst hl
      exact hh.1
    | false => rw [hb] at hl; exact ih hh.2 hl

/-! ### What a block says of a world -/
def clear (fz : Nat × Nat) (m : Nat) : Prop := ∀ off, off < m → (decide (fz.1 ≤ off) && decide (off < fz.2)) = false

/-- it may be written, and there is something to write -/
def Blk.ow (e : Ent) : Blk → Prop
  | .cells _ => True
  | .ro _ => False
  | .tab _ _ rw => rw = true ∧ 0 < e.cap
  | .dead => False
  | .map _ rw => rw = true

/-- it says something of memory -/
def Blk.live (e : Ent) : Blk → Prop
  | .cells _ => True
  | .ro _ => True
  | .tab n cols rw => (rw = true ∧ 0 < e.cap) ∨ (0 < n ∧ cols ≠ [])
  | .dead => False
  | .map _ _ => True

def MapD.val (m : MapD) (n : Int) : Value :=
  match m.agg with
  | true => .agg (m.vs.map fun c => Value.int c.k (c.g n)).toArray
  | false => match m.vs with
    | [c] => .int c.k (c.g n)
    | _ => undef

/-- what a map's entries are -/
structure MapIs (m : MapD) (es : Array MapEntry) (clock : Nat) : Prop where
  stamped : MapKept.Stamped es clock
  key : ∀ e ∈ es.toList, ∃ a, e.key = .int m.kk a ∧ m.dom a = true ∧ e.val = m.val a
  has : ∀ a, m.dom a = true → ∃ e ∈ es.toList, e.key = .int m.kk a
  zero : ∀ a, m.dom a = false → ∀ c ∈ m.vs, c.g a = 0

theorem Blk.ow_rw {e : Ent} {b : Blk} (h : b.ow e) : b.rw = true := by
  cases b with
  | cells l => rfl
  | ro l => exact h.elim
  | tab n c rw => exact h.1
  | dead => exact h.elim
  | map _ _ => exact h

theorem Blk.ow_false {e : Ent} {b : Blk} (hf : b.rw = false) (h : b.ow e) : False := by
  rw [Blk.ow_rw h] at hf; cases hf

def bsat (σ : Sg) (w : World) (k : Nat) : Blk → Prop
  | .cells l => (σ k).nil = false ∧ (σ k).off = 0 ∧ (σ k).w = l.length ∧
      ∃ ty fz, w.heap[(σ k).blk]? = some (.cells (denL σ l).toArray ty fz) ∧ clear fz l.length
  | .ro l => (σ k).nil = false ∧ (σ k).off = 0 ∧ (σ k).w = l.length ∧
      ∃ ty fz, w.heap[(σ k).blk]? = some (.cells (denL σ l).toArray ty fz) ∧ clear fz l.length
  | .tab n cols rw => (σ k).w = cols.length ∧ n ≤ (σ k).cap ∧ ((σ k).nil = true → n = 0) ∧
      (∀ r c col, r < n → cols[c]? = some col → w.cell? ⟨(σ k).blk, (σ k).off + (r * (σ k).w + c), Option.none⟩ = some (den σ (col.get r))) ∧
      (rw = true → 0 < (σ k).cap → (σ k).nil = false ∧ (σ k).off = 0 ∧
        ∃ arr ty fz, w.heap[(σ k).blk]? = some (.cells arr ty fz) ∧ (σ k).cap * cols.length ≤ arr.size ∧ clear fz arr.size)
  | .dead => True
  | .map m _ => ∃ es clock, w.heap[(σ k).blk]? = some (.map es clock) ∧ MapIs m es clock

theorem den_lit (σ σ' : Sg) (v : Value) : den σ' (litSV v) = den σ (litSV v) := by
  cases v <;> simp [litSV, den]

theorem den_col (σ σ' : Sg) (col : Col) (r : Nat) : den σ' (col.get r) = den σ (col.get r) := by
  cases col with
  | lit l => exact den_lit σ σ' _
  | _ => simp [Col.get, den]

theorem bsat.see {σ : Sg} {w : World} {k : Nat} {b : Blk} (h : bsat σ w k b) : bsat σ w k b.see := by
  cases b <;> exact h

theorem bsat.blk_lt {σ : Sg} {w : World} {k : Nat} {b : Blk} (h : bsat σ w k b) (hl : b.live (σ k)) : (σ k).blk < w.heap.size := by
  have key : ∀ o, w.heap[(σ k).blk]? = some o → (σ k).blk < w.heap.size := fun o ho => by
    rcases Nat.lt_or_ge (σ k).blk w.heap.size with h' | h'
    · exact h'
    · simp [Array.getElem?_eq_none h'] at ho
  cases b with
  | cells l => obtain ⟨_, _, _, ty, fz, hh, _⟩ := h; exact key _ hh
  | ro l => obtain ⟨_, _, _, ty, fz, hh, _⟩ := h; exact key _ hh
  | tab n cols rw =>
    obtain ⟨_, _, _, hc, hr⟩ := h
    rcases hl with ⟨rfl, hcp⟩ | ⟨hn, hcols⟩
    · obtain ⟨_, _, arr, ty, fz, hh, _⟩ := hr rfl hcp; exact key _ hh
    · cases cols with
      | nil => exact absurd rfl hcols
      | cons col r => exact World.block_lt_of_cell? _ _ (hc 0 0 col hn rfl)
  | dead => exact hl.elim
  | map m rw => obtain ⟨es, clock, hh, _⟩ := h; exact key _ hh

/-- a block whose memory has not turned says what it said -/
theorem bsat.same {p : Nat → Bool} {σ σ' : Sg} {w w' : World} {k : Nat} {b : Blk} (h : bsat σ w k b) (hs : Agree p σ σ') (hk : p k = true) (hb : b.al p = true)
    (hw : b.live (σ k) → w'.heap[(σ k).blk]? = w.heap[(σ k).blk]?) : bsat σ' w' k b := by
  cases b with
  | cells l =>
    obtain ⟨h1, h2, h3, ty, fz, hh, hc⟩ := h
    simp only [bsat, hs k hk]
    refine ⟨h1, h2, h3, ty, fz, ?_, hc⟩
    rw [hw trivial, denL_congr hs l (by simpa [Blk.al] using hb)]
    exact hh
  | ro l =>
    obtain ⟨h1, h2, h3, ty, fz, hh, hc⟩ := h
    simp only [bsat, hs k hk]
    refine ⟨h1, h2, h3, ty, fz, ?_, hc⟩
    rw [hw trivial, denL_congr hs l (by simpa [Blk.al] using hb)]
    exact hh
  | tab m cols rw =>
    obtain ⟨h1, h2, h3, h4, h5⟩ := h
    simp only [bsat, hs k hk]
    refine ⟨h1, h2, h3, fun r c col hr hc => ?_, fun hrw hcp => ?_⟩
    · rw [den_col σ σ']
      have hl : (Blk.tab m cols rw).live (σ k) := .inr ⟨by omega, fun e => by subst e; simp at hc⟩
      rw [World.cell?_of_block (hw hl)]
      exact h4 r c col hr hc
    · obtain ⟨a, b', arr, ty, fz, hh, hsz, hcl⟩ := h5 hrw hcp
      exact ⟨a, b', arr, ty, fz, by rw [hw (.inl ⟨hrw, hcp⟩)]; exact hh, hsz, hcl⟩
  | dead => trivial
  | map m rw =>
    obtain ⟨es, clock, hh, hm⟩ := h
    simp only [bsat, hs k hk]
    exact ⟨es, clock, by rw [hw trivial]; exact hh, hm⟩

structure HSat (σ : Sg) (H : Heap) (w : World) : Prop where
  sat : ∀ k b, look H k = some b → bsat σ w k b
  dis : ∀ k b k' b', look H k = some b → b.ow (σ k) → look H k' = some b' → b'.live (σ k') → k ≠ k' → (σ k).blk ≠ (σ k').blk

theorem HSat.nil (σ : Sg) (w : World) : HSat σ [] w := ⟨fun _ _ h => (by cases h), fun _ _ _ _ h => (by cases h)⟩

/-- What a step of the program may turn. -/
structure Step (σ : Sg) (H : Heap) (w : World) (nm : Nat) (u : Heap) (σ' : Sg) (w' : World) : Prop where
  keep : Agree (off nm) σ σ'
  os : w'.os = w.os
  tape : w'.tape = w.tape
  output : w'.output = w.output
  size : w.heap.size ≤ w'.heap.size
  frame : ∀ j, j < w.heap.size → (∀ k b, look u k ≠ none → look H k = some b → b.ow (σ k) → j ≠ (σ k).blk) → w'.heap[j]? = w.heap[j]?
  uniq : u.Pairwise (fun x y => x.1 ≠ y.1)
  sat : ∀ k b, look u k = some b → bsat σ' w' k b
  dis : ∀ k b k' b', look u k = some b → b.ow (σ' k) → look u k' = some b' → b'.live (σ' k') → k ≠ k' → (σ' k).blk ≠ (σ' k').blk
  src : ∀ k b, look u k = some b → b.live (σ' k) → w.heap.size ≤ (σ' k).blk ∨
      ∃ k0 b0, look H k0 = some b0 ∧ b0.live (σ k0) ∧ (σ' k).blk = (σ k0).blk ∧ (b.ow (σ' k) → b0.ow (σ k0)) ∧ (b0.ow (σ k0) → look u k0 ≠ none)

theorem src_of {σ σ' : Sg} {H u : Heap} {w : World} {nm : Nat} (keep : Agree (off nm) σ σ')
    (old : ∀ k b, look u k = some b → off nm k = true → b.live (σ' k) → ∃ b0, look H k = some b0 ∧ b0.live (σ k) ∧ (b.ow (σ' k) → b0.ow (σ k)))
    (fresh : ∀ k b, look u k = some b → off nm k = false → b.live (σ' k) → w.heap.size ≤ (σ' k).blk ∨
      ∃ k0 b0, look H k0 = some b0 ∧ b0.live (σ k0) ∧ (σ' k).blk = (σ k0).blk ∧ (b.ow (σ' k) → b0.ow (σ k0)) ∧ (b0.ow (σ k0) → ∃ b1, look u k0 = some b1 ∧ b1.rw = false)) :
    ∀ k b, look u k = some b → b.live (σ' k) → w.heap.size ≤ (σ' k).blk ∨
      ∃ k0 b0, look H k0 = some b0 ∧ b0.live (σ k0) ∧ (σ' k).blk = (σ k0).blk ∧ (b.ow (σ' k) → b0.ow (σ k0)) ∧ (b0.ow (σ k0) → look u k0 ≠ none) := by
  intro k b hk hl
  rcases Bool.eq_false_or_eq_true (off nm k) with h | h
  · obtain ⟨b0, h1, h2, h3⟩ := old k b hk h hl
    exact .inr ⟨k, b0, h1, h2, by rw [keep k h], h3, fun _ => by rw [hk]; simp⟩
  · rcases fresh k b hk h hl with h1 | ⟨k0, b0, h1, h2, h3, h4, h5⟩
    · exact .inl h1
    · exact .inr ⟨k0, b0, h1, h2, h3, h4, fun ho => by obtain ⟨b1, hb1, _⟩ := h5 ho; rw [hb1]; simp⟩

theorem Blk.live_of_rw {e : Ent} {b : Blk} (h : b.ow e) : b.live e := by
  cases b with
  | cells l => trivial
  | ro l => trivial
  | tab n c rw => exact .inl h
  | dead => exact h.elim
  | map m rw => trivial

theorem HSat.step {σ σ' : Sg} {H u : Heap} {w w' : World} {nm : Nat} (h : HSat σ H w) (hH : hal (off nm) H = true) (s : Step σ H w nm u σ' w') :
    HSat σ' (putAll H u) w' := by
  have hold : ∀ k b, look u k = none → look H k = some b → bsat σ' w' k b ∧ σ' k = σ k := by
    intro k b hu hb
    obtain ⟨hk, hlt⟩ := hal_look hH hb
    refine ⟨(h.sat k b hb).same s.keep hk hlt fun hl => s.frame _ ((h.sat k b hb).blk_lt hl) fun k0 b0 h0 hb0 hrw => ?_, s.keep k hk⟩
    have hne : k0 ≠ k := fun e => h0 (e ▸ hu)
    exact Ne.symm (h.dis k0 b0 k b hb0 hrw hb hl hne)
  constructor
  · intro k b hk
    rw [look_putAll _ _ _ s.uniq] at hk
    cases hu : look u k with
    | some b' => rw [hu] at hk; simp only [Option.some.injEq] at hk; subst hk; exact s.sat k b' hu
    | none => rw [hu] at hk; exact (hold k b hu hk).1
  · intro k b k' b' hk hrw hk' hl hne
    rw [look_putAll _ _ _ s.uniq] at hk hk'
    cases hu : look u k with
    | some c =>
      rw [hu] at hk; simp only [Option.some.injEq] at hk; subst hk
      cases hu' : look u k' with
      | some c' => rw [hu'] at hk'; simp only [Option.some.injEq] at hk'; subst hk'; exact s.dis k c k' c' hu hrw hu' hl hne
      | none =>
        rw [hu'] at hk'
        have hk'l := (hal_look hH hk').1
        have hl0 := hl
        rw [s.keep k' hk'l] at hl0 ⊢
        have hlt' := (h.sat k' b' hk').blk_lt hl0
        rcases s.src k c hu (Blk.live_of_rw hrw) with hf | ⟨k0, b0, hb0, _, he, hr, hr2⟩
        · omega
        · have : k0 ≠ k' := fun e => hr2 (hr hrw) (by rw [e, hu'])
          rw [he]
          exact h.dis k0 b0 k' b' hb0 (hr hrw) hk' hl0 this
    | none =>
      rw [hu] at hk
      have hkl := (hal_look hH hk).1
      rw [s.keep k hkl] at hrw ⊢
      have hltk := (h.sat k b hk).blk_lt (Blk.live_of_rw hrw)
      cases hu' : look u k' with
      | some c' =>
        rw [hu'] at hk'; simp only [Option.some.injEq] at hk'; subst hk'
        rcases s.src k' c' hu' hl with hf | ⟨k0, b0, hb0, hl0, he, _, hr2⟩
        · omega
        · rw [he]
          refine h.dis k b k0 b0 hk hrw hb0 hl0 fun e => ?_
          subst e
          simp only [hb0, Option.some.injEq] at hk
          subst hk
          exact hr2 hrw hu
      | none =>
        rw [hu'] at hk'
        rw [s.keep k' (hal_look hH hk').1] at hl ⊢
        exact h.dis k b k' b' hk hrw hk' hl hne

/-! ### Steps -/
theorem Step.none (σ : Sg) (H : Heap) (w : World) (nm : Nat) : Step σ H w nm [] σ w :=
  ⟨Agree.refl _ _, rfl, rfl, rfl, Nat.le_refl _, fun _ _ _ => rfl, List.Pairwise.nil, fun _ _ h => (by cases h), fun _ _ _ _ h => (by cases h), fun _ _ h => (by cases h)⟩

def setSg (σ : Sg) (k : Nat) (e : Ent) : Sg := fun j => if j = k then e else σ j
theorem setSg_same (σ : Sg) (k : Nat) (e : Ent) : setSg σ k e k = e := by simp [setSg]
theorem setSg_agree (σ : Sg) (k : Nat) (e : Ent) : Agree (off k) σ (setSg σ k e) := fun j hj => by
  simp only [off, Nat.blt_eq, Bool.or_eq_true, Nat.ble_eq] at hj
  simp only [setSg]
  rw [if_neg (by omega)]
theorem off_self (k : Nat) : off k k = false := by
  have h : ¬ off k k = true := by simp only [off, Nat.blt_eq, Bool.or_eq_true, Nat.ble_eq]; omega
  simpa using h

theorem look_one (k : Nat) (b : Blk) (j : Nat) : look [(k, b)] j = if j = k then some b else Option.none := by
  have := look_putB [] k b j
  simpa [putB, look] using this

/-- a new block, of cells that are known -/
theorem Step.new {σ : Sg} {H : Heap} {w : World} {nm : Nat} {o : Obj} {b : Blk} {e : Ent} (he : e.blk = w.heap.size)
    (hb : bsat (setSg σ nm e) (w.alloc o) nm b) : Step σ H w nm [(nm, b)] (setSg σ nm e) (w.alloc o) where
  keep := setSg_agree _ _ _
  os := rfl
  tape := rfl
  output := rfl
  size := by simp
  frame := fun j hj _ => Below.heap_alloc _ _ _ hj
  uniq := List.pairwise_singleton _ _
  sat := fun k b' h => by
    rw [look_one] at h
    split at h
    · rename_i hk; subst hk; simp only [Option.some.injEq] at h; subst h; exact hb
    · cases h
  dis := fun k b k' b' h _ h' _ hne => by
    rw [look_one] at h h'
    split at h <;> split at h' <;> simp_all
  src := src_of (setSg_agree _ _ _) (fun k b h hk => by
      rw [look_one] at h
      split at h
      · rename_i e'; subst e'; rw [off_self] at hk; cases hk
      · cases h)
    (fun k b h hk _ => by
      rw [look_one] at h
      split at h
      · rename_i e'; subst e'; left; rw [setSg_same, he]; exact Nat.le_refl _
      · cases h)

/-- a new name that says nothing of memory -/
theorem Step.none1 {σ : Sg} {H : Heap} {w : World} {nm : Nat} {b : Blk} {e : Ent} (hs : bsat (setSg σ nm e) w nm b) (hl : ¬ b.live (setSg σ nm e nm)) : Step σ H w nm [(nm, b)] (setSg σ nm e) w where
  keep := setSg_agree _ _ _
  os := rfl
  tape := rfl
  output := rfl
  size := Nat.le_refl _
  frame := fun j hj _ => rfl
  uniq := List.pairwise_singleton _ _
  sat := fun k b' h => by
    rw [look_one] at h
    split at h
    · rename_i hk; subst hk; simp only [Option.some.injEq] at h; subst h; exact hs
    · cases h
  dis := fun k b k' b' h _ h' _ hne => by
    rw [look_one] at h h'
    split at h <;> split at h' <;> simp_all
  src := src_of (setSg_agree _ _ _) (fun k b h hk => by
      rw [look_one] at h
      split at h
      · rename_i e'; subst e'; rw [off_self] at hk; cases hk
      · cases h)
    (fun k b h hk hl' => by
      rw [look_one] at h
      split at h
      · rename_i e'; subst e'; simp only [Option.some.injEq] at h; subst h; exact absurd hl' hl
      · cases h)

end Go.Ev
end

section
namespace Go.Ev
open Go.RowKit
variable {P : Program} {σ : Sg} {H : Heap} {w : World} {nm : Nat}

/-- what a run of an operation gives -/
def Gives (P : Program) (ρ : Operand → Value) (o : Oper) (σ : Sg) (H : Heap) (w : World) (nm : Nat) (r : R) : Prop :=
  ∃ σ' w', ((execOp ρ o).run P w = .ok (.value (den σ' r.sv)) w' ∨ ((execOp ρ o).run P w = .ok .skip w' ∧ r.sv = .val undef)) ∧ Step σ H w nm r.upd σ' w'

theorem Gives.pure {ρ : Operand → Value} {o : Oper} {r : R} (hu : r.upd = []) (h : (execOp ρ o).run P w = .ok (.value (den σ r.sv)) w) : Gives P ρ o σ H w nm r :=
  ⟨σ, w, .inl h, hu ▸ Step.none σ H w nm⟩

theorem run_underlying' {t : TypeId} {d : TypeDesc} (h : P.underlying t = some d) (w : World) : (underlying t).run P w = .ok d w := run_underlying h w
theorem run_typeInfo' {t : TypeId} {i : TypeInfo} (h : P.info? t = some i) (w : World) : (typeInfo t).run P w = .ok i w := by simp [typeInfo, h]
theorem run_sizeOf' {t : TypeId} {i : TypeInfo} (h : P.info? t = some i) (w : World) : (sizeOf t).run P w = .ok i.size w := by simp [sizeOf, run_typeInfo' h]
theorem run_zeroValue' {t : TypeId} {i : TypeInfo} {z : Value} (h : P.info? t = some i) (hz : i.zero = some z) (w : World) : (zeroValue t).run P w = .ok z w := by simp [zeroValue, run_typeInfo' h, hz]
theorem run_isAgg' {t : TypeId} {d : TypeDesc} (h : P.underlying t = some d) (w : World) : (isAgg t).run P w = .ok (isAggD d) w := by
  cases d <;> simp [isAgg, run_underlying' h, isAggD]

theorem addr_add (b o j : Nat) : (⟨b, o, Option.none⟩ : Addr).add j = ⟨b, o + j, Option.none⟩ := by unfold Addr.add; split <;> simp_all

/-! ### values -/
theorem den_ofVal (σ : Sg) (v : Value) : den σ (ofVal v) = v := by
  cases v <;> simp [ofVal, den]
theorem denL_ofVals (σ : Sg) (l : List Value) : denL σ (ofVals l) = l := by
  induction l with
  | nil => rfl
  | cons v r ih => simp [ofVals, denL, den_ofVal, ih]
theorem den_ofConst (σ : Sg) (v : Value) : den σ (ofConst v) = v := by
  cases v with
  | agg cs => simp [ofConst, den, denL_ofVals]
  | _ => simp [ofConst, den_ofVal]
theorem ofVals_length (l : List Value) : (ofVals l).length = l.length := by
  induction l with
  | nil => rfl
  | cons v r ih => simp [ofVals, ih]

theorem one_cells {s : SV} (h : s.cells.all SV.one = true) : (den σ s).cells = (denL σ s.cells).toArray := by
  cases s <;> first | (simp [SV.cells, den, denL, Value.cells]; done) | skip
  case any => simp [SV.cells, SV.one] at h
  case val v =>
    simp only [SV.cells, List.all_cons, List.all_nil, Bool.and_true, SV.one] at h
    cases v <;> simp_all [Value.oneCell', SV.cells, den, denL, Value.cells]

theorem one_oneCell {s : SV} (h : s.one = true) : (den σ s).oneCell' = true := by
  cases s <;> simp_all [SV.one, den, Value.oneCell']

theorem ones_oneCell {l : List SV} (h : l.all SV.one = true) : ∀ v ∈ denL σ l, v.oneCell' = true := by
  intro v hv
  rw [denL_map] at hv
  obtain ⟨s, hs, rfl⟩ := List.mem_map.1 hv
  exact one_oneCell (List.all_eq_true.1 h s hs)

/-! ### load -/
theorem cell_cells {k : Nat} {l : List SV} (h : bsat σ w k (.cells l)) (i : Nat) : w.cell? ⟨(σ k).blk, i, Option.none⟩ = (denL σ l)[i]? := by
  obtain ⟨_, _, _, ty, fz, hh, _⟩ := h
  simp [World.cell?, hh]

theorem getElem?_denL (l : List SV) (i : Nat) : (denL σ l)[i]? = (l[i]?).map (den σ) := by simp [denL_map]

theorem ld_sound {t : TypeId} {k r c : Nat} {b : Blk} {x : R} (h : ldC P t b r c = some x) (hn : allB x.need = true) (hb : bsat σ w k b) :
    (loadVar t ⟨(σ k).blk, (σ k).off + (r * (σ k).w + c), Option.none⟩).run P w = .ok (den σ x.sv) w ∧ x.upd = [] := by
  unfold ldC at h
  split at h
  · rename_i d i hd hi
    have hag := run_isAgg' hd w
    split at h
    · rename_i l hagd
      split at h
      · rename_i hbnd
        simp only [Option.some.injEq] at h; subst h
        simp only [Bool.and_eq_true, Nat.ble_eq] at hbnd
        obtain ⟨hr0, hlen⟩ := hbnd
        have hr0 := Nat.eq_of_beq_eq_true hr0
        subst hr0
        obtain ⟨_, hoff, _, _⟩ := id hb
        refine ⟨?_, rfl⟩
        have hl := run_loadCells_list (P := P) w ⟨(σ k).blk, (σ k).off + (0 * (σ k).w + c), Option.none⟩ (denL σ ((l.drop c).take i.size)) (fun j v hj => by
          rw [addr_add, hoff, cell_cells hb, ← hj, getElem?_denL, getElem?_denL]
          rw [getElem?_denL, List.getElem?_take] at hj
          split at hj
          · rename_i hlt
            rw [List.getElem?_take, if_pos hlt, List.getElem?_drop]
            congr 2
            omega
          · simp at hj)
        rw [denL_length, List.length_take, List.length_drop, Nat.min_eq_left (by omega)] at hl
        rw [Nat.zero_mul, Nat.zero_add] at hl ⊢
        simp [loadVar, hag, hagd, run_sizeOf' hi, hl, den]
      · cases h
    · rename_i n cols rw hagd
      split at h
      · rename_i hbnd
        simp only [Option.some.injEq] at h; subst h
        simp only [Nat.ble_eq] at hbnd
        simp only [allB, Bool.and_true, Nat.blt_eq] at hn
        obtain ⟨hw, _, _, hcell, _⟩ := id hb
        refine ⟨?_, rfl⟩
        have hl := run_loadCells_list (P := P) w ⟨(σ k).blk, (σ k).off + (r * (σ k).w + c), Option.none⟩ (denL σ (getCols ((cols.drop c).take i.size) r)) (fun j v hj => by
          rw [addr_add]
          rw [getElem?_denL] at hj
          simp only [getCols, List.getElem?_map, List.getElem?_take] at hj
          split at hj
          · rw [List.getElem?_drop] at hj
            cases hc : cols[c + j]? with
            | none => rw [hc] at hj; simp at hj
            | some col =>
              rw [hc] at hj
              simp only [Option.map_some, Option.some.injEq] at hj
              have := hcell r (c + j) col hn hc
              rw [show (σ k).off + (r * (σ k).w + c) + j = (σ k).off + (r * (σ k).w + (c + j)) by omega, this, hj]
          · simp at hj)
        simp only [denL_length, getCols, List.length_map, List.length_take, List.length_drop] at hl
        rw [Nat.min_eq_left (by omega)] at hl
        simp [loadVar, hag, hagd, run_sizeOf' hi, getCols, hl, den]
      · cases h
    · rename_i l hagd
      split at h
      · rename_i sv hr hsv
        simp only [Option.some.injEq] at h; subst h
        have hr' := Nat.eq_of_beq_eq_true hr
        subst hr'
        obtain ⟨_, hoff, _, _⟩ := id hb
        refine ⟨?_, rfl⟩
        have hc := cell_cells hb c
        rw [getElem?_denL, hsv, Option.map_some] at hc
        simp [loadVar, hag, hagd, hoff, hc]
      · cases h
    · rename_i n cols rw hagd
      split at h
      · rename_i col hcol
        simp only [Option.some.injEq] at h; subst h
        simp only [allB, Bool.and_true, Nat.blt_eq] at hn
        obtain ⟨hw, _, _, hcell, _⟩ := id hb
        refine ⟨?_, rfl⟩
        simp [loadVar, hag, hagd, hcell r c col hn hcol]
      · cases h
    · cases h
    · cases h
    · cases h
  · cases h


/-! ### store -/
/-- cells of one block are written, the rest of memory is as it was -/
structure Wrote (w : World) (g : Nat) (o : Obj) (w' : World) : Prop where
  os : w'.os = w.os
  tape : w'.tape = w.tape
  output : w'.output = w.output
  size : w'.heap.size = w.heap.size
  at_ : w'.heap[g]? = some o
  other : ∀ j, j ≠ g → w'.heap[j]? = w.heap[j]?

theorem run_storeCells_blk (g : Nat) (ty : TypeId) (fz : Nat × Nat) : ∀ (vs : List Value) (o i : Nat) (cur : List Value) (w : World),
    w.heap[g]? = some (.cells cur.toArray ty fz) → clear fz cur.length → o + i + vs.length ≤ cur.length → (∀ v ∈ vs, v.oneCell' = true) →
    ∃ w', (storeCells ⟨g, o, Option.none⟩ vs i).run P w = .ok () w' ∧ Wrote w g (.cells (cur.take (o + i) ++ (vs ++ cur.drop (o + i + vs.length))).toArray ty fz) w'
  | [], o, i, cur, w, hg, _, _, _ => ⟨w, rfl, rfl, rfl, rfl, rfl, by simpa using hg, fun _ _ => rfl⟩
  | v :: r, o, i, cur, w, hg, hc, hl, h1 => by
    have hi : o + i < cur.length := by simp at hl; omega
    have hcell : w.cell? ⟨g, o + i, Option.none⟩ = some cur[o + i] := by simp [World.cell?, hg, hi]
    have hfro : w.frozen? ⟨g, o + i, Option.none⟩ = false := by
      obtain ⟨lo, hi'⟩ := fz
      simpa [World.frozen?, hg] using hc (o + i) hi
    have hst : (store ((⟨g, o, Option.none⟩ : Addr).add i) v).run P w = .ok () (w.setCell ⟨g, o + i, Option.none⟩ v) := by
      rw [addr_add, run_store P w _ v _ (h1 v (by simp)), hcell]
      simp [hfro]
    have hg' : (w.setCell ⟨g, o + i, Option.none⟩ v).heap[g]? = some (.cells (cur.set (o + i) v).toArray ty fz) := by
      simp only [World.setCell, Array.getElem?_modify, if_true, hg, Option.map_some]
      simp
    obtain ⟨w', hrun, hw⟩ := run_storeCells_blk g ty fz r o (i + 1) (cur.set (o + i) v) _ hg' (by simpa using hc) (by simp at hl ⊢; omega) (fun x hx => h1 x (by simp [hx]))
    refine ⟨w', ?_, ?_⟩
    · simp only [storeCells, Sem.run_bind, hst, Result.andThen_ok, hrun]
    · obtain ⟨a1, a2, a3, a4, a5, a6⟩ := hw
      refine ⟨a1, a2, a3, by rw [a4]; simp, ?_, fun j hj => (a6 j hj).trans (Below.heap_setCell _ _ _ _ hj)⟩
      rw [a5]
      congr 3
      have e1 : (cur.set (o + i) v).take (o + (i + 1)) = cur.take (o + i) ++ [v] := by
        rw [show o + (i + 1) = o + i + 1 by omega, List.take_succ_eq_append_getElem (by simpa using hi)]
        simp [List.take_set_of_le]
      have e2 : (cur.set (o + i) v).drop (o + (i + 1) + r.length) = cur.drop (o + i + (v :: r).length) := by
        rw [List.drop_set_of_lt (by omega)]
        congr 1
        simp
        omega
      rw [e1, e2]
      simp

theorem segSet_eq : ∀ (l : List SV) (c : Nat) (vs : List SV), c + vs.length ≤ l.length → segSet l c vs = l.take c ++ (vs ++ l.drop (c + vs.length))
  | [], c, vs, h => by
    have h1 : c = 0 := by simp at h; omega
    have h2 : vs = [] := by cases vs; rfl; simp at h
    subst h1 h2; rfl
  | x :: l, c + 1, vs, h => by
    simp only [segSet, List.take_succ_cons, List.cons_append, List.cons.injEq, true_and]
    rw [segSet_eq l c vs (by simp at h; omega), show c + 1 + vs.length = (c + vs.length) + 1 by omega, List.drop_succ_cons]
  | x :: l, 0, v :: vs, h => by
    simp only [segSet, List.take_zero, List.nil_append, List.length_cons, List.cons_append, List.cons.injEq, true_and]
    rw [segSet_eq l 0 vs (by simp at h ⊢; omega)]
    simp
  | x :: l, 0, [], _ => by simp [segSet]

theorem segSet_length (l : List SV) (c : Nat) (vs : List SV) : (segSet l c vs).length = l.length := by
  induction l generalizing c vs with
  | nil => cases c <;> cases vs <;> rfl
  | cons x l ih => cases c <;> cases vs <;> simp [segSet, ih]

/-- the step of a store into one block -/
theorem Step.wrote {k : Nat} {b b' : Blk} {o : Obj} {w' : World} (hk : look H k = some b) (hH : hal (off nm) H = true) (hb : b.ow (σ k))
    (hw : Wrote w (σ k).blk o w') (hs : bsat σ w' k b') : Step σ H w nm [(k, b')] σ w' where
  keep := Agree.refl _ _
  os := hw.os
  tape := hw.tape
  output := hw.output
  size := Nat.le_of_eq hw.size.symm
  frame := fun j _ hj => hw.other j (hj k b (by rw [look_one]; simp) hk hb)
  uniq := List.pairwise_singleton _ _
  sat := fun i c hi => by
    rw [look_one] at hi
    split at hi
    · rename_i e; subst e; simp only [Option.some.injEq] at hi; subst hi; exact hs
    · cases hi
  dis := fun i c i' c' h _ h' _ hne => by
    rw [look_one] at h h'
    split at h <;> split at h' <;> simp_all
  src := src_of (Agree.refl _ _) (fun i c hi _ _ => by
      rw [look_one] at hi
      split at hi
      · rename_i e; subst e; exact ⟨b, hk, Blk.live_of_rw hb, fun _ => hb⟩
      · cases hi)
    (fun i c hi hoff _ => by
      rw [look_one] at hi
      split at hi
      · rename_i e; subst e; rw [(hal_look hH hk).1] at hoff; cases hoff
      · cases hi)

theorem den_col_set {col col' : Col} {r : Nat} {v : SV} (h : col.set r v = some col') (i : Nat) : den σ (col'.get i) = if i = r then den σ v else den σ (col.get i) := by
  unfold Col.set at h
  split at h
  · split at h
    · rename_i hk
      have hk := of_decide_eq_true hk
      simp only [Option.some.injEq] at h; subst h; subst hk
      simp only [Col.get, den, upd]
      by_cases hi : i = r
      · subst hi; simp
      · have : Nat.beq i r = false := by cases hb : Nat.beq i r with | true => exact absurd (Nat.eq_of_beq_eq_true hb) hi | false => rfl
        simp [hi, this]
    · cases h
  · simp only [Option.some.injEq] at h; subst h
    simp only [Col.get, den, upd]
    by_cases hi : i = r
    · subst hi; simp
    · have : Nat.beq i r = false := by cases hb : Nat.beq i r with | true => exact absurd (Nat.eq_of_beq_eq_true hb) hi | false => rfl
      simp [hi, this]
  · simp only [Option.some.injEq] at h; subst h
    simp only [Col.get, den, upd]
    by_cases hi : i = r
    · subst hi; simp
    · have : Nat.beq i r = false := by cases hb : Nat.beq i r with | true => exact absurd (Nat.eq_of_beq_eq_true hb) hi | false => rfl
      simp [hi, this]
  · cases h

theorem setCols_length : ∀ (vs : List SV) (cols cols' : List Col) (c r : Nat), setCols cols c r vs = some cols' → cols'.length = cols.length
  | [], cols, cols', c, r, h => by simp only [setCols, Option.some.injEq] at h; subst h; rfl
  | v :: vs, cols, cols', c, r, h => by
    simp only [setCols] at h
    split at h
    · split at h
      · rw [setCols_length vs _ cols' (c + 1) r h]; simp
      · cases h
    · cases h

theorem setCols_at : ∀ (vs : List SV) (cols cols' : List Col) (c r : Nat), setCols cols c r vs = some cols' → ∀ (j i : Nat) (col' : Col), cols'[j]? = some col' →
    ∃ col, cols[j]? = some col ∧ den σ (col'.get i) = if i = r ∧ c ≤ j ∧ j < c + vs.length then den σ (vs.getD (j - c) .any) else den σ (col.get i)
  | [], cols, cols', c, r, h, j, i, col', hj => by
    simp only [setCols, Option.some.injEq] at h; subst h
    exact ⟨col', hj, by rw [if_neg (by rw [List.length_nil]; omega)]⟩
  | v :: vs, cols, cols', c, r, h, j, i, col', hj => by
    simp only [setCols] at h
    split at h
    · rename_i col hcol
      split at h
      · rename_i colv hcolv
        obtain ⟨col1, h1, h2⟩ := setCols_at vs _ cols' (c + 1) r h j i col' hj
        by_cases hjc : c = j
        · subst hjc
          have hlt : c < cols.length := (List.getElem?_eq_some_iff.1 hcol).1
          rw [List.getElem?_set_self hlt] at h1
          simp only [Option.some.injEq] at h1
          subst h1
          refine ⟨col, hcol, ?_⟩
          rw [h2, if_neg (by omega), den_col_set hcolv]
          by_cases hi : i = r
          · simp [hi]
          · simp [hi]
        · rw [List.getElem?_set_ne hjc] at h1
          refine ⟨col1, h1, ?_⟩
          rw [h2]
          by_cases hc : i = r ∧ c + 1 ≤ j ∧ j < c + 1 + vs.length
          · rw [if_pos hc, if_pos ⟨hc.1, by omega, by simp; omega⟩]
            have : j - c = (j - (c + 1)) + 1 := by omega
            rw [this]
            simp
          · rw [if_neg hc, if_neg (by rw [List.length_cons]; omega)]
      · cases h
    · cases h

theorem setCols_le (r : Nat) : ∀ (vs : List SV) (cols cols' : List Col) (c : Nat), setCols cols c r vs = some cols' → 0 < vs.length → c + vs.length ≤ cols.length
  | [], _, _, _, _, h => by simp at h
  | y :: ys, cols, cols', c, h, _ => by
    simp only [setCols] at h
    split at h
    · rename_i col hcol
      have hlt : c < cols.length := (List.getElem?_eq_some_iff.1 hcol).1
      split at h
      · cases ys with
        | nil => simp; omega
        | cons z zs =>
          have := setCols_le r _ _ cols' (c + 1) h (by simp)
          simp at this ⊢
          omega
      · cases h
    · cases h

theorem st_sound {t : TypeId} {k r c : Nat} {b : Blk} {v : SV} {x : R} (h : stC P t k b r c v = some x) (hn : allB x.need = true) (hk : look H k = some b) (hH : hal (off nm) H = true) (hb : bsat σ w k b) :
    ∃ w', (storeVar t ⟨(σ k).blk, (σ k).off + (r * (σ k).w + c), Option.none⟩ (den σ v)).run P w = .ok () w' ∧ x.sv = .val undef ∧ Step σ H w nm x.upd σ w' := by
  unfold stC at h
  split at h
  · rename_i i hi
    split at h
    · rename_i l hbnd
      simp only [Bool.and_eq_true] at hbnd
      obtain ⟨hsz, hone⟩ := hbnd
      have hsz := Nat.eq_of_beq_eq_true hsz
      split at h
      · rename_i hb2
        simp only [Bool.and_eq_true, Nat.ble_eq] at hb2
        obtain ⟨hr, hlen⟩ := hb2
        have hr := Nat.eq_of_beq_eq_true hr
        subst hr
        simp only [Option.some.injEq] at h; subst h
        obtain ⟨h1, hoff, hw', ty, fz, hh, hc⟩ := id hb
        have hcells := one_cells (σ := σ) hone
        obtain ⟨w', hrun, hwr⟩ := run_storeCells_blk (P := P) (σ k).blk ty fz (denL σ v.cells) c 0 (denL σ l) w hh (by rw [denL_length]; exact hc) (by rw [denL_length, denL_length]; omega) (ones_oneCell hone)
        refine ⟨w', ?_, rfl, ?_⟩
        · simp only [storeVar, Sem.run_bind, run_sizeOf' hi, Result.andThen_ok, hcells, List.size_toArray, denL_length, hsz, ne_eq, not_true_eq_false, if_false, hoff]
          simpa using hrun
        · refine Step.wrote hk hH trivial hwr ⟨h1, hoff, by rw [segSet_length]; exact hw', ty, fz, ?_, by rw [segSet_length]; exact hc⟩
          rw [hwr.at_]
          congr 3
          rw [segSet_eq l c v.cells hlen]
          simp [denL_map]
      · cases h
    · rename_i n cols hbnd
      simp only [Bool.and_eq_true] at hbnd
      obtain ⟨hsz, hone⟩ := hbnd
      have hsz := Nat.eq_of_beq_eq_true hsz
      split at h
      · rename_i cols' hset hpos
        simp only [Option.some.injEq] at h; subst h
        simp only [allB, Bool.and_true, Nat.blt_eq] at hn hpos
        obtain ⟨hw', hcap, hnil, hcell, hrw⟩ := id hb
        have hcp : 0 < (σ k).cap := by omega
        obtain ⟨hnil', hoff, arr, ty, fz, hh, hasz, hcl⟩ := hrw rfl hcp
        have hcells := one_cells (σ := σ) hone
        have hlen' := setCols_length _ _ _ _ _ hset
        have hcw := setCols_le _ _ _ _ _ hset hpos
        have hrow : (r + 1) * cols.length ≤ arr.size := Nat.le_trans (Nat.mul_le_mul_right _ (by omega)) hasz
        rw [Nat.succ_mul] at hrow
        have hfit' : r * cols.length + c + 0 + v.cells.length ≤ arr.size := by omega
        have hfit : r * cols.length + c + 0 + v.cells.length ≤ arr.toList.length := hfit'
        have hal : arr.toList.length = arr.size := rfl
        obtain ⟨w', hrun, hwr⟩ := run_storeCells_blk (P := P) (σ k).blk ty fz (denL σ v.cells) (r * cols.length + c) 0 arr.toList w (by simpa using hh) (by simpa using hcl) (by rw [denL_length]; exact hfit) (ones_oneCell hone)
        refine ⟨w', ?_, rfl, ?_⟩
        · simp only [storeVar, Sem.run_bind, run_sizeOf' hi, Result.andThen_ok, hcells, List.size_toArray, denL_length, hsz, ne_eq, not_true_eq_false, if_false, hoff, hw', Nat.zero_add]
          simpa using hrun
        · have hat := hwr.at_
          simp only [Nat.add_zero, denL_length] at hat
          refine Step.wrote hk hH ⟨rfl, hcp⟩ hwr ⟨by rw [hw', hlen'], hcap, hnil, fun r' j col' hr' hj => ?_, fun _ _ => ⟨hnil', hoff, _, ty, fz, hat, ?_, ?_⟩⟩
          · obtain ⟨col, hcol, hval⟩ := setCols_at (σ := σ) _ _ _ _ _ hset j r' col' hj
            have hjw : j < cols.length := (List.getElem?_eq_some_iff.1 hcol).1
            have hold := hcell r' j col hr' hcol
            rw [hoff, hw'] at hold ⊢
            simp only [World.cell?, hh, Nat.zero_add] at hold
            simp only [World.cell?, hat, Nat.zero_add]
            rw [hval]
            simp only [Option.isSome_none, Bool.false_eq_true, if_false, List.getElem?_toArray] at hold ⊢
            rw [← Array.getElem?_toList] at hold
            by_cases hin : r' = r ∧ c ≤ j ∧ j < c + v.cells.length
            · obtain ⟨rfl, hcj, hjc⟩ := hin
              rw [if_pos ⟨rfl, hcj, hjc⟩]
              rw [List.getElem?_append_right (by rw [List.length_take]; omega), List.getElem?_append_left (by rw [List.length_take, denL_length, Nat.min_eq_left (by omega)]; omega)]
              rw [List.length_take, Nat.min_eq_left (by omega), getElem?_denL, show r' * cols.length + j - (r' * cols.length + c) = j - c by omega]
              have hlt : j - c < v.cells.length := by omega
              simp [List.getElem?_eq_getElem hlt]
            · rw [if_neg hin]
              have hside : r' * cols.length + j < r * cols.length + c ∨ r * cols.length + c + v.cells.length ≤ r' * cols.length + j := by
                rcases Nat.lt_trichotomy r' r with hlt | rfl | hgt
                · left
                  have := Nat.mul_le_mul_right cols.length (show r' + 1 ≤ r by omega)
                  rw [Nat.succ_mul] at this
                  omega
                · omega
                · right
                  have := Nat.mul_le_mul_right cols.length (show r + 1 ≤ r' by omega)
                  rw [Nat.succ_mul] at this
                  omega
              rcases hside with hlo | hhi
              · rw [List.getElem?_append_left (by rw [List.length_take]; omega), List.getElem?_take, if_pos hlo]
                exact hold
              · rw [List.getElem?_append_right (by rw [List.length_take]; omega), List.getElem?_append_right (by rw [List.length_take, denL_length, Nat.min_eq_left (by omega)]; omega)]
                rw [List.length_take, Nat.min_eq_left (by omega), denL_length, List.getElem?_drop]
                rw [← hold]
                congr 1
                omega
          · rw [hlen']
            simp only [List.size_toArray, List.length_append, List.length_take, List.length_drop, denL_length]
            omega
          · have : (List.take (r * cols.length + c) arr.toList ++ (denL σ v.cells ++ List.drop (r * cols.length + c + v.cells.length) arr.toList)).toArray.size = arr.size := by
              simp only [List.size_toArray, List.length_append, List.length_take, List.length_drop, denL_length]
              omega
            rw [this]
            exact hcl
      · cases h
    · cases h
  · cases h

end Go.Ev
end

section
namespace Go.Ev
open Go.RowKit
variable {P : Program} {σ : Sg} {H : Heap} {w : World} {nm : Nat}

/-- what the run of an instruction gives -/
def Runs (P : Program) (s : Sem Value) (σ : Sg) (H : Heap) (w : World) (nm : Nat) (r : R) : Prop :=
  ∃ σ' w', s.run P w = .ok (den σ' r.sv) w' ∧ Step σ H w nm r.upd σ' w'

theorem Runs.pure {s : Sem Value} {r : R} (hu : r.upd = []) (h : s.run P w = .ok (den σ r.sv) w) : Runs P s σ H w nm r :=
  ⟨σ, w, h, hu ▸ Step.none σ H w nm⟩

theorem Runs.new {s : Sem Value} {r : R} {b : Blk} {o : Obj} {e : Ent} (hu : r.upd = [(nm, b)]) (he : e.blk = w.heap.size)
    (hb : bsat (setSg σ nm e) (w.alloc o) nm b) (h : s.run P w = .ok (den (setSg σ nm e) r.sv) (w.alloc o)) : Runs P s σ H w nm r :=
  ⟨_, _, h, hu ▸ Step.new he hb⟩

theorem alloc_heap (w : World) (o : Obj) : (w.alloc o).heap[w.heap.size]? = some o := by simp [World.alloc, -World.alloc_eq]

theorem clear_zero (n : Nat) : clear (0, 0) n := fun _ _ => by simp

/-- a new block of cells -/
theorem bsat_new {l : List SV} {t : TypeId} (cs : Array Value) (hl : denL σ l = cs.toList) (hal : SV.alL (off nm) l = true) :
    bsat (setSg σ nm ⟨w.heap.size, 0, l.length, 1, false⟩) (w.alloc (.cells cs t)) nm (.cells l) := by
  simp only [bsat, setSg_same]
  refine ⟨trivial, trivial, trivial, t, (0, 0), ?_, clear_zero _⟩
  rw [alloc_heap, denL_congr (setSg_agree σ nm _) l hal, hl]

theorem alloc_sound {t : TypeId} {r : R} (h : allocC P nm t = some r) : Runs P (Instr.alloc t true (.tuple #[])) σ H w nm r := by
  unfold allocC at h
  split at h
  · rename_i i hi
    split at h
    · rename_i z hz
      split at h
      · rename_i hone
        simp only [Option.some.injEq] at h; subst h
        refine Runs.new rfl rfl (bsat_new (t := t) z.cells (denL_ofVals σ _) ?_) ?_
        · clear hz hone
          generalize z.cells.toList = l
          induction l with
          | nil => rfl
          | cons v r ih => simp only [ofVals, SV.alL, ih, Bool.and_true]; cases v <;> rfl
        · simp [Instr.alloc, run_zeroValue' hi hz, newVar, newRow, den, setSg_same]
      · cases h
    · cases h
  · cases h

theorem alL_cells {p : Nat → Bool} {s : SV} (h : s.al p = true) : SV.alL p s.cells = true := by
  cases s <;> simp_all [SV.cells, SV.al, SV.alL]

theorem box_sound {t : TypeId} {x : List (SV × Option Blk)} {r : R} (h : boxC nm x = some r) (hal : ∀ y ∈ x, y.1.al (off nm) = true) {v : Value} (hv : [v] = x.map fun y => den σ y.1) :
    Runs P (Instr.box t v) σ H w nm r := by
  unfold boxC at h
  split at h
  · rename_i s _
    split at h
    · rename_i hone
      simp only [Option.some.injEq] at h; subst h
      simp only [List.map_cons, List.map_nil, List.cons.injEq, and_true] at hv
      subst hv
      refine Runs.new rfl rfl (bsat_new (t := t) (den σ s).cells (by rw [one_cells hone]) (alL_cells (hal _ (List.mem_singleton.2 rfl)))) ?_
      simp [Instr.box, newVar, newRow, den, setSg_same]
    · cases h
  · cases h

/-! ### build -/
theorem foldSet (off : Nat) : ∀ (vs : List Value) (k : Nat) (l : List Value), off + k + vs.length ≤ l.length →
    (vs.zipIdx k).foldl (fun cs x => cs.setIfInBounds (off + x.2) x.1) l.toArray = (l.take (off + k) ++ (vs ++ l.drop (off + k + vs.length))).toArray
  | [], k, l, _ => by simp
  | v :: vs, k, l, h => by
    have hi : off + k < l.length := by simp at h; omega
    simp only [List.zipIdx_cons, List.foldl_cons, List.setIfInBounds_toArray]
    rw [foldSet off vs (k + 1) (l.set (off + k) v) (by simp at h ⊢; omega)]
    congr 1
    have e1 : (l.set (off + k) v).take (off + (k + 1)) = l.take (off + k) ++ [v] := by
      rw [show off + (k + 1) = off + k + 1 by omega, List.take_succ_eq_append_getElem (by simpa using hi)]
      simp [List.take_set_of_le]
    have e2 : (l.set (off + k) v).drop (off + (k + 1) + vs.length) = l.drop (off + k + (v :: vs).length) := by
      rw [List.drop_set_of_lt (by omega)]
      congr 1
      simp
      omega
    rw [e1, e2]
    simp

theorem fill_sound (place : Nat → Option (Nat × Nat)) : ∀ (ps : List (Nat × SV)) (l l' : List SV), fillC place ps l = some l' →
    Instr.fill place (denL σ l).toArray (ps.map fun x => (x.1, den σ x.2)) = some (denL σ l').toArray ∧ l'.length = l.length
  | [], l, l', h => by simp only [fillC, Option.some.injEq] at h; subst h; exact ⟨rfl, rfl⟩
  | (i, v) :: r, l, l', h => by
    simp only [fillC] at h
    split at h
    · rename_i off size hp
      split at h
      · rename_i hb
        simp only [Bool.and_eq_true, Nat.ble_eq] at hb
        obtain ⟨⟨hsz, hle⟩, hone⟩ := hb
        have hsz := Nat.eq_of_beq_eq_true hsz
        obtain ⟨h1, h2⟩ := fill_sound place r _ l' h
        refine ⟨?_, by rw [h2, segSet_length]⟩
        have hc := one_cells (σ := σ) hone
        simp only [List.map_cons, Instr.fill, hp, hc, List.size_toArray, denL_length, hsz]
        have hn : ¬ (off + size > l.length) := by omega
        simp only [ne_eq, not_true_eq_false, decide_false, Bool.false_or, hn]
        rw [← h1, segSet_eq l off v.cells (by omega)]
        congr 1
        have := foldSet off (denL σ v.cells) 0 (denL σ l) (by rw [denL_length, denL_length]; omega)
        simp only [Nat.add_zero, denL_length] at this
        rw [← Array.foldl_toList]
        simp only [Array.toList_zipIdx]
        rw [this]
        simp [denL_map, hsz]
      · cases h
    · cases h

theorem zip_map_den (ix : List Nat) (x : List (SV × Option Blk)) : (ix.zip (x.map (·.1))).map (fun y => (y.1, den σ y.2)) = ix.zip (x.map fun y => den σ y.1) := by
  induction ix generalizing x with
  | nil => rfl
  | cons i ix ih => cases x <;> simp [ih]

theorem places_sound (w : World) : ∀ (fs : List Field) (pl : List (Nat × Nat)), places P fs = some pl →
    (fs.mapM fun f => do pure (f.offset, ← sizeOf f.type) : Sem (List (Nat × Nat))).run P w = .ok pl w
  | [], pl, h => by simp only [places, Option.some.injEq] at h; subst h; rfl
  | f :: r, pl, h => by
    simp only [places] at h
    split at h
    · rename_i i l hi hl
      simp only [Option.some.injEq] at h; subst h
      have ih := places_sound w r l hl
      simp only [List.mapM_cons, Sem.run_bind, run_sizeOf' hi, Result.andThen_ok, Sem.run_pure, ih]
    · cases h

theorem build_sound {t : TypeId} {ix : List Nat} {x : List (SV × Option Blk)} {r : R} (h : buildC P t ix x = some r) (parts : Array (Nat × Value)) (hp : parts.toList = ix.zip (x.map fun y => den σ y.1)) :
    Runs P (Instr.build t parts) σ H w nm r := by
  unfold buildC at h
  split at h
  · rename_i i hi
    split at h
    · rename_i z hz
      split at h
      · rename_i fs hd
        split at h
        · rename_i pl hpl
          split at h
          · rename_i l hl
            simp only [Option.some.injEq] at h; subst h
            refine Runs.pure rfl ?_
            have hf := (fill_sound (σ := σ) _ _ _ _ hl).1
            rw [zip_map_den, denL_ofVals, ← hp] at hf
            have hm := places_sound (P := P) w fs.toList pl hpl
            have hm' : (fs.mapM fun f => do pure (f.offset, ← sizeOf f.type) : Sem (Array (Nat × Nat))).run P w = .ok pl.toArray w := by
              rw [Array.mapM_eq_mapM_toList]
              simp only [Sem.run_map]
              rw [hm]
              rfl
            simp only [Instr.build, Sem.run_bind, run_zeroValue' hi hz, Result.andThen_ok, run_underlying' hd, hm']
            simp only [List.getElem?_toArray]
            simp only [Array.toArray_toList] at hf
            rw [hf]
            simp [den]
          · cases h
        · cases h
      · rename_i _ e hd
        split at h
        · rename_i g hg
          split at h
          · rename_i l hl
            simp only [Option.some.injEq] at h; subst h
            refine Runs.pure rfl ?_
            have hf := (fill_sound (σ := σ) _ _ _ _ hl).1
            rw [zip_map_den, denL_ofVals, ← hp] at hf
            simp only [Array.toArray_toList] at hf
            simp only [Instr.build, Sem.run_bind, run_zeroValue' hi hz, Result.andThen_ok, run_underlying' hd, run_sizeOf' hg, hf]
            simp [den]
          · cases h
        · cases h
      · cases h
    · cases h
  · cases h

/-! ### columns -/
theorem nth_get {α : Type} (l : List α) (d : α) (r : Nat) (x : α) (h : l[r]? = some x) : nth l d r = x := by simp [nth, List.getD, h]

theorem intsOf_get (k : IntKind) : ∀ (l : List SV) (q : List Int), intsOf k l = some q → q.length = l.length ∧ ∀ (r : Nat) (s : SV), l[r]? = some s → ∃ n, q[r]? = some n ∧ den σ s = .int k n
  | [], q, h => by simp only [intsOf, Option.some.injEq] at h; subst h; exact ⟨rfl, fun r s hs => by simp at hs⟩
  | x :: l, q, h => by
    unfold intsOf at h
    split at h
    · rename_i heq; cases heq
    · rename_i l' k' n r' heq
      simp only [List.cons.injEq] at heq
      obtain ⟨rfl, rfl⟩ := heq
      split at h
      · rename_i q' hk hq
        have hk := of_decide_eq_true hk
        subst hk
        simp only [Option.some.injEq] at h; subst h
        obtain ⟨h1, h2⟩ := intsOf_get k l q' hq
        refine ⟨by simp [h1], fun r s hs => ?_⟩
        cases r with
        | zero => simp at hs; subst hs; exact ⟨n, rfl, rfl⟩
        | succ r => simp only [List.getElem?_cons_succ] at hs ⊢; exact h2 r s hs
      · cases h
    · cases h

theorem boolsOf_get : ∀ (l : List SV) (q : List Bool), boolsOf l = some q → q.length = l.length ∧ ∀ (r : Nat) (s : SV), l[r]? = some s → ∃ n, q[r]? = some n ∧ den σ s = .bool n
  | [], q, h => by simp only [boolsOf, Option.some.injEq] at h; subst h; exact ⟨rfl, fun r s hs => by simp at hs⟩
  | x :: l, q, h => by
    unfold boolsOf at h
    split at h
    · rename_i heq; cases heq
    · rename_i l' n r' heq
      simp only [List.cons.injEq] at heq
      obtain ⟨rfl, rfl⟩ := heq
      split at h
      · rename_i q' hq
        simp only [Option.some.injEq] at h; subst h
        obtain ⟨h1, h2⟩ := boolsOf_get l q' hq
        refine ⟨by simp [h1], fun r s hs => ?_⟩
        cases r with
        | zero => simp at hs; subst hs; exact ⟨n, rfl, rfl⟩
        | succ r => simp only [List.getElem?_cons_succ] at hs ⊢; exact h2 r s hs
      · cases h
    · cases h

theorem strsOf_get : ∀ (l : List SV) (q : List ByteArray), strsOf l = some q → q.length = l.length ∧ ∀ (r : Nat) (s : SV), l[r]? = some s → ∃ n, q[r]? = some n ∧ den σ s = .string n
  | [], q, h => by simp only [strsOf, Option.some.injEq] at h; subst h; exact ⟨rfl, fun r s hs => by simp at hs⟩
  | x :: l, q, h => by
    unfold strsOf at h
    split at h
    · rename_i heq; cases heq
    · rename_i n r' heq
      simp only [List.cons.injEq] at heq
      obtain ⟨rfl, rfl⟩ := heq
      split at h
      · rename_i q' hq
        simp only [Option.some.injEq] at h; subst h
        obtain ⟨h1, h2⟩ := strsOf_get l q' hq
        refine ⟨by simp [h1], fun r s hs => ?_⟩
        cases r with
        | zero => simp at hs; subst hs; exact ⟨n, rfl, rfl⟩
        | succ r => simp only [List.getElem?_cons_succ] at hs ⊢; exact h2 r s hs
      · cases h
    · cases h

theorem colOf_get {l : List SV} {col : Col} (h : colOf l = some col) (r : Nat) (s : SV) (hs : l[r]? = some s) : den σ (col.get r) = den σ s := by
  unfold colOf at h
  split at h
  · split at h
    · rename_i q hq
      simp only [Option.some.injEq] at h; subst h
      obtain ⟨n, h1, h2⟩ := (intsOf_get (σ := σ) _ _ _ hq).2 r s hs
      simp only [Col.get, den, h2]
      rw [nth_get _ _ _ _ h1]
    · cases h
  · split at h
    · rename_i q hq
      simp only [Option.some.injEq] at h; subst h
      obtain ⟨n, h1, h2⟩ := (boolsOf_get (σ := σ) _ _ hq).2 r s hs
      simp only [Col.get, den, h2]
      rw [nth_get _ _ _ _ h1]
    · cases h
  · split at h
    · rename_i q hq
      simp only [Option.some.injEq] at h; subst h
      obtain ⟨n, h1, h2⟩ := (strsOf_get (σ := σ) _ _ hq).2 r s hs
      simp only [Col.get, den, h2]
      rw [nth_get _ _ _ _ h1]
    · cases h
  · cases h

theorem every_get (w : Nat) (l : List SV) : ∀ (n i r : Nat), r < n → (every w l n i)[r]? = some (l.getD (i + r * w) .any)
  | 0, _, r, h => by omega
  | n + 1, i, 0, _ => by simp [every]
  | n + 1, i, r + 1, h => by
    simp only [every, List.getElem?_cons_succ]
    rw [every_get w l n (i + w) r (by omega)]
    rw [Nat.succ_mul, show i + w + r * w = i + (r * w + w) by omega]

theorem colsOf_get (sz n : Nat) (l : List SV) : ∀ (m c : Nat) (cols : List Col), colsOf sz n l m c = some cols → cols.length = m ∧
    ∀ (j : Nat) (col : Col), cols[j]? = some col → ∀ r, r < n → den σ (col.get r) = den σ (l.getD (c + j + r * sz) .any)
  | 0, c, cols, h => by simp only [colsOf, Option.some.injEq] at h; subst h; exact ⟨rfl, fun j col hj => by simp at hj⟩
  | m + 1, c, cols, h => by
    simp only [colsOf] at h
    split at h
    · rename_i col hcol
      split at h
      · rename_i q hq
        simp only [Option.some.injEq] at h; subst h
        obtain ⟨h1, h2⟩ := colsOf_get sz n l m (c + 1) q hq
        refine ⟨by simp [h1], fun j col' hj r hr => ?_⟩
        cases j with
        | zero =>
          simp only [List.getElem?_cons_zero, Option.some.injEq] at hj; subst hj
          exact colOf_get hcol r _ (every_get sz l n c r hr)
        | succ j =>
          simp only [List.getElem?_cons_succ] at hj
          have := h2 j col' hj r hr
          rw [this, show c + 1 + j = c + (j + 1) by omega]
      · cases h
    · cases h

theorem zeroCol_get {v : Value} {col : Col} (h : zeroCol v = some col) (r : Nat) : den σ (col.get r) = v := by
  unfold zeroCol at h
  split at h
  · split at h
    · rename_i hz
      simp only [Option.some.injEq] at h; subst h
      simp only [beq_iff_eq] at hz
      simp [Col.get, den, hz]
    · cases h
  · simp only [Option.some.injEq] at h; subst h; simp [Col.get, den]
  · split at h
    · rename_i hz
      rename ByteArray => s
      simp only [Option.some.injEq] at h; subst h
      have hz := Nat.eq_of_beq_eq_true hz
      have : s = ByteArray.empty := by
        apply ByteArray.ext
        have : s.data.size = 0 := hz
        simpa using Array.eq_empty_of_size_eq_zero this
      simp [Col.get, den, this]
    · cases h
  · cases h

theorem zeroCols_get : ∀ (vs : List Value) (cols : List Col), zeroCols vs = some cols → cols.length = vs.length ∧ ∀ (j : Nat) (col : Col), cols[j]? = some col → ∀ r, some (den σ (col.get r)) = vs[j]?
  | [], cols, h => by simp only [zeroCols, Option.some.injEq] at h; subst h; exact ⟨rfl, fun j col hj => by simp at hj⟩
  | v :: vs, cols, h => by
    simp only [zeroCols] at h
    split at h
    · rename_i c cs hc hcs
      simp only [Option.some.injEq] at h; subst h
      obtain ⟨h1, h2⟩ := zeroCols_get vs cs hcs
      refine ⟨by simp [h1], fun j col hj r => ?_⟩
      cases j with
      | zero => simp only [List.getElem?_cons_zero, Option.some.injEq] at hj ⊢; subst hj; exact zeroCol_get hc r
      | succ j => simp only [List.getElem?_cons_succ] at hj ⊢; exact h2 j col hj r
    · cases h

end Go.Ev
end

section
namespace Go.Ev
open Go.RowKit
variable {P : Program} {σ : Sg} {H : Heap} {w : World} {nm : Nat}

theorem look_of_blk {s : SV} {b : Blk} {k r c : Nat} (hs : s = .ptr k r c) (h : blkOf H s = some b) : look H k = some b := by subst hs; exact h

theorem fieldPlace_run {b o : Nat} {f : Field} {i : TypeInfo} (hi : P.info? f.type = some i) (h0 : i.size ≠ 0) (w : World) :
    (fieldPlace ⟨b, o, Option.none⟩ f).run P w = .ok ⟨b, o + f.offset, Option.none⟩ w := by
  simp only [fieldPlace, Sem.run_bind, run_sizeOf' hi, Result.andThen_ok, h0, if_false, Sem.run_pure, addr_add]

theorem fieldAddr_sound {t : TypeId} {f : Nat} {x : List (SV × Option Blk)} {r : R} (h : fieldAddrC P t f x = some r) {v : Value} (hv : [v] = x.map fun y => den σ y.1) :
    Runs P (Instr.fieldAt t v f) σ H w nm r := by
  unfold fieldAddrC at h
  split at h
  · rename_i k row c _
    split at h
    · rename_i fs hd
      split at h
      · rename_i fd hf
        split at h
        · rename_i i hi
          split at h
          · cases h
          · rename_i h0
            have h0 := Nat.ne_of_beq_eq_false h0
            simp only [Option.some.injEq] at h; subst h
            simp only [List.map_cons, List.map_nil, List.cons.injEq, and_true] at hv
            subst hv
            refine Runs.pure rfl ?_
            simp only [Instr.fieldAt, Sem.run_bind, run_underlying' hd, Result.andThen_ok, hf, den, Instr.sureAddr, Sem.run_pure, fieldPlace_run hi h0]
            rw [show (σ k).off + (row * (σ k).w + c) + fd.offset = (σ k).off + (row * (σ k).w + (c + fd.offset)) by omega]
        · cases h
      · cases h
    · cases h
  · cases h

theorem part_sound {t : TypeId} {l : List SV} {off : Nat} {r : R} (h : partC P t l off = some r) : (part t (denL σ l).toArray off).run P w = .ok (den σ r.sv) w ∧ r.upd = [] := by
  unfold partC at h
  split at h
  · rename_i d i hd hi
    have hag := run_isAgg' hd w
    split at h
    · rename_i hagd
      split at h
      · rename_i hle
        simp only [Nat.ble_eq] at hle
        simp only [Option.some.injEq] at h; subst h
        refine ⟨?_, rfl⟩
        simp only [part, Sem.run_bind, hag, hagd, Result.andThen_ok, if_true, run_sizeOf' hi, Sem.run_pure, den]
        congr 2
        apply Array.ext'
        simp [denL_map, List.extract_eq_take_drop]
      · cases h
    · rename_i hagd
      split at h
      · rename_i s hs
        simp only [Option.some.injEq] at h; subst h
        refine ⟨?_, rfl⟩
        have hcell : (denL σ l).toArray[off]? = some (den σ s) := by simp [denL_map, hs]
        simp [part, hag, hagd, hcell]
      · cases h
  · cases h

theorem field_sound {t : TypeId} {f : Nat} {x : List (SV × Option Blk)} {r : R} (h : fieldC P t f x = some r) {v : Value} (hv : [v] = x.map fun y => den σ y.1) :
    Runs P (Instr.field t v f) σ H w nm r := by
  unfold fieldC at h
  split at h
  · rename_i l _
    split at h
    · rename_i fs hd
      split at h
      · rename_i fd hf
        obtain ⟨h1, h2⟩ := part_sound (σ := σ) (w := w) h
        simp only [List.map_cons, List.map_nil, List.cons.injEq, and_true] at hv
        subst hv
        refine Runs.pure h2 ?_
        simp [Instr.field, run_underlying' hd, hf, den, asAgg, h1]
      · cases h
    · cases h
  · cases h

theorem allB_cons (b : Bool) (l : List Bool) : allB (b :: l) = (b && allB l) := rfl
theorem allB_append (l l' : List Bool) : allB (l ++ l') = (allB l && allB l') := by
  induction l with
  | nil => simp [allB]
  | cons b l ih => simp [allB, ih, Bool.and_assoc]

theorem indexAddr_sound {t : TypeId} {x : List (SV × Option Blk)} {r : R} (h : indexAddrC P t x = some r) (hn : allB r.need = true) {v i : Value} (hv : [v, i] = x.map fun y => den σ y.1)
    (hb : ∀ y ∈ x, ∀ b, y.2 = some b → blkOf H y.1 = some b) (hs : HSat σ H w) : Runs P (Instr.indexAt t v i) σ H w nm r := by
  unfold indexAddrC at h
  split at h
  · rename_i k len n cols rw _ ki i' _
    split at h
    · rename_i e hd
      split at h
      · rename_i ie hie
        split at h
        · rename_i hsz
          have hsz := Nat.eq_of_beq_eq_true hsz
          simp only [Option.some.injEq] at h; subst h
          simp only [allB, Bool.and_true, Bool.and_eq_true, decide_eq_true_eq, Nat.blt_eq] at hn
          simp only [List.map_cons, List.map_nil, List.cons.injEq, and_true] at hv
          obtain ⟨rfl, rfl⟩ := hv
          have hbk : look H k = some (.tab n cols rw) := hb (.sl k len, some (.tab n cols rw)) (List.mem_cons_self ..) _ rfl
          obtain ⟨hw, hcap, hnil, _, _⟩ := hs.sat k _ hbk
          have hnn : (σ k).nil = false := by
            cases hq : (σ k).nil with
            | false => rfl
            | true => have := hnil hq; omega
          refine Runs.pure rfl ?_
          simp only [Instr.indexAt, Sem.run_bind, den, asIntOf, Sem.run_pure, Result.andThen_ok, run_underlying' hd, hnn, Bool.false_eq_true, if_false]
          have hcond : 0 ≤ i' ∧ i' < (len : Int) := ⟨hn.1, hn.2.1⟩
          simp only [hcond, if_true, Sem.run_bind, run_sizeOf' hie, Result.andThen_ok, Sem.run_pure, addr_add, hsz, hw, Nat.add_zero, and_self]
        · cases h
      · cases h
    · cases h
  · rename_i k len l ki i' _
    split at h
    · rename_i e hd
      split at h
      · rename_i ie hie
        split at h
        · rename_i hbd
          simp only [Bool.and_eq_true, decide_eq_true_eq] at hbd
          simp only [Option.some.injEq] at h; subst h
          simp only [List.map_cons, List.map_nil, List.cons.injEq, and_true] at hv
          obtain ⟨rfl, rfl⟩ := hv
          have hbk : look H k = some (.cells l) := hb (.sl k len, some (.cells l)) (List.mem_cons_self ..) _ rfl
          obtain ⟨hnn, _⟩ := hs.sat k _ hbk
          refine Runs.pure rfl ?_
          simp only [Instr.indexAt, Sem.run_bind, den, asIntOf, Sem.run_pure, Result.andThen_ok, run_underlying' hd, hnn, Bool.false_eq_true, if_false]
          simp only [hbd, if_true, Sem.run_bind, run_sizeOf' hie, Result.andThen_ok, Sem.run_pure, addr_add, Nat.zero_mul, Nat.zero_add, and_self]
        · cases h
      · cases h
    · cases h
  · rename_i k row c _ ki i' _
    split at h
    · rename_i m e hd
      split at h
      · rename_i ie hie
        split at h
        · rename_i hbd
          simp only [Bool.and_eq_true, decide_eq_true_eq] at hbd
          simp only [Option.some.injEq] at h; subst h
          simp only [List.map_cons, List.map_nil, List.cons.injEq, and_true] at hv
          obtain ⟨rfl, rfl⟩ := hv
          refine Runs.pure rfl ?_
          simp only [Instr.indexAt, Sem.run_bind, den, asIntOf, Sem.run_pure, Result.andThen_ok, run_underlying' hd, Instr.sureAddr, hbd, if_true, run_sizeOf' hie, addr_add, and_self]
          rw [show (σ k).off + (row * (σ k).w + c) + i'.toNat * ie.size = (σ k).off + (row * (σ k).w + (c + i'.toNat * ie.size)) by omega]
        · cases h
      · cases h
    · cases h
  · cases h

theorem chr_get {s : ByteArray} {i : Nat} (h : i < s.size) : s[i]? = some (s[i]'h) ∧ chr s i = ((s[i]'h).toNat : Int) := by
  have h' : i < s.data.size := h
  refine ⟨ByteArray.getElem?_lt' s i h, ?_⟩
  simp only [chr, Array.getD, h', dif_pos]
  rfl

theorem index_sound {t : TypeId} {x : List (SV × Option Blk)} {r : R} (h : indexC P t x = some r) (hn : allB r.need = true) {v i : Value} (hv : [v, i] = x.map fun y => den σ y.1) :
    Runs P (Instr.index t v i) σ H w nm r := by
  unfold indexC at h
  split at h
  · rename_i s _ ki i' _
    split at h
    · rename_i hd
      simp only [Option.some.injEq] at h; subst h
      simp only [allB, Bool.and_true, Bool.and_eq_true, decide_eq_true_eq, Nat.blt_eq] at hn
      simp only [List.map_cons, List.map_nil, List.cons.injEq, and_true] at hv
      obtain ⟨rfl, rfl⟩ := hv
      refine Runs.pure rfl ?_
      obtain ⟨h1, h2⟩ := chr_get hn.2
      simp only [Instr.index, Sem.run_bind, den, asIntOf, Sem.run_pure, Result.andThen_ok, run_underlying' hd, hn.1, if_true, h1, h2]
    · cases h
  · rename_i l _ ki i' _
    split at h
    · rename_i m e hd
      split at h
      · rename_i ie hie
        split at h
        · rename_i hbd
          simp only [Bool.and_eq_true, decide_eq_true_eq] at hbd
          obtain ⟨h1, h2⟩ := part_sound (σ := σ) (w := w) h
          simp only [List.map_cons, List.map_nil, List.cons.injEq, and_true] at hv
          obtain ⟨rfl, rfl⟩ := hv
          refine Runs.pure h2 ?_
          simp only [Instr.index, Sem.run_bind, den, asIntOf, Sem.run_pure, Result.andThen_ok, run_underlying' hd, hbd, and_self, if_true, run_sizeOf' hie, h1]
        · cases h
      · cases h
    · cases h
  · cases h

theorem extract_sound {i : Nat} {x : List (SV × Option Blk)} {r : R} (h : extractC i x = some r) {v : Value} (hv : [v] = x.map fun y => den σ y.1) :
    Runs P (Instr.extract v i) σ H w nm r := by
  unfold extractC at h
  split at h
  · rename_i l _
    split at h
    · rename_i s hs
      simp only [Option.some.injEq] at h; subst h
      simp only [List.map_cons, List.map_nil, List.cons.injEq, and_true] at hv
      subst hv
      refine Runs.pure rfl ?_
      have hc : (denL σ l).toArray[i]? = some (den σ s) := by simp [denL_map, hs]
      simp only [Instr.extract, den, hc, Sem.run_pure]
    · cases h
  · cases h

/-! ### arithmetic -/
theorem run_intBits {op : BinOp} {k : IntKind} {a b : Int} (h : op = .and ∨ op = .or ∨ op = .xor ∨ op = .andNot) : (Op.intBits op k a b).run P w = .ok (.int k (ar op k a b)) w := by
  rcases h with rfl | rfl | rfl | rfl <;> rfl

theorem run_shift' {op : BinOp} {k yk : IntKind} {a b : Int} (h : op = .shl ∨ op = .shr) (hb : 0 ≤ b) : (Op.shift op k a yk b).run P w = .ok (.int k (ar op k a b)) w := by
  have : ¬ b < 0 := by omega
  rcases h with rfl | rfl <;> simp [Op.shift, this, ar]

theorem run_intDiv' {op : BinOp} {k : IntKind} {a b : Int} (h : op = .quo ∨ op = .rem) (hb : b ≠ 0) : (Op.intDiv op k a b).run P w = .ok (.int k (ar op k a b)) w := by
  rcases h with rfl | rfl <;> simp [Op.intDiv, hb, ar]

theorem eqGuard_plain (op : BinOp) (t : TypeId) (x y : Operand) (a b : Value) (h : ∀ l l', ¬ (a = .agg l ∧ b = .agg l')) (hn : a ≠ .nilIface) : (eqGuard op t x y a b).run P w = .ok () w := by
  unfold eqGuard
  cases op <;> first
    | rfl
    | (cases a <;> cases b <;> first | rfl | exact absurd rfl hn | exact absurd ⟨rfl, rfl⟩ (h _ _))

theorem bin_sound {op : BinOp} {t : TypeId} {a b : SV} {r : R} (h : binC op a b = some r) (hn : allB r.need = true) (x y : Operand) :
    Runs P (do eqGuard op t x y (den σ a) (den σ b); binOp op t (den σ a) (den σ b)) σ H w nm r := by
  unfold binC at h
  split at h
  · rename_i l k n m k' n'
    have hg : (eqGuard op t x y (.int k n) (.int k' n')).run P w = .ok () w := eqGuard_plain _ _ _ _ _ _ (fun _ _ hh => by cases hh.1) (by simp)
    split at h
    · simp only [Option.some.injEq] at h; subst h
      simp only [allB, Bool.and_true, decide_eq_true_eq] at hn
      refine Runs.pure rfl ?_
      simp only [Sem.run_bind, den, hg, Result.andThen_ok, binOp]
      exact run_shift' (.inl rfl) hn
    · simp only [Option.some.injEq] at h; subst h
      simp only [allB, Bool.and_true, decide_eq_true_eq] at hn
      refine Runs.pure rfl ?_
      simp only [Sem.run_bind, den, hg, Result.andThen_ok, binOp]
      exact run_shift' (.inr rfl) hn
    · rename_i hsl hsr
      split at h
      · rename_i hk
        have hk := of_decide_eq_true hk
        subst hk
        split at h <;> first
          | (simp only [Option.some.injEq] at h; subst h
             refine Runs.pure rfl ?_
             simp only [Sem.run_bind, den, hg, Result.andThen_ok, binOp, ne_eq, not_true_eq_false, if_false]
             first
               | rfl
               | exact run_intBits (.inl rfl)
               | exact run_intBits (.inr (.inl rfl))
               | exact run_intBits (.inr (.inr (.inl rfl)))
               | exact run_intBits (.inr (.inr (.inr rfl)))
               | (simp only [allB, Bool.and_true, bne_iff_ne] at hn; exact run_intDiv' (.inl rfl) hn)
               | (simp only [allB, Bool.and_true, bne_iff_ne] at hn; exact run_intDiv' (.inr rfl) hn))
          | cases h
      · cases h
  · rename_i s s'
    have hg : (eqGuard op t x y (.string s) (.string s')).run P w = .ok () w := eqGuard_plain _ _ _ _ _ _ (fun _ _ hh => by cases hh.1) (by simp)
    split at h
    · simp only [Option.some.injEq] at h; subst h
      simp only [allB, Bool.and_true, Nat.ble_eq] at hn
      refine Runs.pure rfl ?_
      simp only [Sem.run_bind, den, hg, Result.andThen_ok, binOp_string_add]
      exact run_string_add_sum w s s' hn
    · simp only [Option.some.injEq] at h; subst h
      refine Runs.pure rfl ?_
      simp only [Sem.run_bind, den, hg, Result.andThen_ok, binOp_string_eql, Sem.run_pure, seq]
    · simp only [Option.some.injEq] at h; subst h
      refine Runs.pure rfl ?_
      simp only [Sem.run_bind, den, hg, Result.andThen_ok, binOp_string_neq, Sem.run_pure, seq]
    · cases h
  · cases h

theorem eqF_sound (e : Nat) (w : World) : ∀ (fs : List Field) (i : Nat) (a b : List SV) (q : Bool) (pa pb : List Value), eqF P i fs a b = some q → pa.length = i → pb.length = i →
    (Op.eqFields (e + 1) (pa ++ denL σ a).toArray (pb ++ denL σ b).toArray fs).run P w = .ok q w
  | [], i, a, b, q, pa, pb, he, _, _ => by
    cases a <;> cases b <;> simp only [eqF, Option.some.injEq] at he <;> first | (subst he; rfl) | cases he
  | f :: fs, i, a, b, q, pa, pb, he, ha, hb => by
    cases a with
    | nil => simp [eqF] at he
    | cons x a =>
      cases b with
      | nil => simp [eqF] at he
      | cons y b =>
        simp only [eqF] at he
        split at he
        · rename_i d q' hp hd hq'
          simp only [Bool.and_eq_true, bne_iff_ne, ne_eq] at hp
          obtain ⟨hname, hoff⟩ := hp
          have hoff := Nat.eq_of_beq_eq_true hoff
          have hx : (pa ++ denL σ (x :: a)).toArray[f.offset]? = some (den σ x) := by
            rw [hoff]; simp [denL, ← ha]
          have hy : (pb ++ denL σ (y :: b)).toArray[f.offset]? = some (den σ y) := by
            rw [hoff]; simp [denL, ← hb]
          have hpart : isAggD d = false → ∀ (cs : List Value) (v : Value), cs.toArray[f.offset]? = some v → (part f.type cs.toArray f.offset).run P w = .ok v w := by
            intro hag cs v hv
            simp only [part, Sem.run_bind, run_isAgg' hd, Result.andThen_ok, hag, Bool.false_eq_true, if_false, hv, Sem.run_pure]
          have ih := eqF_sound e w fs (i + 1) a b q' (pa ++ [den σ x]) (pb ++ [den σ y]) hq' (by simp [ha]) (by simp [hb])
          simp only [List.append_assoc, List.cons_append, List.nil_append] at ih
          have hstep : ∀ (r : Bool), isAggD d = false → (Op.equalIn (e + 1) f.type (den σ x) (den σ y)).run P w = .ok r w →
              (Op.eqFields (e + 1) (pa ++ denL σ (x :: a)).toArray (pb ++ denL σ (y :: b)).toArray (f :: fs)).run P w = .ok (r && q') w := by
            intro r hag heq
            simp only [Op.eqFields, hname, not_false_eq_true, ne_eq, if_true, Sem.run_bind, hpart hag _ _ hx, hpart hag _ _ hy, Result.andThen_ok, heq]
            cases r
            · rfl
            · simpa [denL] using ih
          split at he
          · split at he
            · rename_i hk
              have hk := of_decide_eq_true hk
              subst hk
              simp only [Option.some.injEq] at he; subst he
              exact hstep _ rfl (run_equalIn_int w e f.type _ _ _ _ hd)
            · cases he
          · simp only [Option.some.injEq] at he; subst he
            exact hstep _ rfl (run_equalIn_bool' w e f.type _ _ hd)
          · simp only [Option.some.injEq] at he; subst he
            exact hstep _ rfl (run_equalIn_string w e f.type _ _ hd)
          · cases he
        · cases he

theorem eqC_sound {t : TypeId} {a b : List SV} {q : Bool} (h : eqC P t a b = some q) (op : BinOp) (x y : Operand) :
    (eqGuard op t x y (den σ (.agg a)) (den σ (.agg b))).run P w = .ok () w ∧ (Op.equalIn 10000 t (den σ (.agg a)) (den σ (.agg b))).run P w = .ok q w := by
  unfold eqC at h
  split at h
  · rename_i fs hd
    split at h
    · rename_i hg
      simp only [Bool.or_eq_false_iff] at hg
      refine ⟨run_eqGuard_agg w op t x y _ _ hg.2, ?_⟩
      have hfs : P.fieldsOf t = fs := by simp [Program.fieldsOf, hd]
      rw [show (10000 : Nat) = 9999 + 1 from rfl]
      simp only [den]
      rw [run_equalIn_struct w 9999 t _ _ (by rw [hfs]; exact hd) hg.1, hfs]
      have := eqF_sound (σ := σ) (P := P) 9998 w fs.toList 0 a b q [] [] h rfl rfl
      simpa using this
    · cases h
  · cases h

theorem nilE_sound {op : BinOp} {t : TypeId} {need : List Bool} {a : Option Addr} {n c n' c' : Nat} {r : R} (h : nilE P op t need a.isNone = some r) (o o' : Operand) :
    Runs P (do eqGuard op t o o' (.slice a n c) (.slice none n' c'); binOp op t (.slice a n c) (.slice none n' c')) σ H w nm r := by
  have hg : ∀ op, (eqGuard op t o o' (.slice a n c) (.slice none n' c')).run P w = .ok () w := fun op => eqGuard_plain _ _ _ _ _ _ (fun _ _ hh => by cases hh.1) (by simp)
  unfold nilE at h
  split at h
  · rename_i e hd
    split at h
    · simp only [Option.some.injEq] at h; subst h
      refine Runs.pure rfl ?_
      simp only [Sem.run_bind, hg, Result.andThen_ok, den]
      exact Go.Lib.run_eql_slice_nil w t e a n c n' c' hd
    · simp only [Option.some.injEq] at h; subst h
      refine Runs.pure rfl ?_
      simp only [Sem.run_bind, hg, Result.andThen_ok, den]
      exact run_neq_slice_nil_any w t e a n c n' c' hd
    · cases h
  · cases h

theorem bin'_sound {op : BinOp} {t : TypeId} {x : List (SV × Option Blk)} {r : R} (h : binC' P op t x = some r) (hn : allB r.need = true) (o o' : Operand) {v v' : Value} (hv : [v, v'] = x.map fun y => den σ y.1)
    (hb : ∀ y ∈ x, ∀ b, y.2 = some b → blkOf H y.1 = some b) (hs : HSat σ H w) :
    Runs P (do eqGuard op t o o' v v'; binOp op t v v') σ H w nm r := by
  unfold binC' at h
  split at h
  · simp only [List.map_cons, List.map_nil, List.cons.injEq, and_true] at hv
    obtain ⟨rfl, rfl⟩ := hv
    simp only [den]
    exact nilE_sound h o o'
  · rename_i k n m cols rw n' c' _
    simp only [List.map_cons, List.map_nil, List.cons.injEq, and_true] at hv
    obtain ⟨rfl, rfl⟩ := hv
    have hneed : allB [Nat.blt 0 n, Nat.ble n m] = true := by
      unfold nilE at h
      split at h
      · split at h
        · simp only [Option.some.injEq] at h; subst h; exact hn
        · simp only [Option.some.injEq] at h; subst h; exact hn
        · cases h
      · cases h
    simp only [allB, Bool.and_true, Bool.and_eq_true, Nat.blt_eq, Nat.ble_eq] at hneed
    have hbk : look H k = some (.tab m cols rw) := hb (.sl k n, some (.tab m cols rw)) (List.mem_cons_self ..) _ rfl
    obtain ⟨_, _, hnil, _, _⟩ := hs.sat k _ hbk
    have hnn : (σ k).nil = false := by
      cases hq : (σ k).nil with
      | false => rfl
      | true => have := hnil hq; omega
    simp only [den, hnn, Bool.false_eq_true, if_false]
    exact nilE_sound (a := some _) h o o'
  · rename_i l _ l' _
    simp only [List.map_cons, List.map_nil, List.cons.injEq, and_true] at hv
    obtain ⟨rfl, rfl⟩ := hv
    split at h
    · split at h
      · rename_i q hq
        simp only [Option.some.injEq] at h; subst h
        obtain ⟨h1, h2⟩ := eqC_sound (σ := σ) (w := w) hq .eql o o'
        refine Runs.pure rfl ?_
        simp only [Sem.run_bind, h1, Result.andThen_ok]
        simp only [den] at h2 ⊢
        rw [run_eql_struct, h2]
        rfl
      · cases h
    · split at h
      · rename_i q hq
        simp only [Option.some.injEq] at h; subst h
        obtain ⟨h1, h2⟩ := eqC_sound (σ := σ) (w := w) hq .neq o o'
        refine Runs.pure rfl ?_
        simp only [Sem.run_bind, h1, Result.andThen_ok]
        simp only [den] at h2 ⊢
        rw [run_neq_struct, h2]
        rfl
      · cases h
    · cases h
  · rename_i p q _ p' q' _
    simp only [List.map_cons, List.map_nil, List.cons.injEq, and_true] at hv
    obtain ⟨rfl, rfl⟩ := hv
    split at h
    · rename_i hd
      have hg : ∀ op, (eqGuard op t o o' (.bool q) (.bool q')).run P w = .ok () w := fun op => eqGuard_plain _ _ _ _ _ _ (fun _ _ hh => by cases hh.1) (by simp)
      have he : (Op.equal t (.bool q) (.bool q')).run P w = .ok (q == q') w := run_equalIn_bool' w 9999 t _ _ hd
      split at h
      · simp only [Option.some.injEq] at h; subst h
        refine Runs.pure rfl ?_
        simp only [Sem.run_bind, den, hg, Result.andThen_ok, binOp, he, Sem.run_pure]
      · simp only [Option.some.injEq] at h; subst h
        refine Runs.pure rfl ?_
        simp only [Sem.run_bind, den, hg, Result.andThen_ok, binOp, he, Sem.run_pure]
      · cases h
    · cases h
  · rename_i a _ b _ _ _
    simp only [List.map_cons, List.map_nil, List.cons.injEq, and_true] at hv
    obtain ⟨rfl, rfl⟩ := hv
    exact bin_sound h hn o o'
  · cases h

theorem un_sound {op : UnOp} {x : List (SV × Option Blk)} {r : R} (h : unC op x = some r) {v : Value} (hv : [v] = x.map fun y => den σ y.1) :
    Runs P (Op.unary op v) σ H w nm r := by
  unfold unC at h
  split at h
  · simp only [List.map_cons, List.map_nil, List.cons.injEq, and_true] at hv
    subst hv
    split at h
    · simp only [Option.some.injEq] at h; subst h
      exact Runs.pure rfl rfl
    · cases h
  · simp only [List.map_cons, List.map_nil, List.cons.injEq, and_true] at hv
    subst hv
    split at h
    · simp only [Option.some.injEq] at h; subst h
      exact Runs.pure rfl rfl
    · simp only [Option.some.injEq] at h; subst h
      exact Runs.pure rfl rfl
    · cases h
  · cases h

theorem pick_sound {x : List (SV × Option Blk)} {r : R} (h : pickC x = some r) {c a b : Value} (hv : [c, a, b] = x.map fun y => den σ y.1) :
    Runs P (do pure (if ← asBool c then a else b)) σ H w nm r := by
  unfold pickC at h
  split at h
  · simp only [Option.some.injEq] at h; subst h
    simp only [List.map_cons, List.map_nil, List.cons.injEq, and_true] at hv
    obtain ⟨rfl, rfl, _⟩ := hv
    exact Runs.pure rfl (by simp [den, asBool])
  · simp only [Option.some.injEq] at h; subst h
    simp only [List.map_cons, List.map_nil, List.cons.injEq, and_true] at hv
    obtain ⟨rfl, _, rfl⟩ := hv
    exact Runs.pure rfl (by simp [den, asBool])
  · rename_i q _ _ p1 _ _ p2 _
    simp only [Option.some.injEq] at h; subst h
    simp only [List.map_cons, List.map_nil, List.cons.injEq, and_true] at hv
    obtain ⟨rfl, rfl, rfl⟩ := hv
    refine Runs.pure rfl ?_
    simp only [den, asBool, Sem.run_bind, Sem.run_pure, Result.andThen_ok]
    cases q <;> rfl
  · cases h

end Go.Ev
end

section
namespace Go.Ev
open Go.RowKit
variable {P : Program} {σ : Sg} {H : Heap} {w : World} {nm : Nat}

theorem strOf_fold (g : Nat → Int) (n : Nat) : (((List.range n).map g).foldl (fun r m => r.push (UInt8.ofNat m.toNat)) ByteArray.empty) = strOf g n := by
  have key : ∀ (l : List Int) (s : ByteArray), (l.foldl (fun r m => r.push (UInt8.ofNat m.toNat)) s) = ⟨s.data ++ (l.map fun m => UInt8.ofNat m.toNat).toArray⟩ := by
    intro l
    induction l with
    | nil => intro s; simp
    | cons a l ih =>
      intro s
      rw [List.foldl_cons, ih]
      congr 1
      show (s.data.push _) ++ _ = _
      simp
  rw [key]
  show (ByteArray.mk (#[] ++ _)) = _
  simp [strOf, List.map_map, Function.comp_def]

theorem run_loadCells_col {k len n : Nat} {cols : List Col} {rw_ : Bool} {g : Nat → Int} {q : IntKind} (hb : bsat σ w k (.tab n cols rw_)) (hc : cols = [.ints q g]) (hlen : len ≤ n) :
    (loadCells ⟨(σ k).blk, (σ k).off, Option.none⟩ len).run P w = .ok (((List.range len).map g).map (Value.int q)).toArray w := by
  subst hc
  obtain ⟨hw, _, _, hcell, _⟩ := hb
  have hl := run_loadCells (P := P) w ⟨(σ k).blk, (σ k).off, Option.none⟩ len (fun j => Value.int q (g j)) (fun j hj => by
    rw [addr_add]
    have := hcell j 0 (.ints q g) (by omega) rfl
    simp only [List.length_singleton] at hw
    rw [hw, Nat.mul_one, Nat.add_zero] at this
    simpa [Col.get, den] using this)
  rw [hl, List.map_map]
  rfl

theorem conv_sound {s d : TypeId} {x : List (SV × Option Blk)} {r : R} (h : convC P nm s d x = some r) (hn : allB r.need = true) {v : Value} (hv : [v] = x.map fun y => den σ y.1)
    (hb : ∀ y ∈ x, ∀ b, y.2 = some b → blkOf H y.1 = some b) (hs : HSat σ H w) : Runs P (convert s d v) σ H w nm r := by
  unfold convC at h
  split at h
  · rename_i l k n _
    simp only [List.map_cons, List.map_nil, List.cons.injEq, and_true] at hv
    subst hv
    split at h
    · rename_i u k' hu hd
      simp only [Option.some.injEq] at h; subst h
      refine Runs.pure rfl ?_
      simp only [convert, Sem.run_bind, run_underlying' hu, run_underlying' hd, Result.andThen_ok, den, Conv.intToInt, Sem.run_pure, conv]
    · cases h
  · rename_i t _
    simp only [List.map_cons, List.map_nil, List.cons.injEq, and_true] at hv
    subst hv
    split at h
    · rename_i u hu hd
      simp only [Option.some.injEq] at h; subst h
      refine Runs.pure rfl ?_
      simp only [convert, Sem.run_bind, run_underlying' hu, run_underlying' hd, Result.andThen_ok, den, Sem.run_pure]
    · rename_i u e hu hd
      split at h
      · rename_i he
        simp only [Option.some.injEq] at h; subst h
        have hrun := Lib.run_convert_string_bytes (P := P) w s d e t hu hd he
        have hsz : (Lib.bytesCells w e t).size = grownCap w t.size 0 e := by
          have := grownCap_ge w t.size 0 e
          have h1 : t.data.size = t.size := rfl
          simp only [Lib.bytesCells, Array.size_append, Array.size_map, Array.size_replicate, h1]
          omega
        refine ⟨setSg σ nm ⟨w.heap.size, 0, 1, grownCap w t.size 0 e, false⟩, Lib.bytesWorld w e t, ?_, ?_⟩
        · simp only [den, setSg_same, Bool.false_eq_true, if_false]; exact hrun
        · have hat := Lib.bytesWorld_at_new w e t
          have hbs : bsat (setSg σ nm ⟨w.heap.size, 0, 1, grownCap w t.size 0 e, false⟩) (Lib.bytesWorld w e t) nm (.tab t.size [.ints .u8 (chr t)] true) := by
            simp only [bsat, setSg_same]
            refine ⟨rfl, grownCap_ge _ _ _ _, by simp, fun r c col hr hc => ?_, fun _ _ => ⟨trivial, trivial, _, e, _, hat, by simp [hsz], ?_⟩⟩
            · cases c with
              | succ c => simp at hc
              | zero =>
                simp only [List.getElem?_cons_zero, Option.some.injEq] at hc; subst hc
                rw [show 0 + (r * 1 + 0) = r by omega, Lib.bytesWorld_cell w e t r hr]
                simp only [Col.get, den]
                have h' : r < t.data.size := hr
                have h2 : r < t.size := hr
                simp [chr, Array.getD, List.getD, h2]
            · intro off hoff
              simp
              omega
          refine ⟨setSg_agree _ _ _, ?_, ?_, ?_, by rw [Lib.bytesWorld_size]; omega, fun j hj _ => Lib.bytesWorld_at_old w e t j hj, List.pairwise_singleton _ _, ?_, ?_, src_of (setSg_agree _ _ _) ?_ ?_⟩
          · simp [Lib.bytesWorld, World.freeze, World.alloc, World.drew, -World.alloc_eq, -World.drew_eq]
          · simp [Lib.bytesWorld, World.freeze, World.alloc, World.drew, -World.alloc_eq, -World.drew_eq]
          · simp [Lib.bytesWorld, World.freeze, World.alloc, World.drew, -World.alloc_eq, -World.drew_eq]
          · intro k b hk
            rw [look_one] at hk
            split at hk
            · rename_i hh; subst hh; simp only [Option.some.injEq] at hk; subst hk; exact hbs
            · cases hk
          · intro k b k' b' hk _ hk' _ hne
            rw [look_one] at hk hk'
            split at hk <;> split at hk' <;> simp_all
          · intro k b hk ho
            rw [look_one] at hk
            split at hk
            · rename_i hh; subst hh; rw [off_self] at ho; cases ho
            · cases hk
          · intro k b hk _ _
            rw [look_one] at hk
            split at hk
            · rename_i hh; subst hh; left; rw [setSg_same]; exact Nat.le_refl _
            · cases hk
      · cases h
    · cases h
  · rename_i k len n g rw_
    simp only [List.map_cons, List.map_nil, List.cons.injEq, and_true] at hv
    subst hv
    split at h
    · rename_i e hu hd
      split at h
      · rename_i he
        simp only [Option.some.injEq] at h; subst h
        simp only [allB, Bool.and_true, Nat.ble_eq] at hn
        have hbk : look H k = some (.tab n [.ints .u8 g] rw_) := hb (.sl k len, some (.tab n [.ints .u8 g] rw_)) (List.mem_singleton.2 rfl) _ rfl
        have hbs := hs.sat k _ hbk
        refine Runs.pure rfl ?_
        simp only [den]
        rw [run_convert_bytes_string w s d e _ _ _ hu he hd]
        cases hq : (σ k).nil with
        | true =>
          have h0 := hbs.2.2.1 hq
          have h0' : len = 0 := by omega
          subst h0'
          simp [Conv.bytesToString, strOf, List.range_zero]
          rfl
        | false =>
          simp only [Bool.false_eq_true, if_false]
          have hl := run_loadCells_col (P := P) hbs rfl hn
          rw [run_bytesToString w _ _ _ _ hl, strOf_fold]
      · cases h
    · cases h
  · simp only [List.map_cons, List.map_nil, List.cons.injEq, and_true] at hv
    subst hv
    split at h
    · rename_i e hu hd
      split at h
      · rename_i he
        simp only [Option.some.injEq] at h; subst h
        refine Runs.pure rfl ?_
        simp only [den]
        rw [run_convert_bytes_string w s d e _ _ _ hu he hd]
        rfl
      · cases h
    · cases h
  · cases h

/-- one new block behind a world that is as it was -/
theorem Step.fresh1 {w' : World} {b : Blk} {e : Ent} (hos : w'.os = w.os) (ht : w'.tape = w.tape) (ho : w'.output = w.output) (hsz : w.heap.size ≤ w'.heap.size)
    (hold : ∀ j, j < w.heap.size → w'.heap[j]? = w.heap[j]?) (he : w.heap.size ≤ e.blk) (hb : bsat (setSg σ nm e) w' nm b) : Step σ H w nm [(nm, b)] (setSg σ nm e) w' where
  keep := setSg_agree _ _ _
  os := hos
  tape := ht
  output := ho
  size := hsz
  frame := fun j hj _ => hold j hj
  uniq := List.pairwise_singleton _ _
  sat := fun k c hk => by
    rw [look_one] at hk
    split at hk
    · rename_i hh; subst hh; simp only [Option.some.injEq] at hk; subst hk; exact hb
    · cases hk
  dis := fun k c k' c' hk _ hk' _ hne => by
    rw [look_one] at hk hk'
    split at hk <;> split at hk' <;> simp_all
  src := src_of (setSg_agree _ _ _) (fun k c hk hoff => by
      rw [look_one] at hk
      split at hk
      · rename_i hh; subst hh; rw [off_self] at hoff; cases hoff
      · cases hk)
    (fun k c hk _ _ => by
      rw [look_one] at hk
      split at hk
      · rename_i hh; subst hh; left; rw [setSg_same]; exact he
      · cases hk)

/-! ### slices -/
theorem fromCols_length (l : Nat) (cols : List Col) : (fromCols l cols).length = cols.length := by
  induction cols with
  | nil => rfl
  | cons c r ih => cases c <;> simp [fromCols, ih]

theorem fromCols_get (l : Nat) : ∀ (cols : List Col) (c : Nat) (col : Col), (fromCols l cols)[c]? = some col → ∃ col0, cols[c]? = some col0 ∧ ∀ r, den σ (col.get r) = den σ (col0.get (l + r))
  | [], c, col, h => by simp [fromCols] at h
  | x :: r, 0, col, h => by
    refine ⟨x, rfl, fun i => ?_⟩
    cases x <;> simp only [fromCols, List.getElem?_cons_zero, Option.some.injEq] at h <;> subst h <;> simp [Col.get, den, from_]
  | x :: r, c + 1, col, h => by
    have h' : (fromCols l r)[c]? = some col := by cases x <;> simpa [fromCols] using h
    simpa using fromCols_get l r c col h'

theorem view_sound {k n : Nat} {cols : List Col} {rw_ : Bool} {l h m : Nat} {need : List Bool} (hk : look H k = some (.tab n cols rw_)) (hH : hal (off nm) H = true) (hs : HSat σ H w)
    (hn : allB (view nm k n cols rw_ l h need).need = true) (hm : h ≤ m) (hmc : m ≤ (σ k).cap) :
    Step σ H w nm (view nm k n cols rw_ l h need).upd (setSg σ nm ⟨(σ k).blk, if m = l then (σ k).off else (σ k).off + l * (σ k).w, cols.length, m - l, (σ k).nil⟩) w ∧
      l ≤ h ∧ h ≤ n ∧ allB need = true ∧ ((σ k).nil = true → h = 0) := by
  simp only [view, allB_append, Bool.and_eq_true, allB, Bool.and_true, Nat.ble_eq] at hn
  obtain ⟨hneed, hlh, hhn⟩ := hn
  have hbs := hs.sat k _ hk
  obtain ⟨hw, hcap, hnil, hcell, hrw⟩ := hbs
  have hkn := (hal_look hH hk).1
  have hne : k ≠ nm := fun e => by subst e; rw [off_self] at hkn; cases hkn
  have hnz : (σ k).nil = true → h = 0 := fun e => by have := hnil e; omega
  refine ⟨?_, hlh, hhn, hneed, hnz⟩
  have hsame : ∀ (e : Ent), setSg σ nm e k = σ k := fun e => by simp [setSg, hne]
  have hview : ∀ (e : Ent), e = ⟨(σ k).blk, if m = l then (σ k).off else (σ k).off + l * (σ k).w, cols.length, m - l, (σ k).nil⟩ → bsat (setSg σ nm e) w nm (.tab (h - l) (fromCols l cols) false) := by
    intro e he
    simp only [bsat, setSg_same, he]
    refine ⟨by rw [fromCols_length], by omega, fun hq => by have := hnz hq; omega, fun r c col hr hc => ?_, fun hf => by cases hf⟩
    obtain ⟨col0, h0, h1⟩ := fromCols_get (σ := setSg σ nm e) l cols c col hc
    rw [den_col (setSg σ nm e) _ col r, h1, den_col σ]
    have := hcell (l + r) c col0 (by omega) h0
    rw [← this]
    have hml : ¬ m = l := by omega
    simp only [hml, if_false]
    rw [← hw, Nat.add_mul]
    congr 2
    omega
  have hpar : ∀ (e : Ent) (b : Bool), b = false ∨ b = rw_ → bsat (setSg σ nm e) w k (.tab n cols b) := by
    intro e b hb
    simp only [bsat, hsame]
    refine ⟨hw, hcap, hnil, fun r c col hr hc => by rw [den_col σ]; exact hcell r c col hr hc, fun hb' hcp' => ?_⟩
    rcases hb with rfl | rfl
    · cases hb'
    · exact hrw hb' hcp'
  have hlive : ∀ e, (Blk.tab (h - l) (fromCols l cols) false).live e → (Blk.tab n cols rw_).live (σ k) := by
    intro e hl
    rcases hl with ⟨hl, _⟩ | ⟨h1, h2⟩
    · cases hl
    · refine .inr ⟨by omega, fun e => h2 ?_⟩
      subst e; rfl
  cases rw_ with
  | false =>
    simp only [view]
    refine ⟨setSg_agree _ _ _, rfl, rfl, rfl, Nat.le_refl _, fun _ _ _ => rfl, List.pairwise_singleton _ _, ?_, ?_, src_of (setSg_agree _ _ _) ?_ ?_⟩
    · intro j b hj
      rw [look_one] at hj
      split at hj
      · rename_i e; subst e; simp only [Option.some.injEq] at hj; subst hj; exact hview _ rfl
      · cases hj
    · intro j b j' b' hj hr hj' _ hne'
      rw [look_one] at hj hj'
      split at hj <;> split at hj' <;> simp_all
    · intro j b hj ho
      rw [look_one] at hj
      split at hj
      · rename_i e; subst e; rw [off_self] at ho; cases ho
      · cases hj
    · intro j b hj _ hl
      rw [look_one] at hj
      split at hj
      · rename_i e; subst e; simp only [Option.some.injEq] at hj; subst hj
        exact .inr ⟨k, _, hk, hlive _ hl, by rw [setSg_same], fun hb => (by cases hb.1), fun hb => (by cases hb.1)⟩
      · cases hj
  | true =>
    simp only [view]
    have hlk : ∀ j, look [(nm, Blk.tab (h - l) (fromCols l cols) false), (k, Blk.tab n cols false)] j = if j = nm then some (.tab (h - l) (fromCols l cols) false) else if j = k then some (.tab n cols false) else none := by
      intro j
      have h1 := look_putB [(k, Blk.tab n cols false)] nm (.tab (h - l) (fromCols l cols) false) j
      simp only [look]
      cases hj : Nat.beq nm j with
      | true => have := Nat.eq_of_beq_eq_true hj; subst this; simp
      | false =>
        have hj' := Nat.ne_of_beq_eq_false hj
        simp only [Ne.symm hj', if_false]
        cases hk' : Nat.beq k j with
        | true => have := Nat.eq_of_beq_eq_true hk'; subst this; simp
        | false => have := Nat.ne_of_beq_eq_false hk'; simp [Ne.symm this]
    refine ⟨setSg_agree _ _ _, rfl, rfl, rfl, Nat.le_refl _, fun _ _ _ => rfl, ?_, ?_, ?_, src_of (setSg_agree _ _ _) ?_ ?_⟩
    · simp [Ne.symm hne]
    · intro j b hj
      rw [hlk] at hj
      split at hj
      · rename_i e; subst e; simp only [Option.some.injEq] at hj; subst hj; exact hview _ rfl
      · split at hj
        · rename_i e; subst e; simp only [Option.some.injEq] at hj; subst hj; exact hpar _ _ (.inl rfl)
        · cases hj
    · intro j b j' b' hj hr
      rw [hlk] at hj
      split at hj
      · simp only [Option.some.injEq] at hj; subst hj; cases hr.1
      · split at hj
        · simp only [Option.some.injEq] at hj; subst hj; cases hr.1
        · cases hj
    · intro j b hj ho hl
      rw [hlk] at hj
      split at hj
      · rename_i e; subst e; rw [off_self] at ho; cases ho
      · split at hj
        · rename_i e; subst e; simp only [Option.some.injEq] at hj; subst hj
          rcases hl with ⟨hl, _⟩ | hl
          · cases hl
          · exact ⟨_, hk, .inr hl, fun hb => (by cases hb.1)⟩
        · cases hj
    · intro j b hj ho hl
      rw [hlk] at hj
      split at hj
      · rename_i e; subst e; simp only [Option.some.injEq] at hj; subst hj
        exact .inr ⟨k, _, hk, hlive _ hl, by rw [setSg_same], fun hb => (by cases hb.1), fun _ => ⟨_, by rw [hlk, if_neg hne, if_pos rfl], rfl⟩⟩
      · split at hj
        · rename_i e; subst e; rw [hkn] at ho; cases ho
        · cases hj

end Go.Ev
end
