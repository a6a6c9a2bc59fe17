/- A reading of the program's code by values alone: what a call of a function comes to over numbers, lists and the call's own rows (definitions only). -/
import Derived.Below
import Derived.Eval
set_option linter.unusedSimpArgs false
set_option linter.all false
namespace Go.Proofs.Ytjpccbjgmogclaa.Lift
open Go Go.RowKit

/-- Values, read by what they lead to. -/
inductive AV where
  | top
  | bool (b : Bool)
  | int (k : IntKind) (n : Int)
  | str (s : ByteArray)
  | agg (cs : List AV)
  | tup (vs : List AV)
  | nilP
  | nilF
  | nilI
  | ref (id idx off : Nat)
  | rref (cs : List AV)
  | ro (sz : Nat) (xs : List (List AV)) (full : Bool)
  | own (id lo len : Nat)
  | fn (f : Fn) (first cap : List AV)
  | ifc (t : TypeId) (v : AV)
  | nilS
  | emp
  | rl (id lo : Nat)

/-- A row, or a variable, of the call's own: its element type, the cells of an element, the elements' cells. -/
structure AObj where
  t : TypeId
  sz : Nat
  box : Bool
  elems : List (List AV)
  ver : Nat

abbrev Heap := List (Nat × AObj)

def lk : Heap → Nat → Option AObj
  | [], _ => none
  | (i, o) :: t, id => if i = id then some o else lk t id

/-- An object in its place (the first entry of its number). -/
def hput : Heap → Nat → AObj → Heap
  | [], _, _ => []
  | (i, o) :: t, id, o' => if i = id then (i, o') :: t else (i, o) :: hput t id o'

def zipFrom (base : Nat) : List AObj → Heap
  | [] => []
  | o :: r => (base, o) :: zipFrom (base + 1) r

mutual
/-- Other numbers for the objects; a number without another one: not known any more. -/
def AV.ren (f : Nat → Option Nat) : AV → AV
  | .agg cs => .agg (renL f cs)
  | .tup cs => .tup (renL f cs)
  | .ref id i o => match f id with | some j => .ref j i o | none => .top
  | .own id lo n => match f id with | some j => .own j lo n | none => .top
  | .fn g a b => .fn g (renL f a) (renL f b)
  | .ifc t v => .ifc t (AV.ren f v)
  | .top => .top
  | .bool b => .bool b
  | .int k n => .int k n
  | .str s => .str s
  | .nilP => .nilP
  | .nilS => .nilS
  | .emp => .emp
  | .rl id lo => match f id with | some j => .rl j lo | none => .top
  | .nilF => .nilF
  | .nilI => .nilI
  | .rref cs => .rref cs
  | .ro sz xs full => .ro sz xs full
def renL (f : Nat → Option Nat) : List AV → List AV
  | [] => []
  | c :: cs => AV.ren f c :: renL f cs
end

mutual
/-- Are two values the same? -/
def AV.eqb : AV → AV → Bool
  | .top, .top => true
  | .bool a, .bool b => decide (a = b)
  | .int k n, .int k' n' => decide (k = k' ∧ n = n')
  | .str s, .str s' => decide (s = s')
  | .agg cs, .agg ds => eqbL cs ds
  | .tup cs, .tup ds => eqbL cs ds
  | .nilP, .nilP => true
  | .nilF, .nilF => true
  | .nilI, .nilI => true
  | .ref i x o, .ref i' x' o' => decide (i = i' ∧ x = x' ∧ o = o')
  | .rref cs, .rref ds => eqbL cs ds
  | .ro s xs f, .ro s' xs' f' => decide (s = s' ∧ f = f') && eqbLL xs xs'
  | .own i l n, .own i' l' n' => decide (i = i' ∧ l = l' ∧ n = n')
  | .fn f a b, .fn f' a' b' => decide (f = f') && (eqbL a a' && eqbL b b')
  | .ifc t v, .ifc t' v' => decide (t = t') && AV.eqb v v'
  | .nilS, .nilS => true
  | .emp, .emp => true
  | .rl i l, .rl i' l' => decide (i = i' ∧ l = l')
  | _, _ => false
def eqbL : List AV → List AV → Bool
  | [], [] => true
  | a :: r, b :: s => AV.eqb a b && eqbL r s
  | _, _ => false
def eqbLL : List (List AV) → List (List AV) → Bool
  | [], [] => true
  | a :: r, b :: s => eqbL a b && eqbLL r s
  | _, _ => false
end

mutual
theorem AV.eqb_iff : ∀ a b : AV, AV.eqb a b = true ↔ a = b
  | .top, b => by cases b <;> simp [AV.eqb]
  | .bool _, b => by cases b <;> simp [AV.eqb]
  | .int _ _, b => by cases b <;> simp [AV.eqb]
  | .str _, b => by cases b <;> simp [AV.eqb]
  | .agg cs, b => by cases b <;> simp [AV.eqb, eqbL_iff cs]
  | .tup cs, b => by cases b <;> simp [AV.eqb, eqbL_iff cs]
  | .nilP, b => by cases b <;> simp [AV.eqb]
  | .nilF, b => by cases b <;> simp [AV.eqb]
  | .nilI, b => by cases b <;> simp [AV.eqb]
  | .ref _ _ _, b => by cases b <;> simp [AV.eqb]
  | .rref cs, b => by cases b <;> simp [AV.eqb, eqbL_iff cs]
  | .ro s xs f, b => by cases b <;> simp [AV.eqb, eqbLL_iff xs]; try (constructor <;> (rintro ⟨⟨_, _⟩, _⟩ <;> simp_all) <;> skip); try (rintro ⟨_, _, _⟩; simp_all)
  | .own _ _ _, b => by cases b <;> simp [AV.eqb]
  | .fn f x y, b => by cases b <;> simp [AV.eqb, eqbL_iff x, eqbL_iff y]
  | .ifc t v, b => by cases b <;> simp [AV.eqb, AV.eqb_iff v]
  | .nilS, b => by cases b <;> simp [AV.eqb]
  | .emp, b => by cases b <;> simp [AV.eqb]
  | .rl _ _, b => by cases b <;> simp [AV.eqb]
theorem eqbL_iff : ∀ a b : List AV, eqbL a b = true ↔ a = b
  | [], b => by cases b <;> simp [eqbL]
  | a :: r, b => by cases b <;> simp [eqbL, AV.eqb_iff a, eqbL_iff r]
theorem eqbLL_iff : ∀ a b : List (List AV), eqbLL a b = true ↔ a = b
  | [], b => by cases b <;> simp [eqbLL]
  | a :: r, b => by cases b <;> simp [eqbLL, eqbL_iff a, eqbLL_iff r]
end

instance : DecidableEq AV := fun a b => decidable_of_iff _ (AV.eqb_iff a b)

theorem renL_eq (f : Nat → Option Nat) : ∀ cs, renL f cs = cs.map fun c => c.ren f
  | [] => rfl
  | c :: cs => by rw [renL, renL_eq f cs]; rfl

def AObj.ren (f : Nat → Option Nat) (o : AObj) : AObj := { o with elems := o.elems.map fun x => x.map fun c => c.ren f }

/-- The same without numbers: rows of the call's own by what they hold (but for those in 'G'). -/
def clo (G : List Nat) : Nat → Heap → AV → AV
  | 0, _, _ => .top
  | n + 1, H, .agg cs => .agg (cs.map (clo G n H))
  | n + 1, H, .tup cs => .tup (cs.map (clo G n H))
  | n + 1, H, .ref id i off => if G.contains id then .top else match lk H id with
    | some o => match o.elems[i]? with
      | some x => if off ≤ x.length then .rref ((x.drop off).map (clo G n H)) else .top
      | none => .top
    | none => .top
  | n + 1, H, .own id lo len => if G.contains id then .top else match lk H id with
    | some o => if lo + len ≤ o.elems.length then .ro o.sz (((o.elems.drop lo).take len).map fun x => x.map (clo G n H)) false else .top
    | none => .top
  | n + 1, H, .fn f a b => .fn f (a.map (clo G n H)) (b.map (clo G n H))
  | n + 1, H, .ifc t v => .ifc t (clo G n H v)
  | _ + 1, H, .rl id _ => .ro (match lk H id with | some o => o.sz | none => 0) [] false
  | _ + 1, _, a => a

mutual
/-- Rows that are only read from here on. -/
def AV.fz (L : List Nat) (g : AV → AV) : AV → AV
  | .agg cs => .agg (fzL L g cs)
  | .tup cs => .tup (fzL L g cs)
  | .ref id i o => if L.contains id then g (.ref id i o) else .ref id i o
  | .own id lo n => if L.contains id then g (.own id lo n) else .own id lo n
  | .fn f a b => .fn f (fzL L g a) (fzL L g b)
  | .ifc t v => .ifc t (AV.fz L g v)
  | .top => .top
  | .bool b => .bool b
  | .int k n => .int k n
  | .str s => .str s
  | .nilP => .nilP
  | .nilS => .nilS
  | .emp => .emp
  | .rl id lo => if L.contains id then .top else .rl id lo
  | .nilF => .nilF
  | .nilI => .nilI
  | .rref cs => .rref cs
  | .ro sz xs full => .ro sz xs full
def fzL (L : List Nat) (g : AV → AV) : List AV → List AV
  | [] => []
  | c :: cs => AV.fz L g c :: fzL L g cs
end

theorem fzL_eq (L : List Nat) (g : AV → AV) : ∀ cs, fzL L g cs = cs.map fun c => c.fz L g
  | [] => rfl
  | c :: cs => by rw [fzL, fzL_eq L g cs]; rfl

def AObj.fz (L : List Nat) (g : AV → AV) (o : AObj) : AObj := { o with elems := o.elems.map fun x => x.map fun c => c.fz L g }

/-- The numbers that a value leads to. -/
def ids : Nat → AV → List Nat
  | 0, _ => [0]
  | n + 1, .agg cs => cs.flatMap (ids n)
  | n + 1, .tup cs => cs.flatMap (ids n)
  | _ + 1, .ref id _ _ => [id]
  | _ + 1, .own id _ _ => [id]
  | _ + 1, .rl id _ => [id]
  | n + 1, .fn _ a b => a.flatMap (ids n) ++ b.flatMap (ids n)
  | n + 1, .ifc _ v => ids n v
  | _ + 1, _ => []

/-- Does a value lead to memory that is only read? -/
def hasRO : Nat → AV → Bool
  | 0, _ => true
  | n + 1, .agg cs => cs.any (hasRO n)
  | n + 1, .tup cs => cs.any (hasRO n)
  | _ + 1, .rref _ => true
  | _ + 1, .ro _ xs _ => !xs.isEmpty
  | n + 1, .fn _ a b => a.any (hasRO n) || b.any (hasRO n)
  | n + 1, .ifc _ v => hasRO n v
  | _ + 1, _ => false

def cells : AV → List AV
  | .agg cs => cs
  | v => [v]

/-- A value that one cell holds. -/
def one : AV → Bool
  | .top | .agg _ | .tup _ => false
  | _ => true

inductive SOpd where
  | tmp (t : Nat)
  | cst (a : AV)

/-- What is called: a function's value, or a method of what an interface holds. -/
inductive SCallee where
  | val (f : SOpd)
  | inv (tbl : List (Nat × Nat)) (x : SOpd)

inductive SConv where
  | int (k : IntKind)
  | same
  | toBytes (e : Nat)
  | ownBytes (e : Nat)
  | ofBytes

inductive SOp where
  | move (x : SOpd)
  | pick (c a b : SOpd)
  | alloc (t : Nat) (zero : List AV)
  | box (t : Nat) (x : SOpd)
  | build (places : List (Nat × Nat)) (zero : List AV) (parts : List (Nat × SOpd))
  | buildSlice (t sz n : Nat) (zero : List AV) (parts : List (Nat × SOpd))
  | buildRO (sz n : Nat) (zero : List AV) (parts : List (Nat × SOpd))
  | load (agg : Bool) (n : Nat) (a : SOpd)
  | store (n : Nat) (a v : SOpd)
  | nilCheck (x : SOpd)
  | bin (op : BinOp) (tag : Nat) (x y : SOpd)
  | un (op : UnOp) (x : SOpd)
  | conv (c : SConv) (x : SOpd)
  | mkIfc (t : Nat) (x : SOpd)
  | mkFn (f : Fn) (first cap : List SOpd)
  | makeSlice (t sz bytes : Nat) (zero : List AV) (l c : SOpd)
  | slice (sz : Nat) (x : SOpd) (lo hi mx : Option SOpd)
  | sliceS (x : SOpd) (lo hi : Option SOpd)
  | sliceR (sz : Nat) (x : SOpd) (lo hi : Option SOpd)
  | clear (sz : Nat) (zero : List AV) (x : SOpd)
  | fieldAddr (x : SOpd) (off : Nat)
  | field (x : SOpd) (agg : Bool) (off n : Nat)
  | indexAddr (sz : Nat) (x i : SOpd)
  | indexAddrA (len sz : Nat) (x i : SOpd)
  | indexA (len sz : Nat) (agg : Bool) (x i : SOpd)
  | indexS (x i : SOpd)
  | assert (t : Nat) (x : SOpd)
  | assertOk (t : Nat) (zero : AV) (x : SOpd)
  | extract (x : SOpd) (i : Nat)
  | call (f : SCallee) (mode : Nat) (args : List SOpd)
  | callF (f : SCallee) (mode : Nat) (args : List SOpd)
  | nilRow (t sz : Nat)
  | moveS (t sz : Nat) (x : SOpd)
  | len (str : Bool) (x : SOpd)
  | append (t sz bytes : Nat) (s x : SOpd)
  | appendS (t bytes : Nat) (s x : SOpd)
  | minmax (mx : Bool) (xs : List SOpd)
  | eqS (ne : Bool) (ks : List Nat) (x y : SOpd)

/-- An operation that may come behind one that turns something. -/
structure SLate where
  i : Nat
  dst : Option Nat
  op : SOp
  guard : Option (Nat × Bool)

structure SOper where
  dst : Option Nat
  op : SOp
  guard : Option (Nat × Bool)
  bar : Bool
  late : List SLate

inductive SCode where
  | skip
  | region (ops : List SOper) (draw : Bool)
  | seq (a b : SCode)
  | cond (c : SOpd) (a b : SCode)
  | block (id : Nat) (c : SCode)
  | loop (live : List Nat) (c : SCode)
  | exit (id : Nat)
  | ret

/-- Where a result stands: a place, or a variable that a place leads to. -/
inductive SRes where
  | tmp (t : Nat)
  | cell (t : Nat) (agg : Bool) (n : Nat)

structure SFun where
  nt : Nat
  res : List SRes
  body : SCode
  /-- What a call comes to, where that is not read of the body. -/
  prim : Option (List AV → List AObj → Option (AV × List AObj)) := none

/-- An activation: the values' places; the call's own rows; numbers from 'nxt' on are new; those below 'k' came with the call. -/
structure ASt where
  σ : List AV
  H : Heap
  nxt : Nat
  k : Nat

/-- What a call of a function comes to: its arguments, the objects that they lead to (by place); its result, the objects behind it. -/
abbrev FT := Nat → List AV → List AObj → Option (AV × List AObj)

inductive AEx where
  | normal
  | exit (id : Nat)
  | ret

abbrev LT := List Nat → SCode → ASt → Option (AEx × ASt)

def ev (σ : List AV) : SOpd → AV
  | .tmp t => σ.getD t .top
  | .cst a => a

def evs (σ : List AV) (xs : List SOpd) : List AV := xs.map (ev σ)

/-- Cells written over. -/
def fill (size : Nat → Option (Nat × Nat)) : List AV → List (Nat × AV) → Option (List AV)
  | cs, [] => some cs
  | cs, (i, v) :: r => match size i with
    | none => none
    | some (off, n) => if (cells v).length = n ∧ off + n ≤ cs.length ∧ (cells v).all one = true then fill size (cs.take off ++ cells v ++ cs.drop (off + n)) r else none

def pos (xs : List Nat) (i : Nat) : Option Nat := match xs with
  | [] => none
  | j :: r => if j = i then some 0 else (pos r i).map (· + 1)

def closure (H : Heap) : Nat → List Nat → List Nat
  | 0, L => L
  | n + 1, L => closure H n ((L ++ L.flatMap fun i => match lk H i with | some o => o.elems.flatMap fun x => x.flatMap (ids 503) | none => []).eraseDups)

def isOwn : AV → Bool
  | .own _ _ _ => true
  | _ => false

def assocN : List (Nat × Nat) → Nat → Option Nat
  | [], _ => none
  | (a, b) :: r, t => if a = t then some b else assocN r t

/-- The function, and what stands ahead of the arguments and behind them. -/
def target (σ : List AV) : SCallee → Option (Nat × List AV × List AV)
  | .val f => match ev σ f with
    | .fn (.func g) a b => some (g, a, b)
    | _ => none
  | .inv tbl x => match ev σ x with
    | .ifc t v => match assocN tbl t with
      | some g => some (g, [v], [])
      | none => none
    | _ => none

/-- Nothing is said of the room behind a row. -/
def unf1 : AV → AV
  | .ro s xs true => .ro s xs false
  | a => a

def unf : AV → AV
  | .agg cs => .agg (cs.map unf1)
  | a => unf1 a

/-- A row that is lent: what it holds ('N': what isn't lent). -/
def lend1 (N : List Nat) (H : Heap) (a : AV) : AV := if isOwn a then clo N 504 H a else unf1 a

def lend (N : List Nat) (H : Heap) : AV → AV
  | .agg cs => .agg (cs.map (lend1 N H))
  | a => lend1 N H a

/-- The numbers that come with an argument. -/
def argIds (mode : Nat) : AV → List Nat
  | .agg cs => cs.flatMap fun c => if mode = 0 && isOwn c then [] else ids 504 c
  | a => if mode = 0 && isOwn a then [] else ids 504 a

/-- The numbers that an argument lends. -/
def lentIds : AV → List Nat
  | .agg cs => cs.flatMap fun c => if isOwn c then ids 504 c else []
  | a => if isOwn a then ids 504 a else []

/-- Which numbers come along with a call. -/
def grants (H : Heap) (mode : Nat) (as : List AV) : List Nat :=
  if mode = 2 then [] else (closure H 3 (as.flatMap (argIds mode))).eraseDups

/-- Which are lent. -/
def lents (H : Heap) (mode : Nat) (G : List Nat) (as : List AV) : List Nat :=
  if mode = 1 then [] else (closure H 3 (as.flatMap (fun a => if mode = 2 then ids 504 a else lentIds a))).filter fun i => !G.contains i

def others (H : Heap) (L : List Nat) : List Nat := (H.map (·.1)).filter fun i => !L.contains i

/-- A call's arguments (mode 0: rows are lent, all else goes along; 1: all goes along; 2: all is lent): the callee's, the numbers and the objects that come with them, the numbers that are lent. -/
def callArgs (H : Heap) (mode : Nat) (as : List AV) : Option (List AV × List Nat × List AObj × List Nat) :=
  let G := grants H mode as
  let L := lents H mode G as
  if G.Nodup then (match G.mapM (lk H) with
    | some os => some ((if mode = 1 then as else if mode = 2 then as.map (fun a => unf (clo (others H L) 504 H a)) else as.map (lend (others H L) H)).map (AV.ren (pos G)), G, os.map (AObj.ren (pos G)), L)
    | none => none) else none

/-- Does a call's result lead to what is only read? -/
def roAny (r : AV) (Hs : List AObj) : Bool := hasRO 504 r || Hs.any fun o => o.elems.any fun x => x.any (hasRO 503)

/-- What is lent is only read from here on. -/
def freeze (L : List Nat) (st : ASt) : ASt :=
  let g := clo (others st.H L) 504 st.H
  { st with σ := st.σ.map (AV.fz L g), H := (st.H.filter fun p => !L.contains p.1).map fun p => (p.1, p.2.fz L g) }

/-- A value without numbers and without values inside that can have any. -/
def simple : AV → Bool
  | .bool _ | .int _ _ | .str _ | .nilP | .nilF | .nilI | .rref _ | .ro _ _ _ | .nilS | .emp => true
  | _ => false

/-- What a slice leads to. -/
def content (sz : Nat) (H : Heap) : AV → Option (List (List AV))
  | .ro s xs _ => if s = sz ∨ xs = [] then some xs else none
  | .own id lo len => match lk H id with
    | some o => if lo + len ≤ o.elems.length ∧ o.sz = sz ∧ o.box = false then some ((o.elems.drop lo).take len) else none
    | none => none
  | .nilS => some []
  | .emp => some []
  | .rl _ _ => some []
  | _ => none

/-- Is a slice nil? -/
def nilq : AV → Option Bool
  | .nilS => some true
  | .emp => some false
  | .ro _ xs _ => if xs = [] then none else some false
  | .own _ _ n => if n = 0 then none else some false
  | _ => none

def isByte : List AV → Bool
  | [.int .u8 _] => true
  | _ => false

def byteOf : List AV → Int
  | [.int .u8 n] => n
  | _ => 0

def strOf (xs : List (List AV)) : ByteArray := (xs.map byteOf).foldl (fun r n => r.push (UInt8.ofNat n.toNat)) ByteArray.empty

def bytesRow (s : ByteArray) : List (List AV) := s.data.toList.map fun b => [.int .u8 b.toNat]

def lenOf : Bool → AV → Option Nat
  | false, .ro _ xs _ => some xs.length
  | false, .own _ _ n => some n
  | false, .rl _ _ => some 0
  | true, .str s => some s.size
  | _, _ => none

def isInt : AV → Option Int
  | .int _ n => some n
  | _ => none

def optI (σ : List AV) : Option SOpd → Option (Option Int)
  | none => some none
  | some x => (isInt (ev σ x)).map some

def gradedCmp (op : BinOp) (x y : Int) : Option Bool :=
  match op with
  | .eql => some (decide (x = y))
  | .neq => some (!decide (x = y))
  | .lss => some (decide (x < y))
  | .leq => some (decide (x ≤ y))
  | .gtr => some (decide (y < x))
  | .geq => some (decide (y ≤ x))
  | _ => none

def binInt (op : BinOp) (k : IntKind) (x y : Int) : Option AV :=
  match op with
  | .add => some (.int k (k.wrap (x + y)))
  | .sub => some (.int k (k.wrap (x - y)))
  | .mul => some (.int k (k.wrap (x * y)))
  | .quo => if y = 0 then none else some (.int k (k.wrap (x.tdiv y)))
  | .rem => if y = 0 then none else some (.int k (x.tmod y))
  | .and => some (.int k (k.wrap (BitVec.ofInt k.bits x &&& BitVec.ofInt k.bits y).toNat))
  | .or => some (.int k (k.wrap (BitVec.ofInt k.bits x ||| BitVec.ofInt k.bits y).toNat))
  | .xor => some (.int k (k.wrap (BitVec.ofInt k.bits x ^^^ BitVec.ofInt k.bits y).toNat))
  | .andNot => some (.int k (k.wrap (BitVec.ofInt k.bits x &&& ~~~(BitVec.ofInt k.bits y)).toNat))
  | .shl | .shr => none
  | o => (gradedCmp o x y).map .bool

def binOpA (op : BinOp) (tag : Nat) (x y : AV) : Option AV :=
  match op, x, y with
  | .shl, .int k a, .int _ b => if b < 0 then none else some (.int k (k.wrap (a * 2 ^ (min b.toNat k.bits))))
  | .shr, .int k a, .int _ b => if b < 0 then none else some (.int k (a.fdiv (2 ^ (min b.toNat k.bits))))
  | op, .int k a, .int k' b => if k = k' then binInt op k a b else none
  | .eql, .bool a, .bool b => if tag = 1 then some (.bool (a == b)) else none
  | .neq, .bool a, .bool b => if tag = 1 then some (.bool (!(a == b))) else none
  | .eql, .str a, .str b => some (.bool (a.toList == b.toList))
  | .neq, .str a, .str b => some (.bool (a.toList != b.toList))
  | .add, .str a, .str b => if a.size + b.size ≤ 4611686018427387904 then some (.str (a ++ b)) else none
  | .eql, .nilP, .nilP => if tag = 2 then some (.bool true) else none
  | .neq, .nilP, .nilP => if tag = 2 then some (.bool false) else none
  | .eql, .ref _ _ _, .nilP => if tag = 2 then some (.bool false) else none
  | .neq, .ref _ _ _, .nilP => if tag = 2 then some (.bool true) else none
  | .eql, .nilI, .nilI => if tag = 3 then some (.bool true) else none
  | .neq, .nilI, .nilI => if tag = 3 then some (.bool false) else none
  | .eql, .ifc _ _, .nilI => if tag = 3 then some (.bool false) else none
  | .neq, .ifc _ _, .nilI => if tag = 3 then some (.bool true) else none
  | .eql, x, .ro _ [] true => if tag = 4 then (nilq x).map .bool else none
  | .neq, x, .ro _ [] true => if tag = 4 then (nilq x).map (fun b => .bool (!b)) else none
  | _, _, _ => none

/-- Structs of numbers (0), truths (1) and strings (2), compared cell by cell. -/
def eqCs : List Nat → List AV → List AV → Option Bool
  | [], [], [] => some true
  | 0 :: ks, .int k a :: cs, .int k' b :: ds => if k = k' then (eqCs ks cs ds).map (fun r => (a == b) && r) else none
  | 1 :: ks, .bool a :: cs, .bool b :: ds => (eqCs ks cs ds).map (fun r => (a == b) && r)
  | 2 :: ks, .str a :: cs, .str b :: ds => (eqCs ks cs ds).map (fun r => (a.toList == b.toList) && r)
  | _, _, _ => none

/-- What a call comes to, its rows only read. -/
def FV (C : FT) (g : Nat) (as : List AV) : Option AV := (C g as []).map fun p => clo [] 504 (zipFrom 0 p.2) p.1

/-- What an address leads to, from there on. -/
def at_ (H : Heap) : AV → Option (List AV)
  | .rref cs => some cs
  | .ref id i off => match lk H id with
    | some o => if h : i < o.elems.length then (if off ≤ o.elems[i].length then some (o.elems[i].drop off) else none) else none
    | none => none
  | _ => none

/-- An operation that turns nothing that is there: its value, the objects that it makes (numbers from 'base' on). -/
def calm (C : FT) (σ : List AV) (H : Heap) (base : Nat) : SOp → Option (AV × List AObj)
  | .move x => some (ev σ x, [])
  | .pick c a b => match ev σ c with
    | .bool t => some (if t then ev σ a else ev σ b, [])
    | _ => none
  | .alloc t zero => some (.ref base 0 0, [⟨t, zero.length, true, [zero], 0⟩])
  | .box t x => if (cells (ev σ x)).all one then some (.ref base 0 0, [⟨t, (cells (ev σ x)).length, true, [cells (ev σ x)], 0⟩]) else none
  | .build places zero parts => match fill (fun i => places[i]?) zero (parts.map fun p => (p.1, ev σ p.2)) with
    | some cs => some (.agg cs, [])
    | none => none
  | .buildSlice t sz n zero parts => match fill (fun i => some (i * sz, sz)) (List.replicate n zero).flatten (parts.map fun p => (p.1, ev σ p.2)) with
    | some cs => if n = 0 then some (.ro sz [] true, []) else some (.own base 0 n, [⟨t, sz, false, (List.range n).map fun i => (cs.drop (i * sz)).take sz, 0⟩])
    | none => none
  | .buildRO sz n zero parts => match fill (fun i => some (i * sz, sz)) (List.replicate n zero).flatten (parts.map fun p => (p.1, ev σ p.2)) with
    | some cs => if n = 0 then some (.ro sz [] true, []) else if cs.all simple = true then some (.ro sz ((List.range n).map fun i => (cs.drop (i * sz)).take sz) false, []) else none
    | none => none
  | .load agg n a => match at_ H (ev σ a) with
    | some cs => if n ≤ cs.length then (if agg then some (.agg (cs.take n), []) else match cs with | c :: _ => some (c, []) | [] => none) else none
    | none => none
  | .nilCheck x => match ev σ x with
    | .ref id i o => some (.ref id i o, [])
    | .rref cs => some (.rref cs, [])
    | _ => none
  | .bin op tag x y => match binOpA op tag (ev σ x) (ev σ y) with
    | some v => some (v, [])
    | none => none
  | .un op x => match op, ev σ x with
    | .neg, .int k n => some (.int k (k.wrap (0 - n)), [])
    | .not, .bool b => some (.bool (!b), [])
    | .xor, .int k n => some (.int k (k.wrap (BitVec.ofInt k.bits (if k.signed then -1 else k.max) ^^^ BitVec.ofInt k.bits n).toNat), [])
    | _, _ => none
  | .conv c x => match c, ev σ x with
    | .int k, .int _ n => some (.int k (k.wrap n), [])
    | .same, .str s => some (.str s, [])
    | .toBytes _, .str s => some (.ro 1 (bytesRow s) false, [])
    | .ownBytes e, .str s => if s.size ≤ 140737488355328 then some (.own base 0 s.size, [⟨e, 1, false, bytesRow s, 0⟩]) else none
    | .ofBytes, v => match content 1 H v with
      | some xs => if xs.all isByte then some (.str (strOf xs), []) else none
      | none => none
    | _, _ => none
  | .mkIfc t x => some (.ifc t (ev σ x), [])
  | .mkFn f a b => some (.fn f (evs σ a) (evs σ b), [])
  | .makeSlice t sz bytes zero l c => match ev σ l, ev σ c with
    | .int .i64 n, .int .i64 m => if 0 ≤ n ∧ n ≤ m ∧ m.toNat * bytes ≤ 140737488355328 ∧ m.toNat ≤ 140737488355328 then some (.own base 0 n.toNat, [⟨t, sz, false, List.replicate n.toNat zero, 0⟩]) else none
    | _, _ => none
  | .slice sz x lo hi mx => match optI σ lo, optI σ hi, optI σ mx with
    | some lo, some hi, some mx => match ev σ x with
      | .ro s xs full => if ¬ (s = sz ∨ xs = []) then none else match mx with
        | none => let l := lo.getD 0; let h := hi.getD xs.length
          if 0 ≤ l ∧ l ≤ h ∧ h ≤ xs.length then some (.ro s ((xs.take h.toNat).drop l.toNat) (full && decide (h = xs.length)), []) else none
        | some m => match hi with
          | some h => let l := lo.getD 0
            if 0 ≤ l ∧ l ≤ h ∧ h ≤ m ∧ m ≤ xs.length then some (.ro s ((xs.take h.toNat).drop l.toNat) (decide (h = m)), []) else none
          | none => none
      | .own id o len => match mx with
        | none => let l := lo.getD 0; let h := hi.getD len
          match lk H id with
          | some ob => if ob.sz = sz ∧ 0 ≤ l ∧ l ≤ h ∧ (h ≤ len ∨ (0 < len ∧ o + h ≤ ob.elems.length)) then some (.own id (o + l.toNat) (h.toNat - l.toNat), []) else none
          | none => none
        | some m => match hi with
          | some h => let l := lo.getD 0
            if 0 ≤ l ∧ l ≤ h ∧ h ≤ m ∧ m ≤ len then some (.top, []) else none
          | none => none
      | _ => none
    | _, _, _ => none
  | .sliceR sz x lo hi => match optI σ lo, optI σ hi with
    | some lo, some hi => match ev σ x with
      | .own id o len => let l := lo.getD 0; let h := hi.getD len
        match lk H id with
        | some ob => if ob.sz = sz ∧ 0 ≤ l ∧ l ≤ h ∧ (h ≤ len ∨ o + h ≤ ob.elems.length) ∧ 0 < len ∧ 0 < sz then (if h = l then (if l.toNat < len then some (.rl id (o + l.toNat), []) else some (.ro sz [] false, [])) else some (.own id (o + l.toNat) (h.toNat - l.toNat), [])) else none
        | none => none
      | .rl id o => match lo, hi with
        | some l, some h => match lk H id with
          | some ob => if ob.sz = sz ∧ 0 ≤ l ∧ l < h ∧ o + h ≤ ob.elems.length then some (.own id (o + l.toNat) (h.toNat - l.toNat), []) else none
          | none => none
        | _, _ => none
      | _ => none
    | _, _ => none
  | .sliceS x lo hi => match optI σ lo, optI σ hi with
    | some lo, some hi => match ev σ x with
      | .str s => let l := lo.getD 0; let h := hi.getD s.size
        if 0 ≤ l ∧ l ≤ h ∧ h ≤ s.size then some (.str (s.extract l.toNat h.toNat), []) else none
      | _ => none
    | _, _ => none
  | .fieldAddr x off => match ev σ x with
    | .ref id i o => some (.ref id i (o + off), [])
    | .rref cs => if off ≤ cs.length then some (.rref (cs.drop off), []) else none
    | _ => none
  | .field x agg off n => match ev σ x with
    | .agg cs => if off + n ≤ cs.length then (if agg then some (.agg ((cs.drop off).take n), []) else match cs.drop off with | c :: _ => some (c, []) | [] => none) else none
    | _ => none
  | .indexAddr sz x i => match ev σ i with
    | .int _ j => match ev σ x with
      | .ro s xs _ => if h : s = sz ∧ 0 ≤ j ∧ j < xs.length then some (.rref (xs[j.toNat]'(by omega)), []) else none
      | .own id lo len => match lk H id with
        | some ob => if ob.sz = sz ∧ 0 ≤ j ∧ j < len then some (.ref id (lo + j.toNat) 0, []) else none
        | none => none
      | _ => none
    | _ => none
  | .indexAddrA len sz x i => match ev σ i with
    | .int _ j => if 0 ≤ j ∧ j < len then (match ev σ x with
      | .ref id r o => some (.ref id r (o + j.toNat * sz), [])
      | .rref cs => if j.toNat * sz ≤ cs.length then some (.rref (cs.drop (j.toNat * sz)), []) else none
      | _ => none) else none
    | _ => none
  | .indexA len sz agg x i => match ev σ i with
    | .int _ j => if 0 ≤ j ∧ j < len then (match ev σ x with
      | .agg cs => if j.toNat * sz + sz ≤ cs.length then (if agg then some (.agg ((cs.drop (j.toNat * sz)).take sz), []) else match cs.drop (j.toNat * sz) with | c :: _ => some (c, []) | [] => none) else none
      | _ => none) else none
    | _ => none
  | .indexS x i => match ev σ i with
    | .int _ j => match ev σ x with
      | .str s => if 0 ≤ j then (match s[j.toNat]? with | some b => some (.int .u8 b.toNat, []) | none => none) else none
      | _ => none
    | _ => none
  | .assert t x => match ev σ x with
    | .ifc t' v => if t' = t then some (v, []) else none
    | _ => none
  | .assertOk t zero x => match ev σ x with
    | .ifc t' v => if t' = t then some (.tup [v, .bool true], []) else some (.tup [zero, .bool false], [])
    | .nilI => some (.tup [zero, .bool false], [])
    | _ => none
  | .extract x i => match ev σ x with
    | .tup vs => match vs[i]? with
      | some v => some (v, [])
      | none => none
    | _ => none
  | .call f mode args => match target σ f with
    | some (g, a, b) => match callArgs H mode (a ++ evs σ args ++ b) with
      | some (as, [], [], L) => match C g as [] with
        | some (r, Hs) => if !L.isEmpty && roAny r Hs then none
          else some (r.ren (fun i => some (base + i)), Hs.map (AObj.ren fun i => some (base + i)))
        | none => none
      | _ => none
    | none => none
  | .callF f mode args => match target σ f with
    | some (g, a, b) => match callArgs H mode (a ++ evs σ args ++ b) with
      | some (as, [], [], L) => if L.isEmpty then (match FV C g as with
          | some v => some (v, [])
          | none => none)
        else (match C g as [] with
          | some (r, Hs) => if roAny r Hs then none else some (clo [] 504 (zipFrom 0 Hs) r, [])
          | none => none)
      | _ => none
    | none => none
  | .moveS t sz x => match ev σ x with
    | .ro _ [] true => some (.own base 0 0, [⟨t, sz, false, [], 0⟩])
    | v => some (v, [])
  | .nilRow t sz => some (.own base 0 0, [⟨t, sz, false, [], 0⟩])
  | .len str x => match lenOf str (ev σ x) with
    | some n => some (.int .i64 n, [])
    | none => none
  | .append t sz bytes s x => match ev σ s with
    | .ro s xs full => if full = true ∧ (s = sz ∨ xs = []) then (match content sz H (ev σ x) with
      | some ys => if xs ≠ [] ∧ ys = [] then none else if (xs.length + ys.length) * bytes ≤ 140737488355328 ∧ xs.length + ys.length ≤ 140737488355328 then some (.own base 0 (xs.length + ys.length), [⟨t, sz, false, xs ++ ys, 0⟩]) else none
      | none => none) else none
    | _ => none
  | .appendS t bytes s x => match ev σ s with
    | .ro _ xs full => if full = true then (match ev σ x with
      | .str ys => if xs ≠ [] then none else if ys.size * bytes ≤ 140737488355328 ∧ ys.size ≤ 140737488355328 then some (.own base 0 ys.size, [⟨t, 1, false, bytesRow ys, 0⟩]) else none
      | _ => none) else none
    | _ => none
  | .minmax mx xs => match evs σ xs with
    | [.int k a, .int k' b] => if k = k' then some (.int k (if mx then (if a < b then b else a) else (if b < a then b else a)), []) else none
    | _ => none
  | .eqS ne ks x y => match ev σ x, ev σ y with
    | .agg cs, .agg ds => match eqCs ks cs ds with
      | some b => some (.bool (if ne = true then !b else b), [])
      | none => none
    | _, _ => none
  | _ => none

/-- Cells of an object written over. -/
def setCells (o : AObj) (i off : Nat) (vs : List AV) : Option AObj :=
  match o.elems[i]? with
  | some x => if off + vs.length ≤ x.length then some { o with elems := o.elems.set i (x.take off ++ vs ++ x.drop (off + vs.length)) } else none
  | none => none

def drop1 (id : Nat) (i : Nat) : Option Nat := if i = id then none else some i

def forget (id : Nat) (st : ASt) : ASt :=
  { st with σ := st.σ.map fun v => v.ren (drop1 id), H := st.H.map fun p => (p.1, p.2.ren (drop1 id)) }

/-- The callee's numbers, told as the caller's. -/
def backTo (G : List Nat) (base : Nat) (i : Nat) : Option Nat := if h : i < G.length then some G[i] else some (base + (i - G.length))

/-- Rows that have moved. -/
def moved : List Nat → List AObj → List AObj → List Nat
  | g :: G, o :: os, o' :: os' => (if o'.ver = o.ver then [] else [g]) ++ moved G os os'
  | G, _, _ => G

def dropL (D : List Nat) (i : Nat) : Option Nat := if D.contains i then none else some i

def hputs : Heap → List Nat → List AObj → Heap
  | H, g :: G, o :: os => hputs (hput H g o) G os
  | H, _, _ => H

/-- The activation behind a call. -/
def behind (st : ASt) (base : Nat) (G : List Nat) (os Hs : List AObj) : ASt :=
  { st with
    σ := st.σ.map (AV.ren (dropL (moved G os Hs)))
    H := zipFrom base ((Hs.drop G.length).map (AObj.ren (backTo G base))) ++ hputs (st.H.map fun p => (p.1, p.2.ren (dropL (moved G os Hs)))) G ((Hs.take G.length).map (AObj.ren (backTo G base))) }

/-- An operation that may turn what is there: its value, the activation behind it. -/
def loud (C : FT) (st : ASt) (base : Nat) : SOp → Option (AV × ASt)
  | .store n a v => match ev st.σ a with
    | .ref id i off => match lk st.H id with
      | some o => if (cells (ev st.σ v)).length = n ∧ (cells (ev st.σ v)).all one = true then (match setCells o i off (cells (ev st.σ v)) with
        | some o' => some (.top, { st with H := hput st.H id o' })
        | none => none) else none
      | none => none
    | _ => none
  | .call f mode args => match target st.σ f with
    | some (g, a, b) => match callArgs st.H mode (a ++ evs st.σ args ++ b) with
      | some (as, G, os, L) => match C g as os with
        | some (r, Hs) =>
          if G.isEmpty && !(!L.isEmpty && roAny r Hs) then none else
          if Hs.length < G.length ∨ 64 < Hs.length - G.length then none else
          if !L.isEmpty && roAny r Hs then (if L.any (fun i => decide (i < st.k)) then none else
            some (r.ren (backTo G base), behind (freeze L st) base G os Hs))
          else some (r.ren (backTo G base), behind st base G os Hs)
        | none => none
      | none => none
    | none => none
  | .callF f mode args => match target st.σ f with
    | some (g, a, b) => match callArgs st.H mode (a ++ evs st.σ args ++ b) with
      | some (as, [], [], L) => if L.isEmpty then none else (match C g as [] with
        | some (r, Hs) => if roAny r Hs = true then (if L.any (fun i => decide (i < st.k)) then none else some (clo [] 504 (zipFrom 0 Hs) r, freeze L st)) else none
        | none => none)
      | _ => none
    | none => none
  | .append t sz bytes s x => match ev st.σ s with
    | .own id 0 n => match content sz st.H (ev st.σ x), lk st.H id with
      | some ys, some o =>
        if o.sz = sz ∧ o.t = t ∧ o.box = false ∧ n ≤ o.elems.length ∧ (n + ys.length) * bytes ≤ 140737488355328 ∧ n + ys.length ≤ 140737488355328 then
          (if n + ys.length ≤ o.elems.length ∧ (0 < n ∨ ys = []) then some (.own id 0 (n + ys.length), { st with H := hput st.H id { o with elems := o.elems.take n ++ ys ++ o.elems.drop (n + ys.length) } })
          else
            let st' := forget id st
            some (.own id 0 (n + ys.length), { st' with H := hput st'.H id { o with elems := (o.elems.take n ++ ys).map (fun x => x.map fun c => c.ren (drop1 id)), ver := o.ver + 1 } }))
        else none
      | _, _ => none
    | .own id lo n => match content sz st.H (ev st.σ x), lk st.H id with
      | some ys, some o =>
        if o.sz = sz ∧ o.t = t ∧ o.box = false ∧ lo + n ≤ o.elems.length ∧ (n + ys.length) * bytes ≤ 140737488355328 ∧ n + ys.length ≤ 140737488355328 ∧ ys ≠ [] then
          (let st' := forget id st
          some (.own id 0 (n + ys.length), { st' with H := hput st'.H id { o with elems := ((o.elems.drop lo).take n ++ ys).map (fun x => x.map fun c => c.ren (drop1 id)), ver := o.ver + 1 } }))
        else none
      | _, _ => none
    | .rl id 0 => match content sz st.H (ev st.σ x), lk st.H id with
      | some ys, some o =>
        if o.sz = sz ∧ o.t = t ∧ o.box = false ∧ ys.length ≤ o.elems.length then
          (if ys = [] then some (.rl id 0, st) else some (.own id 0 ys.length, { st with H := hput st.H id { o with elems := ys ++ o.elems.drop ys.length } }))
        else none
      | _, _ => none
    | _ => none
  | .clear sz zero x => match ev st.σ x with
    | .own id lo len => match lk st.H id with
      | some o => if o.sz = sz ∧ o.box = false ∧ zero.length = sz ∧ lo + len ≤ o.elems.length then some (.top, { st with H := hput st.H id { o with elems := o.elems.take lo ++ List.replicate len zero ++ o.elems.drop (lo + len) } }) else none
      | none => none
    | _ => none
  | .appendS t bytes s x => match ev st.σ s with
    | .own id 0 n => match ev st.σ x, lk st.H id with
      | .str y, some o =>
        let ys : List (List AV) := bytesRow y
        if o.sz = 1 ∧ o.t = t ∧ o.box = false ∧ n ≤ o.elems.length ∧ (n + ys.length) * bytes ≤ 140737488355328 ∧ n + ys.length ≤ 140737488355328 then
          (if n + ys.length ≤ o.elems.length ∧ (0 < n ∨ ys = []) then some (.own id 0 (n + ys.length), { st with H := hput st.H id { o with elems := o.elems.take n ++ ys ++ o.elems.drop (n + ys.length) } })
          else
            let st' := forget id st
            some (.own id 0 (n + ys.length), { st' with H := hput st'.H id { o with elems := (o.elems.take n ++ ys).map (fun x => x.map fun c => c.ren (drop1 id)), ver := o.ver + 1 } }))
        else none
      | _, _ => none
    | _ => none
  | _ => none

def put (st : ASt) (dst : Option Nat) (v : AV) : ASt := match dst with
  | some d => { st with σ := st.σ.set d v }
  | none => st

def guardOf (σ : List AV) : Option (Nat × Bool) → Option Bool
  | none => some true
  | some (t, want) => match σ.getD t .top with
    | .bool b => some (b == want)
    | .tup [] => some false
    | _ => none

/-- An operation comes to the same in this state, too. -/
def late1 (st : ASt) (l : SLate) : Bool := match guardOf st.σ l.guard with
  | none => false
  | some false => match l.dst with
    | none => true
    | some d => decide (st.σ.getD d .top = .tup [])
  | some true => match calm (fun _ _ _ => none) st.σ st.H (st.nxt + 64 * l.i) l.op with
    | some (v, []) => (match l.dst with
      | none => true
      | some d => decide (st.σ.getD d .top = v))
    | _ => false

def aops (C : FT) (draw : Bool) : List SOper → Nat → ASt → Option ASt
  | [], _, st => some st
  | o :: r, i, st =>
    match guardOf st.σ o.guard with
    | none => none
    | some false => aops C draw r (i + 1) (put st o.dst (.tup []))
    | some true => match calm C st.σ st.H (st.nxt + 64 * i) o.op with
      | some (v, adds) => if adds.length ≤ 64 then aops C draw r (i + 1) (put { st with H := zipFrom (st.nxt + 64 * i) adds ++ st.H } o.dst v) else none
      | none => if draw && !o.bar then none else match loud C st (st.nxt + 64 * i) o.op with
        | some (v, st') => if o.late.all (late1 (put st' o.dst v)) = true then aops C draw r (i + 1) (put st' o.dst v) else none
        | none => none

def acode (C : FT) (L : LT) : SCode → ASt → Option (AEx × ASt)
  | .skip, st => some (.normal, st)
  | .region ops draw, st => match aops C draw ops 0 st with
    | some st' => some (.normal, { st' with nxt := st'.nxt + 64 * ops.length })
    | none => none
  | .seq a b, st => match acode C L a st with
    | some (.normal, st') => acode C L b st'
    | r => r
  | .cond c a b, st => match ev st.σ c with
    | .bool t => if t = true then acode C L a st else acode C L b st
    | _ => none
  | .block id c, st => match acode C L c st with
    | some (.exit j, st') => if j = id then some (.normal, st') else some (.exit j, st')
    | r => r
  | .loop lv c, st => L lv c st
  | .exit id, st => some (.exit id, st)
  | .ret, st => some (.ret, st)

/-- An object that did not come with the call has no history. -/
def fresh (k n : Nat) (o : AObj) : AObj := if n < k then o else { o with ver := 0 }

/-- The objects under numbers in order. -/
def relist (H : Heap) (f : Nat → Option Nat) (k : Nat) : Nat → List Nat → Heap
  | _, [] => []
  | n, i :: L => match lk H i with
    | some o => (n, fresh k n (o.ren f)) :: relist H f k (n + 1) L
    | none => relist H f k (n + 1) L

def freshes (k : Nat) : Nat → List AObj → List AObj
  | _, [] => []
  | n, o :: r => fresh k n o :: freshes k (n + 1) r

def living (lv : List Nat) : Nat → List AV → List AV
  | _, [] => []
  | n, x :: r => (if lv.contains n then x else .top) :: living lv (n + 1) r

/-- Numbers in order: those that came with the call, then those that the living values lead to. -/
def canon (lv : List Nat) (st : ASt) : ASt :=
  let σ1 := living lv 0 st.σ
  let L := (List.range st.k ++ closure st.H 3 (List.range st.k ++ σ1.flatMap (ids 504))).eraseDups
  if L.Nodup ∧ L.take st.k = List.range st.k then
    { σ := σ1.map fun v => v.ren (pos L), H := relist st.H (pos L) st.k 0 L, nxt := L.length, k := st.k }
  else st

def start (fn : SFun) (args : List AV) (Hs : List AObj) : ASt :=
  { σ := args ++ List.replicate (fn.nt - args.length) .top, H := zipFrom 0 Hs, nxt := Hs.length, k := Hs.length }

def rval (st : ASt) : SRes → Option AV
  | .tmp t => some (st.σ.getD t .top)
  | .cell t agg n => match at_ st.H (st.σ.getD t .top) with
    | some cs => if n ≤ cs.length then (if agg then some (.agg (cs.take n)) else cs[0]?) else none
    | none => none

def result : List AV → AV
  | [v] => v
  | vs => .tup vs

def finish (fn : SFun) (st : ASt) : Option (AV × List AObj) :=
  match fn.res.mapM (rval st) with
  | some vs =>
    let r := result vs
    let L := (List.range st.k ++ closure st.H 3 (List.range st.k ++ ids 504 r)).eraseDups
    if L.Nodup ∧ L.take st.k = List.range st.k then (match L.mapM (lk st.H) with
    | some os => some (r.ren (pos L), freshes st.k 0 (os.map (AObj.ren (pos L))))
    | none => none) else none
  | none => none

/-- A copy of a slice. -/
def cloneR (e sz bytes : Nat) : List AV → List AObj → Option (AV × List AObj)
  | [.ro s xs _], [] => if (s = sz ∨ xs = []) ∧ xs.length * bytes ≤ 140737488355328 ∧ xs.length ≤ 140737488355328 ∧ xs.all (fun x => x.all simple) = true then
      some (.own 0 0 xs.length, [⟨e, sz, false, xs, 0⟩]) else none
  | _, _ => none

/-- The code that copies a slice. -/
def cloneBody (e sz bytes : Nat) (zero : List AV) : SCode :=
  (.seq (.region [⟨(some 2), (.nilRow e sz), none, false, []⟩] false) (.seq (.seq (.region [⟨(some 3), (.moveS e sz (.tmp 0)), none, false, []⟩, ⟨(some 4), (.bin .eql 4 (.tmp 3) (.cst (.ro 0 [] true))), none, false, []⟩] false) (.cond (.tmp 4) (.seq (.region [⟨(some 2), (.nilRow e sz), none, false, []⟩] false) .ret) .skip)) (.seq (.region [⟨(some 5), (.buildSlice e sz 0 zero []), none, false, []⟩, ⟨(some 6), (.moveS e sz (.tmp 0)), none, false, []⟩, ⟨(some 7), (.append e sz bytes (.tmp 5) (.tmp 6)), none, false, []⟩, ⟨(some 2), (.moveS e sz (.tmp 7)), none, false, []⟩] false) .ret)))

def isClone (e sz bytes : Nat) (s : SFun) : Prop := ∃ zero, s.nt = 8 ∧ s.res = [.tmp 2] ∧ s.body = cloneBody e sz bytes zero

def runFn (C : FT) (L : LT) (fn : SFun) (args : List AV) (Hs : List AObj) : Option (AV × List AObj) :=
  match fn.prim with
  | some f => f args Hs
  | none => match acode C L fn.body (start fn args Hs) with
    | some (.normal, st) => finish fn st
    | some (.ret, st) => finish fn st
    | _ => none

def runBoth (T : Nat → Option SFun) : Nat → FT × LT
  | 0 => (fun _ _ _ => none, fun _ _ _ => none)
  | n + 1 =>
    (fun f args Hs => match T f with
      | some fn => runFn (runBoth T n).1 (runBoth T n).2 fn args Hs
      | none => none,
     fun lv c st => match acode (runBoth T n).1 (runBoth T n).2 c (canon lv st) with
      | some (.normal, st') => (runBoth T n).2 lv c st'
      | r => r)

end Go.Proofs.Ytjpccbjgmogclaa.Lift
