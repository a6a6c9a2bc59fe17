/- A reading of the program's code by values alone: the program's code with its types reckoned away (definitions only). -/
import Derived.Test.YtjpccbjgmogclaaLiftA
set_option linter.all false
set_option linter.unusedSimpArgs false
namespace Go.Proofs.Ytjpccbjgmogclaa.Lift
open Go Go.RowKit

def cval : Value → Option AV
  | .bool b => some (.bool b)
  | .int k n => some (.int k n)
  | .string s => some (.str s)
  | .pointer none => some .nilP
  | .slice none 0 0 => some (.ro 0 [] true)
  | .nilFunc => some .nilF
  | .nilIface => some .nilI
  | _ => none

def cval' : Value → Option AV
  | .agg cs => (cs.toList.mapM cval).map .agg
  | v => cval v

def copd : Operand → Option SOpd
  | .tmp t => some (.tmp t)
  | .const v => (cval' v).map .cst
  | .func f => some (.cst (.fn (.func f) [] []))
  | .global _ => none

def tsz (P : Program) (t : TypeId) : Option Nat := (P.info? t).map (·.size)
def tagg (P : Program) (t : TypeId) : Option Bool := match P.underlying t with
  | some (.struct _) => some true
  | some (.array _ _) => some true
  | some _ => some false
  | none => none
/-- Of each cell of a type: if it is a slice, how many cells its elements have. -/
def szs (P : Program) : Nat → TypeId → List Nat
  | 0, _ => []
  | n + 1, t => match P.underlying t with
    | some (.struct fs) => fs.toList.flatMap fun f => szs P n f.type
    | some (.array len e) => (List.replicate len (szs P n e)).flatten
    | some (.slice e) => [(tsz P e).getD 0]
    | _ => [0]

def nz : List AV → List Nat → List AV
  | .ro 0 [] true :: r, s :: l => .ro s [] true :: nz r l
  | a :: r, _ :: l => a :: nz r l
  | r, [] => r
  | [], _ => []

def tzero (P : Program) (t : TypeId) : Option (List AV) := match P.info? t with
  | some i => match i.zero with
    | some v => if v.cells.size = i.size then (v.cells.toList.mapM cval).map fun cs => nz cs (szs P 9 t) else none
    | none => none
  | none => none
/-- A type's zero value. -/
def tzeroV (P : Program) (t : TypeId) : Option AV := match P.info? t with
  | some i => match i.zero with
    | some v => cval' v
    | none => none
  | none => none
def telem (P : Program) (t : TypeId) : Option TypeId := match P.underlying t with
  | some (.slice e) => some e
  | _ => none
def isU8 (P : Program) (t : TypeId) : Bool := match P.underlying t with
  | some (.int .u8) => true
  | _ => false

/-- An operand of a type: a slice that is nil has elements of some size. -/
def copdT (P : Program) (t : TypeId) (x : Operand) : Option SOpd := match copd x with
  | some (.cst (.ro 0 [] true)) => match telem P t with
    | some e => match tsz P e with
      | some sz => some (.cst (.ro sz [] true))
      | none => some (.cst (.ro 0 [] true))
    | none => some (.cst (.ro 0 [] true))
  | r => r

def cargs (P : Program) : List TypeId → List Operand → Option (List SOpd)
  | _, [] => some []
  | t :: ts, x :: xs => match copdT P t x, cargs P ts xs with
    | some s, some r => some (s :: r)
    | _, _ => none
  | [], x :: xs => match copd x, cargs P [] xs with
    | some s, some r => some (s :: r)
    | _, _ => none

def copt : Option Operand → Option (Option SOpd)
  | none => some none
  | some x => (copd x).map some

/-- The kinds of the cells of a type of numbers, truths and strings. -/
def fieldsK (q : TypeId → Option (List Nat)) : Nat → List Field → Option (List Nat)
  | _, [] => some []
  | off, f :: fs => if f.name ≠ "_" ∧ f.offset = off then (match q f.type with
    | some ks => (fieldsK q (off + ks.length) fs).map (ks ++ ·)
    | none => none) else none

def kindsT (P : Program) : Nat → TypeId → Option (List Nat)
  | 0, _ => none
  | n + 1, t => match P.underlying t with
    | some (.int _) => some [0]
    | some .bool => some [1]
    | some .string => some [2]
    | some (.struct fs) => if P.stoodInHeld t = false then (match fieldsK (kindsT P n) 0 fs.toList with
      | some ks => if tsz P t = some ks.length then some ks else none
      | none => none) else none
    | _ => none

def seqK (P : Program) (op : BinOp) (t : TypeId) : Option (Bool × List Nat) :=
  match P.underlying t with
  | some (.struct _) => if P.eqGuardType P.depth t = false then (match op with
    | .eql => (kindsT P 20 t).map (false, ·)
    | .neq => (kindsT P 20 t).map (true, ·)
    | _ => none) else none
  | _ => none

/-- How a function is called: are its results' rows only read from then on; what goes along. -/
def cmode (gr : List Nat) : Operand → Bool × Nat
  | .func g => if gr.contains (g + 1000000) then (false, 1) else if gr.contains (g + 2000000) then (false, 0) else if gr.contains (g + 3000000) then (true, 2) else if gr.contains (g + 4000000) then (false, 2) else (true, 0)
  | _ => (false, 0)

/-- Which function a method of a type is. -/
def inv1 (P : Program) (m : String) (t : Nat) : Option (Nat × Nat) :=
  match P.info? t with
  | some i => match i.methods.find? (·.name == m) with
    | some r => if r.path.toList.isEmpty then (match r.func with
      | some (f, false) => match P.underlying t with
        | some (.pointer _) => none
        | some _ => some (t, f)
        | none => none
      | _ => none) else none
    | none => none
  | none => none

def invTbl (P : Program) (m : String) : List (Nat × Nat) := (List.range P.types.size).filterMap (inv1 P m)

def isNilRow : Operand → Bool
  | .const (.slice none 0 0) => true
  | _ => false

/-- The type and the cells of a row's elements, where a row is nil. -/
def nilRowOf (P : Program) (gr : List Nat) (x : Operand) (t : TypeId) : Option (Nat × Nat) :=
  if isNilRow x = true ∧ gr.contains 9000000 = false then (match telem P t with
    | some e => (tsz P e).map (e, ·)
    | none => none) else none

def moveSOf (P : Program) (gr : List Nat) (t : TypeId) : Option (Nat × Nat) :=
  if gr.contains 9000000 = false then (match telem P t with
    | some e => (tsz P e).map (e, ·)
    | none => none) else none

def comp (P : Program) (gr : List Nat) (o : Oper) : Option SOp :=
  match o.op with
  | .move x | .assign x => match nilRowOf P gr x o.type with
    | some (e, sz) => some (.nilRow e sz)
    | none => match moveSOf P gr o.type with
      | some (e, sz) => do some (.moveS e sz (← copd x))
      | none => do some (.move (← copd x))
  | .pick c a b => do some (.pick (← copd c) (← copd a) (← copd b))
  | .alloc t => do some (.alloc t (← tzero P t))
  | .box t x => do some (.box t (← copd x))
  | .build t parts => do
    let zero ← tzero P t
    match P.underlying t with
    | some (.struct fs) =>
      let places ← fs.toList.mapM fun f => (P.info? f.type).map fun i => (f.offset, i.size)
      let ps ← parts.toList.mapM fun p => do some (p.1, (← copdT P ((fs[p.1]?.map (·.type)).getD 0) p.2))
      some (.build places zero ps)
    | some (.array len e) =>
      let n ← tsz P e
      let ps ← parts.toList.mapM fun p => do some (p.1, (← copd p.2))
      some (.build ((List.range len).map fun i => (i * n, n)) zero ps)
    | _ => none
  | .buildSlice t n parts => do
    let e ← telem P t
    let sz ← tsz P e
    let zero ← tzero P e
    let ps ← parts.toList.mapM fun p => do some (p.1, (← copd p.2))
    if n * sz ≤ 16777216 ∧ 0 < sz then (if gr.contains 9700000 = true then some (.buildRO sz n zero ps) else some (.buildSlice e sz n zero ps)) else none
  | .load t a => do
    let agg ← tagg P t
    let n ← tsz P t
    if agg = true ∨ n = 1 then some (.load agg n (← copd a)) else none
  | .store t a v => do some (.store (← tsz P t) (← copd a) (← copd v))
  | .nilCheck x => do some (.nilCheck (← copd x))
  | .binOp op t x y _ => match seqK P op t with
    | some (ne, ks) => do some (.eqS ne ks (← copd x) (← copd y))
    | none => do
      let tag : Nat := match P.underlying t with
        | some .bool => 1
        | some (.pointer _) => 2
        | some (.interface _) => (match x, y with | .const _, _ => 3 | _, .const _ => 3 | _, _ => 0)
        | some (.slice _) => (match y with | .const (.slice none 0 0) => 4 | _ => 0)
        | _ => 0
      some (.bin op tag (← copd x) (← copd y))
  | .unOp op _ x => do some (.un op (← copd x))
  | .convert s d x => do
    let x ← copd x
    match P.underlying s, P.underlying d with
    | some (.int _), some (.int k) => some (.conv (.int k) x)
    | some .string, some .string => some (.conv .same x)
    | some .string, some (.slice e) => if isU8 P e then (if gr.contains 9600000 = true then some (.conv (.ownBytes e) x) else some (.conv (.toBytes e) x)) else none
    | some (.slice e), some .string => if isU8 P e then some (.conv .ofBytes x) else none
    | _, _ => none
  | .makeInterface t x => do match P.underlying t with
    | some (.interface _) => none
    | some _ => some (.mkIfc t (← copd x))
    | none => none
  | .makeFunc f a b => do some (.mkFn f (← a.toList.mapM copd) (← b.toList.mapM copd))
  | .makeSlice t l c => do
    let e ← telem P t
    let i ← P.info? e
    if 0 < i.size then some (.makeSlice e i.size i.bytes (← tzero P e) (← copd l) (← copd c)) else none
  | .slice t x lo hi mx => do match P.underlying t with
    | some (.slice e) => if gr.contains 9500000 = true ∧ mx.isNone = true then some (.sliceR (← tsz P e) (← copd x) (← copt lo) (← copt hi)) else some (.slice (← tsz P e) (← copd x) (← copt lo) (← copt hi) (← copt mx))
    | some .string => match mx with
      | none => some (.sliceS (← copd x) (← copt lo) (← copt hi))
      | some _ => none
    | _ => none
  | .fieldAddr t x f => do match P.underlying t with
    | some (.struct fs) =>
      let fl ← fs[f]?
      let n ← tsz P fl.type
      if n ≠ 0 then some (.fieldAddr (← copd x) fl.offset) else none
    | _ => none
  | .field t x f => do match P.underlying t with
    | some (.struct fs) =>
      let fl ← fs[f]?
      let n ← tsz P fl.type
      let agg ← tagg P fl.type
      if agg = true ∨ n = 1 then some (.field (← copd x) agg fl.offset n) else none
    | _ => none
  | .indexAddr t x i => do match P.underlying t with
    | some (.slice e) => some (.indexAddr (← tsz P e) (← copd x) (← copd i))
    | some (.array n e) => some (.indexAddrA n (← tsz P e) (← copd x) (← copd i))
    | _ => none
  | .index t x i => do match P.underlying t with
    | some .string => some (.indexS (← copd x) (← copd i))
    | some (.array n e) =>
      let sz ← tsz P e
      let agg ← tagg P e
      if agg = true ∨ sz = 1 then some (.indexA n sz agg (← copd x) (← copd i)) else none
    | _ => none
  | .typeAssert x _ t ok => do match P.underlying t, ok with
    | some (.interface _), _ => none
    | some _, false => some (.assert t (← copd x))
    | some _, true => some (.assertOk t (← tzeroV P t) (← copd x))
    | _, _ => none
  | .extract x i => do some (.extract (← copd x) i)
  | .call c => do match c.callee with
    | .value f => if (cmode gr f).1 = true then some (.callF (.val (← copd f)) (cmode gr f).2 (← cargs P c.argTypes.toList c.args.toList)) else some (.call (.val (← copd f)) (cmode gr f).2 (← cargs P c.argTypes.toList c.args.toList))
    | .invoke x m => some (.call (.inv (invTbl P m) (← copd x)) 0 (← cargs P c.argTypes.toList c.args.toList))
    | .builtin .len => match c.args.toList, c.argTypes.toList with
      | [x], [t] => match P.underlying t with
        | some (.slice _) => some (.len false (← copd x))
        | some .string => some (.len true (← copd x))
        | _ => none
      | _, _ => none
    | .builtin .append => match c.args.toList, c.argTypes.toList with
      | [s, x], [t, u] => do
        let e ← telem P t
        let i ← P.info? e
        let z ← tzero P e
        let s ← copd s
        let x ← copd x
        if 0 < i.size ∧ z.length = i.size then (match P.underlying u with
          | some (.slice _) => if t = u then some (.append e i.size i.bytes s x) else none
          | some .string => if isU8 P e ∧ i.size = 1 then some (.appendS e i.bytes s x) else none
          | _ => none) else none
      | _, _ => none
    | .builtin .clear => match c.args.toList, c.argTypes.toList with
      | [x], [t] => do
        let e ← telem P t
        let sz ← tsz P e
        if 0 < sz then some (.clear sz (← tzero P e) (← copd x)) else none
      | _, _ => none
    | .builtin .min => some (.minmax false (← c.args.toList.mapM copd))
    | .builtin .max => some (.minmax true (← c.args.toList.mapM copd))
    | _ => none
  | _ => none

/-- Which operations stand ahead of each (bit by bit). -/
def befs : List Oper → List Nat → List Nat
  | [], acc => acc
  | o :: r, acc => befs r (acc ++ [o.after.toList.foldl (fun s e => if Region.binds .any e then (s ||| 2 ^ e.on) ||| acc.getD e.on 0 else s) 0])

/-- All that stands behind an operation comes behind it. -/
def isBar (b : List Nat) (n i : Nat) : Bool :=
  (List.range n).all fun j => j ≤ i || (b.getD j 0).testBit i

def otmp : SOpd → List Nat
  | .tmp t => [t]
  | .cst _ => []

def otmps (xs : List SOpd) : List Nat := xs.flatMap otmp

def ootmp : Option SOpd → List Nat
  | some x => otmp x
  | none => []

def ctmp : SCallee → List Nat
  | .val f => otmp f
  | .inv _ x => otmp x

/-- The places that an operation looks at. -/
def stmps : SOp → List Nat
  | .move x | .moveS _ _ x | .box _ x | .load _ _ x | .nilCheck x | .un _ x | .conv _ x | .mkIfc _ x | .fieldAddr x _ | .field x _ _ _ | .assert _ x | .assertOk _ _ x | .extract x _ | .len _ x => otmp x
  | .pick c a b => otmp c ++ (otmp a ++ otmp b)
  | .alloc _ _ => []
  | .build _ _ ps => otmps (ps.map (·.2))
  | .buildSlice _ _ _ _ ps => otmps (ps.map (·.2))
  | .buildRO _ _ _ ps => otmps (ps.map (·.2))
  | .store _ a v | .bin _ _ a v | .eqS _ _ a v | .indexAddr _ a v | .indexAddrA _ _ a v | .indexA _ _ _ a v | .indexS a v | .append _ _ _ a v | .appendS _ _ a v => otmp a ++ otmp v
  | .makeSlice _ _ _ _ l c => otmp l ++ otmp c
  | .mkFn _ a b => otmps a ++ otmps b
  | .slice _ x lo hi mx => otmp x ++ (ootmp lo ++ (ootmp hi ++ ootmp mx))
  | .sliceS x lo hi => otmp x ++ (ootmp lo ++ ootmp hi)
  | .sliceR _ x lo hi => otmp x ++ (ootmp lo ++ ootmp hi)
  | .clear _ _ x => otmp x
  | .call f _ as => ctmp f ++ otmps as
  | .callF f _ as => ctmp f ++ otmps as
  | .nilRow _ _ => []
  | .minmax _ xs => otmps xs

def looks (so : SOper) : List Nat := stmps so.op ++ (match so.guard with | none => [] | some (t, _) => [t])

/-- Each place is written ahead of those that look at it, and in one order. -/
def tmpsOk (sos : List SOper) (b : List Nat) : Bool :=
  (List.range sos.length).all fun j => match sos[j]? with
    | some w => match w.dst with
      | none => true
      | some d => (List.range sos.length).all fun i => match sos[i]? with
        | some o => i == j || !((looks o).contains d || o.dst == some d) || (if j < i then (b.getD i 0).testBit j else (b.getD j 0).testBit i)
        | none => true
    | none => true

def cguard (ops : List Oper) : Option (Nat × Bool) → Option (Option (Nat × Bool))
  | none => some none
  | some (j, want) => match (ops[j]?).bind (·.dst) with
    | some t => some (some (t, want))
    | none => none

def coper (P : Program) (gr : List Nat) (ops : List Oper) (p : Oper × Nat) : Option SOper :=
  match comp P gr p.1, cguard ops p.1.guard with
  | some s, some g => some ⟨p.1.dst, s, g, false, []⟩
  | _, _ => none

def edgesOk (ops : List Oper) : Bool := ops.zipIdx.all fun p => p.1.after.toList.all fun e => !Region.binds .any e || e.on < p.2

/-- May an operation turn what is there? -/
def mayLoud : SOp → Bool
  | .store _ _ _ | .call _ _ _ | .callF _ _ _ | .append _ _ _ _ _ | .appendS _ _ _ _ | .clear _ _ _ => true
  | _ => false

/-- Those ahead of an operation in the text that may come behind it. -/
def lateOf (sos : List SOper) (b : List Nat) (q : Nat) : List SLate :=
  (sos.zipIdx.filter fun p => decide (p.2 < q) && !((b.getD q 0).testBit p.2)).map fun p => ⟨p.2, p.1.dst, p.1.op, p.1.guard⟩

/-- Nothing writes what they look at from them on, nor behind them what they write. -/
def lateStatic (sos : List SOper) (l : SLate) : Bool :=
  sos.zipIdx.all fun p => decide (p.2 < l.i) || match p.1.dst with
    | none => true
    | some d => !((looks ⟨l.dst, l.op, l.guard, false, []⟩).contains d) && (p.2 == l.i || !(l.dst == some d))

def addLate (sos : List SOper) (b : List Nat) (draw : Bool) : List SOper :=
  sos.zipIdx.map fun p => if draw && (mayLoud p.1.op && (isBar b sos.length p.2 && (lateOf sos b p.2).all (lateStatic sos))) then { p.1 with bar := true, late := lateOf sos b p.2 } else p.1

/-- Where a number stands in a list. -/
def posOf : List Nat → Nat → Nat
  | [], _ => 0
  | j :: r, i => if j = i then 0 else posOf r i + 1

/-- An operation, the others told by their places in another order. -/
def renOp (π : List Nat) (o : Oper) : Oper := { o with after := o.after.map fun e => { e with on := posOf π e.on }, guard := o.guard.map fun g => (posOf π g.1, g.2) }

def permOps (π : List Nat) (ops : List Oper) : List Oper := π.filterMap fun i => (ops[i]?).map (renOp π)

/-- Is it all numbers below 'n', each once; do all operations speak of such? -/
def permOk (π : List Nat) (ops : List Oper) : Bool :=
  decide π.Nodup && (π.length == ops.length && ((π.all fun i => decide (i < ops.length)) && ((List.range ops.length).all fun i => π.contains i) && ops.all fun o => (o.after.toList.all fun e => decide (e.on < ops.length)) && match o.guard with
    | none => true
    | some g => decide (g.1 < ops.length)))

/-- An order in which what may turn something comes as late as may be. -/
def pickOrder (b : List Nat) (ld : List Bool) (n : Nat) : Nat → List Nat → List Nat
  | 0, done => done
  | f + 1, done =>
    let ready := (List.range n).filter fun i => !done.contains i && (List.range n).all fun j => !((b.getD i 0).testBit j) || done.contains j
    match ready.find? fun i => !(ld.getD i false) with
    | some i => pickOrder b ld n f (done ++ [i])
    | none => match ready with
      | i :: _ => pickOrder b ld n f (done ++ [i])
      | [] => done

def loudOp (P : Program) (gr : List Nat) (o : Oper) : Bool := match comp P gr o with
  | some s => mayLoud s
  | none => false

/-- The operations, in an order in which each that may turn something stands behind all that needn't come behind it; none where the text's order does. -/
def reorder (P : Program) (gr : List Nat) (ops : List Oper) : Option (List Nat) :=
  let b := befs ops []
  let n := ops.length
  if (ops.zipIdx.all fun p => !(loudOp P gr p.1) || isBar b n p.2) = true then none else
  let π := pickOrder b (ops.map (loudOp P gr)) n n []
  if permOk π ops = true then some π else none

def cregion0 (P : Program) (gr : List Nat) (ops : List Oper) (draw : Bool) : Option SCode :=
  match ops.zipIdx.mapM (coper P gr ops) with
  | some sos => if draw = true ∧ (tmpsOk sos (befs ops []) = false ∨ edgesOk ops = false) then none else some (.region (addLate sos (befs ops []) draw) draw)
  | none => none

def cregion (P : Program) (gr : List Nat) (ops : List Oper) (draw : Bool) : Option SCode :=
  if draw = true then (match reorder P gr ops with
    | some π => cregion0 P gr (permOps π ops) true
    | none => cregion0 P gr ops true) else cregion0 P gr ops false

def ccode (P : Program) (gr : List Nat) (ann : List (List Nat)) : Code → Nat → Option (SCode × Nat)
  | .skip, n => some (.skip, n)
  | .region _ ops draw, n => (cregion P gr ops.toList draw).map (·, n)
  | .seq a b, n => match ccode P gr ann a n with
    | some (a', n') => (ccode P gr ann b n').map fun r => (.seq a' r.1, r.2)
    | none => none
  | .cond c a b, n => match copd c, ccode P gr ann a n with
    | some c', some (a', n') => (ccode P gr ann b n').map fun r => (.cond c' a' r.1, r.2)
    | _, _ => none
  | .block id c, n => (ccode P gr ann c n).map fun r => (.block id r.1, r.2)
  | .loop c, n => (ccode P gr ann c (n + 1)).map fun r => (.loop (ann.getD n []) r.1, r.2)
  | .exit id, n => some (.exit id, n)
  | .ret, n => some (.ret, n)
  | .scope c, n => ccode P gr ann c n
  | .label _, n => some (.skip, n)
  | _, _ => none

def cres (P : Program) : ResultVar → Option SRes
  | .tmp t => some (.tmp t)
  | .cell x t => match tagg P t, tsz P t with
    | some agg, some n => if agg = true ∨ n = 1 then some (.cell x agg n) else none
    | _, _ => none

def cfun (P : Program) (gr : List Nat) (ann : List (List Nat)) (f : Nat) : Option SFun := do
  let fn ← P.funcs[f]?
  let c ← fn.body
  let r ← fn.results.toList.mapM (cres P)
  if fn.name = "runtime.NumGoroutine" then none else
  match ccode P gr ann c 0 with
  | some (s, _) => some { nt := fn.ntmps, res := r, body := s }
  | none => none

end Go.Proofs.Ytjpccbjgmogclaa.Lift
