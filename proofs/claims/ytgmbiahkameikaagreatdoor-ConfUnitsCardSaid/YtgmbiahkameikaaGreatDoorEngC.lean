/- The engine, part 14: the abstract machine. -/
import Derived.Test.YtgmbiahkameikaaGreatDoorEngB
set_option linter.unusedVariables false
set_option linter.unusedSimpArgs false
set_option linter.unnecessarySimpa false
namespace Go.Eng
open Go

inductive AItem where
  | code (c : Code)
  | inBlock (id : Nat)
  | inLoop (body : Code)
  | inScope (body : Code)
  | inRegion (ops : Array Oper) (todo : List Nat)
  | inRF (i : Nat)
  | endRF (i : Nat)
  | beginRound

structure APanic where
  v : AV
  recovered : Bool

inductive AMode where
  | run
  | ret
  | pan (chain : List APanic)

structure AFrame where
  fn : FuncId
  tmps : List AV
  todo : List AItem
  defers : List ADef
  mode : AMode
  kind : CallKind
  round : Option Nat

inductive AM where
  | run (fs : List AFrame) (H : AHeap)
  | ret (v : AV) (H : AHeap)
  | pan (chain : List APanic) (H : AHeap)

inductive ANext where
  | next (m : AM)
  | br (c : Bool) (a b : ANext)
  | need (c : Bool) (a : ANext)
  | stop

/-- What a call by contract comes to. -/
inductive CRes where
  | ret (v : AV) (H : AHeap)
  | new (v : AV) (X : AHeap)
  | pure (v : AV)
  | br (c : Bool) (a b : CRes)
  | need (c : Bool) (a : CRes)

abbrev Oracle := FuncId → List AV → AHeap → Option CRes

def putA (tmps : List AV) (dst : Option Tmp) (v : AV) : List AV :=
  match dst with
  | some d => tmps.set d v
  | none => tmps

def AFrame.finish (F : AFrame) (v : AV) : Option AFrame :=
  match F.todo with
  | .inRegion ops (i :: rest) :: k => some { F with tmps := putA F.tmps ((ops[i]?).bind (·.dst)) v, todo := .inRegion ops rest :: k }
  | .inRF l :: k => some { F with todo := .endRF l :: k }
  | .beginRound :: k => some { F with todo := k }
  | _ => none

def AFrame.raise (F : AFrame) (ps : List APanic) : AFrame :=
  match F.mode with
  | .pan chain => { F with mode := .pan (ps ++ chain) }
  | _ => { F with mode := .pan ps }

def settleA : AMode → AMode
  | .pan (p :: older) => if p.recovered then .ret else .pan (p :: older)
  | m => m

def exitToA (id : Nat) : List AItem → Option (List AItem)
  | .inBlock id' :: k => if id' == id then some k else exitToA id k
  | _ :: k => exitToA id k
  | [] => none

def hasBody (P : Program) (f : FuncId) : Bool :=
  match P.funcs[f]? with
  | some fn => fn.body.isSome && !(fn.name == "runtime.NumGoroutine")
  | none => false

def enterA (P : Program) (f : FuncId) (args : List AV) (kind : CallKind) : AFrame :=
  match P.funcs[f]? with
  | some fn => { fn := f, tmps := args ++ List.replicate (fn.ntmps - args.length) .un, todo := [.code (fn.body.getD (.refuse ""))], defers := [], mode := .run, kind, round := none }
  | none => { fn := f, tmps := [], todo := [], defers := [], mode := .run, kind, round := none }

def resA (P : Program) (tmps : List AV) (H : AHeap) : ResultVar → Option AV
  | .tmp t => some (tmps.getD t .un)
  | .cell a t => match loadA P H t (tmps.getD a .un) with
    | .val v => some v
    | _ => none

def resAs (P : Program) (tmps : List AV) (H : AHeap) : List ResultVar → Option (List AV)
  | [] => some []
  | r :: rs => match resA P tmps H r with
    | some v => match resAs P tmps H rs with
      | some vs => some (v :: vs)
      | none => none
    | none => none

def resultsA (P : Program) (fn : Func) (tmps : List AV) (H : AHeap) : Option AV :=
  match resAs P tmps H fn.results.toList with
  | some [v] => some v
  | some vs => some (.tu vs)
  | none => none

/-- A value goes back to the frame beneath. -/
def backA (v : AV) (kind : CallKind) (Fs : List AFrame) (H : AHeap) : ANext :=
  match Fs with
  | [] => if kind = .normal then .next (.ret v H) else .stop
  | C :: rest =>
    match kind with
    | .normal => match C.finish v with
      | some C' => .next (.run (C' :: rest) H)
      | none => .stop
    | .deferred => .next (.run ({ C with mode := settleA C.mode } :: rest) H)
    | _ => .stop

/-- The end of a frame or of a round. -/
def leaveA (P : Program) (F : AFrame) (Fs : List AFrame) (H : AHeap) (jump : Option Code) : ANext :=
  match F.round with
  | none => match jump with
    | none | some .ret => .next (.run ({ F with mode := .ret } :: Fs) H)
    | _ => .stop
  | some l => match H[l]? with
    | some (.loop _ _ fn tmps params assign body defers) =>
      if Fs.isEmpty then .stop else
      backA (if jump.isNone then .tt else .ff) F.kind Fs (H.set l (.loop (if jump.isNone then .ready else .done) jump fn tmps params assign body defers))
    | _ => .stop

def tryRecoverA (F : AFrame) (Fs : List AFrame) : Option (Option (AV × List AFrame)) :=
  match F.kind, Fs with
  | .deferred, C :: rest =>
    match C.mode with
    | .pan (p :: older) => if p.recovered then some none else some (some (p.v, { C with mode := .pan ({ v := p.v, recovered := true } :: older) } :: rest))
    | _ => some none
  | .normal, _ => some none
  | _, _ => none

def ctrStep (F : AFrame) (Fs : List AFrame) (H : AHeap) : CRes → ANext
  | .ret v H' => match F.finish v with
    | some F' => .next (.run (F' :: Fs) H')
    | none => .stop
  | .new v X => match F.finish v with
    | some F' => .next (.run (F' :: Fs) (H ++ X))
    | none => .stop
  | .pure v => match F.finish v with
    | some F' => .next (.run (F' :: Fs) H)
    | none => .stop
  | .br c a b => .br c (ctrStep F Fs H a) (ctrStep F Fs H b)
  | .need c a => .need c (ctrStep F Fs H a)

/-- A call. -/
def enterCall (P : Program) (Γ : Oracle) (F : AFrame) (Fs : List AFrame) (H : AHeap) (f : FuncId) (args : List AV) : ANext :=
  match Γ f args H with
  | some r => ctrStep F Fs H r
  | none => if hasBody P f then .next (.run (enterA P f args .normal :: F :: Fs) H) else
    match unPs args with
    | some vs => match cl P (callFunc f vs.toArray) with
      | some (.ok (.value v)) => match F.finish (.d (.p v)) with
        | some F' => .next (.run (F' :: Fs) H)
        | none => .stop
      | _ => .stop
    | none => .stop

def putArgs (tmps : List AV) : List Tmp → List AV → List AV
  | t :: ts, a :: as => putArgs (tmps.set t a) ts as
  | _, _ => tmps

/-- What an operation's result does to the machine. -/
def doRes (P : Program) (Γ : Oracle) (F : AFrame) (Fs : List AFrame) (H : AHeap) : ARes → ANext
  | .val v => match F.finish v with
    | some F' => .next (.run (F' :: Fs) H)
    | none => .stop
  | .valH v H' => match F.finish v with
    | some F' => .next (.run (F' :: Fs) H')
    | none => .stop
  | .skipH H' => match F.finish .un with
    | some F' => .next (.run (F' :: Fs) H')
    | none => .stop
  | .pan v => .next (.run (F.raise [{ v, recovered := false }] :: Fs) H)
  | .call f args => enterCall P Γ F Fs H f args
  | .yld i args => match H[i]? with
    | some (.loop _ _ fn tmps params assign body _) =>
      if args.length = params.size then
        .next (.run ({ fn, tmps := putArgs tmps params.toList args, todo := [.code assign, .beginRound, .code body], defers := [], mode := .run, kind := .normal, round := some i } :: F :: Fs) H)
      else .stop
    | _ => .stop
  | .defer d => if F.round.isSome then .stop else
    match ({ F with defers := d :: F.defers } : AFrame).finish .un with
    | some F' => .next (.run (F' :: Fs) H)
    | none => .stop
  | .recover => if F.round.isSome then .stop else
    match tryRecoverA F Fs with
    | some (some (v, Fs')) => match F.finish v with
      | some F' => .next (.run (F' :: Fs') H)
      | none => .stop
    | some none => match F.finish (.d (.p .nilIface)) with
      | some F' => .next (.run (F' :: Fs) H)
      | none => .stop
    | none => .stop
  | .need c r => .need c (doRes P Γ F Fs H r)
  | .br c r1 r2 => .br c (doRes P Γ F Fs H r1) (doRes P Γ F Fs H r2)
  | .stuck => .stop

/-- Whether an operation is wanted. -/
inductive Want where
  | yes
  | no
  | ask (c : Bool) (slot : Tmp) (want : Bool)
  | unknown

def wantA (o : Oper) (ops : Array Oper) (tmps : List AV) : Want :=
  match o.guard with
  | none => .yes
  | some (j, want) =>
    match (ops[j]?).bind (·.dst) with
    | none => .no
    | some t => match tmps[t]? with
      | some .tt => if want then .yes else .no
      | some .ff => if want then .no else .yes
      | some (.d (.p (.bool c))) => .ask c t want
      | some .un => .no
      | _ => .unknown

def AFrame.with (F : AFrame) (t : Tmp) (b : Bool) : AFrame := { F with tmps := F.tmps.set t (if b then .tt else .ff) }

def opStep (P : Program) (Γ : Oracle) (F : AFrame) (Fs : List AFrame) (H : AHeap) (o : Oper) : ANext :=
  match F.round, o.op with
  | some _, .defer _ => .stop
  | _, _ => doRes P Γ F Fs H (aexecV P H (evalA F.tmps) o)

def regionStep (P : Program) (Γ : Oracle) (F : AFrame) (Fs : List AFrame) (H : AHeap) (ops : Array Oper) (i : Nat) : ANext :=
  match ops[i]? with
  | none => .stop
  | some o =>
    match wantA o ops F.tmps with
    | .yes => opStep P Γ F Fs H o
    | .no => match F.finish .un with
      | some F' => .next (.run (F' :: Fs) H)
      | none => .stop
    | .ask c t want =>
      let yes (b : Bool) : ANext := opStep P Γ (F.with t b) Fs H o
      let no (b : Bool) : ANext := match (F.with t b).finish .un with
        | some F' => .next (.run (F' :: Fs) H)
        | none => .stop
      .br c (if want then yes true else no true) (if want then no false else yes false)
    | .unknown => .stop

abbrev QEnv := List (Tmp × Bool)
def envGet (env : QEnv) (t : Tmp) : Option Bool :=
  match env with
  | [] => none
  | (u, b) :: r => if u = t then some b else envGet r t

def usedSlot (o : Oper) (t : Tmp) : Bool := o.op.operands.toList.any fun x => match x with | .tmp u => u == t | _ => false

/-- A slot's value, behind the operations that are over. -/
def slotFind (ops : Array Oper) (t : Tmp) : List AV → Nat → Option AV
  | [], _ => none
  | v :: vs, j => if (ops[j]?).bind (·.dst) = some t then some v else slotFind ops t vs (j + 1)

def slotQ (ops : Array Oper) (T0 : List AV) (vs : List AV) (env : QEnv) (t : Tmp) : AV :=
  match envGet env t with
  | some true => .tt
  | some false => .ff
  | none => (slotFind ops t vs 0).getD (T0.getD t .un)

def rhoQ (o : Oper) (slot : Tmp → AV) : Operand → AV
  | .tmp t => if usedSlot o t then slot t else .any
  | x => evalA [] x

def wantQ (o : Oper) (ops : Array Oper) (slot : Tmp → AV) : Want :=
  match o.guard with
  | none => .yes
  | some (j, want) =>
    match (ops[j]?).bind (·.dst) with
    | none => .no
    | some t => match slot t with
      | .tt => if want then .yes else .no
      | .ff => if want then .no else .yes
      | .d (.p (.bool c)) => .ask c t want
      | .un => .no
      | _ => .unknown

/-- How far a drawn region has been carried out: which tests came out how, the values, the states of memory, the stores that come last. -/
structure QS where
  env : QEnv
  vs : List AV
  Hs : List AHeap
  L : List (Nat × Nat × AObj)

inductive QR where
  | done (s : QS)
  | br (c : Bool) (a b : QR)
  | need (c : Bool) (a : QR)
  | fail

/-- How an operation stands to memory: it makes a block; it changes one; it reads; it does nothing with memory; none of these. -/
inductive OKind where
  | alloc | write | load | strict | pure
  deriving DecidableEq

def okind (ca : Bool) (o : Oper) : OKind :=
  match o.op with
  | .alloc _ | .box .. | .buildSlice .. | .makeMap .. | .makeSlice .. | .range .. => .alloc
  | .store .. | .mapUpdate .. | .insert .. | .next .. => .write
  | .call { callee := .builtin .append, .. } => .write
  | .call { callee := .value _, .. } => if ca then .alloc else .load
  | .call { callee := .builtin .unsafeSliceData, .. } => .pure
  | .call { callee := .builtin .len, .. } | .load .. | .lookup .. => .load
  | .move _ | .assign _ | .pick .. | .build .. | .nilCheck _ | .binOp .. | .unOp .. | .convert .. | .makeInterface .. | .makeFunc .. | .slice .. | .fieldAddr .. | .field .. | .indexAddr .. | .index ..
  | .extract .. | .typeAssert .. => .pure
  | _ => .strict

def OKind.heap : OKind → Bool
  | .alloc | .write => true
  | _ => false

def isStore (o : Oper) : Bool := match o.op with
  | .store .. => true
  | _ => false

/-- What a drawn operation comes to: a value, and memory if it turns any. -/
def qRes (P : Program) (Γ : Oracle) (kd : OKind) (H : AHeap) (k : AV → Option AHeap → QR) : ARes → QR
  | .val v => if kd.heap then .fail else k v none
  | .valH v H' => if kd.heap then k v (some H') else .fail
  | .skipH H' => if kd.heap then k .un (some H') else .fail
  | .call f args => if kd = .load then match Γ f args H with
    | some (.pure v) => k v none
    | some _ => .fail
    | none => if hasBody P f then .fail else
      match unPs args with
      | some vs => match cl P (callFunc f vs.toArray) with
        | some (.ok (.value v)) => k (.d (.p v)) none
        | _ => .fail
      | none => .fail
    else if kd = .alloc then match Γ f args H with
    | some (.pure v) => k v (some H)
    | some (.new v X) => k v (some (H ++ X))
    | some _ => .fail
    | none => if hasBody P f then .fail else
      match unPs args with
      | some vs => match cl P (callFunc f vs.toArray) with
        | some (.ok (.value v)) => k (.d (.p v)) (some H)
        | _ => .fail
      | none => .fail
    else .fail
  | .need c r => .need c (qRes P Γ kd H k r)
  | .br c r1 r2 => .br c (qRes P Γ kd H k r1) (qRes P Γ kd H k r2)
  | _ => .fail

/-- What must be done ahead of each operation, as the bits of a number. -/
def ancOf (acc : List Nat) (o : Oper) : Nat :=
  o.after.toList.foldl (fun s e => if Region.binds .any e then s ||| 2 ^ e.on ||| acc.getD e.on 0 else s) 0
def ancT (acc : List Nat) : List Oper → List Nat
  | [] => acc
  | o :: os => ancT (acc ++ [ancOf acc o]) os

/-- A store behind all else that touches memory, but for other such stores. -/
def lateOp (ca : Bool) (anc : List Nat) (os : List Oper) (x : Oper × Nat) : Bool :=
  isStore x.1 && ((os.zipIdx.any fun z => z.2 != x.2 && isStore z.1 && !(anc.getD x.2 0).testBit z.2 && !(anc.getD z.2 0).testBit x.2) &&
    os.zipIdx.all fun z => z.2 == x.2 || okind ca z.1 == .pure || isStore z.1 || (anc.getD x.2 0).testBit z.2)

/-- An operation that turns memory in a fixed place of the order. -/
def fixedOp (ca : Bool) (anc : List Nat) (os : List Oper) (x : Oper × Nat) : Bool := (okind ca x.1).heap && !lateOp ca anc os x

def heapsAhead (ca : Bool) (anc : List Nat) (os : List Oper) (i : Nat) : Nat := (os.zipIdx.filter fun x => fixedOp ca anc os x && (anc.getD i 0).testBit x.2).length

/-- The block that a store turns. -/
def storeId (o : Oper) (ρ : Operand → AV) : Option Nat :=
  match o.op with
  | .store _ a _ => match ρ a with
    | .mp id _ => some id
    | .mr id _ _ _ => some id
    | _ => none
  | _ => none

/-- The operations of a region ahead of its tail, in the order of the text; each in the memory that all orders have made by then. -/
def qRun (ca : Bool) (P : Program) (Γ : Oracle) (ops : Array Oper) (anc : List Nat) (os : List Oper) (T0 : List AV) : List Nat → QS → QR
  | [], s => .done s
  | i :: is, s =>
    match ops[i]? with
    | none => .fail
    | some o =>
      let H := s.Hs.getD (heapsAhead ca anc os i) []
      let slot (env : QEnv) := slotQ ops T0 s.vs env
      let go (env : QEnv) : QR := qRes P Γ (okind ca o) H (fun v h => match h with
        | none => qRun ca P Γ ops anc os T0 is { s with env, vs := s.vs ++ [v] }
        | some H' =>
          if lateOp ca anc os (o, i) then
            match storeId o (rhoQ o (slot env)) with
            | some id => match H'[id]? with
              | some ob => if heapsAhead ca anc os i + 1 = s.Hs.length ∧ s.L.any (·.2.1 == id) = false ∧ ob.live = true then qRun ca P Γ ops anc os T0 is { s with env, vs := s.vs ++ [v], L := s.L ++ [(i, id, ob)] } else .fail
              | none => .fail
            | none => .fail
          else if heapsAhead ca anc os i + 1 = s.Hs.length ∧ s.L.isEmpty = true then qRun ca P Γ ops anc os T0 is { s with env, vs := s.vs ++ [v], Hs := s.Hs ++ [H'] } else .fail)
        (aexec P H (rhoQ o (slot env)) o)
      let skip (env : QEnv) : QR := if (okind ca o).heap then .fail else qRun ca P Γ ops anc os T0 is { s with env, vs := s.vs ++ [.un] }
      if heapsAhead ca anc os i < s.Hs.length then
      match wantQ o ops (slot s.env) with
      | .yes => go s.env
      | .no => skip s.env
      | .ask c t want => if (slotFind ops t s.vs 0).isSome then
          .br c (if want then go ((t, true) :: s.env) else skip ((t, true) :: s.env)) (if want then skip ((t, false) :: s.env) else go ((t, false) :: s.env))
        else .fail
      | .unknown => .fail
      else .fail

/-- How many operations stand ahead of those that come last in any order. -/
def quietLen (anc : List Nat) : Nat → Nat
  | 0 => 0
  | n + 1 => if (anc.getD n 0) &&& (2 ^ n - 1) = 2 ^ n - 1 then quietLen anc n else n + 1

def edgesOk (os : List Oper) : Bool := os.zipIdx.all fun x => x.1.after.toList.all fun e => !Region.binds .any e || e.on < x.2

def guardSlot (os : List Oper) (o : Oper) : Option Tmp :=
  match o.guard with
  | some (j, _) => (os[j]?).bind (·.dst)
  | none => none

/-- Slots and memory: what is not ordered does not meddle. -/
def pairOk (ca : Bool) (anc : List Nat) (os : List Oper) (x y : Oper × Nat) : Bool :=
  x.2 == y.2 ||
  ((match y.1.dst with
    | none => true
    | some t => x.1.dst != some t &&
        (!(usedSlot x.1 t || guardSlot os x.1 == some t) || (anc.getD x.2 0).testBit y.2)) &&
   (let ordered := (anc.getD x.2 0).testBit y.2 || (anc.getD y.2 0).testBit x.2
    if lateOp ca anc os y then (okind ca x.1 == .pure || lateOp ca anc os x || (anc.getD y.2 0).testBit x.2)
    else match okind ca y.1, okind ca x.1 with
    | .write, .pure | .alloc, .pure | .alloc, .load => true
    | .write, _ | .alloc, _ => ordered
    | _, _ => true))

def drawOk (ca : Bool) (anc : List Nat) (os : List Oper) : Bool := os.zipIdx.all fun x => os.zipIdx.all fun y => pairOk ca anc os x y

/-- A guard is an operation ahead of the tail. -/
def guardsOk (os : List Oper) (m : Nat) : Bool := os.all fun o => match o.guard with
  | some (k, _) => decide (k < m)
  | none => true
def transOk (anc : List Nat) (m : Nat) : Bool := (List.range m).all fun i => !((anc.getD i 0).testBit i) && (List.range m).all fun j => !((anc.getD i 0).testBit j) || ((anc.getD i 0) ||| (anc.getD j 0)) == anc.getD i 0

def finalT (ops : Array Oper) (vs : List AV) (T : List AV) : List AV := (List.range T.length).map fun t => (slotFind ops t vs 0).getD (T.getD t .un)

def applyEnv : QEnv → List AV → List AV
  | [], T => T
  | (t, b) :: r, T => (applyEnv r T).set t (if b then .tt else .ff)

def applyL (H : AHeap) : List (Nat × Nat × AObj) → AHeap
  | [] => H
  | (_, i, o) :: r => applyL (H.set i o) r

def qConv (F : AFrame) (Fs : List AFrame) (k : List AItem) (ops : Array Oper) (m nf : Nat) : QR → ANext
  | .done s => .next (.run ({ F with tmps := applyEnv s.env (finalT ops s.vs F.tmps), todo := .inRegion ops (List.range' m (ops.size - m)) :: k } :: Fs) (applyL (s.Hs.getD nf []) s.L))
  | .br c a b => .br c (qConv F Fs k ops m nf a) (qConv F Fs k ops m nf b)
  | .need c a => .need c (qConv F Fs k ops m nf a)
  | .fail => .stop

/-- A region whose order is open. -/
def drawStep (P : Program) (Γ : Oracle) (F : AFrame) (Fs : List AFrame) (H : AHeap) (k : List AItem) (ops : Array Oper) : ANext :=
  let anc := ancT [] ops.toList
  let m := quietLen anc ops.size
  let os := ops.toList.take m
  let ca := drawOk true anc os
  if P.follows .mixedOrders && edgesOk ops.toList && drawOk ca anc os && guardsOk os m && transOk anc m && os.all (fun o => match o.dst with | some t => decide (t < F.tmps.length) | none => true) then qConv F Fs k ops m (os.zipIdx.filter (fixedOp ca anc os)).length (qRun ca P Γ ops anc os F.tmps (List.range m) { env := [], vs := [], Hs := [H], L := [] }) else .stop

/-- Blocks that are made in no fixed place of the order, and of which nothing ahead of the tail asks: they are reckoned as made at the end. -/
def isAl (o : Oper) : Option TypeId := match o.op with
  | .alloc T => some T
  | _ => none
def lateAl (os : List Oper) (o : Oper) : Bool := (isAl o).isSome && o.guard.isNone && match o.dst with
  | some t => decide ((os.filter fun x => x.dst == some t).length = 1) && os.all (fun x => !usedSlot x t && !(guardSlot os x == some t))
  | none => false
def dummyOf (o : Oper) : Oper := { o with op := .move (.const (.bool true)), dst := none, guard := none }
def eraseL (os ops : List Oper) : List Oper := ops.map fun o => if lateAl os o then dummyOf o else o
def adopt (P : Program) (os : List Oper) : List Oper → List AV → AHeap → Option (List AV × AHeap)
  | [], T, H => some (T, H)
  | o :: r, T, H => if lateAl os o then (match isAl o, o.dst with
      | some ty, some t => match zeroA P ty with
        | some z => adopt P os r (T.set t (.mp H.length 0)) (H ++ [.cells z ty])
        | none => none
      | _, _ => none)
    else adopt P os r T H

def qConvL (P : Program) (F : AFrame) (Fs : List AFrame) (k : List AItem) (ops ops' : Array Oper) (os : List Oper) (m nf : Nat) : QR → ANext
  | .done s => match adopt P os os (applyEnv s.env (finalT ops' s.vs F.tmps)) (applyL (s.Hs.getD nf []) s.L) with
    | some (T, H) => .next (.run ({ F with tmps := T, todo := .inRegion ops (List.range' m (ops.size - m)) :: k } :: Fs) H)
    | none => .stop
  | .br c a b => .br c (qConvL P F Fs k ops ops' os m nf a) (qConvL P F Fs k ops ops' os m nf b)
  | .need c a => .need c (qConvL P F Fs k ops ops' os m nf a)
  | .fail => .stop

def drawStepL (P : Program) (Γ : Oracle) (F : AFrame) (Fs : List AFrame) (H : AHeap) (k : List AItem) (ops : Array Oper) : ANext :=
  let anc := ancT [] ops.toList
  let m := quietLen anc ops.size
  let os := ops.toList.take m
  let ops' := (eraseL os ops.toList).toArray
  let os' := ops'.toList.take m
  let ca := drawOk true anc os'
  if P.follows .mixedOrders && edgesOk ops'.toList && drawOk ca anc os' && guardsOk os' m && transOk anc m && os.all (fun o => match o.dst with | some t => decide (t < F.tmps.length) | none => true) then
    qConvL P F Fs k ops ops' os m (os'.zipIdx.filter (fixedOp ca anc os')).length (qRun ca P Γ ops' anc os' F.tmps (List.range m) { env := [], vs := [], Hs := [H], L := [] }) else .stop

def codeStep (P : Program) (Γ : Oracle) (F : AFrame) (Fs : List AFrame) (H : AHeap) (k : List AItem) : Code → ANext
  | .skip | .label _ => .next (.run ({ F with todo := k } :: Fs) H)
  | .seq a b => .next (.run ({ F with todo := .code a :: .code b :: k } :: Fs) H)
  | .cond c t e => match evalA F.tmps c with
    | .tt => .next (.run ({ F with todo := .code t :: k } :: Fs) H)
    | .ff => .next (.run ({ F with todo := .code e :: k } :: Fs) H)
    | .d (.p (.bool b)) => .br b (.next (.run ({ F with todo := .code t :: k } :: Fs) H)) (.next (.run ({ F with todo := .code e :: k } :: Fs) H))
    | _ => .stop
  | .block id b => .next (.run ({ F with todo := .code b :: .inBlock id :: k } :: Fs) H)
  | .loop b => .next (.run ({ F with todo := .code b :: .inLoop b :: k } :: Fs) H)
  | .scope b => .next (.run ({ F with todo := .code b :: .inScope b :: k } :: Fs) H)
  | .exit id => match exitToA id k with
    | some k' => .next (.run ({ F with todo := k' } :: Fs) H)
    | none => leaveA P F Fs H (some (.exit id))
  | .ret => leaveA P F Fs H (some .ret)
  | .region _ ops false => .next (.run ({ F with todo := .inRegion ops (List.range ops.size) :: k } :: Fs) H)
  | .region _ ops true => match drawStep P Γ F Fs H k ops with
    | .stop => drawStepL P Γ F Fs H k ops
    | r => r
  | .rangeFunc f params assign body =>
    match F.round, calleeA (evalA F.tmps f) [.yl (H.length + 1)] with
    | none, .call fn args =>
      if hasBody P fn then
        .next (.run (enterA P fn args .normal :: { F with todo := .inRF (H.length + 1) :: k, defers := .collected H.length :: F.defers } :: Fs)
          (H ++ [.defd (some [])] ++ [.loop .ready none F.fn F.tmps params assign body H.length]))
      else .stop
    | _, _ => .stop
  | .goto _ | .refuse _ => .stop

def runStep (P : Program) (Γ : Oracle) (F : AFrame) (Fs : List AFrame) (H : AHeap) : ANext :=
  match F.todo with
  | [] => leaveA P F Fs H none
  | .code c :: k => codeStep P Γ F Fs H k c
  | .inBlock _ :: k | .inScope _ :: k => .next (.run ({ F with todo := k } :: Fs) H)
  | .inLoop b :: k => .next (.run ({ F with todo := .code b :: .inLoop b :: k } :: Fs) H)
  | .inRegion _ [] :: k => .next (.run ({ F with todo := k } :: Fs) H)
  | .inRegion ops (i :: _) :: _ => regionStep P Γ F Fs H ops i
  | .inRF _ :: _ => .stop
  | .endRF l :: k => match H[l]? with
    | some (.loop st pending fn tmps params assign body defers) =>
      match st with
      | .busy => .stop
      | _ => .next (.run ({ F with todo := (pending.map AItem.code).toList ++ k } :: Fs) (H.set l (.loop .exhausted pending fn tmps params assign body defers)))
    | _ => .stop
  | .beginRound :: k => match F.round with
    | some l => match H[l]? with
      | some (.loop .ready pending fn tmps params assign body defers) => .next (.run ({ F with todo := k } :: Fs) (H.set l (.loop .busy pending fn tmps params assign body defers)))
      | _ => .stop
    | none => .stop

def unwindA (P : Program) (F : AFrame) (Fs : List AFrame) (H : AHeap) : ANext :=
  match F.defers with
  | .collected i :: ds => match H[i]? with
    | some (.defd (some calls)) => .next (.run ({ F with defers := calls ++ ds } :: Fs) (H.set i (.defd none)))
    | _ => .stop
  | .fn (.func f) cap args :: ds => if hasBody P f then .next (.run (enterA P f (args ++ cap) .deferred :: { F with defers := ds } :: Fs) H) else .stop
  | .fn _ _ _ :: _ => .stop
  | [] => match F.mode with
    | .run => .stop
    | .pan chain => match P.funcs[F.fn]? with
      | none => .stop
      | some _ => match Fs with
        | C :: rest => .next (.run (C.raise chain :: rest) H)
        | [] => .next (.pan chain H)
    | .ret => match P.funcs[F.fn]? with
      | none => .stop
      | some fn => match resultsA P fn F.tmps H with
        | some v => backA v F.kind Fs H
        | none => .stop

def astep (P : Program) (Γ : Oracle) : AM → ANext
  | .run (F :: Fs) H => match F.mode with
    | .run => runStep P Γ F Fs H
    | _ => unwindA P F Fs H
  | _ => .stop

end Go.Eng

/- The engine, part 15: the abstract machine's steps are the model's: the relation, and the words for it. -/
set_option linter.unusedVariables false
set_option linter.unusedSimpArgs false
set_option linter.unnecessarySimpa false
namespace Go.Eng
open Go

theorem rep_un (g : Gh) : ARep g .un undef := .un

def RepItem (g : Gh) : AItem → Item → Prop
  | .code c, it => it = .code c
  | .inBlock id, it => it = .inBlock id
  | .inLoop b, it => it = .inLoop b
  | .inScope b, it => it = .inScope b
  | .inRegion ops todo, it => it = .inRegion ops todo
  | .inRF i, it => it = .inRangeFunc (g.mu i) ∧ i < g.n
  | .endRF i, it => it = .endRangeFunc (g.mu i) ∧ i < g.n
  | .beginRound, it => it = .beginRound

def RepItems (g : Gh) : List AItem → List Item → Prop
  | [], [] => True
  | a :: as, c :: cs => RepItem g a c ∧ RepItems g as cs
  | _, _ => False

def RepPs (g : Gh) : List APanic → List PanicEntry → Prop
  | [], [] => True
  | a :: as, c :: cs => (ARep g a.v c.v ∧ c.recovered = a.recovered ∧ c.goexit = false) ∧ RepPs g as cs
  | _, _ => False

def RepMode (g : Gh) : AMode → FrameMode → Prop
  | .run, m => m = .run
  | .ret, m => m = .returning
  | .pan ps, m => ∃ cs, m = .panicking cs ∧ RepPs g ps cs

structure RepFrame (g : Gh) (F : AFrame) (fr : Frame) : Prop where
  fn : fr.fn = F.fn
  tmps : RepL g F.tmps fr.tmps
  todo : RepItems g F.todo fr.todo
  defers : RepDefs g F.defers fr.defers
  mode : RepMode g F.mode fr.mode
  kind : fr.kind = F.kind
  round : fr.roundOf = F.round.map g.mu
  roundn : ∀ l, F.round = some l → l < g.n

def RepFrames (g : Gh) : List AFrame → List Frame → Prop
  | [], [] => True
  | a :: as, c :: cs => RepFrame g a c ∧ RepFrames g as cs
  | _, _ => False

theorem RepItem.mono {g g' : Gh} (h : g.le g') {a : AItem} {c : Item} (hr : RepItem g a c) : RepItem g' a c := by
  cases a with
  | inRF i => obtain ⟨h1, h2⟩ := hr; exact ⟨by rw [h.mu i h2]; exact h1, Nat.lt_of_lt_of_le h2 h.n⟩
  | endRF i => obtain ⟨h1, h2⟩ := hr; exact ⟨by rw [h.mu i h2]; exact h1, Nat.lt_of_lt_of_le h2 h.n⟩
  | _ => exact hr

theorem RepItems.mono {g g' : Gh} (h : g.le g') : ∀ {as : List AItem} {cs : List Item}, RepItems g as cs → RepItems g' as cs
  | [], [], _ => trivial
  | _ :: _, _ :: _, ⟨a, b⟩ => ⟨a.mono h, RepItems.mono h b⟩
  | [], _ :: _, x => x.elim
  | _ :: _, [], x => x.elim

theorem RepItems.append {g : Gh} : ∀ {as bs : List AItem} {cs ds : List Item}, RepItems g as cs → RepItems g bs ds → RepItems g (as ++ bs) (cs ++ ds)
  | [], _, [], _, _, h => h
  | _ :: _, _, _ :: _, _, ⟨a, b⟩, h => ⟨a, RepItems.append b h⟩
  | [], _, _ :: _, _, x, _ => x.elim
  | _ :: _, _, [], _, x, _ => x.elim

theorem RepPs.mono {g g' : Gh} (h : g.le g') : ∀ {as : List APanic} {cs : List PanicEntry}, RepPs g as cs → RepPs g' as cs
  | [], [], _ => trivial
  | _ :: _, _ :: _, ⟨⟨a, b, c⟩, d⟩ => ⟨⟨a.mono h, b, c⟩, RepPs.mono h d⟩
  | [], _ :: _, x => x.elim
  | _ :: _, [], x => x.elim

theorem RepPs.append {g : Gh} : ∀ {as bs : List APanic} {cs ds : List PanicEntry}, RepPs g as cs → RepPs g bs ds → RepPs g (as ++ bs) (cs ++ ds)
  | [], _, [], _, _, h => h
  | _ :: _, _, _ :: _, _, ⟨a, b⟩, h => ⟨a, RepPs.append b h⟩
  | [], _, _ :: _, _, x, _ => x.elim
  | _ :: _, _, [], _, x, _ => x.elim

theorem RepMode.mono {g g' : Gh} (h : g.le g') {a : AMode} {c : FrameMode} (hr : RepMode g a c) : RepMode g' a c := by
  cases a with
  | pan ps => obtain ⟨cs, e, r⟩ := hr; exact ⟨cs, e, r.mono h⟩
  | _ => exact hr

theorem RepFrame.mono {g g' : Gh} (h : g.le g') {F : AFrame} {fr : Frame} (hr : RepFrame g F fr) : RepFrame g' F fr where
  fn := hr.fn
  tmps := hr.tmps.mono h
  todo := hr.todo.mono h
  defers := hr.defers.mono h
  mode := hr.mode.mono h
  kind := hr.kind
  round := by
    rw [hr.round]
    cases e : F.round with
    | none => rfl
    | some l => simp only [Option.map_some]; rw [h.mu l (hr.roundn l e)]
  roundn l e := Nat.lt_of_lt_of_le (hr.roundn l e) h.n

theorem RepFrames.mono {g g' : Gh} (h : g.le g') : ∀ {as : List AFrame} {cs : List Frame}, RepFrames g as cs → RepFrames g' as cs
  | [], [], _ => trivial
  | _ :: _, _ :: _, ⟨a, b⟩ => ⟨a.mono h, RepFrames.mono h b⟩
  | [], _ :: _, x => x.elim
  | _ :: _, [], x => x.elim

theorem RepDefs.append {g : Gh} : ∀ {as bs : List ADef} {cs ds : List Deferred}, RepDefs g as cs → RepDefs g bs ds → RepDefs g (as ++ bs) (cs ++ ds)
  | [], _, [], _, _, h => h
  | _ :: _, _, _ :: _, _, ⟨a, b⟩, h => ⟨a, RepDefs.append b h⟩
  | [], _, _ :: _, _, x, _ => x.elim
  | _ :: _, _, [], _, x, _ => x.elim

theorem evalF_ok {g : Gh} {F : AFrame} {fr : Frame} (h : RepFrame g F fr) (x : Operand) : ARep g (evalA F.tmps x) (fr.eval x) := by
  have := evalA_ok h.tmps [] x
  cases x <;> exact this

theorem set_rep {g : Gh} {cs : List AV} {vs : Array Value} (h : RepL g cs vs) (d : Nat) {x : AV} {v : Value} (hx : ARep g x v) : RepL g (cs.set d x) (vs.setIfInBounds d v) := by
  refine ⟨by simp [h.1], ?_⟩
  intro i y u hy hu
  rw [List.getElem?_set] at hy
  rw [Array.getElem?_setIfInBounds] at hu
  by_cases e : d = i
  · subst e
    simp only [if_true] at hy hu
    split at hy
    · split at hu
      · cases hy; cases hu; exact hx
      · cases hu
    · cases hy
  · simp only [if_neg e] at hy hu
    exact h.2 i y u hy hu

theorem putA_rep {g : Gh} {cs : List AV} {vs : Array Value} (h : RepL g cs vs) (d : Option Tmp) {x : AV} {v : Value} (hx : ARep g x v) :
    RepL g (putA cs d x) (match d with | some d => vs.setIfInBounds d v | none => vs) := by
  cases d with
  | none => exact h
  | some d => exact set_rep h d hx

theorem finish_ok {g : Gh} {F F' : AFrame} {fr : Frame} (h : RepFrame g F fr) {x : AV} {v : Value} (hx : ARep g x v) (hf : F.finish x = some F') : RepFrame g F' (fr.finish v) := by
  have ht := h.todo
  unfold AFrame.finish at hf
  split at hf
  · rename_i ops i rest k e
    cases hf
    rw [e] at ht
    cases hfr : fr.todo with
    | nil => rw [hfr] at ht; exact ht.elim
    | cons it its =>
      rw [hfr] at ht
      obtain ⟨h1, h2⟩ := ht
      have h1 : it = .inRegion ops (i :: rest) := h1
      subst h1
      have : fr.finish v = { fr with tmps := (match (ops[i]?).bind (·.dst) with | some d => fr.tmps.setIfInBounds d v | none => fr.tmps), todo := .inRegion ops rest :: its } := by
        simp only [Frame.finish, hfr]
        cases (ops[i]?).bind (·.dst) <;> rfl
      rw [this]
      exact ⟨h.fn, putA_rep h.tmps _ hx, ⟨rfl, h2⟩, h.defers, h.mode, h.kind, h.round, h.roundn⟩
  · rename_i l k e
    cases hf
    rw [e] at ht
    cases hfr : fr.todo with
    | nil => rw [hfr] at ht; exact ht.elim
    | cons it its =>
      rw [hfr] at ht
      obtain ⟨⟨h1, h3⟩, h2⟩ := ht
      subst h1
      have : fr.finish v = { fr with todo := .endRangeFunc (g.mu l) :: its } := by simp only [Frame.finish, hfr]
      rw [this]
      exact ⟨h.fn, h.tmps, ⟨⟨rfl, h3⟩, h2⟩, h.defers, h.mode, h.kind, h.round, h.roundn⟩
  · rename_i k e
    cases hf
    rw [e] at ht
    cases hfr : fr.todo with
    | nil => rw [hfr] at ht; exact ht.elim
    | cons it its =>
      rw [hfr] at ht
      obtain ⟨h1, h2⟩ := ht
      have h1 : it = .beginRound := h1
      subst h1
      have : fr.finish v = { fr with todo := its } := by simp only [Frame.finish, hfr]
      rw [this]
      exact ⟨h.fn, h.tmps, h2, h.defers, h.mode, h.kind, h.round, h.roundn⟩
  · cases hf

theorem raise_ok {g : Gh} {F : AFrame} {fr : Frame} (h : RepFrame g F fr) {ps : List APanic} {cs : List PanicEntry} (hp : RepPs g ps cs) : RepFrame g (F.raise ps) (fr.raise cs) := by
  unfold AFrame.raise Frame.raise
  have hm := h.mode
  cases e : F.mode with
  | run =>
    rw [e] at hm
    rw [show fr.mode = .run from hm]
    exact ⟨h.fn, h.tmps, h.todo, h.defers, ⟨cs, rfl, hp⟩, h.kind, h.round, h.roundn⟩
  | ret =>
    rw [e] at hm
    rw [show fr.mode = .returning from hm]
    exact ⟨h.fn, h.tmps, h.todo, h.defers, ⟨cs, rfl, hp⟩, h.kind, h.round, h.roundn⟩
  | pan chain =>
    rw [e] at hm
    obtain ⟨cs', e', hr⟩ := hm
    rw [e']
    exact ⟨h.fn, h.tmps, h.todo, h.defers, ⟨_, rfl, hp.append hr⟩, h.kind, h.round, h.roundn⟩

/-- The deepest frame's function. -/
def botFn : List AFrame → FuncId
  | [] => 0
  | [F] => F.fn
  | _ :: F :: Fs => botFn (F :: Fs)

theorem botFn_cons (F : AFrame) (Fs : List AFrame) (h : Fs ≠ []) : botFn (F :: Fs) = botFn Fs := by
  cases Fs with
  | nil => exact absurd rfl h
  | cons G Gs => rfl

theorem botFn_top (F F' : AFrame) (Fs : List AFrame) (h : F'.fn = F.fn) : botFn (F' :: Fs) = botFn (F :: Fs) := by
  cases Fs with
  | nil => exact h
  | cons G Gs => rfl

theorem finish_fn {F F' : AFrame} {v : AV} (h : F.finish v = some F') : F'.fn = F.fn := by
  unfold AFrame.finish at h
  split at h <;> cases h <;> rfl

/-- What a step, or a tree of steps, has to come to. -/
def NextOK (P : Program) (g : Gh) (fs : List AFrame) (H : AHeap) (fr : Frame) (cs : List Frame) (cs0 : List Frame) (w : World) : ANext → Prop
  | .next (.run (F' :: Fs') H') => ∃ fr' frs' w' g', Steps P (lone fr cs w) (lone fr' (frs' ++ cs0) w') ∧ RepFrame g' F' fr' ∧ RepFrames g' Fs' frs' ∧ St g' H' w' ∧
      Ext g.imm (foot g H) w g'.imm (foot g' H') w' ∧ botFn (F' :: Fs') = botFn fs ∧ g.le g'
  | .next (.run [] _) => False
  | .next (.ret v H') => ∃ c, cs = cs0 ∧ fr.fn = botFn fs ∧ fr.leaving P w (.returned c) ∧ ARep g v c ∧ H' = H
  | .next (.pan ps H') => ∃ c, cs = cs0 ∧ fr.fn = botFn fs ∧ fr.leaving P w (.panicked c) ∧ RepPs g ps c ∧ H' = H
  | .br c a b => (c = true → NextOK P g fs H fr cs cs0 w a) ∧ (c = false → NextOK P g fs H fr cs cs0 w b)
  | .need c a => c = true → NextOK P g fs H fr cs cs0 w a
  | .stop => True

/-- What a contract says. -/
def RetOK (g : Gh) (H : AHeap) (w : World) (v : AV) (H' : AHeap) (e : Ending) (w' : World) : Prop :=
  ∃ c g', e = .returned c ∧ g.le g' ∧ St g' H' w' ∧ ARep g' v c ∧ Ext g.imm (foot g H) w g'.imm (foot g' H') w'

def CtrTo (P : Program) (f : FuncId) (args : List AV) (H : AHeap) (v : AV) (H' : AHeap) : Prop :=
  ∀ g w cargs, St g H w → RepL g args cargs →
      (hasBody P f = true ∧ Calls P f cargs w fun e w' => RetOK g H w v H' e w') ∨ (∃ c w', (callFunc f cargs).run P w = .ok (.value c) w' ∧ RetOK g H w v H' (.returned c) w')

def CtrOK (P : Program) (f : FuncId) (args : List AV) (H : AHeap) : CRes → Prop
  | .ret v H' => CtrTo P f args H v H'
  | .new v X => CtrTo P f args H v (H ++ X)
  | .pure v => ∀ X, CtrTo P f args (H ++ X) v (H ++ X)
  | .br c a b => (c = true → CtrOK P f args H a) ∧ (c = false → CtrOK P f args H b)
  | .need c a => c = true → CtrOK P f args H a

def OracleOK (P : Program) (Γ : Oracle) : Prop := ∀ f args H r, Γ f args H = some r → CtrOK P f args H r

theorem run_callFunc {P : Program} {f : FuncId} (h : hasBody P f = true) (cargs : Array Value) (w : World) : (callFunc f cargs).run P w = .ok (.enter f cargs) w := by
  unfold hasBody at h
  split at h
  · rename_i fn hf
    obtain ⟨h1, h2⟩ := Bool.and_eq_true_iff.1 h
    have h2 : (fn.name == "runtime.NumGoroutine") = false := by simpa using h2
    have h3 : fn.body.isNone = false := by
      cases e : fn.body with
      | none => rw [e] at h1; cases h1
      | some _ => rfl
    simp only [callFunc, Sem.run_bind, run_program, Result.andThen_ok, hf, h2, h3, Bool.false_eq_true, if_false, Sem.run_pure]
  · cases h

theorem enterA_ok {P : Program} {g : Gh} {f : FuncId} (h : hasBody P f = true) {args : List AV} {cargs : Array Value} (ha : RepL g args cargs) (kind : CallKind) :
    RepFrame g (enterA P f args kind) (Frame.enter P f cargs kind) := by
  unfold hasBody at h
  split at h
  · rename_i fn hf
    unfold enterA Frame.enter
    simp only [hf, Option.map_some, Option.getD_some, Option.bind_some]
    obtain ⟨h1, h2⟩ := Bool.and_eq_true_iff.1 h
    obtain ⟨c, hc⟩ := Option.isSome_iff_exists.1 h1
    refine ⟨rfl, ?_, ⟨by simp [hc, RepItem], trivial⟩, trivial, rfl, rfl, rfl, fun l hl => by cases hl⟩
    have : args.length = cargs.size := ha.1
    rw [this]
    refine ha.append ⟨by simp, ?_⟩
    intro i x v hx hv
    have := (List.getElem?_replicate.symm.trans hx)
    split at this
    · rename_i hlt
      cases this
      rw [Array.getElem?_replicate, if_pos hlt] at hv
      cases hv
      exact .un
    · cases this
  · cases h

end Go.Eng

/- The engine, part 16: the abstract machine's steps are the model's: each step. -/
set_option linter.unusedVariables false
set_option linter.unusedSimpArgs false
set_option linter.unnecessarySimpa false
namespace Go.Eng
open Go

section
variable {P : Program} {Γ : Oracle} {g : Gh} {F : AFrame} {Fs : List AFrame} {H : AHeap} {fr : Frame} {frs cs0 : List Frame} {w : World}

theorem go1 (hFs : RepFrames g Fs frs) (hst : St g H w) {F' : AFrame} {fr' : Frame} (hs : step P (lone fr (frs ++ cs0) w) = .next (lone fr' (frs ++ cs0) w)) (hF' : RepFrame g F' fr') (hfn : F'.fn = F.fn) :
    NextOK P g (F :: Fs) H fr (frs ++ cs0) cs0 w (.next (.run (F' :: Fs) H)) :=
  ⟨fr', frs, w, g, .one hs, hF', hFs, hst, Ext.refl _ _ _, botFn_top F F' Fs hfn, Gh.le.refl _⟩

theorem items_cons (h : RepFrame g F fr) {a : AItem} {k : List AItem} (e : F.todo = a :: k) : ∃ it its, fr.todo = it :: its ∧ RepItem g a it ∧ RepItems g k its := by
  have := h.todo
  rw [e] at this
  cases hfr : fr.todo with
  | nil => rw [hfr] at this; exact this.elim
  | cons it its => rw [hfr] at this; exact ⟨it, its, rfl, this.1, this.2⟩

theorem RepFrame.withTodo (h : RepFrame g F fr) {k : List AItem} {k' : List Item} (hk : RepItems g k k') : RepFrame g { F with todo := k } { fr with todo := k' } :=
  ⟨h.fn, h.tmps, hk, h.defers, h.mode, h.kind, h.round, h.roundn⟩

theorem mode_run (h : RepFrame g F fr) (e : F.mode = .run) : fr.mode = .run := by
  have := h.mode; rw [e] at this; exact this

theorem exitToA_ok {id : Nat} : ∀ {k : List AItem} {k' : List Item}, RepItems g k k' →
    (∀ r, exitToA id k = some r → ∃ r', exitTo id k' = some r' ∧ RepItems g r r') ∧ (exitToA id k = none → exitTo id k' = none)
  | [], [], _ => ⟨fun r h => by simp [exitToA] at h, fun _ => rfl⟩
  | a :: as, c :: cs, ⟨h1, h2⟩ => by
    have ih := exitToA_ok (id := id) h2
    cases a with
    | inBlock id' =>
      have h1 : c = .inBlock id' := h1
      subst h1
      simp only [exitToA, exitTo]
      by_cases e : (id' == id) = true
      · rw [if_pos e, if_pos e]
        exact ⟨fun r hr => ⟨cs, rfl, by cases hr; exact h2⟩, fun h => by cases h⟩
      · rw [if_neg e, if_neg e]
        exact ih
    | code x => have h1 : c = .code x := h1; subst h1; simpa [exitToA, exitTo] using ih
    | inLoop x => have h1 : c = .inLoop x := h1; subst h1; simpa [exitToA, exitTo] using ih
    | inScope x => have h1 : c = .inScope x := h1; subst h1; simpa [exitToA, exitTo] using ih
    | inRegion x y => have h1 : c = .inRegion x y := h1; subst h1; simpa [exitToA, exitTo] using ih
    | inRF x => obtain ⟨rfl, _⟩ := h1; simpa [exitToA, exitTo] using ih
    | endRF x => obtain ⟨rfl, _⟩ := h1; simpa [exitToA, exitTo] using ih
    | beginRound => have h1 : c = .beginRound := h1; subst h1; simpa [exitToA, exitTo] using ih
  | [], _ :: _, h => h.elim
  | _ :: _, [], h => h.elim

/-- A return of a frame of the kinds that are walked. -/
theorem settleA_ok {C : AFrame} {c : Frame} (h : RepFrame g C c) : RepFrame g { C with mode := settleA C.mode } { c with mode := settle c.mode } := by
  refine ⟨h.fn, h.tmps, h.todo, h.defers, ?_, h.kind, h.round, h.roundn⟩
  have hm := h.mode
  cases e : C.mode with
  | run => rw [e] at hm; rw [show c.mode = .run from hm]; rfl
  | ret => rw [e] at hm; rw [show c.mode = .returning from hm]; rfl
  | pan ps =>
    rw [e] at hm
    obtain ⟨cs, e', hr⟩ := hm
    rw [e']
    cases ps with
    | nil =>
      cases cs with
      | nil => exact ⟨[], rfl, trivial⟩
      | cons _ _ => exact hr.elim
    | cons p older =>
      cases cs with
      | nil => exact hr.elim
      | cons q rest =>
        obtain ⟨⟨h1, h2, h3⟩, h4⟩ := hr
        obtain ⟨v, r, ge⟩ := q
        dsimp only at h2 h3
        subst h2; subst h3
        simp only [settleA]
        cases hpr : p.recovered with
        | false => exact ⟨_, rfl, ⟨h1, hpr.symm ▸ rfl, rfl⟩, h4⟩
        | true =>
          simp only [if_true, settle]
          have : rest.dropWhile (fun x => !x.goexit) = [] := by
            clear h1 e e'
            induction rest generalizing older with
            | nil => rfl
            | cons q' rest ih =>
              cases older with
              | nil => exact h4.elim
              | cons p' older =>
                obtain ⟨⟨_, _, h6⟩, h7⟩ := h4
                rw [List.dropWhile_cons, h6]
                simpa using ih older h7
          rw [this]
          rfl

theorem step_doReturn {fr c : Frame} {cs : List Frame} {w w' : World} {v : Value} (hs : (stepG P true { frame := fr, callers := c :: cs, status := .running, dying := none } w).bare = (doReturn P true fr (c :: cs) none v w').bare) :
    (fr.kind = .normal → step P (lone fr (c :: cs) w) = .next (lone (c.finish v) cs w')) ∧ (fr.kind = .deferred → step P (lone fr (c :: cs) w) = .next (lone { c with mode := settle c.mode } cs w')) := by
  refine ⟨fun hk => step_lone_go (by rw [hs]; simp [doReturn, hk]), fun hk => step_lone_go ?_⟩
  rw [hs]
  simp only [doReturn, hk, GStep.bare_go]
  unfold settle
  split <;> (try split) <;> simp_all

/-- A value goes back. -/
theorem backA_ok (hF : RepFrame g F fr) (hFs : RepFrames g Fs frs) {H' : AHeap} {w' : World} {g' : Gh} (hle : g.le g') (hst : St g' H' w') (hext : Ext g.imm (foot g H) w g'.imm (foot g' H') w') {v : AV} {c : Value} (hv : ARep g' v c)
    (hne : Fs ≠ []) (hs : ∀ (C : Frame) (cs : List Frame), frs = C :: cs → (stepG P true { frame := fr, callers := C :: (cs ++ cs0), status := .running, dying := none } w).bare = (doReturn P true fr (C :: (cs ++ cs0)) none c w').bare) :
    NextOK P g (F :: Fs) H fr (frs ++ cs0) cs0 w (backA v F.kind Fs H') := by
  unfold backA
  cases Fs with
  | nil => exact absurd rfl hne
  | cons C rest =>
    cases frs with
    | nil => exact hFs.elim
    | cons C' rest' =>
      obtain ⟨hC, hrest⟩ := hFs
      obtain ⟨h1, h2⟩ := step_doReturn (hs C' rest' rfl)
      simp only []
      cases hk : F.kind with
      | normal =>
        simp only []
        split
        · rename_i C2 hC2
          exact ⟨_, rest', w', g', .one (h1 (by rw [hF.kind, hk])), finish_ok (hC.mono hle) hv hC2, hrest.mono hle, hst, hext, by rw [botFn_cons F _ (by simp)]; exact botFn_top C C2 rest (finish_fn hC2), hle⟩
        · trivial
      | deferred =>
        exact ⟨_, rest', w', g', .one (h2 (by rw [hF.kind, hk])), settleA_ok (hC.mono hle), hrest.mono hle, hst, hext, by rw [botFn_cons F _ (by simp)]; exact botFn_top C _ rest rfl, hle⟩
      | wrapped => trivial
      | report => trivial
      | early => trivial

theorem leaveA_ok (hF : RepFrame g F fr) (hFs : RepFrames g Fs frs) (hst : St g H w) (jump : Option Code)
    (hs0 : fr.roundOf = none → (jump = none ∨ jump = some .ret) → ∀ cs, step P (lone fr cs w) = .next (lone { fr with mode := .returning } cs w))
    (hs1 : ∀ l (v : Value) (w' : World), fr.roundOf = some l → (Instr.endRound l jump).run P w = .ok v w' → ∀ cs, (stepG P true { frame := fr, callers := cs, status := .running, dying := none } w).bare = (doReturn P true fr cs none v w').bare) :
    NextOK P g (F :: Fs) H fr (frs ++ cs0) cs0 w (leaveA P F Fs H jump) := by
  unfold leaveA
  have hr := hF.round
  cases e : F.round with
  | none =>
    rw [e] at hr
    have hF' : RepFrame g { F with mode := .ret } { fr with mode := .returning } := ⟨hF.fn, hF.tmps, hF.todo, hF.defers, rfl, hF.kind, hF.round, hF.roundn⟩
    have key : (jump = none ∨ jump = some .ret) → NextOK P g (F :: Fs) H fr (frs ++ cs0) cs0 w (.next (.run ({ F with mode := .ret } :: Fs) H)) :=
      fun hj => go1 hFs hst (hs0 hr hj _) hF' rfl
    rw [e] at key
    simp only []
    split
    · exact key (.inl rfl)
    · exact key (.inr rfl)
    · trivial
  | some l =>
    rw [e] at hr
    have hr : fr.roundOf = some (g.mu l) := hr
    simp only []
    split
    · rename_i st0 pend0 fn tmps params assign body defers hH
      split
      · trivial
      rename_i hne
      obtain ⟨ts, hts, hd, hob⟩ := hst.obj l _ hH
      have hrun : (Instr.endRound (g.mu l) jump).run P w = .ok (.bool jump.isNone) (putB w (g.mu l) (.loop { state := if jump.isNone then .ready else .done, pending := jump, fn, tmps := ts, params, assign, body, defers := g.mu defers })) := by
        simp only [Instr.endRound, Instr.getLoop, Sem.run_bind, run_getObj hob (by intros; simp), Result.andThen_ok, Sem.run_pure]
        rw [run_setObj hob (by intros; simp)]
        rfl
      have hst' := hst.put hH rfl (.loop (if jump.isNone then .ready else .done) jump fn tmps params assign body defers) rfl _ ⟨ts, hts, hd, rfl⟩
      refine backA_ok (c := .bool jump.isNone) hF hFs (Gh.le.refl g) hst' (Ext.put hst hH rfl _ _) (by cases jump.isNone <;> first | exact .tt | exact .ff) (by intro e; subst e; simp at hne) ?_
      intro C cs hcs
      exact hs1 _ _ _ hr hrun _
    · trivial

theorem applied {P : Program} {fr : Frame} {cs : List Frame} {w : World} {ops : Array Oper} {i : Nat} {rest : List Nat} {k : List Item} {o : Oper} (hm : fr.mode = .run)
    (ht : fr.todo = .inRegion ops (i :: rest) :: k) (ho : ops[i]? = some o) (hw : Region.wanted o (yielded ops fr.tmps) = true) (hd : fr.roundOf = none ∨ ∀ c, o.op ≠ .defer c) :
    stepG P true { frame := fr, callers := cs, status := .running, dying := none } w = stepG.apply P true fr cs none (execOp fr.eval o) w := by
  rcases hd with hd | hd
  · simp [stepG, hm, stepG.exec, ht, ho, hw, stepG.oper, Frame.oper?, hd]
  · cases hr : fr.roundOf with
    | none => simp [stepG, hm, stepG.exec, ht, ho, hw, stepG.oper, Frame.oper?, hr]
    | some l =>
      cases hop : o.op <;> first
        | (exact absurd hop (hd _))
        | simp [stepG, hm, stepG.exec, ht, ho, hw, stepG.oper, Frame.oper?, hr, hop]

end
end Go.Eng

/- The engine, part 17: the abstract machine's steps are the model's: all of them. -/
set_option linter.unusedVariables false
set_option linter.unusedSimpArgs false
set_option linter.unnecessarySimpa false
namespace Go.Eng
open Go

section
variable {P : Program} {Γ : Oracle} {g : Gh} {F : AFrame} {Fs : List AFrame} {H : AHeap} {fr : Frame} {frs cs0 : List Frame} {w : World}

theorem putArgs_ok : ∀ (ps : List Tmp) (as : List AV) (tmps : List AV) (ts : Array Value) (cs : List Value), RepL g tmps ts → RepL g as cs.toArray →
    RepL g (putArgs tmps ps as) ((ps.zip cs).foldl (fun tmps (x : Tmp × Value) => tmps.setIfInBounds x.1 x.2) ts)
  | [], as, tmps, ts, cs, h, _ => by
    have e : putArgs tmps [] as = tmps := by cases as <;> rfl
    rw [e]; exact h
  | p :: ps, [], tmps, ts, cs, h, ha => by
    have : cs = [] := by have := ha.1; simp at this; exact List.eq_nil_of_length_eq_zero this.symm
    subst this; exact h
  | p :: ps, a :: as, tmps, ts, cs, h, ha => by
    cases cs with
    | nil => have := ha.1; simp at this
    | cons c cs =>
      rw [putArgs, List.zip_cons_cons, List.foldl_cons]
      refine putArgs_ok ps as _ _ cs (set_rep h p (ha.2 0 a c rfl rfl)) ⟨by have := ha.1; simpa using this, fun i x v hx hv => ha.2 (i + 1) x v (by simpa using hx) (by simpa using hv)⟩

theorem hasBody_fn {f : FuncId} (h : hasBody P f = true) : ∃ fn, P.funcs[f]? = some fn := by
  unfold hasBody at h
  split at h
  · rename_i fn hf; exact ⟨fn, hf⟩
  · cases h

theorem doCall_ok (hF : RepFrame g F fr) (hFs : RepFrames g Fs frs) (hst : St g H w) {ops : Array Oper} {i : Nat} {rest : List Nat} {k : List Item} (ht : fr.todo = .inRegion ops (i :: rest) :: k)
    {cr : Result Next} {s : Sem Next} (hcr : s.run P w = cr)
    (hgo : ∀ {fr' : Frame} {cs : List Frame} {w' : World}, (stepG.apply P true fr (frs ++ cs0) none s w).bare = .go { frame := fr', callers := cs, status := .running, dying := none } w' →
      step P (lone fr (frs ++ cs0) w) = .next (lone fr' cs w')) {f : FuncId} {args : List AV} {cargs : Array Value} (hc : cr = (callFunc f cargs).run P w) (ha : RepL g args cargs) (v : AV) (H' : AHeap) (hctr : CtrTo P f args H v H') :
    NextOK P g (F :: Fs) H fr (frs ++ cs0) cs0 w (match F.finish v with | some F' => .next (.run (F' :: Fs) H') | none => .stop) := by
  split
  · rename_i F' hf
    rcases hctr g w cargs hst ha with ⟨hb, hcalls⟩ | ⟨c, w', hrun, hret⟩
    · obtain ⟨e, w', fr2, ⟨c, g', he, hle, hst', hv, hext⟩, hcomes, hfn, hleave⟩ := hcalls (fr :: (frs ++ cs0))
      subst he
      rw [run_callFunc hb] at hc
      have hs1 : step P (lone fr (frs ++ cs0) w) = .next (lone (Frame.enter P f cargs .normal) (fr :: (frs ++ cs0)) w) := hgo (by simp [stepG.apply, hcr, hc, ht])
      refine ⟨fr.finish c, frs, w', g', .head hs1 (hcomes.trans (.one (step_leave_returned hleave))), finish_ok (hF.mono hle) hv hf, hFs.mono hle, hst', hext, botFn_top F F' Fs (finish_fn hf), hle⟩
    · obtain ⟨c', g', he, hle, hst', hv, hext⟩ := hret
      cases he
      rw [hrun] at hc
      refine ⟨fr.finish c, frs, w', g', .one (hgo (by simp [stepG.apply, hcr, hc])), finish_ok (hF.mono hle) hv hf, hFs.mono hle, hst', hext, botFn_top F F' Fs (finish_fn hf), hle⟩
  · trivial

/-- What an operation's result does. -/
theorem doRes_ok (hΓ : OracleOK P Γ) (hF : RepFrame g F fr) (hFs : RepFrames g Fs frs) (hst : St g H w) {ops : Array Oper} {i : Nat} {rest : List Nat} {k : List Item} (ht : fr.todo = .inRegion ops (i :: rest) :: k)
    {cr : Result Next} {s : Sem Next} (hcr : s.run P w = cr)
    (hs : ∀ cs, stepG P true { frame := fr, callers := cs, status := .running, dying := none } w = stepG.apply P true fr cs none s w) :
    ∀ (r : ARes), ROk P g H w cr r → NextOK P g (F :: Fs) H fr (frs ++ cs0) cs0 w (doRes P Γ F Fs H r) := by
  have hgo : ∀ {fr' : Frame} {cs : List Frame} {w' : World}, (stepG.apply P true fr (frs ++ cs0) none s w).bare = .go { frame := fr', callers := cs, status := .running, dying := none } w' →
      step P (lone fr (frs ++ cs0) w) = .next (lone fr' cs w') := fun h => step_lone_go (by rw [hs]; exact h)
  intro r
  induction r with
  | val v =>
    rintro ⟨c, hc, hv⟩
    simp only [doRes]
    split
    · rename_i F' hf
      refine go1 hFs hst (hgo ?_) (finish_ok hF hv hf) (finish_fn hf)
      simp [stepG.apply, hcr, hc]
    · trivial
  | valH v H' =>
    rintro ⟨c, w', g', hc, hle, hst', hv, hext⟩
    simp only [doRes]
    split
    · rename_i F' hf
      refine ⟨fr.finish c, frs, w', g', .one (hgo ?_), finish_ok (hF.mono hle) hv hf, hFs.mono hle, hst', hext, botFn_top F F' Fs (finish_fn hf), hle⟩
      simp [stepG.apply, hcr, hc]
    · trivial
  | skipH H' =>
    rintro ⟨w', g', hc, hle, hst', hext⟩
    simp only [doRes]
    split
    · rename_i F' hf
      refine ⟨fr.finish undef, frs, w', g', .one (hgo ?_), finish_ok (hF.mono hle) (rep_un _) hf, hFs.mono hle, hst', hext, botFn_top F F' Fs (finish_fn hf), hle⟩
      simp [stepG.apply, hcr, hc]
    · trivial
  | pan v =>
    rintro ⟨c, hc, hv⟩
    refine go1 hFs hst (hgo ?_) (raise_ok hF (ps := [{ v, recovered := false }]) (cs := [{ v := c, recovered := false }]) ⟨⟨hv, rfl, rfl⟩, trivial⟩) (by unfold AFrame.raise; split <;> rfl)
    simp [stepG.apply, hcr, hc]
  | call f args =>
    rintro ⟨cargs, hc, ha⟩
    simp only [doRes, enterCall]
    split
    · rename_i r hg
      have key : ∀ r, CtrOK P f args H r → NextOK P g (F :: Fs) H fr (frs ++ cs0) cs0 w (ctrStep F Fs H r) := by
        intro r
        induction r with
        | ret v H' => intro h; exact doCall_ok hF hFs hst ht hcr hgo hc ha v H' h
        | new v X => intro h; exact doCall_ok hF hFs hst ht hcr hgo hc ha v (H ++ X) h
        | pure v =>
          intro h
          have hp := h []
          rw [List.append_nil] at hp
          exact doCall_ok hF hFs hst ht hcr hgo hc ha v H hp
        | br c a b iha ihb => intro h; exact ⟨fun e => iha (h.1 e), fun e => ihb (h.2 e)⟩
        | need c a ih => intro h e; exact ih (h e)
      exact key r (hΓ f args H r hg)
    · split
      · rename_i hb
        rw [run_callFunc hb] at hc
        exact ⟨Frame.enter P f cargs .normal, fr :: frs, w, g, .one (hgo (by simp [stepG.apply, hcr, hc, ht])), enterA_ok hb ha .normal, ⟨hF, hFs⟩, hst, Ext.refl _ _ _, rfl, Gh.le.refl _⟩
      · split
        rotate_left
        · trivial
        rename_i vs hvs
        have hargs : cargs = vs.toArray := by
          have := unPs_ok (g := g) args cargs.toList (by simpa using ha.1) (fun i x v hx hv => ha.2 i x v hx (by simpa using hv)) hvs
          rw [← this]
        split
        rotate_left
        · trivial
        rename_i v hv
        split
        rotate_left
        · trivial
        rename_i F' hf
        have hrun := cl_ok _ _ w hv
        rw [hargs, hrun] at hc
        refine go1 hFs hst (hgo ?_) (finish_ok hF (.d _ _ (.p v)) hf) (finish_fn hf)
        simp [stepG.apply, hcr, hc]
  | yld j args =>
    rintro ⟨cargs, hc, ha, hj⟩
    simp only [doRes]
    split
    · rename_i st pend fn tmps params assign body defers hH
      split
      · rename_i hlen
        obtain ⟨ts, hts, hd, hob⟩ := hst.obj j _ hH
        have hsz : cargs.size = params.size := by rw [← ha.1, hlen]
        have hy : (Instr.yield (g.mu j) cargs).run P w = .ok (.round (g.mu j) fn ((params.zip cargs).foldl (fun tmps (x : Tmp × Value) => tmps.setIfInBounds x.1 x.2) ts) assign body) w := by
          simp only [Instr.yield, Instr.getLoop, Sem.run_bind, run_getObj hob (by intros; simp), Result.andThen_ok, Sem.run_pure, hsz, ne_eq, not_true_eq_false, if_false]
        rw [hy] at hc
        refine ⟨Frame.round (g.mu j) fn ((params.zip cargs).foldl (fun tmps (x : Tmp × Value) => tmps.setIfInBounds x.1 x.2) ts) assign body .normal, fr :: frs, w, g, .one (hgo (by simp [stepG.apply, hcr, hc, ht])), ?_, ⟨hF, hFs⟩, hst, Ext.refl _ _ _, rfl, Gh.le.refl _⟩
        refine ⟨rfl, ?_, ⟨rfl, rfl, rfl, trivial⟩, trivial, rfl, rfl, rfl, fun l hl => by cases hl; exact hj⟩
        have := putArgs_ok (g := g) params.toList args tmps ts cargs.toList hts (by simpa using ha)
        simp only [Frame.round]
        rw [← Array.foldl_toList]
        simpa [Array.toList_zip] using this
      · trivial
    · trivial
  | defer d =>
    rintro ⟨cd, hc, hd⟩
    simp only [doRes]
    split
    · trivial
    split
    · rename_i F' hf
      have hF2 : RepFrame g { F with defers := d :: F.defers } { fr with defers := cd :: fr.defers } := ⟨hF.fn, hF.tmps, hF.todo, ⟨hd, hF.defers⟩, hF.mode, hF.kind, hF.round, hF.roundn⟩
      refine go1 hFs hst (hgo ?_) (finish_ok hF2 (rep_un _) hf) (finish_fn (F := { F with defers := d :: F.defers }) hf)
      simp [stepG.apply, hcr, hc]
    · trivial
  | recover =>
    intro hc
    simp only [doRes]
    split
    · trivial
    rename_i hround
    have hr0 : fr.roundOf = none := by
      rw [hF.round]
      cases e : F.round with
      | none => rfl
      | some l => rw [e] at hround; simp at hround
    have hnone : ∀ F', F.finish (.d (.p .nilIface)) = some F' → tryRecover fr (frs ++ cs0) = none → NextOK P g (F :: Fs) H fr (frs ++ cs0) cs0 w (.next (.run (F' :: Fs) H)) := by
      intro F' hf htr
      refine go1 hFs hst (hgo ?_) (finish_ok hF (.d _ _ (.p _)) hf) (finish_fn hf)
      simp [stepG.apply, hcr, (show cr = _ from hc), hr0, htr]
    split
    · rename_i v Fs' htr
      split
      · rename_i F' hf
        unfold tryRecoverA at htr
        split at htr
        · rename_i C rest hk
          split at htr
          · rename_i p older hm
            split at htr
            · cases htr
            rename_i hnr
            cases htr
            cases frs with
            | nil => exact hFs.elim
            | cons C' rest' =>
              obtain ⟨hC, hrest⟩ := hFs
              have hCm := hC.mode
              rw [hm] at hCm
              obtain ⟨chain, hmode, hps⟩ := hCm
              cases chain with
              | nil => exact hps.elim
              | cons q chain =>
                obtain ⟨⟨h1, h2, h3⟩, h4⟩ := hps
                obtain ⟨qv, qr, qg⟩ := q
                dsimp only at h1 h2 h3
                have h2' : qr = false := by rw [h2]; simpa using hnr
                subst h3
                rw [h2'] at hmode
                have hkind : fr.kind = .deferred := by rw [hF.kind, hk]
                have htr : tryRecover fr (C' :: (rest' ++ cs0)) = some (qv, { C' with mode := .panicking ({ v := qv, recovered := true } :: chain) } :: (rest' ++ cs0)) := by
                  simp only [tryRecover, hkind, hmode]
                refine ⟨fr.finish qv, { C' with mode := .panicking ({ v := qv, recovered := true } :: chain) } :: rest', w, g, .one (hgo ?_), finish_ok hF h1 hf, ⟨?_, hrest⟩, hst, Ext.refl _ _ _, ?_, Gh.le.refl _⟩
                · simp [stepG.apply, hcr, (show cr = _ from hc), hr0, htr]
                · exact ⟨hC.fn, hC.tmps, hC.todo, hC.defers, ⟨_, rfl, ⟨h1, rfl, rfl⟩, h4⟩, hC.kind, hC.round, hC.roundn⟩
                · rw [botFn_cons _ _ (by simp), botFn_cons F _ (by simp)]
                  exact botFn_top C _ rest rfl
          · cases htr
        · cases htr
        · cases htr
      · trivial
    · rename_i htr
      split
      · rename_i F' hf
        refine hnone F' hf ?_
        unfold tryRecoverA at htr
        split at htr
        · rename_i C rest hk
          have hkind : fr.kind = .deferred := by rw [hF.kind, hk]
          cases frs with
          | nil => exact hFs.elim
          | cons C' rest' =>
            obtain ⟨hC, hrest⟩ := hFs
            have hCm := hC.mode
            split at htr
            · rename_i p older hm
              split at htr
              rotate_left
              · cases htr
              rename_i hrec
              rw [hm] at hCm
              obtain ⟨chain, hmode, hps⟩ := hCm
              cases chain with
              | nil => exact hps.elim
              | cons q chain =>
                obtain ⟨⟨h1, h2, h3⟩, h4⟩ := hps
                obtain ⟨qv, qr, qg⟩ := q
                dsimp only at h2
                rw [hrec] at h2
                subst h2
                simp only [tryRecover, hkind, List.cons_append, hmode]
            · rename_i hnp
              cases em : C.mode with
              | run => rw [em] at hCm; simp only [tryRecover, hkind, List.cons_append, show C'.mode = .run from hCm]
              | ret => rw [em] at hCm; simp only [tryRecover, hkind, List.cons_append, show C'.mode = .returning from hCm]
              | pan ps =>
                cases ps with
                | nil =>
                  rw [em] at hCm
                  obtain ⟨chain, hmode, hps⟩ := hCm
                  cases chain with
                  | nil => simp only [tryRecover, hkind, List.cons_append, hmode]
                  | cons _ _ => exact hps.elim
                | cons p older => exact absurd em (hnp p older)
        · rename_i hk
          have hkind : fr.kind = .normal := by rw [hF.kind, hk]
          unfold tryRecover
          split <;> simp_all
        · cases htr
      · trivial
    · trivial
  | need c r ih => intro h hc; exact ih (h hc)
  | br c r1 r2 ih1 ih2 => intro h; exact ⟨fun hc => ih1 (h.1 hc), fun hc => ih2 (h.2 hc)⟩
  | stuck => intro _; trivial

theorem with_ok (hF : RepFrame g F fr) {t : Tmp} {c : Bool} (ht : F.tmps[t]? = some (.d (.p (.bool c)))) : RepFrame g (F.with t c) fr := by
  refine ⟨hF.fn, ?_, hF.todo, hF.defers, hF.mode, hF.kind, hF.round, hF.roundn⟩
  have h := hF.tmps
  refine ⟨by simpa [AFrame.with] using h.1, ?_⟩
  intro i x v hx hv
  simp only [AFrame.with] at hx
  rw [List.getElem?_set] at hx
  split at hx
  · rename_i e
    subst e
    split at hx
    · cases hx
      have := p_inv (h.2 t _ v ht hv)
      subst this
      cases c <;> first | exact .tt | exact .ff
    · cases hx
  · exact h.2 i x v hx hv

theorem yielded_of (hF : RepFrame g F fr) {ops : Array Oper} {j : Nat} {t : Tmp} (hd : (ops[j]?).bind (·.dst) = some t) {b : Bool} {x : AV} (hx : F.tmps[t]? = some x) (hb : ∀ v, ARep g x v → v = .bool b) :
    yielded ops fr.tmps j = some b := by
  obtain ⟨v, hv, hr⟩ := hF.tmps.get hx
  have := hb v hr
  subst this
  simp only [yielded, hd, Option.bind_some, hv]

theorem regionStep_ok (hΓ : OracleOK P Γ) (hF : RepFrame g F fr) (hFs : RepFrames g Fs frs) (hst : St g H w) {ops : Array Oper} {i : Nat} {rest : List Nat} {k : List AItem} (hm : F.mode = .run)
    (ht : F.todo = .inRegion ops (i :: rest) :: k) : NextOK P g (F :: Fs) H fr (frs ++ cs0) cs0 w (regionStep P Γ F Fs H ops i) := by
  obtain ⟨it, its, hfr, h1, h2⟩ := items_cons hF ht
  have h1 : it = .inRegion ops (i :: rest) := h1
  subst h1
  have hmode := mode_run hF hm
  unfold regionStep
  split
  · trivial
  rename_i o ho
  -- the two ways
  have hyes : ∀ (F2 : AFrame), RepFrame g F2 fr → F2.round = F.round → F2.fn = F.fn → Region.wanted o (yielded ops fr.tmps) = true → NextOK P g (F :: Fs) H fr (frs ++ cs0) cs0 w (opStep P Γ F2 Fs H o) := by
    intro F2 hF2 hr2 hf2 hw
    have conv : ∀ n, NextOK P g (F2 :: Fs) H fr (frs ++ cs0) cs0 w n → NextOK P g (F :: Fs) H fr (frs ++ cs0) cs0 w n := by
      have hb := botFn_top F F2 Fs hf2
      intro n
      induction n with
      | next m =>
        cases m with
        | run fs H' =>
          cases fs with
          | nil => exact id
          | cons F' Fs' => rintro ⟨a, b, c, d, e1, e2, e3, e4, e5, e6, e7⟩; exact ⟨a, b, c, d, e1, e2, e3, e4, e5, e6.trans hb, e7⟩
        | ret v H' => rintro ⟨c, e1, e2, e3⟩; exact ⟨c, e1, e2.trans hb, e3⟩
        | pan ps H' => rintro ⟨c, e1, e2, e3⟩; exact ⟨c, e1, e2.trans hb, e3⟩
      | br c a b iha ihb => intro h; exact ⟨fun hc => iha (h.1 hc), fun hc => ihb (h.2 hc)⟩
      | need c a ih => intro h hc; exact ih (h hc)
      | stop => intro _; trivial
    refine conv _ ?_
    have hd : fr.roundOf = none ∨ ∀ c, o.op ≠ .defer c ∨ True := .inr fun _ => .inr trivial
    unfold opStep
    split
    · trivial
    · rename_i hnd
      have hd : fr.roundOf = none ∨ ∀ c, o.op ≠ .defer c := by
        cases e : F2.round with
        | none => left; rw [hF2.round, e]; rfl
        | some l => right; intro c hc; exact hnd l c e hc
      refine doRes_ok hΓ hF2 hFs hst hfr rfl (fun cs => applied hmode hfr ho hw hd) _ ?_
      exact aexecV_ok hst (fun x => evalF_ok hF2 x) o
  have hno : ∀ (F2 : AFrame), RepFrame g F2 fr → F2.fn = F.fn → Region.wanted o (yielded ops fr.tmps) = false → NextOK P g (F :: Fs) H fr (frs ++ cs0) cs0 w (match F2.finish .un with | some F' => .next (.run (F' :: Fs) H) | none => .stop) := by
    intro F2 hF2 hf2 hw
    split
    · rename_i F' hf
      refine go1 hFs hst (step_lone_go ?_) (finish_ok hF2 (rep_un _) hf) ((finish_fn hf).trans hf2)
      simp [stepG, hmode, stepG.exec, hfr, ho, hw]
    · trivial
  have hwant := wantA
  cases hwa : wantA o ops F.tmps with
  | yes =>
    simp only []
    refine hyes F hF rfl rfl ?_
    unfold wantA at hwa
    unfold Region.wanted
    split at hwa
    · rename_i hg; rw [hg]
    · rename_i j want hg
      rw [hg]
      simp only []
      split at hwa
      · cases hwa
      · rename_i t hd
        split at hwa
        · rename_i hx
          rw [yielded_of hF hd hx (fun v hv => by cases hv; rfl)]
          cases want <;> simp at hwa ⊢
        · rename_i hx
          rw [yielded_of hF hd hx (fun v hv => by cases hv; rfl)]
          cases want <;> simp at hwa ⊢
        · cases hwa
        · cases hwa
        · cases hwa
  | no =>
    simp only []
    refine hno F hF rfl ?_
    unfold wantA at hwa
    unfold Region.wanted
    split at hwa
    · cases hwa
    · rename_i j want hg
      rw [hg]
      simp only []
      split at hwa
      · rename_i hd
        have : yielded ops fr.tmps j = none := by simp [yielded, hd]
        rw [this]; rfl
      · rename_i t hd
        split at hwa
        · rename_i hx
          rw [yielded_of hF hd hx (fun v hv => by cases hv; rfl)]
          cases want <;> simp at hwa ⊢
        · rename_i hx
          rw [yielded_of hF hd hx (fun v hv => by cases hv; rfl)]
          cases want <;> simp at hwa ⊢
        · cases hwa
        · rename_i hx
          obtain ⟨v, hv, hr⟩ := hF.tmps.get hx
          have hy : yielded ops fr.tmps j = none := by
            cases hr
            simp only [yielded, hd, Option.bind_some, hv]
          rw [hy]; rfl
        · cases hwa
  | ask c t want =>
    simp only []
    unfold wantA at hwa
    split at hwa
    · cases hwa
    rename_i j want' hg
    split at hwa
    · cases hwa
    rename_i t' hd
    split at hwa
    · split at hwa <;> cases hwa
    · split at hwa <;> cases hwa
    rotate_left
    · cases hwa
    · cases hwa
    rename_i c' hx
    simp only [Want.ask.injEq] at hwa
    obtain ⟨rfl, rfl, rfl⟩ := hwa
    have hy := yielded_of hF hd hx (fun v hv => p_inv hv)
    have hwd : Region.wanted o (yielded ops fr.tmps) = (c' == want') := by
      unfold Region.wanted
      rw [hg]
      simp only []
      rw [hy]
      cases c' <;> cases want' <;> rfl
    refine ⟨fun hc => ?_, fun hc => ?_⟩
    · subst hc
      have hF2 := with_ok hF hx
      cases want' with
      | true => exact hyes _ hF2 rfl rfl (by rw [hwd]; rfl)
      | false => exact hno _ hF2 rfl (by rw [hwd]; rfl)
    · subst hc
      have hF2 := with_ok hF hx
      cases want' with
      | true => exact hno _ hF2 rfl (by rw [hwd]; rfl)
      | false => exact hyes _ hF2 rfl rfl (by rw [hwd]; rfl)
  | unknown => trivial

end
end Go.Eng
