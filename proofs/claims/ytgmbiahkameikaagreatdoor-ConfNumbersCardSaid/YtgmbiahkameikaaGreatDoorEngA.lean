/- The engine, part 1: abstract values, abstract memory, and what they say of the model's values and memory. -/
import Derived.Defers
import Derived.KernelRfl
import Derived.Laws.Sem
set_option linter.unusedVariables false
namespace Go.Eng
open Go

/-- Data that nobody changes, by what it holds. -/
inductive DV where
  | p (v : Value)
  | ag (cs : List DV)
  | ifc (t : TypeId) (x : DV)
  | sl (n esz : Nat) (f : Nat → Nat → DV)
  | sz
  | rf (n : Nat) (f : Nat → DV)

/-- Values of the abstract machine: data, or numbers of blocks of its own. -/
inductive AV where
  | d (x : DV)
  | tt
  | ff
  | mp (i off : Nat)
  | mr (i k j esz : Nat)
  | ms (i off len esz : Nat)
  | mm (i : Nat)
  | fn (f : Fn) (first cap : List AV)
  | yl (i : Nat)
  | ag (cs : List AV)
  | tu (vs : List AV)
  | ifc (t : TypeId) (x : AV)
  | un
  | any

inductive ADef where
  | fn (f : Fn) (cap args : List AV)
  | collected (i : Nat)

inductive AObj where
  | cells (cs : List AV) (T : TypeId)
  | row (T : TypeId) (esz n : Nat) (f : Nat → Nat → AV)
  | map (es : List (Value × AV))
  | mapS (k : IntKind) (es : List (ByteArray × Int))
  | loop (st : LoopState) (pending : Option Code) (fn : FuncId) (tmps : List AV) (params : Array Tmp) (assign body : Code) (defers : Nat)
  | defd (calls : Option (List ADef))
  | siter (s : ByteArray) (pos : Nat)
  | dead

def AObj.live : AObj → Bool
  | .dead => false
  | _ => true

abbrev AHeap := List AObj

/-- What ties the two: the cells that never change, the blocks' numbers, the rows' lengths, how many blocks there are. -/
structure Gh where
  imm : Nat → Nat → Option Value
  mu : Nat → Nat
  cap : Nat → Nat
  bs : Nat → Nat
  n : Nat

inductive DRep (imm : Nat → Nat → Option Value) : DV → Value → Prop
  | p (v : Value) : DRep imm (.p v) v
  | ag (cs : List DV) (vs : Array Value) (hl : cs.length = vs.size)
      (h : ∀ (i : Nat) (x : DV) (v : Value), cs[i]? = some x → vs[i]? = some v → DRep imm x v) : DRep imm (.ag cs) (.agg vs)
  | ifc (t : TypeId) (x : DV) (v : Value) (h : DRep imm x v) : DRep imm (.ifc t x) (.iface t v)
  | sl (n esz : Nat) (f : Nat → Nat → DV) (b o cap : Nat) (vs : Nat → Nat → Value) (hc : n ≤ cap)
      (h1 : ∀ i j, i < n → j < esz → imm b (o + i * esz + j) = some (vs i j))
      (h2 : ∀ i j, i < n → j < esz → DRep imm (f i j) (vs i j)) : DRep imm (.sl n esz f) (.slice (some ⟨b, o, none⟩) n cap)
  | sz (a : Addr) : DRep imm .sz (.slice (some a) 0 0)
  | rf (n : Nat) (f : Nat → DV) (b o : Nat) (vs : Nat → Value)
      (h1 : ∀ j, j < n → imm b (o + j) = some (vs j))
      (h2 : ∀ j, j < n → DRep imm (f j) (vs j)) : DRep imm (.rf n f) (.pointer (some ⟨b, o, none⟩))

inductive ARep (g : Gh) : AV → Value → Prop
  | d (x : DV) (v : Value) (h : DRep g.imm x v) : ARep g (.d x) v
  | tt : ARep g .tt (.bool true)
  | ff : ARep g .ff (.bool false)
  | mp (i off : Nat) (hi : i < g.n) : ARep g (.mp i off) (.pointer (some ⟨g.mu i, off, none⟩))
  | mr (i k j esz : Nat) (hi : i < g.n) : ARep g (.mr i k j esz) (.pointer (some ⟨g.mu i, g.bs i + (k * esz + j), none⟩))
  | ms (i off len esz cap o : Nat) (hi : i < g.n) (hc : off + cap ≤ g.cap i) (hl : len ≤ cap) (ho : 0 < cap → o = g.bs i + off * esz) :
      ARep g (.ms i off len esz) (.slice (some ⟨g.mu i, o, none⟩) len cap)
  | yl (i : Nat) (hi : i < g.n) : ARep g (.yl i) (.func (.yield (g.mu i)) #[] #[])
  | mm (i : Nat) (hi : i < g.n) : ARep g (.mm i) (.map (some (g.mu i)))
  | fn (f : Fn) (first cap : List AV) (vs ws : Array Value) (hl1 : first.length = vs.size) (hl2 : cap.length = ws.size)
      (h1 : ∀ (i : Nat) (x : AV) (v : Value), first[i]? = some x → vs[i]? = some v → ARep g x v)
      (h2 : ∀ (i : Nat) (x : AV) (v : Value), cap[i]? = some x → ws[i]? = some v → ARep g x v) : ARep g (.fn f first cap) (.func f vs ws)
  | ag (cs : List AV) (vs : Array Value) (hl : cs.length = vs.size)
      (h : ∀ (i : Nat) (x : AV) (v : Value), cs[i]? = some x → vs[i]? = some v → ARep g x v) : ARep g (.ag cs) (.agg vs)
  | tu (cs : List AV) (vs : Array Value) (hl : cs.length = vs.size)
      (h : ∀ (i : Nat) (x : AV) (v : Value), cs[i]? = some x → vs[i]? = some v → ARep g x v) : ARep g (.tu cs) (.tuple vs)
  | ifc (t : TypeId) (x : AV) (v : Value) (h : ARep g x v) : ARep g (.ifc t x) (.iface t v)
  | un : ARep g .un (.tuple #[])
  | any (v : Value) : ARep g .any v

/-- A list of values, one by one. -/
def RepL (g : Gh) (cs : List AV) (vs : Array Value) : Prop :=
  cs.length = vs.size ∧ ∀ (i : Nat) (x : AV) (v : Value), cs[i]? = some x → vs[i]? = some v → ARep g x v

inductive RepDef (g : Gh) : ADef → Deferred → Prop
  | fn (f : Fn) (cap args : List AV) (cs as : Array Value) (h1 : RepL g cap cs) (h2 : RepL g args as) :
      RepDef g (.fn f cap args) { target := .fn f cs, args := as }
  | collected (i : Nat) (hi : i < g.n) : RepDef g (.collected i) { target := .collected (g.mu i), args := #[] }

def RepDefs (g : Gh) : List ADef → List Deferred → Prop
  | [], [] => True
  | a :: as, c :: cs => RepDef g a c ∧ RepDefs g as cs
  | _, _ => False

def notFrozen (arr : Array Value) (fr : Nat × Nat) : Prop := ∀ k, k < arr.size → ¬ (fr.1 ≤ k ∧ k < fr.2)
def oneCells (arr : Array Value) : Prop := ∀ (k : Nat) (v : Value), arr[k]? = some v → v.oneCell' = true

def RepEs (g : Gh) (es : List (Value × AV)) (ents : Array MapEntry) : Prop :=
  es.length = ents.size ∧ ∀ (i : Nat) (x : Value × AV) (e : MapEntry), es[i]? = some x → ents[i]? = some e → e.key = x.1 ∧ ARep g x.2 e.val
def RepEsS (k : IntKind) (es : List (ByteArray × Int)) (ents : Array MapEntry) : Prop :=
  es.length = ents.size ∧ ∀ (i : Nat) (x : ByteArray × Int) (e : MapEntry), es[i]? = some x → ents[i]? = some e → e.key = .string x.1 ∧ e.val = .int k x.2

/-- What a block holds. -/
def ObjRep (g : Gh) (i : Nat) : AObj → Option Obj → Prop
  | .dead, _ => True
  | .cells cs T, ob => ∃ arr fr, ob = some (.cells arr T fr) ∧ RepL g cs arr ∧ notFrozen arr fr ∧ oneCells arr
  | .row T esz n f, ob => ∃ arr fr, ob = some (.cells arr T fr) ∧ g.bs i + g.cap i * esz ≤ arr.size ∧ n ≤ g.cap i ∧ 0 < esz ∧
      (∀ a b, a < n → b < esz → ∃ v, arr[g.bs i + (a * esz + b)]? = some v ∧ ARep g (f a b) v) ∧ notFrozen arr fr ∧ oneCells arr
  | .map es, ob => ∃ ents clock, ob = some (.map ents clock) ∧ RepEs g es ents
  | .mapS k es, ob => ∃ ents clock, ob = some (.map ents clock) ∧ RepEsS k es ents
  | .loop st pending fn tmps params assign body defers, ob => ∃ ts, RepL g tmps ts ∧ defers < g.n ∧
      ob = some (.loop { state := st, pending, fn, tmps := ts, params, assign, body, defers := g.mu defers })
  | .defd none, ob => ob = some (.deferred none)
  | .defd (some ds), ob => ∃ cs, RepDefs g ds cs ∧ ob = some (.deferred (some cs))
  | .siter s pos, ob => ob = some (.stringIter s pos)

/-- The variable of the library's that the searches read (its block's number in this program): it holds a number, whichever. -/
def GB : Nat := 2
/-- The library's errors that strconv hands out: each is an error, whichever. -/
def GE : List Nat := [0, 1]
def isErr (v : Value) : Prop := v = .nilIface ∨ ∃ t p, v = .iface t p
def GlobOK (imm : Nat → Nat → Option Value) : Prop := (∃ m : Int, imm GB 0 = some (.int .i64 m)) ∧ ∀ b ∈ GE, ∃ v, imm b 0 = some v ∧ isErr v
theorem GlobOK.mono {imm imm' : Nat → Nat → Option Value} (hle : ∀ b o v, imm b o = some v → imm' b o = some v) (h : GlobOK imm) : GlobOK imm' :=
  ⟨let ⟨m, e⟩ := h.1; ⟨m, hle _ _ _ e⟩, fun b hb => let ⟨v, e, k⟩ := h.2 b hb; ⟨v, hle _ _ _ e, k⟩⟩

structure St (g : Gh) (H : AHeap) (w : World) : Prop where
  n : g.n = H.length
  imm : ∀ b o v, g.imm b o = some v → w.cell? ⟨b, o, none⟩ = some v ∧ v.oneCell' = true
  obj : ∀ i o, H[i]? = some o → ObjRep g i o w.heap[g.mu i]?
  size : ∀ i o, H[i]? = some o → o.live = true → g.mu i < w.heap.size
  inj : ∀ i j oi oj, H[i]? = some oi → H[j]? = some oj → oi.live = true → oj.live = true → g.mu i = g.mu j → i = j
  disj : ∀ i o, H[i]? = some o → o.live = true → ∀ off, g.imm (g.mu i) off = none
  glob : GlobOK g.imm

/-- The ghost has grown. -/
structure Gh.le (g g' : Gh) : Prop where
  imm : ∀ b o v, g.imm b o = some v → g'.imm b o = some v
  n : g.n ≤ g'.n
  mu : ∀ i, i < g.n → g'.mu i = g.mu i
  cap : ∀ i, i < g.n → g'.cap i = g.cap i
  bs : ∀ i, i < g.n → g'.bs i = g.bs i

theorem Gh.le.refl (g : Gh) : g.le g := ⟨fun _ _ _ h => h, Nat.le_refl _, fun _ _ => rfl, fun _ _ => rfl, fun _ _ => rfl⟩
theorem Gh.le.trans {a b c : Gh} (h : a.le b) (k : b.le c) : a.le c :=
  ⟨fun x y v e => k.imm _ _ _ (h.imm _ _ _ e), Nat.le_trans h.n k.n,
   fun i hi => (k.mu i (Nat.lt_of_lt_of_le hi h.n)).trans (h.mu i hi), fun i hi => (k.cap i (Nat.lt_of_lt_of_le hi h.n)).trans (h.cap i hi),
   fun i hi => (k.bs i (Nat.lt_of_lt_of_le hi h.n)).trans (h.bs i hi)⟩

theorem DRep.mono {imm imm' : Nat → Nat → Option Value} (hle : ∀ b o v, imm b o = some v → imm' b o = some v) {x : DV} {v : Value}
    (h : DRep imm x v) : DRep imm' x v := by
  induction h with
  | p v => exact .p v
  | ag cs vs hl h ih => exact .ag cs vs hl ih
  | ifc t x v h ih => exact .ifc t x v ih
  | sl n esz f b o cap vs hc h1 h2 ih => exact .sl n esz f b o cap vs hc (fun i j hi hj => hle _ _ _ (h1 i j hi hj)) ih
  | sz a => exact .sz a
  | rf n f b o vs h1 h2 ih => exact .rf n f b o vs (fun j hj => hle _ _ _ (h1 j hj)) ih

theorem ARep.mono {g g' : Gh} (hle : g.le g') {x : AV} {v : Value} (h : ARep g x v) : ARep g' x v := by
  induction h with
  | d x v h => exact .d x v (h.mono hle.imm)
  | tt => exact .tt
  | ff => exact .ff
  | mp i off hi => rw [← hle.mu i hi]; exact .mp i off (Nat.lt_of_lt_of_le hi hle.n)
  | mr i k j esz hi => rw [← hle.mu i hi, ← hle.bs i hi]; exact .mr i k j esz (Nat.lt_of_lt_of_le hi hle.n)
  | ms i off len esz cap o hi hc hl ho => rw [← hle.mu i hi]; exact .ms i off len esz cap o (Nat.lt_of_lt_of_le hi hle.n) (by rw [hle.cap i hi]; exact hc) hl (by rw [hle.bs i hi]; exact ho)
  | yl i hi => rw [← hle.mu i hi]; exact .yl i (Nat.lt_of_lt_of_le hi hle.n)
  | mm i hi => rw [← hle.mu i hi]; exact .mm i (Nat.lt_of_lt_of_le hi hle.n)
  | fn f first cap vs ws hl1 hl2 h1 h2 ih1 ih2 => exact .fn f first cap vs ws hl1 hl2 ih1 ih2
  | ag cs vs hl h ih => exact .ag cs vs hl ih
  | tu cs vs hl h ih => exact .tu cs vs hl ih
  | ifc t x v h ih => exact .ifc t x v ih
  | un => exact .un
  | any v => exact .any v

theorem RepL.mono {g g' : Gh} (hle : g.le g') {cs : List AV} {vs : Array Value} (h : RepL g cs vs) : RepL g' cs vs :=
  ⟨h.1, fun i x v hx hv => (h.2 i x v hx hv).mono hle⟩

theorem RepDef.mono {g g' : Gh} (hle : g.le g') {a : ADef} {c : Deferred} (h : RepDef g a c) : RepDef g' a c := by
  cases h with
  | fn f cap args cs as h1 h2 => exact .fn f cap args cs as (h1.mono hle) (h2.mono hle)
  | collected i hi => rw [← hle.mu i hi]; exact .collected i (Nat.lt_of_lt_of_le hi hle.n)

theorem RepDefs.mono {g g' : Gh} (hle : g.le g') : ∀ {as : List ADef} {cs : List Deferred}, RepDefs g as cs → RepDefs g' as cs
  | [], [], _ => trivial
  | _ :: _, _ :: _, ⟨h, t⟩ => ⟨h.mono hle, RepDefs.mono hle t⟩
  | [], _ :: _, h => h.elim
  | _ :: _, [], h => h.elim

theorem ObjRep.mono {g g' : Gh} (hle : g.le g') {i : Nat} (hi : i < g.n) {o : AObj} {ob : Option Obj} (h : ObjRep g i o ob) : ObjRep g' i o ob := by
  cases o with
  | dead => trivial
  | cells cs T => obtain ⟨arr, fr, e, hr, hf, ho⟩ := h; exact ⟨arr, fr, e, hr.mono hle, hf, ho⟩
  | row T esz n f =>
    obtain ⟨arr, fr, e, h1, h2, h3, h4, hf, ho⟩ := h
    exact ⟨arr, fr, e, by rw [hle.cap i hi, hle.bs i hi]; exact h1, by rw [hle.cap i hi]; exact h2, h3, fun a b ha hb => let ⟨v, hv, hr⟩ := h4 a b ha hb; ⟨v, by rw [hle.bs i hi]; exact hv, hr.mono hle⟩, hf, ho⟩
  | map es => obtain ⟨ents, clock, e, hl, hr⟩ := h; exact ⟨ents, clock, e, hl, fun i x en hx he => let ⟨hk, hv⟩ := hr i x en hx he; ⟨hk, hv.mono hle⟩⟩
  | mapS k es => exact h
  | loop st pending fn tmps params assign body defers =>
    obtain ⟨ts, hr, hd, e⟩ := h
    exact ⟨ts, hr.mono hle, Nat.lt_of_lt_of_le hd hle.n, by rw [hle.mu _ hd]; exact e⟩
  | defd calls =>
    cases calls with
    | none => exact h
    | some ds => obtain ⟨cs, hr, e⟩ := h; exact ⟨cs, hr.mono hle, e⟩
  | siter s pos => exact h

/-- The blocks that may be written. -/
def foot (g : Gh) (H : AHeap) (b : Nat) : Prop := ∃ i o, H[i]? = some o ∧ o.live = true ∧ g.mu i = b

/-- What a piece of a run keeps: 'F' and 'F'' are what may be written, before and behind. -/
structure Ext (I : Nat → Nat → Option Value) (F : Nat → Prop) (w : World) (I' : Nat → Nat → Option Value) (F' : Nat → Prop) (w' : World) : Prop where
  os : w'.os = w.os
  tape : w'.tape = w.tape
  output : w'.output = w.output
  size : w.heap.size ≤ w'.heap.size
  block : ∀ b, b < w.heap.size → ¬ F b → w'.heap[b]? = w.heap[b]?
  imm : ∀ (b o : Nat) (v : Value), I b o = some v → I' b o = some v
  fresh : ∀ (b o : Nat) (v : Value), I' b o = some v → I b o = none → F b ∨ w.heap.size ≤ b
  ft : ∀ b, F' b → F b ∨ w.heap.size ≤ b

theorem Ext.refl (imm : Nat → Nat → Option Value) (F : Nat → Prop) (w : World) : Ext imm F w imm F w :=
  ⟨rfl, rfl, rfl, Nat.le_refl _, fun _ _ _ => rfl, fun _ _ _ h => h, fun _ _ _ h h' => by simp [h] at h', fun _ h => .inl h⟩

theorem Ext.trans {i1 i2 i3 : Nat → Nat → Option Value} {F1 F2 F3 : Nat → Prop} {w1 w2 w3 : World} (h : Ext i1 F1 w1 i2 F2 w2) (k : Ext i2 F2 w2 i3 F3 w3) :
    Ext i1 F1 w1 i3 F3 w3 where
  os := k.os.trans h.os
  tape := k.tape.trans h.tape
  output := k.output.trans h.output
  size := Nat.le_trans h.size k.size
  block b hb hF := (k.block b (Nat.lt_of_lt_of_le hb h.size) (fun hf => by
    rcases h.ft b hf with h' | h'
    · exact hF h'
    · omega)).trans (h.block b hb hF)
  imm b o v e := k.imm _ _ _ (h.imm _ _ _ e)
  fresh b o v e e' := by
    cases e2 : i2 b o with
    | some v2 => exact h.fresh b o v2 e2 e'
    | none =>
      rcases k.fresh b o v e e2 with h' | h'
      · exact h.ft b h'
      · exact .inr (Nat.le_trans h.size h')
  ft b hb := by
    rcases k.ft b hb with h' | h'
    · exact h.ft b h'
    · exact .inr (Nat.le_trans h.size h')

end Go.Eng

/- The engine, part 2: loads, stores and new blocks in the model's memory, written out. -/
set_option linter.unusedVariables false
set_option linter.unusedSimpArgs false
namespace Go.Eng
open Go

theorem add_none (b o n : Nat) : (⟨b, o, none⟩ : Addr).add n = ⟨b, o + n, none⟩ := by
  unfold Addr.add
  split
  · subst_vars; simp
  · rfl

/-- The world with block b turned. -/
def putB (w : World) (b : Nat) (o : Obj) : World := { w with heap := w.heap.setIfInBounds b o }

@[simp] theorem putB_size (w : World) (b : Nat) (o : Obj) : (putB w b o).heap.size = w.heap.size := by simp [putB]
theorem putB_same (w : World) (b : Nat) (o : Obj) (h : b < w.heap.size) : (putB w b o).heap[b]? = some o := by
  simp [putB, Array.getElem?_setIfInBounds, h]
theorem putB_other (w : World) (b c : Nat) (o : Obj) (h : c ≠ b) : (putB w b o).heap[c]? = w.heap[c]? := by
  simp only [putB, Array.getElem?_setIfInBounds]
  rw [if_neg (fun e => h e.symm)]
theorem putB_self (w : World) (b : Nat) (o : Obj) (h : w.heap[b]? = some o) : putB w b o = w := by
  obtain ⟨hb, he⟩ := Array.getElem?_eq_some_iff.1 h
  unfold putB
  have : w.heap.setIfInBounds b o = w.heap := by
    apply Array.ext_getElem?
    intro i
    rw [Array.getElem?_setIfInBounds]
    split
    · subst_vars; simp [h]
    · rfl
  rw [this]
theorem putB_putB (w : World) (b : Nat) (o o' : Obj) : putB (putB w b o) b o' = putB w b o' := by
  simp [putB]

theorem cell_of (w : World) (b o : Nat) (arr : Array Value) (T : TypeId) (fr : Nat × Nat) (h : w.heap[b]? = some (.cells arr T fr)) :
    w.cell? ⟨b, o, none⟩ = arr[o]? := by
  simp [World.cell?, h]

theorem frozen_of (w : World) (b o : Nat) (arr : Array Value) (T : TypeId) (fr : Nat × Nat) (h : w.heap[b]? = some (.cells arr T fr)) :
    w.frozen? ⟨b, o, none⟩ = (decide (fr.1 ≤ o) && decide (o < fr.2)) := by
  simp [World.frozen?, h]

theorem setCell_of (w : World) (b o : Nat) (v : Value) (arr : Array Value) (T : TypeId) (fr : Nat × Nat) (h : w.heap[b]? = some (.cells arr T fr)) :
    w.setCell ⟨b, o, none⟩ v = putB w b (.cells (arr.setIfInBounds o v) T fr) := by
  unfold World.setCell putB
  congr 1
  apply Array.ext_getElem?
  intro i
  rw [Array.getElem?_modify, Array.getElem?_setIfInBounds]
  split
  · subst_vars
    obtain ⟨hb, he⟩ := Array.getElem?_eq_some_iff.1 h
    simp [hb, he]
  · rfl

/-- A row with some cells written over. -/
def over (arr : Array Value) (o : Nat) : List Value → Array Value
  | [] => arr
  | v :: vs => over (arr.setIfInBounds o v) (o + 1) vs

theorem over_size (arr : Array Value) (o : Nat) (vs : List Value) : (over arr o vs).size = arr.size := by
  induction vs generalizing arr o with
  | nil => rfl
  | cons v vs ih => simp [over, ih]

theorem over_get (arr : Array Value) (o : Nat) (vs : List Value) (k : Nat) :
    (over arr o vs)[k]? = if o ≤ k ∧ k < o + vs.length ∧ k < arr.size then vs[k - o]? else arr[k]? := by
  induction vs generalizing arr o with
  | nil => simp only [over, List.length_nil]; rw [if_neg (by omega)]
  | cons v vs ih =>
    rw [over, ih, Array.size_setIfInBounds, List.length_cons]
    by_cases h1 : k = o
    · subst h1
      rw [if_neg (by omega)]
      by_cases h2 : k < arr.size
      · rw [if_pos (by omega)]; simp [h2]
      · rw [if_neg (by omega)]; simp [Array.getElem?_setIfInBounds, h2]
    · by_cases h2 : o + 1 ≤ k ∧ k < o + 1 + vs.length ∧ k < arr.size
      · rw [if_pos h2, if_pos (by omega)]
        obtain ⟨j, rfl⟩ : ∃ j, k = o + 1 + j := ⟨k - (o + 1), by omega⟩
        rw [show o + 1 + j - (o + 1) = j by omega, show o + 1 + j - o = j + 1 by omega]
        simp
      · rw [if_neg h2, if_neg (by omega), Array.getElem?_setIfInBounds, if_neg (fun e => h1 e.symm)]

theorem run_storeCells (P : Program) (b o : Nat) (T : TypeId) (fr : Nat × Nat) (vs : List Value) : ∀ (i : Nat) (w : World) (arr : Array Value),
    w.heap[b]? = some (.cells arr T fr) → notFrozen arr fr → (∀ v ∈ vs, v.oneCell' = true) → o + i + vs.length ≤ arr.size →
    (storeCells ⟨b, o, none⟩ vs i).run P w = .ok () (putB w b (.cells (over arr (o + i) vs) T fr)) := by
  induction vs with
  | nil =>
    intro i w arr h _ _ _
    rw [storeCells]
    simp only [over]
    rw [putB_self _ _ _ h]
    rfl
  | cons v vs ih =>
    intro i w arr h hf h1 hl
    rw [List.length_cons] at hl
    rw [storeCells, Sem.run_bind, run_store _ _ _ _ _ (h1 v (by simp)), add_none, cell_of _ _ _ _ _ _ h]
    have hlt : o + i < arr.size := by omega
    rw [Array.getElem?_eq_getElem hlt, frozen_of _ _ _ _ _ _ h, setCell_of _ _ _ _ _ _ _ h]
    have hnf : (decide (fr.1 ≤ o + i) && decide (o + i < fr.2)) = false := by
      have := hf (o + i) hlt
      rw [Bool.and_eq_false_iff]
      by_cases hx : fr.1 ≤ o + i
      · right; simp; omega
      · left; simpa using hx
    rw [hnf]
    simp only [Bool.false_eq_true, if_false, Result.andThen_ok]
    have hb := (Array.getElem?_eq_some_iff.1 h).1
    rw [ih (i + 1) (putB w b (.cells (arr.setIfInBounds (o + i) v) T fr)) (arr.setIfInBounds (o + i) v) (putB_same _ _ _ hb)
      (by intro k hk; exact hf k (by simpa using hk)) (fun x hx => h1 x (by simp [hx])) (by simp; omega), putB_putB]
    simp [over, Nat.add_assoc]

theorem run_loadCellsFrom (P : Program) (w : World) (b o : Nat) (vs : Nat → Value) (n : Nat) : ∀ (i : Nat) (acc : Array Value),
    (∀ j, j < n → w.cell? ⟨b, o + (i + j), none⟩ = some (vs (i + j))) →
    (loadCellsFrom ⟨b, o, none⟩ i n acc).run P w = .ok (acc ++ ((List.range n).map fun j => vs (i + j)).toArray) w := by
  induction n with
  | zero => intro i acc _; rw [loadCellsFrom]; simp
  | succ n ih =>
    intro i acc h
    rw [loadCellsFrom, Sem.run_bind, run_load, add_none]
    have h0 := h 0 (by omega)
    rw [Nat.add_zero] at h0
    rw [h0]
    simp only [Result.andThen_ok]
    rw [ih (i + 1) (acc.push (vs i)) (fun j hj => by
      have := h (j + 1) (by omega)
      rwa [show i + (j + 1) = i + 1 + j by omega] at this)]
    congr 1
    apply Array.ext'
    simp only [Array.toList_append, Array.toList_push, List.append_assoc]
    congr 1
    rw [List.range_succ_eq_map]
    simp only [List.map_cons, List.map_map, Nat.add_zero, List.singleton_append]
    congr 1
    apply List.map_congr_left
    intro a _
    simp only [Function.comp]
    congr 1
    omega

theorem run_loadCells (P : Program) (w : World) (b o n : Nat) (vs : Nat → Value) (h : ∀ j, j < n → w.cell? ⟨b, o + j, none⟩ = some (vs j)) :
    (loadCells ⟨b, o, none⟩ n).run P w = .ok ((List.range n).map vs).toArray w := by
  unfold loadCells
  rw [run_loadCellsFrom P w b o vs n 0 #[] (fun j hj => by simpa using h j hj)]
  simp

def aggT (P : Program) (T : TypeId) : Option Bool :=
  match P.underlying T with
  | some (.struct _) | some (.array _ _) => some true
  | some _ => some false
  | none => none

theorem run_isAgg {P : Program} {T : TypeId} {b : Bool} (h : aggT P T = some b) (w : World) : (isAgg T).run P w = .ok b w := by
  unfold aggT at h
  unfold isAgg underlying
  simp only [Sem.run_bind, run_program, Result.andThen_ok]
  cases hu : P.underlying T with
  | none => rw [hu] at h; cases h
  | some d =>
    rw [hu] at h
    simp only [Sem.run_pure, Result.andThen_ok]
    cases d <;> simp at h <;> subst h <;> rfl

theorem run_typeInfo {P : Program} {T : TypeId} {i : TypeInfo} (h : P.info? T = some i) (w : World) : (typeInfo T).run P w = .ok i w := by
  unfold typeInfo
  simp [h]

theorem run_sizeOf {P : Program} {T : TypeId} {i : TypeInfo} (h : P.info? T = some i) (w : World) : (sizeOf T).run P w = .ok i.size w := by
  unfold sizeOf
  simp [run_typeInfo h]

theorem run_underlying {P : Program} {T : TypeId} {d : TypeDesc} (h : P.underlying T = some d) (w : World) : (underlying T).run P w = .ok d w := by
  unfold underlying
  simp [h]

theorem run_zeroValue {P : Program} {T : TypeId} {i : TypeInfo} {z : Value} (h : P.info? T = some i) (hz : i.zero = some z) (w : World) :
    (zeroValue T).run P w = .ok z w := by
  unfold zeroValue
  simp [run_typeInfo h, hz]

/-- A load of one cell. -/
theorem run_loadVar_one {P : Program} {T : TypeId} (h : aggT P T = some false) (w : World) (b o : Nat) (v : Value) (hc : w.cell? ⟨b, o, none⟩ = some v) :
    (loadVar T ⟨b, o, none⟩).run P w = .ok v w := by
  unfold loadVar
  simp [run_isAgg h, hc]

/-- A load of some cells. -/
theorem run_loadVar_agg {P : Program} {T : TypeId} {i : TypeInfo} (h : aggT P T = some true) (hi : P.info? T = some i) (w : World) (b o : Nat) (vs : Nat → Value)
    (hc : ∀ j, j < i.size → w.cell? ⟨b, o + j, none⟩ = some (vs j)) :
    (loadVar T ⟨b, o, none⟩).run P w = .ok (.agg ((List.range i.size).map vs).toArray) w := by
  unfold loadVar
  simp [run_isAgg h, run_sizeOf hi, run_loadCells P w b o i.size vs hc]

theorem run_storeVar {P : Program} {T : TypeId} {i : TypeInfo} (hi : P.info? T = some i) (w : World) (b o : Nat) (v : Value) (arr : Array Value) (T0 : TypeId) (fr : Nat × Nat)
    (h : w.heap[b]? = some (.cells arr T0 fr)) (hf : notFrozen arr fr) (hs : v.cells.size = i.size) (h1 : ∀ x ∈ v.cells.toList, x.oneCell' = true) (hl : o + i.size ≤ arr.size) :
    (storeVar T ⟨b, o, none⟩ v).run P w = .ok () (putB w b (.cells (over arr o v.cells.toList) T0 fr)) := by
  unfold storeVar
  simp only [Sem.run_bind, run_sizeOf hi, Result.andThen_ok, hs, ne_eq, not_true_eq_false, if_false]
  have := run_storeCells P b o T0 fr v.cells.toList 0 w arr h hf h1 (by simp [hs]; omega)
  simpa using this

end Go.Eng

/- The engine, part 3: how abstract memory and the model's memory change together. -/
set_option linter.unusedVariables false
set_option linter.unusedSimpArgs false
namespace Go.Eng
open Go

/-- One block more. -/
def Gh.pushAt (g : Gh) (b c s : Nat) : Gh :=
  { imm := g.imm, mu := fun i => if i = g.n then b else g.mu i, cap := fun i => if i = g.n then c else g.cap i, bs := fun i => if i = g.n then s else g.bs i, n := g.n + 1 }
def Gh.push (g : Gh) (b c : Nat) : Gh := g.pushAt b c 0

theorem Gh.le_pushAt (g : Gh) (b c s : Nat) : g.le (g.pushAt b c s) :=
  ⟨fun _ _ _ h => h, by simp [Gh.pushAt], fun i hi => by simp [Gh.pushAt]; omega, fun i hi => by simp [Gh.pushAt]; omega, fun i hi => by simp [Gh.pushAt]; omega⟩

theorem Gh.le_push (g : Gh) (b c : Nat) : g.le (g.push b c) :=
  g.le_pushAt b c 0

theorem Gh.push_mu (g : Gh) (b c : Nat) : (g.push b c).mu g.n = b := by simp [Gh.push, Gh.pushAt]
theorem Gh.push_cap (g : Gh) (b c : Nat) : (g.push b c).cap g.n = c := by simp [Gh.push, Gh.pushAt]
theorem Gh.push_bs (g : Gh) (b c : Nat) : (g.push b c).bs g.n = 0 := by simp [Gh.push, Gh.pushAt]
theorem Gh.push_n (g : Gh) (b c : Nat) : (g.push b c).n = g.n + 1 := rfl
theorem Gh.push_imm (g : Gh) (b c : Nat) : (g.push b c).imm = g.imm := rfl

def pushW (w : World) (o : Obj) : World := { w with heap := w.heap.push o }
@[simp] theorem pushW_size (w : World) (o : Obj) : (pushW w o).heap.size = w.heap.size + 1 := by simp [pushW]
theorem pushW_old (w : World) (o : Obj) (b : Nat) (h : b < w.heap.size) : (pushW w o).heap[b]? = w.heap[b]? := by
  simp only [pushW]; rw [Array.getElem?_push, if_neg (by omega)]
theorem pushW_new (w : World) (o : Obj) : (pushW w o).heap[w.heap.size]? = some o := by
  simp only [pushW]; rw [Array.getElem?_push, if_pos rfl]

theorem St.lt {g : Gh} {H : AHeap} {w : World} (h : St g H w) {i : Nat} {o : AObj} (hi : H[i]? = some o) : i < g.n := by
  rw [h.n]; exact (List.getElem?_eq_some_iff.1 hi).1

theorem cell_old {w w' : World} {b : Nat} (h : w'.heap[b]? = w.heap[b]?) (o : Nat) (s : Option Nat) : w'.cell? ⟨b, o, s⟩ = w.cell? ⟨b, o, s⟩ := by
  simp [World.cell?, h]

theorem imm_lt {g : Gh} {H : AHeap} {w : World} (h : St g H w) {b o : Nat} {v : Value} (hi : g.imm b o = some v) : b < w.heap.size := by
  have := (h.imm b o v hi).1
  rcases Nat.lt_or_ge b w.heap.size with hb | hb
  · exact hb
  · simp [World.cell?, Array.getElem?_eq_none hb] at this

/-- A new block. -/
theorem St.push {g : Gh} {H : AHeap} {w : World} (h : St g H w) (o : AObj) (co : Obj) (c : Nat)
    (hr : ObjRep (g.push w.heap.size c) g.n o (some co)) : St (g.push w.heap.size c) (H ++ [o]) (pushW w co) where
  n := by simp [Gh.push, Gh.pushAt, h.n]
  imm b o' v hi := by
    have := imm_lt h hi
    rw [cell_old (pushW_old w co b this)]
    exact h.imm b o' v hi
  obj i oi hoi := by
    rcases Nat.lt_or_ge i H.length with hlt | hge
    · rw [List.getElem?_append_left hlt] at hoi
      have hin : i < g.n := by rw [h.n]; exact hlt
      have hmu : (g.push w.heap.size c).mu i = g.mu i := (g.le_push _ c).mu i hin
      rw [hmu]
      cases hl : oi.live with
      | true => rw [pushW_old w co _ (h.size i oi hoi hl)]; exact (h.obj i oi hoi).mono (g.le_push _ c) hin
      | false => cases oi <;> simp [AObj.live] at hl; trivial
    · rw [List.getElem?_append_right hge] at hoi
      have : i = H.length := by
        rcases Nat.lt_or_ge 0 (i - H.length) with h' | h'
        · rw [List.getElem?_eq_none (by simp; omega)] at hoi; cases hoi
        · omega
      subst this
      simp at hoi
      subst hoi
      rw [← h.n, Gh.push_mu, pushW_new]
      exact hr
  size i oi hoi hl := by
    rw [pushW_size]
    rcases Nat.lt_or_ge i H.length with hlt | hge
    · rw [List.getElem?_append_left hlt] at hoi
      have hin : i < g.n := by rw [h.n]; exact hlt
      rw [(g.le_push _ c).mu i hin]
      have := h.size i oi hoi hl
      omega
    · have : i = H.length := by
        rw [List.getElem?_append_right hge] at hoi
        rcases Nat.lt_or_ge 0 (i - H.length) with h' | h'
        · rw [List.getElem?_eq_none (by simp; omega)] at hoi; cases hoi
        · omega
      subst this
      rw [← h.n, Gh.push_mu]; omega
  inj i j oi oj hi hj li lj e := by
    have key : ∀ (i : Nat) (oi : AObj), (H ++ [o])[i]? = some oi → (i < g.n ∧ H[i]? = some oi) ∨ i = g.n := by
      intro i oi hi
      rcases Nat.lt_or_ge i H.length with hlt | hge
      · rw [List.getElem?_append_left hlt] at hi; exact .inl ⟨by rw [h.n]; exact hlt, hi⟩
      · rw [List.getElem?_append_right hge] at hi
        rcases Nat.lt_or_ge 0 (i - H.length) with h' | h'
        · rw [List.getElem?_eq_none (by simp; omega)] at hi; cases hi
        · right; rw [h.n]; omega
    rcases key i oi hi with ⟨a1, a2⟩ | a <;> rcases key j oj hj with ⟨b1, b2⟩ | b'
    · rw [(g.le_push _ c).mu i a1, (g.le_push _ c).mu j b1] at e
      exact h.inj i j oi oj a2 b2 li lj e
    · subst b'
      rw [(g.le_push _ c).mu i a1, Gh.push_mu] at e
      have := h.size i oi a2 li
      omega
    · subst a
      rw [(g.le_push _ c).mu j b1, Gh.push_mu] at e
      have := h.size j oj b2 lj
      omega
    · omega
  glob := h.glob
  disj i oi hoi hl off := by
    rcases Nat.lt_or_ge i H.length with hlt | hge
    · rw [List.getElem?_append_left hlt] at hoi
      have hin : i < g.n := by rw [h.n]; exact hlt
      rw [(g.le_push _ c).mu i hin]
      exact h.disj i oi hoi hl off
    · have : i = H.length := by
        rw [List.getElem?_append_right hge] at hoi
        rcases Nat.lt_or_ge 0 (i - H.length) with h' | h'
        · rw [List.getElem?_eq_none (by simp; omega)] at hoi; cases hoi
        · omega
      subst this
      rw [← h.n, Gh.push_mu]
      show g.imm w.heap.size off = none
      cases hi : g.imm w.heap.size off with
      | none => rfl
      | some v => have := imm_lt h hi; omega

theorem Ext.push {g : Gh} {H : AHeap} {w : World} (h : St g H w) (o : AObj) (co : Obj) (c : Nat) :
    Ext g.imm (foot g H) w (g.push w.heap.size c).imm (foot (g.push w.heap.size c) (H ++ [o])) (pushW w co) where
  os := rfl
  tape := rfl
  output := rfl
  size := by simp
  block b hb _ := pushW_old w co b hb
  imm _ _ _ h := h
  fresh b o' v h1 h2 := by rw [Gh.push_imm, h2] at h1; cases h1
  ft b hb := by
    obtain ⟨i, oi, hi, hl, e⟩ := hb
    rcases Nat.lt_or_ge i H.length with hlt | hge
    · rw [List.getElem?_append_left hlt] at hi
      have hin : i < g.n := by rw [h.n]; exact hlt
      rw [(g.le_push _ c).mu i hin] at e
      exact .inl ⟨i, oi, hi, hl, e⟩
    · right
      have : i = H.length := by
        rw [List.getElem?_append_right hge] at hi
        rcases Nat.lt_or_ge 0 (i - H.length) with h' | h'
        · rw [List.getElem?_eq_none (by simp; omega)] at hi; cases hi
        · omega
      subst this
      rw [← h.n, Gh.push_mu] at e
      omega

theorem set_get {H : AHeap} {i j : Nat} {o oj : AObj} (h : (H.set i o)[j]? = some oj) : (j = i ∧ oj = o) ∨ (j ≠ i ∧ H[j]? = some oj) := by
  rw [List.getElem?_set] at h
  split at h
  · subst_vars
    split at h
    · left; exact ⟨rfl, (Option.some.inj h).symm⟩
    · cases h
  · right; exact ⟨fun e => by simp_all, h⟩

/-- A block turned. -/
theorem St.put {g : Gh} {H : AHeap} {w : World} (h : St g H w) {i : Nat} {o : AObj} (hi : H[i]? = some o) (hl : o.live = true) (o' : AObj) (hl' : o'.live = true) (co : Obj)
    (hr : ObjRep g i o' (some co)) : St g (H.set i o') (putB w (g.mu i) co) where
  n := by simp [h.n]
  imm b off v hm := by
    have hne : b ≠ g.mu i := by
      intro e; subst e
      rw [h.disj i o hi hl off] at hm; cases hm
    rw [cell_old (putB_other w _ _ co hne)]
    exact h.imm b off v hm
  obj j oj hj := by
    rcases set_get hj with ⟨rfl, rfl⟩ | ⟨hne, hj'⟩
    · rw [putB_same _ _ _ (h.size _ o hi hl)]; exact hr
    · cases hlj : oj.live with
      | false => cases oj <;> simp [AObj.live] at hlj; trivial
      | true =>
        rw [putB_other]
        · exact h.obj j oj hj'
        · intro e; exact hne (h.inj j i oj o hj' hi hlj hl e)
  size j oj hj hlj := by
    rw [putB_size]
    rcases set_get hj with ⟨rfl, rfl⟩ | ⟨hne, hj'⟩
    · exact h.size _ o hi hl
    · exact h.size j oj hj' hlj
  inj j k oj ok hj hk lj lk e := by
    rcases set_get hj with ⟨rfl, rfl⟩ | ⟨hnj, hj'⟩ <;> rcases set_get hk with ⟨rfl, rfl⟩ | ⟨hnk, hk'⟩
    · rfl
    · exact h.inj _ _ _ _ hi hk' hl lk e
    · exact h.inj _ _ _ _ hj' hi lj hl e
    · exact h.inj _ _ _ _ hj' hk' lj lk e
  glob := h.glob
  disj j oj hj hlj off := by
    rcases set_get hj with ⟨rfl, rfl⟩ | ⟨hne, hj'⟩
    · exact h.disj _ o hi hl off
    · exact h.disj j oj hj' hlj off

theorem Ext.put {g : Gh} {H : AHeap} {w : World} (h : St g H w) {i : Nat} {o : AObj} (hi : H[i]? = some o) (hl : o.live = true) (o' : AObj) (co : Obj) :
    Ext g.imm (foot g H) w g.imm (foot g (H.set i o')) (putB w (g.mu i) co) where
  os := rfl
  tape := rfl
  output := rfl
  size := by simp
  block b hb hF := putB_other _ _ _ _ (fun e => hF ⟨i, o, hi, hl, e.symm⟩)
  imm _ _ _ h := h
  fresh b o' v h1 h2 := by rw [h2] at h1; cases h1
  ft b hb := by
    obtain ⟨j, oj, hj, hlj, e⟩ := hb
    rcases set_get hj with ⟨rfl, rfl⟩ | ⟨hne, hj'⟩
    · exact .inl ⟨_, o, hi, hl, e⟩
    · exact .inl ⟨j, oj, hj', hlj, e⟩

/-- A block is given up. -/
theorem St.kill {g : Gh} {H : AHeap} {w : World} (h : St g H w) (i : Nat) : St g (H.set i .dead) w where
  n := by simp [h.n]
  imm := h.imm
  obj j oj hj := by
    rcases set_get hj with ⟨rfl, rfl⟩ | ⟨hne, hj'⟩
    · trivial
    · exact h.obj j oj hj'
  size j oj hj hlj := by
    rcases set_get hj with ⟨rfl, rfl⟩ | ⟨hne, hj'⟩
    · simp [AObj.live] at hlj
    · exact h.size j oj hj' hlj
  inj j k oj ok hj hk lj lk e := by
    rcases set_get hj with ⟨rfl, rfl⟩ | ⟨hnj, hj'⟩
    · simp [AObj.live] at lj
    · rcases set_get hk with ⟨rfl, rfl⟩ | ⟨hnk, hk'⟩
      · simp [AObj.live] at lk
      · exact h.inj _ _ _ _ hj' hk' lj lk e
  glob := h.glob
  disj j oj hj hlj off := by
    rcases set_get hj with ⟨rfl, rfl⟩ | ⟨hne, hj'⟩
    · simp [AObj.live] at hlj
    · exact h.disj j oj hj' hlj off

theorem Ext.kill {g : Gh} {H : AHeap} {w : World} (i : Nat) : Ext g.imm (foot g H) w g.imm (foot g (H.set i .dead)) w where
  os := rfl
  tape := rfl
  output := rfl
  size := Nat.le_refl _
  block b hb hF := rfl
  imm _ _ _ h := h
  fresh b o' v h1 h2 := by rw [h2] at h1; cases h1
  ft b hb := by
    obtain ⟨j, oj, hj, hlj, e⟩ := hb
    rcases set_get hj with ⟨rfl, rfl⟩ | ⟨hne, hj'⟩
    · simp [AObj.live] at hlj
    · exact .inl ⟨j, oj, hj', hlj, e⟩

/-- A draw. -/
def drewW (w : World) : World := { w with drawn := w.drawn + 1 }
theorem St.drew {g : Gh} {H : AHeap} {w : World} (h : St g H w) : St g H (drewW w) :=
  ⟨h.n, h.imm, h.obj, h.size, h.inj, h.disj, h.glob⟩
theorem Ext.drew {I : Nat → Nat → Option Value} {F : Nat → Prop} {w : World} : Ext I F w I F (drewW w) :=
  ⟨rfl, rfl, rfl, Nat.le_refl _, fun _ _ _ => rfl, fun _ _ _ h => h, fun _ _ _ h h' => by simp [h] at h', fun _ h => .inl h⟩

end Go.Eng

/- The engine, part 4: what one operation does, in the abstract. -/
set_option linter.unusedVariables false
set_option linter.unusedSimpArgs false
namespace Go.Eng
open Go

inductive ARes where
  | val (v : AV)
  | valH (v : AV) (H : AHeap)
  | skipH (H : AHeap)
  | pan (v : AV)
  | call (f : FuncId) (args : List AV)
  | yld (i : Nat) (args : List AV)
  | defer (d : ADef)
  | recover
  | need (c : Bool) (r : ARes)
  | br (c : Bool) (r1 r2 : ARes)
  | stuck

mutual
def unP : AV → Option Value
  | .d (.p v) => some v
  | .tt => some (.bool true)
  | .ff => some (.bool false)
  | .ag cs => match unPs cs with
    | some vs => some (.agg vs.toArray)
    | none => none
  | _ => none
def unPs : List AV → Option (List Value)
  | [] => some []
  | x :: xs => match unP x with
    | some v => match unPs xs with
      | some vs => some (v :: vs)
      | none => none
    | none => none
end

def evalA (tmps : List AV) : Operand → AV
  | .tmp t => tmps.getD t .un
  | .const v => match v with
    | .bool true => .tt
    | .bool false => .ff
    | v => .d (.p v)
  | .global g => .d (.p (.pointer (some ⟨g, 0, none⟩)))
  | .func f => .d (.p (.func (.func f) #[] #[]))

/-- A computation that reads and writes no memory, carried out. -/
def cl (P : Program) {α : Type} : Sem α → Option (Except Value α)
  | .pure a => some (.ok a)
  | .program k => cl P (k P)
  | .mark _ k => cl P k
  | .halt (.panic v) => some (.error v)
  | _ => none

def clRes (P : Program) (s : Sem Next) : ARes :=
  match cl P s with
  | some (.ok (.value v)) => .val (.d (.p v))
  | some (.error v) => .pan (.d (.p v))
  | _ => .stuck

def allP (ρ : Operand → AV) (xs : List Operand) : Bool := xs.all fun x => (unP (ρ x)).isSome
def rhoP (ρ : Operand → AV) (x : Operand) : Value := (unP (ρ x)).getD undef

def closedA (P : Program) (ρ : Operand → AV) (o : Oper) : ARes :=
  if allP ρ o.op.operands.toList then clRes P (execOp (rhoP ρ) o) else .stuck

def cellsA : AV → List AV
  | .d (.p v) => v.cells.toList.map fun c => .d (.p c)
  | .d (.ag cs) => cs.map .d
  | .ag cs => cs
  | x => [x]

def oneA : AV → Bool
  | .d (.p v) => v.oneCell'
  | .d (.ag _) | .ag _ | .tu _ | .un | .any => false
  | _ => true

def overA (cells : List AV) (o : Nat) : List AV → List AV
  | [] => cells
  | c :: cs => overA (cells.set o c) (o + 1) cs

def zeroA (P : Program) (T : TypeId) : Option (List AV) :=
  match P.info? T with
  | some i => match i.zero with
    | some z => if z.cells.toList.all (·.oneCell') then some (z.cells.toList.map fun c => .d (.p c)) else none
    | none => none
  | none => none

def fillA (place : Nat → Option (Nat × Nat)) (cells : List AV) : List (Nat × AV) → Option (List AV)
  | [] => some cells
  | (i, v) :: rest =>
    match place i with
    | none => none
    | some (off, size) =>
      if (cellsA v).length ≠ size ∨ off + size > cells.length ∨ (cellsA v).all oneA = false then none
      else fillA place (overA cells off (cellsA v)) rest

def loadA (P : Program) (H : AHeap) (T : TypeId) (a : AV) : ARes :=
  match P.info? T with
  | none => .stuck
  | some i =>
    match aggT P T with
    | none => .stuck
    | some agg =>
      match a with
      | .mp id off =>
        match H[id]? with
        | some (.cells cs _) =>
          if agg then (if off + i.size ≤ cs.length then .val (.ag ((cs.drop off).take i.size)) else .stuck)
          else match cs[off]? with
            | some x => .val x
            | none => .stuck
        | _ => .stuck
      | .mr id k j esz =>
        match H[id]? with
        | some (.row _ esz' n f) =>
          if esz = esz' then .need (decide (k < n))
            (if agg then (if j + i.size ≤ esz then .val (.ag ((List.range i.size).map fun x => f k (j + x))) else .stuck)
             else if j < esz then .val (f k j) else .stuck)
          else .stuck
        | _ => .stuck
      | .d (.rf n f) =>
        if agg then (if i.size ≤ n then .val (.ag ((List.range i.size).map fun x => .d (f x))) else .stuck)
        else if 0 < n then .val (.d (f 0)) else .stuck
      | _ => .stuck

def storeA (P : Program) (H : AHeap) (T : TypeId) (a v : AV) : ARes :=
  match P.info? T with
  | none => .stuck
  | some i =>
    let cs' := cellsA v
    if cs'.length = i.size ∧ cs'.all oneA = true then
      match a with
      | .mp id off =>
        match H[id]? with
        | some (.cells cs T0) => if off + i.size ≤ cs.length then .skipH (H.set id (.cells (overA cs off cs') T0)) else .stuck
        | _ => .stuck
      | .mr id k j esz =>
        match H[id]? with
        | some (.row T0 esz' n f) =>
          if esz = esz' ∧ j + i.size ≤ esz then .need (decide (k < n))
            (.skipH (H.set id (.row T0 esz n fun a b => if a = k then (if j ≤ b then (if b < j + i.size then cs'.getD (b - j) .any else f a b) else f a b) else f a b)))
          else .stuck
        | _ => .stuck
      | _ => .stuck
    else .stuck

def isNilA : AV → Bool
  | .d (.p (.slice none _ _)) | .d (.p (.pointer none)) | .d (.p (.map none)) | .d (.p .nilFunc) | .d (.p .nilIface) => true
  | _ => false

/-- 'x == nil' at a value that is none. -/
def someA (u : TypeDesc) (x : AV) : Bool :=
  match u, x with
  | .slice _, .ms .. | .slice _, .d (.sl ..) | .slice _, .d .sz => true
  | .pointer _, .mp .. | .pointer _, .mr .. | .pointer _, .d (.rf ..) => true
  | .map _ _, .mm _ => true
  | .func _ _ _, .fn .. | .func _ _ _, .yl _ => true
  | .interface _, .ifc .. | .interface _, .d (.ifc ..) => true
  | _, _ => false

def eqNil (u : TypeDesc) (y : AV) : Bool :=
  match u, y with
  | .slice _, .d (.p (.slice none _ _)) | .pointer _, .d (.p (.pointer none)) | .map _ _, .d (.p (.map none)) | .func _ _ _, .d (.p .nilFunc)
  | .interface _, .d (.p .nilIface) => true
  | _, _ => false

def binA (P : Program) (ρ : Operand → AV) (o : Oper) (op : BinOp) (T : TypeId) (x y : Operand) : ARes :=
  match P.underlying T with
  | none => .stuck
  | some u =>
    if (someA u (ρ x) && eqNil u (ρ y)) || (eqNil u (ρ x) && someA u (ρ y)) then
      match op with
      | .eql => .val .ff
      | .neq => .val .tt
      | _ => .stuck
    else match op, ρ x, ρ y with
      | .add, .d (.p (.string a)), .d (.p (.string b)) => .need (decide (a.size + b.size ≤ 9223372036854775807)) (.val (.d (.p (.string (a ++ b)))))
      | _, _, _ => closedA P ρ o

/-- A bound of a slice: not there, or a number. -/
def boundA (ρ : Operand → AV) : Option Operand → Option (Option Int)
  | none => some none
  | some x => match ρ x with
    | .d (.p (.int _ n)) => some (some n)
    | _ => none

def sliceA (P : Program) (ρ : Operand → AV) (o : Oper) (T : TypeId) (x : Operand) (lo hi mx : Option Operand) : ARes :=
  match P.underlying T, boundA ρ lo, boundA ρ hi, boundA ρ mx with
  | some .string, some l, some h, some none =>
    match ρ x with
    | .d (.p (.string s)) =>
      .need (decide (0 ≤ l.getD 0 ∧ l.getD 0 ≤ h.getD s.size ∧ h.getD s.size ≤ s.size)) (.val (.d (.p (.string (s.extract (l.getD 0).toNat (h.getD s.size).toNat)))))
    | _ => .stuck
  | some (.slice e), some l, some h, some m =>
    match P.info? e with
    | none => .stuck
    | some i =>
      if hi.isNone ∧ mx.isSome then .stuck else
      match ρ x with
      | .d (.p (.slice none 0 0)) => .need (decide (l.getD 0 = 0 ∧ h.getD 0 = 0 ∧ m.getD 0 = 0)) (.val (.d (.p (.slice none 0 0))))
      | .d .sz => .need (decide (l.getD 0 = 0 ∧ h.getD 0 = 0 ∧ m.getD 0 = 0)) (.val (.d .sz))
      | .d (.sl n esz f) =>
        if esz = i.size then
          match m with
          | none => .need (decide (0 ≤ l.getD 0 ∧ l.getD 0 ≤ h.getD n ∧ h.getD n ≤ n)) (.val (.d (.sl ((h.getD n).toNat - (l.getD 0).toNat) esz fun a b => f ((l.getD 0).toNat + a) b)))
          | some m => .need (decide (l.getD 0 = 0 ∧ h.getD n = 0 ∧ m = 0)) (.val (.d .sz))
        else .stuck
      | .ms id off len esz =>
        if esz = i.size then
          .need (decide (0 ≤ l.getD 0 ∧ l.getD 0 ≤ h.getD len ∧ h.getD len ≤ m.getD len ∧ m.getD len ≤ len)) (.val (.ms id (off + (l.getD 0).toNat) ((h.getD len).toNat - (l.getD 0).toNat) esz))
        else .stuck
      | _ => .stuck
  | _, _, _, _ => .stuck

def fieldAddrA (P : Program) (a : AV) (s : TypeId) (f : Nat) : ARes :=
  match P.underlying s with
  | some (.struct fields) =>
    match fields[f]? with
    | some fd =>
      match P.info? fd.type with
      | some i =>
        if i.size = 0 then .stuck else
        match a with
        | .mp id off => .val (.mp id (off + fd.offset))
        | .mr id k j esz => .val (.mr id k (j + fd.offset) esz)
        | .d (.rf n g) => if fd.offset ≤ n then .val (.d (.rf (n - fd.offset) fun x => g (fd.offset + x))) else .stuck
        | _ => .stuck
      | none => .stuck
    | none => .stuck
  | _ => .stuck

def fieldA (P : Program) (x : AV) (T : TypeId) (f : Nat) : ARes :=
  match P.underlying T with
  | some (.struct fields) =>
    match fields[f]? with
    | some fd =>
      match P.info? fd.type, aggT P fd.type, x with
      | some i, some agg, .ag cs =>
        if agg then (if fd.offset + i.size ≤ cs.length then .val (.ag ((cs.drop fd.offset).take i.size)) else .stuck)
        else match cs[fd.offset]? with
          | some y => .val y
          | none => .stuck
      | _, _, _ => .stuck
    | none => .stuck
  | _ => .stuck

def indexAddrA (P : Program) (x ix : AV) (T : TypeId) : ARes :=
  match ix with
  | .d (.p (.int _ n)) =>
    match P.underlying T with
    | some (.slice e) =>
      match P.info? e with
      | none => .stuck
      | some i =>
        match x with
        | .ms id off len esz => if esz = i.size then .need (decide (0 ≤ n ∧ n < len)) (.val (.mr id (off + n.toNat) 0 esz)) else .stuck
        | .d (.sl m esz f) => if esz = i.size then .need (decide (0 ≤ n ∧ n < m)) (.val (.d (.rf esz (f n.toNat)))) else .stuck
        | _ => .stuck
    | some (.array len e) =>
      match P.info? e with
      | none => .stuck
      | some i =>
        match x with
        | .mp id off => .need (decide (0 ≤ n ∧ n < len)) (.val (.mp id (off + n.toNat * i.size)))
        | _ => .stuck
    | _ => .stuck
  | _ => .stuck

def indexA (P : Program) (ρ : Operand → AV) (o : Oper) (x ix : AV) (T : TypeId) : ARes :=
  match P.underlying T, x, ix with
  | some .string, .d (.p (.string s)), .d (.p (.int _ n)) =>
    .need (decide (0 ≤ n ∧ n < s.size)) (.val (.d (.p (.int .u8 (s.data[n.toNat]?.getD 0).toNat))))
  | some (.array len e), .ag cs, .d (.p (.int _ n)) =>
    match P.info? e, aggT P e with
    | some i, some false => if i.size = 1 then .need (decide (0 ≤ n ∧ n < len)) (match cs[n.toNat]? with | some y => .val y | none => .stuck) else .stuck
    | _, _ => .stuck
  | _, _, _ => .stuck

def lookS (s : ByteArray) : List (ByteArray × Int) → Int
  | [] => 0
  | (k, n) :: es => if s == k then n else lookS s es
def hasS (s : ByteArray) : List (ByteArray × Int) → Bool
  | [] => false
  | (k, _) :: es => if s == k then true else hasS s es
def setS (s : ByteArray) (n : Int) : List (ByteArray × Int) → List (ByteArray × Int)
  | [] => [(s, n)]
  | (k, m) :: es => if s == k then (s, n) :: es else (k, m) :: setS s n es

def okRes (ok : Bool) (v : AV) (b : AV) : AV := if ok then .tu [v, b] else v

def lookChain (kt : TypeDesc) (k : Value) (ok : Bool) (zero : AV) : List (Value × AV) → ARes
  | [] => .val (okRes ok zero .ff)
  | (k', v) :: es => match Instr.sameNow kt k k' with
    | some c => .br c (.val (okRes ok v .tt)) (lookChain kt k ok zero es)
    | none => .stuck

def zeroV (P : Program) (T : TypeId) : Option AV :=
  match P.info? T with
  | some i => match i.zero with
    | some (.agg cs) => some (.ag (cs.toList.map fun c => .d (.p c)))
    | some v => some (.d (.p v))
    | none => none
  | none => none

def simpleKey : TypeDesc → Bool
  | .string | .int _ | .bool => true
  | _ => false

def lookupA (P : Program) (H : AHeap) (m k : AV) (T : TypeId) (ok : Bool) : ARes :=
  match P.underlying T with
  | some (.map kt e) =>
    match P.underlying kt, zeroV P e, unP k with
    | some ku, some z, some kv =>
      if simpleKey ku then
        match m with
        | .mm id =>
          match H[id]? with
          | some (.map es) => lookChain ku kv ok z es
          | some (.mapS kd es) => match ku, kv, z with
            | .string, .string s, .d (.p (.int kd' z0)) => if kd = kd' ∧ z0 = 0 then .val (okRes ok (.d (.p (.int kd (lookS s es)))) (.d (.p (.bool (hasS s es))))) else .stuck
            | _, _, _ => .stuck
          | _ => .stuck
        | .d (.p (.map none)) => .val (okRes ok z .ff)
        | _ => .stuck
      else .stuck
    | _, _, _ => .stuck
  | _ => .stuck

/-- A map with a key set; none: it cannot be told. -/
def setChain (kt : TypeDesc) (k : Value) (v : AV) : List (Value × AV) → Option (List (Value × AV))
  | [] => some [(k, v)]
  | (k', v') :: es => match Instr.sameNow kt k k' with
    | some c => bif c then some ((k, v) :: es) else (match setChain kt k v es with | some r => some ((k', v') :: r) | none => none)
    | none => none

def mapUpdateA (P : Program) (H : AHeap) (m k v : AV) (T : TypeId) : ARes :=
  match P.underlying T with
  | some (.map kt e) =>
    match P.underlying kt, unP k with
    | some ku, some kv =>
      if simpleKey ku then
        match m with
        | .mm id =>
          match H[id]? with
          | some (.map es) => match setChain ku kv v es with
            | some es' => .skipH (H.set id (.map es'))
            | none => .stuck
          | some (.mapS kd es) => match ku, kv, v with
            | .string, .string s, .d (.p (.int kd' n)) => if kd = kd' then .skipH (H.set id (.mapS kd (setS s n es))) else .stuck
            | _, _, _ => .stuck
          | _ => .stuck
        | _ => .stuck
      else .stuck
    | _, _ => .stuck
  | _ => .stuck

def makeMapA (P : Program) (H : AHeap) (T : TypeId) : ARes :=
  match P.underlying T with
  | some (.map kt e) =>
    match P.underlying kt, P.underlying e with
    | some .string, some (.int k) => .valH (.mm H.length) (H ++ [.mapS k []])
    | _, _ => .valH (.mm H.length) (H ++ [.map []])
  | _ => .stuck

def typeAssertA (P : Program) (ρ : Operand → AV) (o : Oper) (x : AV) (xT T : TypeId) (ok : Bool) : ARes :=
  match x with
  | .ifc t v =>
    match P.underlying T, zeroV P T with
    | some (.interface _), _ => .stuck
    | some _, some z => if t = T then .val (okRes ok v .tt) else if ok then .val (.tu [z, .ff]) else .stuck
    | _, _ => .stuck
  | _ => closedA P ρ o

def lenA (H : AHeap) (P : Program) (ρ : Operand → AV) (o : Oper) (T : TypeId) (x : AV) : ARes :=
  match P.underlying T, x with
  | some (.slice _), .ms _ _ len _ => .val (.d (.p (.int .i64 len)))
  | some (.slice _), .d (.sl n _ _) => .val (.d (.p (.int .i64 n)))
  | some (.slice _), .d .sz => .val (.d (.p (.int .i64 0)))
  | some (.map _ _), .mm id =>
    match H[id]? with
    | some (.map es) => .val (.d (.p (.int .i64 es.length)))
    | some (.mapS _ es) => .val (.d (.p (.int .i64 es.length)))
    | _ => .stuck
  | _, _ => closedA P ρ o

/-- What is appended: how many, and which cells. -/
def srcA (H : AHeap) (esz : Nat) : AV → Option (Bool × Nat × (Nat → Nat → AV))
  | .ms id off len esz' =>
    match H[id]? with
    | some (.row _ esz'' n f) => if esz' = esz ∧ esz'' = esz then some (decide (off + len ≤ n), len, fun a b => f (off + a) b) else none
    | _ => none
  | .d (.sl n esz' f) => if esz' = esz then some (true, n, fun a b => .d (f a b)) else none
  | .d .sz => some (true, 0, fun _ _ => .any)
  | .d (.p (.slice none 0 0)) => some (true, 0, fun _ _ => .any)
  | .d (.p (.string s)) => if esz = 1 then some (true, s.size, fun a _ => .d (.p (.int .u8 (s.data[a]?.getD 0).toNat))) else none
  | _ => none

def appendA (P : Program) (H : AHeap) (T xT : TypeId) (s x : AV) : ARes :=
  match P.underlying T, P.underlying xT with
  | some (.slice e), some u =>
    match u with
    | .int _ =>
      match x, P.info? e, zeroA P e with
      | .d (.p (.int .i64 l)), some i, some z =>
        if z.length = i.size ∧ 0 < i.size ∧ 0 < i.bytes then
          match s with
          | .d (.p (.slice none 0 0)) | .d .sz =>
            .need (decide (0 ≤ l ∧ (2 * l.toNat + 200) * i.bytes ≤ 2 ^ 48)) (.br (l.toNat == 0) (.val s) (.valH (.ms H.length 0 l.toNat i.size) (H ++ [.row e i.size l.toNat fun _ b => z.getD b .any])))
          | _ => .stuck
        else .stuck
      | _, _, _ => .stuck
    | _ =>
      match P.info? e, zeroA P e with
      | some i, some z =>
        if z.length = i.size ∧ 0 < i.size ∧ 0 < i.bytes then
          match srcA H i.size x with
          | some (c, n, src) =>
            .need c <|
            match s with
            | .d (.p (.slice none 0 0)) | .d .sz =>
              .need (decide ((2 * n + 200) * i.bytes ≤ 2 ^ 48)) (.br (n == 0) (.val s) (.valH (.ms H.length 0 n i.size) (H ++ [.row e i.size n src])))
            | .ms id off len esz =>
              match H[id]? with
              | some (.row T0 esz' m f) =>
                if esz = i.size ∧ esz' = i.size ∧ T0 = e then
                  .need (decide (off + len ≤ m ∧ (2 * (len + n) + 200) * i.bytes ≤ 2 ^ 48))
                    (.valH (.ms H.length 0 (len + n) i.size) ((H.set id .dead) ++ [.row e i.size (len + n) fun a b => if a < len then f (off + a) b else src (a - len) b]))
                else .stuck
              | _ => .stuck
            | _ => .stuck
          | none => .stuck
        else .stuck
      | _, _ => .stuck
  | _, _ => .stuck

def makeSliceA (P : Program) (H : AHeap) (T : TypeId) (l c : AV) : ARes :=
  match P.underlying T, l, c with
  | some (.slice e), .d (.p (.int .i64 l)), .d (.p (.int .i64 c)) =>
    match P.info? e, zeroA P e with
    | some i, some z =>
      if z.length = i.size ∧ 0 < i.size then
        .need (decide (0 ≤ l ∧ l ≤ c ∧ c ≤ 2 ^ 62 ∧ i.bytes * c ≤ 2 ^ 48)) (.valH (.ms H.length 0 l.toNat i.size) (H ++ [.row e i.size l.toNat fun _ b => z.getD b .any]))
      else .stuck
    | _, _ => .stuck
  | _, _, _ => .stuck

def buildA (P : Program) (ρ : Operand → AV) (T : TypeId) (parts : List (Nat × Operand)) : ARes :=
  match zeroA P T, P.underlying T with
  | some z, some (.struct fields) =>
    match fillA (fun i => match fields[i]? with | some f => (match P.info? f.type with | some j => some (f.offset, j.size) | none => none) | none => none) z (parts.map fun x => (x.1, ρ x.2)) with
    | some cs => if fields.all (fun f => (P.info? f.type).isSome) then .val (.ag cs) else .stuck
    | none => .stuck
  | some z, some (.array _ e) =>
    match P.info? e with
    | some j => match fillA (fun i => some (i * j.size, j.size)) z (parts.map fun x => (x.1, ρ x.2)) with
      | some cs => .val (.ag cs)
      | none => .stuck
    | none => .stuck
  | _, _ => .stuck

def buildSliceA (P : Program) (H : AHeap) (ρ : Operand → AV) (T : TypeId) (len : Nat) (parts : List (Nat × Operand)) : ARes :=
  match P.underlying T with
  | some (.slice e) =>
    match P.info? e, zeroA P e with
    | some j, some z =>
      if z.length = j.size ∧ 0 < j.size ∧ len * j.size ≤ 2 ^ 24 then
        match fillA (fun i => some (i * j.size, j.size)) ((List.range (len * j.size)).map fun k => z.getD (k % j.size) .any) (parts.map fun x => (x.1, ρ x.2)) with
        | some cs => if cs.all oneA then .valH (.ms H.length 0 len j.size) (H ++ [.row e j.size len fun a b => cs.getD (a * j.size + b) .any]) else .stuck
        | none => .stuck
      else .stuck
    | _, _ => .stuck
  | _ => .stuck

def nilCheckA (P : Program) (ρ : Operand → AV) (o : Oper) (x : AV) : ARes :=
  match x with
  | .mp i off => .val (.mp i off)
  | .mr i k j esz => .val (.mr i k j esz)
  | .d (.rf n f) => .val (.d (.rf n f))
  | .ifc t v => .val (.ifc t v)
  | .fn (.func f) a b => .val (.fn (.func f) a b)
  | .yl i => .val (.yl i)
  | _ => closedA P ρ o

/-- What is called, with which arguments. -/
def calleeA (f : AV) (args : List AV) : ARes :=
  match f with
  | .d (.p (.func (.func k) first cap)) => .call k ((first.toList.map fun v => .d (.p v)) ++ args ++ (cap.toList.map fun v => .d (.p v)))
  | .fn (.func k) first cap => .call k (first ++ args ++ cap)
  | .yl i => .yld i args
  | _ => .stuck

def callA (P : Program) (H : AHeap) (ρ : Operand → AV) (o : Oper) (c : Call) : ARes :=
  match c.callee with
  | .value f => calleeA (ρ f) (c.args.toList.map ρ)
  | .invoke _ _ => .stuck
  | .builtin b =>
    match b, c.args.toList, c.argTypes.toList with
    | .len, [x], t :: _ => lenA H P ρ o t (ρ x)
    | .append, [s, x], [t, u] => appendA P H t u (ρ s) (ρ x)
    | .recover, _, _ => .recover
    | .unsafeSliceData, [x], _ => match ρ x with
      | .ms id off len esz => if 0 < len then .val (.mr id off 0 esz) else .stuck
      | _ => closedA P ρ o
    | .panic, [x], _ => match ρ x with
      | .ifc t v => .pan (.ifc t v)
      | _ => closedA P ρ o
    | _, _, _ => closedA P ρ o

def deferA (ρ : Operand → AV) (c : Call) : ARes :=
  match c.callee with
  | .value f =>
    match ρ f with
    | .d (.p (.func (.func k) first cap)) => .defer (.fn (.func k) (cap.toList.map fun v => .d (.p v)) ((first.toList.map fun v => .d (.p v)) ++ c.args.toList.map ρ))
    | .fn (.func k) first cap => .defer (.fn (.func k) cap (first ++ c.args.toList.map ρ))
    | _ => .stuck
  | _ => .stuck

def rangeA (P : Program) (H : AHeap) (T : TypeId) (x : AV) : ARes :=
  match P.underlying T, x with
  | some .string, .d (.p (.string s)) => .valH (.mp H.length 0) (H ++ [.siter s 0])
  | _, _ => .stuck

def nextA (H : AHeap) (it : AV) (isString : Bool) : ARes :=
  match it, isString with
  | .mp id 0, true =>
    match H[id]? with
    | some (.siter s pos) =>
      .br (decide (pos < s.size))
        (.valH (.tu [.tt, .d (.p (.int .i64 pos)), .d (.p (.int .i32 (Utf8.decode s pos).1))]) (H.set id (.siter s (pos + (Utf8.decode s pos).2))))
        (.val (.tu [.ff]))
    | _ => .stuck
  | _, _ => .stuck

def aexec (P : Program) (H : AHeap) (ρ : Operand → AV) (o : Oper) : ARes :=
  match o.op with
  | .move x | .assign x => .val (ρ x)
  | .pick c a b => match ρ c with
    | .tt => .val (ρ a)
    | .ff => .val (ρ b)
    | .d (.p (.bool c)) => .br c (.val (ρ a)) (.val (ρ b))
    | _ => .stuck
  | .alloc T => match zeroA P T with
    | some z => .valH (.mp H.length 0) (H ++ [.cells z T])
    | none => .stuck
  | .box T x => if (cellsA (ρ x)).all oneA then .valH (.mp H.length 0) (H ++ [.cells (cellsA (ρ x)) T]) else .stuck
  | .build T parts => buildA P ρ T parts.toList
  | .buildSlice T len parts => buildSliceA P H ρ T len parts.toList
  | .load T a => loadA P H T (ρ a)
  | .store T a v => storeA P H T (ρ a) (ρ v)
  | .nilCheck x => nilCheckA P ρ o (ρ x)
  | .binOp op T x y _ => binA P ρ o op T x y
  | .makeInterface T x => match P.underlying T with
    | some (.interface _) => .stuck
    | some _ => .val (.ifc T (ρ x))
    | none => .stuck
  | .makeFunc fn first cap => match fn with
    | .func k => .val (.fn (.func k) (first.toList.map ρ) (cap.toList.map ρ))
    | _ => .stuck
  | .makeMap T none => makeMapA P H T
  | .makeSlice T l c => makeSliceA P H T (ρ l) (ρ c)
  | .slice T x lo hi mx => sliceA P ρ o T x lo hi mx
  | .fieldAddr s x f => fieldAddrA P (ρ x) s f
  | .field T x f => fieldA P (ρ x) T f
  | .indexAddr T x ix => indexAddrA P (ρ x) (ρ ix) T
  | .index T x ix => indexA P ρ o (ρ x) (ρ ix) T
  | .lookup T x k ok => lookupA P H (ρ x) (ρ k) T ok
  | .mapUpdate T m k v | .insert T m k v => mapUpdateA P H (ρ m) (ρ k) (ρ v) T
  | .extract t ix => match ρ t with
    | .tu vs => match vs[ix]? with
      | some v => .val v
      | none => .stuck
    | _ => closedA P ρ o
  | .typeAssert x xT T ok => typeAssertA P ρ o (ρ x) xT T ok
  | .call c => callA P H ρ o c
  | .defer c => deferA ρ c
  | .panic x => match ρ x with
    | .ifc t v => .pan (.ifc t v)
    | _ => closedA P ρ o
  | .range T x => rangeA P H T (ρ x)
  | .next it isString => nextA H (ρ it) isString
  | .unOp .. | .convert .. => closedA P ρ o
  | _ => .stuck

end Go.Eng

/- The engine, part 5: what one operation does in the abstract, it does in the model: words and simple operations. -/
set_option linter.unusedVariables false
set_option linter.unusedSimpArgs false
set_option linter.unnecessarySimpa false
namespace Go.Eng
open Go

def ROk (P : Program) (g : Gh) (H : AHeap) (w : World) (cr : Result Next) : ARes → Prop
  | .val v => ∃ c, cr = .ok (.value c) w ∧ ARep g v c
  | .valH v H' => ∃ c w' g', cr = .ok (.value c) w' ∧ g.le g' ∧ St g' H' w' ∧ ARep g' v c ∧ Ext g.imm (foot g H) w g'.imm (foot g' H') w'
  | .skipH H' => ∃ w' g', cr = .ok .skip w' ∧ g.le g' ∧ St g' H' w' ∧ Ext g.imm (foot g H) w g'.imm (foot g' H') w'
  | .pan v => ∃ c, cr = .halt (.panic c) w ∧ ARep g v c
  | .call f args => ∃ cargs, cr = (callFunc f cargs).run P w ∧ RepL g args cargs
  | .yld i args => ∃ cargs, cr = (Instr.yield (g.mu i) cargs).run P w ∧ RepL g args cargs ∧ i < g.n
  | .defer d => ∃ cd, cr = .ok (.defer cd) w ∧ RepDef g d cd
  | .recover => cr = .ok .recover w
  | .need c r => c = true → ROk P g H w cr r
  | .br c r1 r2 => (c = true → ROk P g H w cr r1) ∧ (c = false → ROk P g H w cr r2)
  | .stuck => True

theorem repL_of_map (g : Gh) (vs : List Value) : RepL g (vs.map fun v => .d (.p v)) vs.toArray := by
  refine ⟨by simp, ?_⟩
  intro i x v hx hv
  simp only [List.getElem?_map, Option.map_eq_some_iff] at hx
  obtain ⟨u, hu, rfl⟩ := hx
  have : u = v := by simpa [hu] using hv
  subst this
  exact .d _ _ (.p u)

theorem RepL.get {g : Gh} {cs : List AV} {vs : Array Value} (h : RepL g cs vs) {i : Nat} {x : AV} (hx : cs[i]? = some x) : ∃ v, vs[i]? = some v ∧ ARep g x v := by
  have hi : i < vs.size := by rw [← h.1]; exact (List.getElem?_eq_some_iff.1 hx).1
  exact ⟨vs[i], by simp [hi], h.2 i x vs[i] hx (by simp [hi])⟩

theorem RepL.append {g : Gh} {a b : List AV} {x y : Array Value} (h : RepL g a x) (k : RepL g b y) : RepL g (a ++ b) (x ++ y) := by
  refine ⟨by simp [h.1, k.1], ?_⟩
  intro i c v hc hv
  rcases Nat.lt_or_ge i a.length with hlt | hge
  · rw [List.getElem?_append_left hlt] at hc
    rw [Array.getElem?_append_left (by rw [← h.1]; exact hlt)] at hv
    exact h.2 i c v hc hv
  · rw [List.getElem?_append_right hge] at hc
    rw [Array.getElem?_append_right (by rw [← h.1]; exact hge), ← h.1] at hv
    exact k.2 _ c v hc hv

theorem RepL.nil (g : Gh) : RepL g [] #[] := ⟨rfl, fun i x v h => by simp at h⟩

theorem RepL.cons {g : Gh} {x : AV} {v : Value} {cs : List AV} {vs : List Value} (h : ARep g x v) (k : RepL g cs vs.toArray) : RepL g (x :: cs) (v :: vs).toArray := by
  refine ⟨by have := k.1; simp at this; simp [this], ?_⟩
  intro i y u hy hu
  cases i with
  | zero => simp at hy hu; subst hy; subst hu; exact h
  | succ i => exact k.2 i y u (by simpa using hy) (by simpa using hu)

theorem RepL.one {g : Gh} {x : AV} {v : Value} (h : ARep g x v) : RepL g [x] #[v] := RepL.cons h (RepL.nil g)

theorem repL_map {g : Gh} {ρ : Operand → AV} {ρc : Operand → Value} (hρ : ∀ x, ARep g (ρ x) (ρc x)) (xs : Array Operand) : RepL g (xs.toList.map ρ) (xs.map ρc) := by
  refine ⟨by simp, ?_⟩
  intro i x v hx hv
  simp only [List.getElem?_map, Option.map_eq_some_iff] at hx
  obtain ⟨u, hu, rfl⟩ := hx
  simp only [Array.getElem?_map, Option.map_eq_some_iff] at hv
  obtain ⟨u', hu', rfl⟩ := hv
  have : u = u' := by
    rw [Array.getElem?_toList] at hu
    rw [hu] at hu'
    exact Option.some.inj hu'
  subst this
  exact hρ u

mutual
theorem unP_ok {g : Gh} : ∀ {x : AV} {c v : Value}, ARep g x c → unP x = some v → c = v
  | _, _, _, .d _ _ (.p u), h => by simpa [unP] using h
  | _, _, _, .tt, h => by simpa [unP] using h
  | _, _, _, .ff, h => by simpa [unP] using h
  | .ag cs, _, v, .ag _ vs hl hh, h => by
    simp only [unP] at h
    split at h
    · rename_i us hus
      have h1 := unPs_ok (g := g) cs vs.toList (by simpa using hl) (fun i x v hx hv => hh i x v hx (by simpa using hv)) hus
      cases h
      congr 1
      apply Array.ext'
      simpa using h1
    · cases h
  | _, _, _, .d _ _ (.ag ..), h => by simp [unP] at h
  | _, _, _, .d _ _ (.ifc ..), h => by simp [unP] at h
  | _, _, _, .d _ _ (.sl ..), h => by simp [unP] at h
  | _, _, _, .d _ _ (.sz _), h => by simp [unP] at h
  | _, _, _, .d _ _ (.rf ..), h => by simp [unP] at h
  | _, _, _, .mp .., h => by simp [unP] at h
  | _, _, _, .mr .., h => by simp [unP] at h
  | _, _, _, .ms .., h => by simp [unP] at h
  | _, _, _, .mm .., h => by simp [unP] at h
  | _, _, _, .fn .., h => by simp [unP] at h
  | _, _, _, .yl .., h => by simp [unP] at h
  | _, _, _, .tu .., h => by simp [unP] at h
  | _, _, _, .ifc .., h => by simp [unP] at h
  | _, _, _, .un, h => by simp [unP] at h
  | _, _, _, .any _, h => by simp [unP] at h
theorem unPs_ok {g : Gh} : ∀ (xs : List AV) (vs : List Value), xs.length = vs.length →
    (∀ (i : Nat) (x : AV) (v : Value), xs[i]? = some x → vs[i]? = some v → ARep g x v) → ∀ {us : List Value}, unPs xs = some us → vs = us
  | [], [], _, _, us, h => by simpa [unPs] using h
  | x :: xs, v :: vs, hl, hh, us, h => by
    simp only [unPs] at h
    split at h
    · rename_i u hu
      split at h
      · rename_i us' hus
        cases h
        have h1 := unP_ok (hh 0 x v rfl rfl) hu
        have h2 := unPs_ok xs vs (by simpa using hl) (fun i y z hy hz => hh (i + 1) y z (by simpa using hy) (by simpa using hz)) hus
        rw [h1, h2]
      · cases h
    · cases h
  | [], _ :: _, hl, _, _, _ => by simp at hl
  | _ :: _, [], hl, _, _, _ => by simp at hl
end

theorem cl_ok {P : Program} {α : Type} (s : Sem α) : ∀ (r : Except Value α) (w : World), cl P s = some r →
    s.run P w = (match r with | .ok a => .ok a w | .error v => .halt (.panic v) w) := by
  induction s with
  | pure a => intro r w h; simp only [cl, Option.some.injEq] at h; subst h; rfl
  | program k ih => intro r w h; simp only [cl] at h; simpa [Sem.run] using ih P r w h
  | mark m k ih => intro r w h; simp only [cl] at h; simpa [Sem.run] using ih r w h
  | halt x =>
    intro r w h
    cases x <;> simp [cl] at h
    subst h
    rfl
  | _ => intro r w h; simp [cl] at h

theorem clRes_ok {P : Program} {g : Gh} {H : AHeap} {w : World} (s : Sem Next) : ROk P g H w (s.run P w) (clRes P s) := by
  unfold clRes
  split
  · rename_i v h
    exact ⟨v, cl_ok s _ w h, .d _ _ (.p v)⟩
  · rename_i v h
    exact ⟨v, cl_ok s _ w h, .d _ _ (.p v)⟩
  · trivial

section
variable {P : Program} {g : Gh} {H : AHeap} {w : World} {ρ : Operand → AV} {ρc : Operand → Value} (hρ : ∀ x, ARep g (ρ x) (ρc x)) (hst : St g H w)

include hρ in
theorem closedA_ok (o : Oper) (hc : (∀ x ∈ o.op.operands.toList, ρc x = rhoP ρ x) → execOp ρc o = execOp (rhoP ρ) o) :
    ROk P g H w ((execOp ρc o).run P w) (closedA P ρ o) := by
  unfold closedA
  split
  · rename_i h
    rw [hc (fun x hx => by
      have := List.all_eq_true.1 h x hx
      obtain ⟨v, hv⟩ := Option.isSome_iff_exists.1 this
      rw [unP_ok (hρ x) hv, rhoP, hv]; rfl)]
    exact clRes_ok _
  · trivial

theorem oneA_ok {x : AV} {c : Value} (h : ARep g x c) (h1 : oneA x = true) : c.oneCell' = true := by
  cases h with
  | d x v h => cases h <;> first | (simpa [oneA] using h1) | rfl | (simp [oneA] at h1)
  | _ => first | rfl | (simp [oneA] at h1)

theorem cellsA_ok {x : AV} {c : Value} (h : ARep g x c) (h1 : (cellsA x).all oneA = true) : RepL g (cellsA x) c.cells := by
  cases h with
  | d x v h =>
    cases h with
    | p =>
      have := repL_of_map g c.cells.toList
      simpa [cellsA] using this
    | ag cs vs hl hh =>
      refine ⟨by simpa [cellsA, Value.cells] using hl, ?_⟩
      intro i y u hy hu
      simp only [cellsA, List.getElem?_map, Option.map_eq_some_iff] at hy
      obtain ⟨z, hz, rfl⟩ := hy
      exact .d _ _ (hh i z u hz hu)
    | ifc t x v h => exact RepL.one (.d _ _ (.ifc t x v h))
    | sl n esz f b o cap vs hc a1 a2 => exact RepL.one (.d _ _ (.sl n esz f b o cap vs hc a1 a2))
    | sz a => exact RepL.one (.d _ _ (.sz a))
    | rf n f b o vs a1 a2 => exact RepL.one (.d _ _ (.rf n f b o vs a1 a2))
  | ag cs vs hl hh => exact ⟨hl, hh⟩
  | tt => exact RepL.one .tt
  | ff => exact RepL.one .ff
  | mp i off hi => exact RepL.one (.mp i off hi)
  | mr i k j esz hi => exact RepL.one (.mr i k j esz hi)
  | ms i off len esz cap o hi hc hl ho => exact RepL.one (.ms i off len esz cap o hi hc hl ho)
  | mm i hi => exact RepL.one (.mm i hi)
  | fn f first cap vs ws hl1 hl2 a1 a2 => exact RepL.one (.fn f first cap vs ws hl1 hl2 a1 a2)
  | yl i hi => exact RepL.one (.yl i hi)
  | tu cs vs hl hh => exact RepL.one (.tu cs vs hl hh)
  | ifc t x v h => exact RepL.one (.ifc t x v h)
  | un => simp [cellsA, oneA] at h1
  | any v => simp [cellsA, oneA] at h1

theorem repL_one {cs : List AV} {vs : Array Value} (h : RepL g cs vs) (h1 : cs.all oneA = true) : ∀ v ∈ vs.toList, v.oneCell' = true := by
  intro v hv
  obtain ⟨i, hi, rfl⟩ := List.getElem_of_mem hv
  have hi' : i < cs.length := by rw [h.1]; simpa using hi
  exact oneA_ok (h.2 i cs[i] _ (by simp [hi']) (by simpa using hi)) (List.all_eq_true.1 h1 _ (List.getElem_mem hi'))

theorem overA_rep {cs xs : List AV} {arr : Array Value} {vs : List Value} (o : Nat) (h : RepL g cs arr) (hx : RepL g xs vs.toArray) : RepL g (overA cs o xs) (over arr o vs) := by
  induction xs generalizing cs arr vs o with
  | nil =>
    have : vs = [] := by have := hx.1; simp at this; exact List.eq_nil_of_length_eq_zero this.symm
    subst this; exact h
  | cons x xs ih =>
    cases vs with
    | nil => have := hx.1; simp at this
    | cons v vs =>
      rw [overA, over]
      refine ih (o + 1) ?_ ⟨by have := hx.1; simpa using this, fun i y u hy hu => hx.2 (i + 1) y u (by simpa using hy) (by simpa using hu)⟩
      refine ⟨by simp [h.1], ?_⟩
      intro i y u hy hu
      rw [List.getElem?_set] at hy
      rw [Array.getElem?_setIfInBounds] at hu
      by_cases e : o = i
      · subst e
        simp only [if_true] at hy hu
        split at hy
        · split at hu
          · cases hy; cases hu; exact hx.2 0 x v rfl rfl
          · cases hu
        · cases hy
      · simp only [if_neg e] at hy hu
        exact h.2 i y u hy hu

theorem overA_length (cs xs : List AV) (o : Nat) : (overA cs o xs).length = cs.length := by
  induction xs generalizing cs o with
  | nil => rfl
  | cons x xs ih => simp [overA, ih]

theorem over_one {arr : Array Value} {vs : List Value} (o : Nat) (h : oneCells arr) (hv : ∀ v ∈ vs, v.oneCell' = true) : oneCells (over arr o vs) := by
  induction vs generalizing arr o with
  | nil => exact h
  | cons v vs ih =>
    rw [over]
    refine ih (o + 1) ?_ (fun x hx => hv x (by simp [hx]))
    intro k u hu
    rw [Array.getElem?_setIfInBounds] at hu
    split at hu
    · split at hu
      · cases hu; exact hv _ (by simp)
      · cases hu
    · exact h k u hu

theorem zeroA_ok {T : TypeId} {z : List AV} (h : zeroA P T = some z) : ∃ i v, P.info? T = some i ∧ i.zero = some v ∧ RepL g z v.cells ∧ (∀ x ∈ v.cells.toList, x.oneCell' = true) ∧ z = v.cells.toList.map fun c => .d (.p c) := by
  unfold zeroA at h
  split at h
  · rename_i i hi
    split at h
    · rename_i v hv
      split at h
      · rename_i hone
        cases h
        exact ⟨i, v, hi, hv, by simpa using repL_of_map g v.cells.toList, fun x hx => List.all_eq_true.1 hone x hx, rfl⟩
      · cases h
    · cases h
  · cases h

theorem zeroV_ok {T : TypeId} {z : AV} (h : zeroV P T = some z) : ∃ i v, P.info? T = some i ∧ i.zero = some v ∧ ARep g z v := by
  unfold zeroV at h
  split at h
  · rename_i i hi
    split at h
    · rename_i cs hv
      cases h
      refine ⟨i, _, hi, hv, ?_⟩
      have := repL_of_map g cs.toList
      exact .ag _ _ (by simp) (fun i x v hx hv => this.2 i x v hx (by simpa using hv))
    · rename_i v _ hv
      cases h
      exact ⟨i, v, hi, hv, .d _ _ (.p v)⟩
    · cases h
  · cases h

include hst in
/-- A new variable. -/
theorem newVar_ok (T : TypeId) (cs : List AV) (v : Value) (hr : RepL g cs v.cells) (h1 : ∀ x ∈ v.cells.toList, x.oneCell' = true) :
    ∃ w' g', (newVar T v).run P w = .ok ⟨w.heap.size, 0, none⟩ w' ∧ g.le g' ∧ St g' (H ++ [.cells cs T]) w' ∧ ARep g' (.mp H.length 0) (.pointer (some ⟨w.heap.size, 0, none⟩)) ∧
      Ext g.imm (foot g H) w g'.imm (foot g' (H ++ [.cells cs T])) w' := by
  refine ⟨pushW w (.cells v.cells T), g.push w.heap.size 0, by simp [newVar, newRow, pushW], g.le_push _ _, ?_, ?_, Ext.push hst _ _ _⟩
  · refine hst.push _ _ _ ?_
    refine ⟨v.cells, (0, 0), rfl, hr.mono (g.le_push _ _), fun k _ h => by omega, ?_⟩
    intro k u hu
    exact h1 u (List.mem_of_getElem? (by simpa using hu))
  · have := ARep.mp (g := g.push w.heap.size 0) g.n 0 (by simp [Gh.push_n])
    rw [Gh.push_mu] at this
    rw [← hst.n]; exact this

end
end Go.Eng

/- The engine, part 6: what one operation does in the abstract, it does in the model: memory. -/
set_option linter.unusedVariables false
set_option linter.unusedSimpArgs false
set_option linter.unnecessarySimpa false
namespace Go.Eng
open Go

def nv (s : Sem Value) : Sem Next := do pure (.value (← s))
def nu (s : Sem Unit) : Sem Next := do s; pure .skip

theorem nv_ok {P : Program} {s : Sem Value} {w w' : World} {c : Value} (h : s.run P w = .ok c w') : (nv s).run P w = .ok (.value c) w' := by
  simp [nv, h]
theorem nu_ok {P : Program} {s : Sem Unit} {w w' : World} (h : s.run P w = .ok () w') : (nu s).run P w = .ok .skip w' := by
  simp [nu, h]
theorem nv_halt {P : Program} {s : Sem Value} {w w' : World} {x : Halt} (h : s.run P w = .halt x w') : (nv s).run P w = .halt x w' := by
  simp [nv, h]

section
variable {P : Program} {g : Gh} {H : AHeap} {w : World} (hst : St g H w)

include hst in
theorem alloc_ok (T : TypeId) : ROk P g H w ((nv (Instr.alloc T true (.tuple #[]))).run P w)
    (match zeroA P T with | some z => .valH (.mp H.length 0) (H ++ [.cells z T]) | none => .stuck) := by
  split
  · rename_i z hz
    obtain ⟨i, v, hi, hv, hr, h1, _⟩ := zeroA_ok (g := g) hz
    obtain ⟨w', g', hrun, hle, hst', hrep, hext⟩ := newVar_ok (P := P) hst T z v hr h1
    refine ⟨_, w', g', nv_ok ?_, hle, hst', hrep, hext⟩
    simp [Instr.alloc, run_zeroValue hi hv, hrun]
  · trivial

include hst in
theorem box_ok (T : TypeId) {x : AV} {c : Value} (hx : ARep g x c) : ROk P g H w ((nv (Instr.box T c)).run P w)
    (if (cellsA x).all oneA then .valH (.mp H.length 0) (H ++ [.cells (cellsA x) T]) else .stuck) := by
  split
  · rename_i h1
    have hr := cellsA_ok hx h1
    obtain ⟨w', g', hrun, hle, hst', hrep, hext⟩ := newVar_ok (P := P) hst T (cellsA x) c hr (repL_one hr h1)
    refine ⟨_, w', g', nv_ok ?_, hle, hst', hrep, hext⟩
    simp [Instr.box, hrun]
  · trivial

theorem repAg {f : Nat → AV} {vs : Nat → Value} {n : Nat} (h : ∀ j, j < n → ARep g (f j) (vs j)) : ARep g (.ag ((List.range n).map f)) (.agg ((List.range n).map vs).toArray) := by
  refine .ag _ _ (by simp) ?_
  intro i x v hx hv
  simp only [List.getElem?_map, Option.map_eq_some_iff, List.getElem?_range'] at hx
  simp only [List.getElem?_toArray, List.getElem?_map, Option.map_eq_some_iff] at hv
  obtain ⟨a, ha, rfl⟩ := hx
  obtain ⟨b, hb, rfl⟩ := hv
  rw [ha] at hb; cases hb
  have := List.getElem?_eq_some_iff.1 ha
  obtain ⟨h1, h2⟩ := this
  simp at h1 h2
  subst h2
  exact h _ h1

include hst in
theorem loadA_ok (T : TypeId) {a : AV} {c : Value} (ha : ARep g a c) : ROk P g H w ((nv (Instr.loadAt T c)).run P w) (loadA P H T a) := by
  unfold loadA
  split
  · trivial
  rename_i i hi
  split
  · trivial
  rename_i agg hagg
  split
  · -- mp
    rename_i id off
    split
    · rename_i cs T0 hH
      have ho := hst.obj id _ hH
      obtain ⟨arr, fr, hob, hr, hf, h1⟩ := ho
      obtain ⟨rfl⟩ : c = .pointer (some ⟨g.mu id, off, none⟩) := by cases ha; rfl
      cases agg with
      | true =>
        simp only [if_true]
        split
        · rename_i hlen
          have hsz := hr.1
          have hrun := run_loadVar_agg hagg hi w (g.mu id) off (fun j => (arr[off + j]?).getD undef) (fun j hj => by
            rw [cell_of _ _ _ _ _ _ hob, Array.getElem?_eq_getElem (by omega)]; simp)
          refine ⟨_, nv_ok (by simp only [Instr.loadAt, Instr.sureAddr, Sem.run_bind, Sem.run_pure, Result.andThen_ok]; exact hrun), ?_⟩
          have : (cs.drop off).take i.size = (List.range i.size).map fun j => (cs[off + j]?).getD .any := by
            apply List.ext_getElem?
            intro k
            rw [List.getElem?_take, List.getElem?_map]
            by_cases hk : k < i.size
            · rw [if_pos hk, List.getElem?_drop, List.getElem?_range hk, List.getElem?_eq_getElem (by omega)]
              simp [List.getElem?_eq_getElem (show off + k < cs.length by omega)]
            · rw [if_neg hk, List.getElem?_eq_none (by simp; omega)]; rfl
          rw [this]
          refine repAg fun j hj => ?_
          have hj1 : off + j < cs.length := by omega
          have hj2 : off + j < arr.size := by omega
          rw [List.getElem?_eq_getElem hj1, Array.getElem?_eq_getElem hj2]
          exact hr.2 (off + j) _ _ (List.getElem?_eq_getElem hj1) (Array.getElem?_eq_getElem hj2)
        · trivial
      | false =>
        simp only [Bool.false_eq_true, if_false]
        split
        · rename_i x hx
          obtain ⟨v, hv, hrep⟩ := hr.get hx
          exact ⟨v, nv_ok (by simp only [Instr.loadAt, Instr.sureAddr, Sem.run_bind, Sem.run_pure, Result.andThen_ok]; exact run_loadVar_one hagg w _ _ v (by rw [cell_of _ _ _ _ _ _ hob]; exact hv)), hrep⟩
        · trivial
    · trivial
  · -- mr
    rename_i id k j esz
    split
    · rename_i T0 esz' n f hH
      split
      · rename_i he
        subst he
        intro hk
        have hk : k < n := by simpa using hk
        obtain ⟨arr, fr, hob, hsz, hn, hpos, hcell, hf, h1⟩ := hst.obj id _ hH
        obtain ⟨rfl⟩ : c = .pointer (some ⟨g.mu id, g.bs id + (k * esz + j), none⟩) := by cases ha; rfl
        cases agg with
        | true =>
          simp only [if_true]
          split
          · rename_i hlen
            have hc : ∀ x, x < i.size → ∃ v, arr[g.bs id + (k * esz + (j + x))]? = some v ∧ ARep g (f k (j + x)) v := fun x hx => hcell k (j + x) hk (by omega)
            have hrun := run_loadVar_agg hagg hi w (g.mu id) (g.bs id + (k * esz + j)) (fun x => (arr[g.bs id + (k * esz + (j + x))]?).getD undef) (fun x hx => by
              obtain ⟨v, hv, _⟩ := hc x hx
              rw [cell_of _ _ _ _ _ _ hob, show g.bs id + (k * esz + j) + x = g.bs id + (k * esz + (j + x)) by omega, hv]; rfl)
            refine ⟨_, nv_ok (by simp only [Instr.loadAt, Instr.sureAddr, Sem.run_bind, Sem.run_pure, Result.andThen_ok]; exact hrun), ?_⟩
            refine repAg fun x hx => ?_
            obtain ⟨v, hv, hrep⟩ := hc x hx
            rw [hv]; exact hrep
          · trivial
        | false =>
          simp only [Bool.false_eq_true, if_false]
          split
          · rename_i hj
            obtain ⟨v, hv, hrep⟩ := hcell k j hk hj
            exact ⟨v, nv_ok (by simp only [Instr.loadAt, Instr.sureAddr, Sem.run_bind, Sem.run_pure, Result.andThen_ok]; exact run_loadVar_one hagg w _ _ v (by rw [cell_of _ _ _ _ _ _ hob]; exact hv)), hrep⟩
          · trivial
      · trivial
    · trivial
  · -- rf
    rename_i n f
    cases ha with
    | d _ _ hd =>
      cases hd with
      | rf _ _ b o vs h1 h2 =>
        cases agg with
        | true =>
          simp only [if_true]
          split
          · rename_i hlen
            have hrun := run_loadVar_agg hagg hi w b o vs (fun j hj => (hst.imm _ _ _ (h1 j (by omega))).1)
            refine ⟨_, nv_ok (by simp only [Instr.loadAt, Instr.sureAddr, Sem.run_bind, Sem.run_pure, Result.andThen_ok]; exact hrun), ?_⟩
            exact repAg fun j hj => .d _ _ (h2 j (by omega))
          · trivial
        | false =>
          simp only [Bool.false_eq_true, if_false]
          split
          · rename_i h0
            exact ⟨vs 0, nv_ok (by simp only [Instr.loadAt, Instr.sureAddr, Sem.run_bind, Sem.run_pure, Result.andThen_ok]; exact run_loadVar_one hagg w _ _ _ (by simpa using (hst.imm _ _ _ (h1 0 h0)).1)), .d _ _ (h2 0 h0)⟩
          · trivial
  · trivial

include hst in
theorem storeA_ok (T : TypeId) {a v : AV} {c u : Value} (ha : ARep g a c) (hv : ARep g v u) : ROk P g H w ((nu (Instr.storeAt T c u)).run P w) (storeA P H T a v) := by
  unfold storeA
  split
  · trivial
  rename_i i hi
  dsimp only
  split
  rotate_left
  · trivial
  rename_i hcs
  obtain ⟨hlen, hone⟩ := hcs
  have hru := cellsA_ok hv hone
  have hsize : u.cells.size = i.size := by rw [← hru.1, hlen]
  have h1u := repL_one hru hone
  split
  · -- mp
    rename_i id off
    split
    · rename_i cs T0 hH
      split
      · rename_i hle
        obtain ⟨arr, fr, hob, hr, hf, h1⟩ := hst.obj id _ hH
        obtain ⟨rfl⟩ : c = .pointer (some ⟨g.mu id, off, none⟩) := by cases ha; rfl
        have hrun := run_storeVar (P := P) hi w (g.mu id) off u arr T0 fr hob hf hsize h1u (by rw [← hr.1]; exact hle)
        refine ⟨_, g, nu_ok (by simp only [Instr.storeAt, Instr.sureAddr, Sem.run_bind, Sem.run_pure, Result.andThen_ok]; exact hrun), Gh.le.refl g, ?_, Ext.put hst hH rfl _ _⟩
        refine hst.put hH rfl _ rfl _ ?_
        refine ⟨_, fr, rfl, overA_rep off hr (by simpa using hru), ?_, over_one off h1 h1u⟩
        intro k hk; exact hf k (by rwa [over_size] at hk)
      · trivial
    · trivial
  · -- mr
    rename_i id k j esz
    split
    · rename_i T0 esz' n f hH
      split
      · rename_i he
        obtain ⟨he, hj⟩ := he
        subst he
        intro hk
        have hk : k < n := by simpa using hk
        obtain ⟨arr, fr, hob, hsz, hn, hpos, hcell, hf, h1⟩ := hst.obj id _ hH
        obtain ⟨rfl⟩ : c = .pointer (some ⟨g.mu id, g.bs id + (k * esz + j), none⟩) := by cases ha; rfl
        have hmul : k * esz + esz ≤ g.cap id * esz := by
          have : (k + 1) * esz ≤ g.cap id * esz := Nat.mul_le_mul_right esz (by omega)
          rwa [Nat.add_mul, Nat.one_mul] at this
        have hrun := run_storeVar (P := P) hi w (g.mu id) (g.bs id + (k * esz + j)) u arr _ fr hob hf hsize h1u (by omega)
        refine ⟨_, g, nu_ok (by simp only [Instr.storeAt, Instr.sureAddr, Sem.run_bind, Sem.run_pure, Result.andThen_ok]; exact hrun), Gh.le.refl g, ?_, Ext.put hst hH rfl _ _⟩
        refine hst.put hH rfl _ rfl _ ?_
        refine ⟨_, fr, rfl, by rw [over_size]; exact hsz, hn, hpos, ?_, fun k hk => hf k (by rwa [over_size] at hk), over_one _ h1 h1u⟩
        intro a b ha hb
        obtain ⟨v0, hv0, hrep0⟩ := hcell a b ha hb
        rw [over_get]
        have hul : u.cells.toList.length = i.size := by simpa using hsize
        by_cases e : a = k
        · subst e
          by_cases hb1 : j ≤ b
          · by_cases hb2 : b < j + i.size
            · rw [if_pos (by omega)]
              simp only [if_true, if_pos hb1, if_pos hb2]
              rw [show g.bs id + (a * esz + b) - (g.bs id + (a * esz + j)) = b - j by omega]
              have hbj : b - j < (cellsA v).length := by omega
              obtain ⟨x, hx, hrx⟩ := hru.get (List.getElem?_eq_getElem hbj)
              refine ⟨x, by simpa using hx, ?_⟩
              rw [List.getD_eq_getElem?_getD, List.getElem?_eq_getElem hbj]; exact hrx
            · rw [if_neg (by omega)]
              simp only [if_true, if_pos hb1, if_neg hb2]
              exact ⟨v0, hv0, hrep0⟩
          · rw [if_neg (by omega)]
            simp only [if_true, if_neg hb1]
            exact ⟨v0, hv0, hrep0⟩
        · rw [if_neg ?_]
          · simp only [if_neg e]
            exact ⟨v0, hv0, hrep0⟩
          · rintro ⟨g1, g2, _⟩
            rcases Nat.lt_or_ge a k with hak | hak
            · have : (a + 1) * esz ≤ k * esz := Nat.mul_le_mul_right esz (by omega)
              rw [Nat.add_mul, Nat.one_mul] at this
              omega
            · have : (k + 1) * esz ≤ a * esz := Nat.mul_le_mul_right esz (by omega)
              rw [Nat.add_mul, Nat.one_mul] at this
              omega
      · trivial
    · trivial
  · trivial

theorem fieldAddrA_ok {a : AV} {c : Value} (ha : ARep g a c) (s : TypeId) (f : Nat) : ROk P g H w ((nv (Instr.fieldAt s c f)).run P w) (fieldAddrA P a s f) := by
  unfold fieldAddrA
  split
  rotate_left
  · trivial
  rename_i fields hs
  split
  rotate_left
  · trivial
  rename_i fd hfd
  split
  rotate_left
  · trivial
  rename_i i hi
  split
  · trivial
  rename_i hz
  have hrun : ∀ (b o : Nat), (Instr.fieldAt s (.pointer (some ⟨b, o, none⟩)) f).run P w = .ok (.pointer (some ⟨b, o + fd.offset, none⟩)) w := by
    intro b o
    simp [Instr.fieldAt, run_underlying hs, hfd, Instr.sureAddr, fieldPlace, run_sizeOf hi, hz, add_none]
  cases ha with
  | mp id off hid => exact ⟨_, nv_ok (hrun _ _), .mp _ _ hid⟩
  | mr id k j esz hid =>
    refine ⟨_, nv_ok (hrun _ _), ?_⟩
    have := ARep.mr (g := g) id k (j + fd.offset) esz hid
    rwa [show g.bs id + (k * esz + (j + fd.offset)) = g.bs id + (k * esz + j) + fd.offset by omega] at this
  | d x v hd =>
    cases hd with
    | rf n f' b o vs h1 h2 =>
      dsimp only
      split
      · rename_i hle
        refine ⟨_, nv_ok (hrun _ _), .d _ _ (.rf _ _ b (o + fd.offset) (fun j => vs (fd.offset + j)) ?_ ?_)⟩
        · intro j hj; rw [Nat.add_assoc]; exact h1 _ (by omega)
        · intro j hj; exact h2 _ (by omega)
      · trivial
    | _ => trivial
  | _ => trivial

theorem run_part_agg {T : TypeId} {i : TypeInfo} (h : aggT P T = some true) (hi : P.info? T = some i) (cs : Array Value) (off : Nat) :
    (part T cs off).run P w = .ok (.agg (cs.extract off (off + i.size))) w := by
  simp [part, run_isAgg h, run_sizeOf hi]

theorem run_part_one {T : TypeId} (h : aggT P T = some false) (cs : Array Value) (off : Nat) (v : Value) (hv : cs[off]? = some v) :
    (part T cs off).run P w = .ok v w := by
  simp [part, run_isAgg h, hv]

theorem fieldA_ok {x : AV} {c : Value} (hx : ARep g x c) (T : TypeId) (f : Nat) : ROk P g H w ((nv (Instr.field T c f)).run P w) (fieldA P x T f) := by
  unfold fieldA
  split
  rotate_left
  · trivial
  rename_i fields hs
  split
  rotate_left
  · trivial
  rename_i fd hfd
  split
  rotate_left
  · trivial
  rename_i i agg cs hi hagg
  cases hx with
  | ag _ vs hl hh =>
    cases agg with
    | true =>
      simp only [if_true]
      split
      · rename_i hle
        refine ⟨_, nv_ok (by simp only [Instr.field, Sem.run_bind, run_underlying hs, Result.andThen_ok, hfd, asAgg, Sem.run_pure]; exact run_part_agg hagg hi _ _), ?_⟩
        refine .ag _ _ (by simp; omega) ?_
        intro k y u hy hu
        rw [List.getElem?_take] at hy
        split at hy
        · rename_i hk
          rw [List.getElem?_drop] at hy
          rw [Array.getElem?_extract] at hu
          split at hu
          · exact hh _ _ _ hy hu
          · cases hu
        · cases hy
      · trivial
    | false =>
      simp only [Bool.false_eq_true, if_false]
      split
      · rename_i y hy
        obtain ⟨v, hv, hrep⟩ := RepL.get ⟨hl, hh⟩ hy
        exact ⟨v, nv_ok (by simp only [Instr.field, Sem.run_bind, run_underlying hs, Result.andThen_ok, hfd, asAgg, Sem.run_pure]; exact run_part_one hagg _ _ _ hv), hrep⟩
      · trivial

end
end Go.Eng

/- The engine, part 7: what one operation does in the abstract, it does in the model: indexes, slices, comparisons, calls. -/
set_option linter.unusedVariables false
set_option linter.unusedSimpArgs false
set_option linter.unnecessarySimpa false
namespace Go.Eng
open Go

section
variable {P : Program} {g : Gh} {H : AHeap} {w : World} {ρ : Operand → AV} {ρc : Operand → Value} (hρ : ∀ x, ARep g (ρ x) (ρc x)) (hst : St g H w)

theorem p_inv {v c : Value} (h : ARep g (.d (.p v)) c) : c = v := by
  cases h with
  | d _ _ h => cases h; rfl

theorem indexAddrA_ok {x ix : AV} {c ci : Value} (hx : ARep g x c) (hi : ARep g ix ci) (T : TypeId) : ROk P g H w ((nv (Instr.indexAt T c ci)).run P w) (indexAddrA P x ix T) := by
  unfold indexAddrA
  split
  rotate_left
  · trivial
  rename_i k n
  obtain rfl := p_inv hi
  split
  · rename_i e hT
    split
    · trivial
    rename_i i hinfo
    split
    · rename_i id off len esz
      split
      · rename_i he
        intro hn
        obtain ⟨h0, h1⟩ : 0 ≤ n ∧ n < len := by simpa using hn
        cases hx with
        | ms _ _ _ _ cap o hid hc hl ho =>
          have ho' := ho (by omega)
          refine ⟨_, nv_ok (c := .pointer (some ⟨g.mu id, o + n.toNat * i.size, none⟩)) ?_, ?_⟩
          · simp [Instr.indexAt, asIntOf, run_underlying hT, run_sizeOf hinfo, h0, h1, add_none]
          · have := ARep.mr (g := g) id (off + n.toNat) 0 esz hid
            rw [he] at this ho'
            rw [ho', he]
            rwa [show g.bs id + ((off + n.toNat) * i.size + 0) = g.bs id + off * i.size + n.toNat * i.size by rw [Nat.add_mul]; omega] at this
      · trivial
    · rename_i m esz f
      split
      · rename_i he
        intro hn
        obtain ⟨h0, h1⟩ : 0 ≤ n ∧ n < m := by simpa using hn
        cases hx with
        | d _ _ hd =>
          cases hd with
          | sl _ _ _ b o cap vs hc a1 a2 =>
            refine ⟨_, nv_ok (c := .pointer (some ⟨b, o + n.toNat * i.size, none⟩)) ?_, ?_⟩
            · simp [Instr.indexAt, asIntOf, run_underlying hT, run_sizeOf hinfo, h0, h1, add_none]
            · subst he
              have hlt : n.toNat < m := by omega
              exact .d _ _ (.rf _ _ b _ (vs n.toNat) (fun j hj => a1 _ j hlt hj) (fun j hj => a2 _ j hlt hj))
      · trivial
    · trivial
  · rename_i len e hT
    split
    · trivial
    rename_i i hinfo
    split
    · rename_i id off
      intro hn
      obtain ⟨h0, h1⟩ : 0 ≤ n ∧ n < len := by simpa using hn
      cases hx with
      | mp _ _ hid =>
        refine ⟨_, nv_ok (c := .pointer (some ⟨g.mu id, off + n.toNat * i.size, none⟩)) ?_, .mp _ _ hid⟩
        simp [Instr.indexAt, asIntOf, run_underlying hT, run_sizeOf hinfo, h0, h1, add_none, Instr.sureAddr]
    · trivial
  · trivial

theorem indexA_ok (o : Oper) {x ix : AV} {c ci : Value} (hx : ARep g x c) (hi : ARep g ix ci) (T : TypeId) : ROk P g H w ((nv (Instr.index T c ci)).run P w) (indexA P ρ o x ix T) := by
  unfold indexA
  split
  · rename_i s k n hT
    intro hn
    obtain ⟨h0, h1⟩ : 0 ≤ n ∧ n < s.size := by simpa using hn
    obtain rfl := p_inv hx
    obtain rfl := p_inv hi
    have hlt : n.toNat < s.size := by omega
    refine ⟨_, nv_ok (c := .int .u8 (s.data[n.toNat]?.getD 0).toNat) ?_, .d _ _ (.p _)⟩
    have h2 : s[n.toNat]? = some (s.data[n.toNat]?.getD 0) := by
      rw [getElem?_pos s n.toNat hlt]
      have : n.toNat < s.data.size := hlt
      rw [Array.getElem?_eq_getElem this]
      rfl
    simp [Instr.index, asIntOf, run_underlying hT, h0, h2]
  · rename_i len e cs k n hT
    split
    · rename_i i hinfo hagg
      split
      · rename_i hs
        intro hn
        obtain ⟨h0, h1⟩ : 0 ≤ n ∧ n < len := by simpa using hn
        obtain rfl := p_inv hi
        cases hx with
        | ag _ vs hl hh =>
          split
          · rename_i y hy
            obtain ⟨v, hv, hrep⟩ := RepL.get ⟨hl, hh⟩ hy
            refine ⟨v, nv_ok ?_, hrep⟩
            simp only [Instr.index, asIntOf, Sem.run_bind, Sem.run_pure, Result.andThen_ok, run_underlying hT, if_pos (And.intro h0 h1), run_sizeOf hinfo, hs, Nat.mul_one]
            exact run_part_one hagg _ _ _ hv
          · trivial
      · trivial
    · trivial
  · trivial

include hρ in
theorem boundA_ok {x : Option Operand} {r : Option Int} (h : boundA ρ x = some r) :
    (x = none ∧ r = none) ∨ (∃ op k n, x = some op ∧ r = some n ∧ ρc op = .int k n) := by
  unfold boundA at h
  split at h
  · cases h; exact .inl ⟨rfl, rfl⟩
  · rename_i op
    split at h
    · rename_i k n hx
      cases h
      have := hρ op
      rw [hx] at this
      exact .inr ⟨op, k, n, rfl, rfl, p_inv this⟩
    · cases h

theorem run_sliceBound {k : IntKind} {n : Int} {y : Nat} {code : BoundsCode} (h0 : 0 ≤ n) (h1 : n ≤ y) :
    (Instr.sliceBound (.int k n) y code).run P w = .ok n.toNat w := by
  simp [Instr.sliceBound, asIntOf, h0, h1]

include hρ in
theorem run_sliceBounds {lo hi mx : Option Operand} {l h m : Option Int} (hl : boundA ρ lo = some l) (hh : boundA ρ hi = some h) (hm : boundA ρ mx = some m)
    (isSlice : Bool) (len cap : Nat) (hx : hi = none → mx = none) (h0 : 0 ≤ l.getD 0) (h1 : l.getD 0 ≤ h.getD len) (h2 : h.getD len ≤ m.getD cap) (h3 : m.getD cap ≤ cap) (h4 : len ≤ cap) :
    (Instr.sliceBounds isSlice len cap (lo.map ρc) (hi.map ρc) (mx.map ρc)).run P w = .ok ((l.getD 0).toNat, (h.getD len).toNat, (m.getD cap).toNat) w := by
  unfold Instr.sliceBounds
  rcases boundA_ok hρ hm with ⟨rfl, rfl⟩ | ⟨om, km, nm, rfl, rfl, em⟩
  · rcases boundA_ok hρ hh with ⟨rfl, rfl⟩ | ⟨oh, kh, nh, rfl, rfl, eh⟩
    · rcases boundA_ok hρ hl with ⟨rfl, rfl⟩ | ⟨ol, kl, nl, rfl, rfl, el⟩
      · simp
      · simp only [Option.getD_some, Option.getD_none] at *
        simp [el, run_sliceBound h0 h1]
    · simp only [Option.getD_some, Option.getD_none] at *
      have e1 := run_sliceBound (P := P) (w := w) (k := kh) (code := if isSlice = true then BoundsCode.sliceAcap else BoundsCode.sliceAlen) (show 0 ≤ nh by omega) h2
      rcases boundA_ok hρ hl with ⟨rfl, rfl⟩ | ⟨ol, kl, nl, rfl, rfl, el⟩
      · simp [eh, e1]
      · simp only [Option.getD_some, Option.getD_none] at *
        have e2 := run_sliceBound (P := P) (w := w) (k := kl) (y := nh.toNat) (code := .sliceB) h0 (by omega)
        simp [eh, e1, el, e2]
  · simp only [Option.getD_some] at *
    have e0 := run_sliceBound (P := P) (w := w) (k := km) (code := if isSlice = true then BoundsCode.slice3Acap else BoundsCode.slice3Alen) (show 0 ≤ nm by omega) h3
    rcases boundA_ok hρ hh with ⟨rfl, rfl⟩ | ⟨oh, kh, nh, rfl, rfl, eh⟩
    · cases hx rfl
    · simp only [Option.getD_some] at *
      have e1 := run_sliceBound (P := P) (w := w) (k := kh) (y := nm.toNat) (code := .slice3B) (show 0 ≤ nh by omega) (by omega)
      rcases boundA_ok hρ hl with ⟨rfl, rfl⟩ | ⟨ol, kl, nl, rfl, rfl, el⟩
      · simp [em, e0, eh, e1]
      · simp only [Option.getD_some] at *
        have e2 := run_sliceBound (P := P) (w := w) (k := kl) (y := nh.toNat) (code := .slice3C) h0 (by omega)
        simp [em, e0, eh, e1, el, e2]

include hρ in
theorem sliceA_ok (o : Oper) (T : TypeId) (x : Operand) (lo hi mx : Option Operand) :
    ROk P g H w ((nv (Instr.sliceAt T (ρc x) (lo.map ρc) (hi.map ρc) (mx.map ρc))).run P w) (sliceA P ρ o T x lo hi mx) := by
  unfold sliceA
  split
  · rename_i l h hT hl hh hm
    split
    · rename_i s hx
      intro hn
      obtain ⟨h0, h1, h2⟩ : 0 ≤ l.getD 0 ∧ l.getD 0 ≤ h.getD s.size ∧ h.getD s.size ≤ s.size := by simpa using hn
      have hxc := hρ x
      rw [hx] at hxc
      have e := p_inv hxc
      have hmn : mx = none := by
        rcases boundA_ok hρ hm with ⟨rfl, _⟩ | ⟨_, _, _, _, h', _⟩
        · rfl
        · cases h'
      subst hmn
      have hb := run_sliceBounds (P := P) (w := w) hρ hl hh hm false s.size s.size (fun _ => rfl) h0 h1 (by simpa using h2) (by simp) (Nat.le_refl _)
      refine ⟨_, nv_ok (c := .string (s.extract (l.getD 0).toNat (h.getD s.size).toNat)) ?_, .d _ _ (.p _)⟩
      simp only [Option.map_none] at hb ⊢
      simp [Instr.sliceAt, Instr.slice, run_underlying hT, e, hb]
    · trivial
  · rename_i e l h m hT hl hh hm
    split
    · trivial
    rename_i i hinfo
    split
    · trivial
    rename_i hhm
    have hxm : hi = none → mx = none := by
      intro e1
      subst e1
      cases mx with
      | none => rfl
      | some _ => simp at hhm
    have hxc := hρ x
    split
    · rename_i hx
      rw [hx] at hxc
      intro hn
      obtain ⟨h0, h1, h2⟩ : l.getD 0 = 0 ∧ h.getD 0 = 0 ∧ m.getD 0 = 0 := by simpa using hn
      have e := p_inv hxc
      have hb := run_sliceBounds (P := P) (w := w) hρ hl hh hm true 0 0 hxm (by omega) (by simp [h0, h1]) (by simp [h1, h2]) (by simp [h2]) (Nat.le_refl _)
      simp only [h0, Int.natCast_zero, Int.cast_ofNat_Int, h1, h2, Int.toNat_zero] at hb
      refine ⟨_, nv_ok (c := .slice none 0 0) ?_, .d _ _ (.p _)⟩
      simp [Instr.sliceAt, Instr.slice, run_underlying hT, e, hb, run_sizeOf hinfo]
    · rename_i hx
      rw [hx] at hxc
      intro hn
      obtain ⟨h0, h1, h2⟩ : l.getD 0 = 0 ∧ h.getD 0 = 0 ∧ m.getD 0 = 0 := by simpa using hn
      have hb := run_sliceBounds (P := P) (w := w) hρ hl hh hm true 0 0 hxm (by omega) (by simp [h0, h1]) (by simp [h1, h2]) (by simp [h2]) (Nat.le_refl _)
      simp only [h0, Int.natCast_zero, Int.cast_ofNat_Int, h1, h2, Int.toNat_zero] at hb
      generalize ρc x = c at hxc
      cases hxc with
      | d _ _ hd =>
        cases hd with
        | sz a =>
          refine ⟨_, nv_ok (c := .slice (some a) 0 0) ?_, .d _ _ (.sz a)⟩
          simp [Instr.sliceAt, Instr.slice, run_underlying hT, hb, run_sizeOf hinfo]
    · rename_i n esz f hx
      rw [hx] at hxc
      split
      · rename_i he
        generalize ρc x = c at hxc
        cases hxc with
        | d _ _ hd =>
          cases hd with
          | sl _ _ _ b o cap vs hc a1 a2 =>
            cases m with
            | none =>
              intro hn
              obtain ⟨h0, h1, h2⟩ : 0 ≤ l.getD 0 ∧ l.getD 0 ≤ h.getD n ∧ h.getD n ≤ n := by simpa using hn
              have hb := run_sliceBounds (P := P) (w := w) hρ hl hh hm true n cap hxm h0 h1 (by simp; omega) (by simp) hc
              simp only [Option.getD_none, Int.toNat_natCast] at hb
              by_cases hcl : cap = (l.getD 0).toNat
              · refine ⟨_, nv_ok (c := .slice (some ⟨b, o, none⟩) ((h.getD n).toNat - (l.getD 0).toNat) (cap - (l.getD 0).toNat)) ?_, .d _ _ (.sl _ _ _ b o _ (fun i j => vs ((l.getD 0).toNat + i) j) (by omega) ?_ ?_)⟩
                · simp only [Instr.sliceAt, run_underlying hT, Sem.run_bind, Result.andThen_ok, Instr.slice, hb, run_sizeOf hinfo, Sem.run_pure, if_pos hcl]
                · intro i j hi hj; omega
                · intro i j hi hj; omega
              · refine ⟨_, nv_ok (c := .slice (some ⟨b, o + (l.getD 0).toNat * i.size, none⟩) ((h.getD n).toNat - (l.getD 0).toNat) (cap - (l.getD 0).toNat)) ?_, .d _ _ (.sl _ _ _ b _ _ (fun i j => vs ((l.getD 0).toNat + i) j) (by omega) ?_ ?_)⟩
                · simp [Instr.sliceAt, Instr.slice, run_underlying hT, hb, run_sizeOf hinfo, hcl, add_none]
                · intro k j hk hj
                  have := a1 ((l.getD 0).toNat + k) j (by omega) hj
                  rw [Nat.add_mul, he] at this
                  rw [he]
                  rwa [show o + (l.getD 0).toNat * i.size + k * i.size + j = o + ((l.getD 0).toNat * i.size + k * i.size) + j by omega]
                · intro k j hk hj
                  exact a2 _ j (by omega) hj
            | some mm =>
              intro hn
              obtain ⟨h0, h1, h2⟩ : l.getD 0 = 0 ∧ h.getD n = 0 ∧ mm = 0 := by simpa using hn
              subst h2
              have hb := run_sliceBounds (P := P) (w := w) hρ hl hh hm true n cap hxm (by omega) (by omega) (by simp; omega) (by simp) hc
              simp only [h0, h1, Option.getD_some, Int.toNat_zero] at hb
              refine ⟨_, nv_ok (c := .slice (some ⟨b, o, none⟩) 0 0) ?_, .d _ _ (.sz _)⟩
              simp [Instr.sliceAt, Instr.slice, run_underlying hT, hb, run_sizeOf hinfo]
      · trivial
    · rename_i id off len esz hx
      rw [hx] at hxc
      split
      · rename_i he
        generalize ρc x = c at hxc
        cases hxc with
        | ms _ _ _ _ cap o hid hc hlen ho =>
          intro hn
          obtain ⟨h0, h1, h2, h3⟩ : 0 ≤ l.getD 0 ∧ l.getD 0 ≤ h.getD len ∧ h.getD len ≤ m.getD len ∧ m.getD len ≤ len := by simpa using hn
          have hmc : m.getD cap ≤ cap ∧ h.getD len ≤ m.getD cap := by
            cases m with
            | none => simp at h2 h3 ⊢; omega
            | some mm => simp at h2 h3 ⊢; omega
          have hb := run_sliceBounds (P := P) (w := w) hρ hl hh hm true len cap hxm h0 h1 hmc.2 hmc.1 hlen
          have hml : (l.getD 0).toNat ≤ (m.getD cap).toNat := by omega
          have hmcap : (m.getD cap).toNat ≤ cap := by omega
          by_cases hcl : (m.getD cap).toNat = (l.getD 0).toNat
          · refine ⟨_, nv_ok (c := .slice (some ⟨g.mu id, o, none⟩) ((h.getD len).toNat - (l.getD 0).toNat) ((m.getD cap).toNat - (l.getD 0).toNat)) ?_,
              .ms id _ _ esz _ o hid (by omega) (by omega) (by omega)⟩
            simp [Instr.sliceAt, Instr.slice, run_underlying hT, hb, run_sizeOf hinfo, hcl]
          · refine ⟨_, nv_ok (c := .slice (some ⟨g.mu id, o + (l.getD 0).toNat * i.size, none⟩) ((h.getD len).toNat - (l.getD 0).toNat) ((m.getD cap).toNat - (l.getD 0).toNat)) ?_,
              .ms id _ _ esz _ _ hid (by omega) (by omega) (fun _ => ?_)⟩
            · simp [Instr.sliceAt, Instr.slice, run_underlying hT, hb, run_sizeOf hinfo, hcl, add_none]
            · have := ho (by omega)
              rw [this, he, Nat.add_mul]; omega
      · trivial
    · trivial
  · trivial

end
end Go.Eng
