/- The engine, part 8: what one operation does in the abstract, it does in the model: comparisons with nil, maps, lengths, assertions. -/
import Derived.Test.YtgmbiahkameikaaGreatDoorEngA
import Derived.Laws.BytesString
set_option linter.unusedVariables false
set_option linter.unusedSimpArgs false
set_option linter.unnecessarySimpa false
namespace Go.Eng
open Go

def someC (u : TypeDesc) (c : Value) : Prop :=
  match u, c with
  | .slice _, .slice (some _) _ _ | .pointer _, .pointer (some _) | .map _ _, .map (some _) | .func _ _ _, .func _ _ _ | .interface _, .iface _ _ => True
  | _, _ => False
def nilC (u : TypeDesc) (c : Value) : Prop :=
  match u, c with
  | .slice _, .slice none _ _ | .pointer _, .pointer none | .map _ _, .map none | .func _ _ _, .nilFunc | .interface _, .nilIface => True
  | _, _ => False

section
variable {P : Program} {g : Gh} {H : AHeap} {w : World} {ρ : Operand → AV} {ρc : Operand → Value} (hρ : ∀ x, ARep g (ρ x) (ρc x)) (hst : St g H w)

theorem someA_ok {u : TypeDesc} {x : AV} {c : Value} (h : ARep g x c) (h1 : someA u x = true) : someC u c := by
  cases u <;> cases h <;> (try (rename_i hd; cases hd)) <;> first | trivial | (simp [someA] at h1)

theorem eqNil_ok {u : TypeDesc} {x : AV} {c : Value} (h : ARep g x c) (h1 : eqNil u x = true) : nilC u c := by
  unfold eqNil at h1
  split at h1
  all_goals first
    | (cases h1; done)
    | (have e := p_inv h; subst e; trivial)

theorem run_equal_nil {T : TypeId} {u : TypeDesc} (hT : P.underlying T = some u) {a b : Value} (h : (someC u a ∧ nilC u b) ∨ (nilC u a ∧ someC u b)) :
    (Op.equal T a b).run P w = .ok false w := by
  unfold Op.equal
  rw [show Op.maxDepth = 9999 + 1 from rfl, Op.equalIn]
  simp only [Sem.run_bind, run_underlying hT, Result.andThen_ok]
  rcases h with ⟨h1, h2⟩ | ⟨h1, h2⟩
  · unfold someC at h1
    split at h1
    all_goals first
      | (exact h1.elim)
      | (unfold nilC at h2
         split at h2
         all_goals first
           | (exact h2.elim)
           | rfl
           | (simp_all; done))
  · unfold nilC at h1
    split at h1
    all_goals first
      | (exact h1.elim)
      | (unfold someC at h2
         split at h2
         all_goals first
           | (exact h2.elim)
           | rfl
           | (simp_all; done))

theorem run_eqGuard {T : TypeId} {u : TypeDesc} {op : BinOp} {x y : Operand} {a b : Value} (h : (someC u a ∧ nilC u b) ∨ (nilC u a ∧ someC u b)) :
    (eqGuard op T x y a b).run P w = .ok () w := by
  have key : ∀ op, (op = .eql ∨ op = .neq) → (eqGuard op T x y a b).run P w = .ok () w := by
    intro op hop
    rcases h with ⟨h1, h2⟩ | ⟨h1, h2⟩
    · unfold someC at h1
      split at h1
      all_goals first
        | (exact h1.elim)
        | (rcases hop with rfl | rfl <;> rfl)
    · unfold someC at h2
      split at h2
      all_goals first
        | (exact h2.elim)
        | (unfold nilC at h1
           split at h1
           all_goals first
             | (exact h1.elim)
             | (rcases hop with rfl | rfl <;> rfl))
  cases op <;> first | (exact key _ (.inl rfl)) | (exact key _ (.inr rfl)) | rfl

theorem binOp_eql {T : TypeId} {u : TypeDesc} (hT : P.underlying T = some u) {a b : Value} (h : (someC u a ∧ nilC u b) ∨ (nilC u a ∧ someC u b)) :
    (binOp .eql T a b).run P w = .ok (.bool false) w := by
  have he := run_equal_nil (P := P) (w := w) hT h
  rcases h with ⟨h1, h2⟩ | ⟨h1, h2⟩
  · unfold someC at h1
    split at h1
    all_goals first
      | (exact h1.elim)
      | (simp only [binOp, Sem.run_bind, he, Result.andThen_ok, Sem.run_pure])
  · unfold someC at h2
    split at h2
    all_goals first
      | (exact h2.elim)
      | (unfold nilC at h1
         split at h1
         all_goals first
           | (exact h1.elim)
           | (simp only [binOp, Sem.run_bind, he, Result.andThen_ok, Sem.run_pure]))

theorem binOp_neq {T : TypeId} {u : TypeDesc} (hT : P.underlying T = some u) {a b : Value} (h : (someC u a ∧ nilC u b) ∨ (nilC u a ∧ someC u b)) :
    (binOp .neq T a b).run P w = .ok (.bool true) w := by
  have he := run_equal_nil (P := P) (w := w) hT h
  rcases h with ⟨h1, h2⟩ | ⟨h1, h2⟩
  · unfold someC at h1
    split at h1
    all_goals first
      | (exact h1.elim)
      | (simp only [binOp, Sem.run_bind, he, Result.andThen_ok, Sem.run_pure, Bool.not_false])
  · unfold someC at h2
    split at h2
    all_goals first
      | (exact h2.elim)
      | (unfold nilC at h1
         split at h1
         all_goals first
           | (exact h1.elim)
           | (simp only [binOp, Sem.run_bind, he, Result.andThen_ok, Sem.run_pure, Bool.not_false]))

include hρ in
theorem binA_ok (o : Oper) (op : BinOp) (T : TypeId) (x y : Operand) (yT : TypeId) (ho : o.op = .binOp op T x y yT) :
    ROk P g H w ((execOp ρc o).run P w) (binA P ρ o op T x y) := by
  unfold binA
  split
  · trivial
  rename_i u hT
  split
  · rename_i h
    have h' : (someC u (ρc x) ∧ nilC u (ρc y)) ∨ (nilC u (ρc x) ∧ someC u (ρc y)) := by
      rcases Bool.or_eq_true_iff.1 h with h1 | h1
      · obtain ⟨a, b⟩ := Bool.and_eq_true_iff.1 h1
        exact .inl ⟨someA_ok (hρ x) a, eqNil_ok (hρ y) b⟩
      · obtain ⟨a, b⟩ := Bool.and_eq_true_iff.1 h1
        exact .inr ⟨eqNil_ok (hρ x) a, someA_ok (hρ y) b⟩
    split
    · refine ⟨.bool false, ?_, .ff⟩
      simp only [execOp, ho]
      exact nv_ok (by simp only [Sem.run_bind, run_eqGuard h', Result.andThen_ok]; exact binOp_eql hT h')
    · refine ⟨.bool true, ?_, .tt⟩
      simp only [execOp, ho]
      exact nv_ok (by simp only [Sem.run_bind, run_eqGuard h', Result.andThen_ok]; exact binOp_neq hT h')
    · trivial
  · have hcl : ROk P g H w ((execOp ρc o).run P w) (closedA P ρ o) := by
      refine closedA_ok hρ o ?_
      intro hx
      simp only [ho, Op.operands] at hx
      simp only [execOp, ho]
      rw [hx x (by simp), hx y (by simp)]
    split
    · rename_i a b hx hy
      intro hc
      have hc : a.size + b.size ≤ 9223372036854775807 := by simpa using hc
      have hrx := hρ x
      have hry := hρ y
      rw [hx] at hrx
      rw [hy] at hry
      have ex := p_inv hrx
      have ey := p_inv hry
      refine ⟨.string (a ++ b), ?_, .d _ _ (.p _)⟩
      have hi1 : IntKind.max .i64 = 9223372036854775807 := by decide
      simp only [execOp, ho, ex, ey]
      refine nv_ok ?_
      have hg : (eqGuard .add T x y (.string a) (.string b)).run P w = .ok () w := by
        unfold eqGuard
        simp [Sem.run_bind, Sem.run_pure]
      rw [Sem.run_bind, hg, Result.andThen_ok]
      show (Op.stringOp .add a b).run P w = _
      unfold Op.stringOp
      simp only []
      rw [if_neg (by rw [hi1]; omega)]
      rfl
    · exact hcl

include hρ in
theorem nilCheckA_ok (o : Oper) (x : Operand) (ho : o.op = .nilCheck x) : ROk P g H w ((execOp ρc o).run P w) (nilCheckA P ρ o (ρ x)) := by
  have hx := hρ x
  unfold nilCheckA
  generalize hc : ρc x = c at hx
  split
  · rename_i i off e; rw [e] at hx; cases hx with | mp _ _ hi => exact ⟨_, by simp [execOp, ho, hc], .mp _ _ hi⟩
  · rename_i i k j esz e; rw [e] at hx; cases hx with | mr _ _ _ _ hi => exact ⟨_, by simp [execOp, ho, hc], .mr _ _ _ _ hi⟩
  · rename_i n f e; rw [e] at hx
    cases hx with
    | d _ _ hd => cases hd with | rf _ _ b o' vs h1 h2 => exact ⟨_, by simp [execOp, ho, hc], .d _ _ (.rf _ _ b o' vs h1 h2)⟩
  · rename_i t v e; rw [e] at hx; cases hx with | ifc _ _ u hu => exact ⟨_, by simp [execOp, ho, hc], .ifc _ _ u hu⟩
  · rename_i f a b e; rw [e] at hx; cases hx with | fn _ _ _ vs ws l1 l2 h1 h2 => exact ⟨_, by simp [execOp, ho, hc], .fn _ _ _ vs ws l1 l2 h1 h2⟩
  · rename_i i e; rw [e] at hx; cases hx with | yl _ hi => exact ⟨_, by simp [execOp, ho, hc], .yl _ hi⟩
  · refine closedA_ok hρ o ?_
    intro hx'
    simp only [ho, Op.operands] at hx'
    simp only [execOp, ho]
    rw [hx' x (by simp)]

end
end Go.Eng

/- The engine, part 9: what one operation does in the abstract, it does in the model: maps, lengths, assertions. -/
set_option linter.unusedVariables false
set_option linter.unusedSimpArgs false
set_option linter.unnecessarySimpa false
namespace Go.Eng
open Go

theorem run_getObj {P : Program} {w : World} {r : Nat} {o : Obj} (h : w.heap[r]? = some o) (hn : ∀ c e f, o ≠ .cells c e f) : (getObj r).run P w = .ok o w := by
  cases o <;> first | (exact absurd rfl (hn _ _ _)) | (simp only [getObj, Sem.run, h])

theorem run_setObj {P : Program} {w : World} {r : Nat} {o o' : Obj} (h : w.heap[r]? = some o) (hn : ∀ c e f, o ≠ .cells c e f) : (setObj r o').run P w = .ok () (putB w r o') := by
  cases o <;> first | (exact absurd rfl (hn _ _ _)) | (simp only [setObj, Sem.run, h]; rfl)

section
variable {P : Program} {g : Gh} {H : AHeap} {w : World} {ρ : Operand → AV} {ρc : Operand → Value} (hρ : ∀ x, ARep g (ρ x) (ρc x)) (hst : St g H w)

theorem run_checkKey {kt : TypeId} {ku : TypeDesc} (hk : P.underlying kt = some ku) (hs : simpleKey ku = true) (b : Bool) (v : Value) :
    (Instr.checkKey b 10000 kt v).run P w = .ok () w := by
  rw [show (10000 : Nat) = 9999 + 1 from rfl, Instr.checkKey]
  simp only [Sem.run_bind, run_underlying hk, Result.andThen_ok]
  cases ku <;> first | rfl | (simp [simpleKey] at hs)

theorem okRes_ok {ok : Bool} {v b : AV} {c d : Value} (h : ARep g v c) (k : ARep g b d) : ARep g (okRes ok v b) (if ok = true then .tuple #[c, d] else c) := by
  unfold okRes
  cases ok with
  | true =>
    simp only [if_true]
    have := RepL.cons h (RepL.one k)
    exact .tu _ _ this.1 this.2
  | false => exact h

/-- What a look-up comes to. -/
def lookOut (w : World) (ok : Bool) (z : Value) (other : Result Value) : Option (Option (Nat × Value)) → Result Value
  | some (some (_, v)) => .ok (if ok = true then .tuple #[v, .bool true] else v) w
  | some none => .ok (if ok = true then .tuple #[z, .bool false] else z) w
  | none => other

def nvR (r : Result Value) : Result Next := r.andThen fun a w => .ok (.value a) w
theorem nv_run (s : Sem Value) : (nv s).run P w = nvR (s.run P w) := by simp [nv, nvR]

theorem lookChain_ok (ku : TypeDesc) (k : Value) (ok : Bool) (z : AV) (zc : Value) (hz : ARep g z zc) (other : Result Value) :
    ∀ (es : List (Value × AV)) (L : List MapEntry) (i : Nat), es.length = L.length →
      (∀ (i : Nat) (x : Value × AV) (e : MapEntry), es[i]? = some x → L[i]? = some e → e.key = x.1 ∧ ARep g x.2 e.val) →
      ROk P g H w (nvR (lookOut w ok zc other (Instr.findNow ku k L i))) (lookChain ku k ok z es)
  | [], [], i, _, _ => ⟨_, rfl, okRes_ok hz .ff⟩
  | (k', v) :: es, e :: L, i, hl, hh => by
    obtain ⟨hk, hv⟩ := hh 0 _ _ rfl rfl
    dsimp only at hk hv
    rw [lookChain, Instr.findNow, hk]
    cases hs : Instr.sameNow ku k k' with
    | none => trivial
    | some c =>
      refine ⟨?_, ?_⟩
      · rintro rfl
        exact ⟨_, rfl, okRes_ok hv .tt⟩
      · rintro rfl
        exact lookChain_ok ku k ok z zc hz other es L (i + 1) (by simpa using hl) (fun j x e hx he => hh (j + 1) x e (by simpa using hx) (by simpa using he))
  | [], _ :: _, _, hl, _ => by simp at hl
  | _ :: _, [], _, hl, _ => by simp at hl

theorem findS_ok (s : ByteArray) (kd : IntKind) : ∀ (es : List (ByteArray × Int)) (L : List MapEntry) (i : Nat), es.length = L.length →
    (∀ (i : Nat) (x : ByteArray × Int) (e : MapEntry), es[i]? = some x → L[i]? = some e → e.key = .string x.1 ∧ e.val = .int kd x.2) →
    Instr.findNow .string (.string s) L i = some (if hasS s es = true then some (i + (es.findIdx fun x => s == x.1), .int kd (lookS s es)) else none)
  | [], [], i, _, _ => by simp [Instr.findNow, hasS]
  | (k, n) :: es, e :: L, i, hl, hh => by
    obtain ⟨hk, hv⟩ := hh 0 _ _ rfl rfl
    dsimp only at hk hv
    rw [Instr.findNow, hk, hv]
    by_cases hs : (s == k) = true
    · simp [Instr.sameNow, hs, hasS, lookS, List.findIdx_cons]
    · have hs' : (s == k) = false := by simpa using hs
      rw [show Instr.sameNow .string (.string s) (.string k) = some false by simp [Instr.sameNow, hs']]
      dsimp only
      rw [findS_ok s kd es L (i + 1) (by simpa using hl) (fun j x e hx he => hh (j + 1) x e (by simpa using hx) (by simpa using he))]
      simp [hasS, lookS, hs', List.findIdx_cons]
      split <;> simp; omega
  | [], _ :: _, _, hl, _ => by simp at hl
  | _ :: _, [], _, hl, _ => by simp at hl

theorem run_findKey {kt : TypeId} {ku : TypeDesc} (hk : P.underlying kt = some ku) (k : Value) (L : List MapEntry) {r : Option (Nat × Value)} (h : Instr.findNow ku k L 0 = some r) :
    (Instr.findKey kt k L).run P w = .ok r w := by
  simp [Instr.findKey, run_underlying hk, h]

include hst in
theorem lookupA_ok {m k : AV} {cm ck : Value} (hm : ARep g m cm) (hk : ARep g k ck) (T : TypeId) (ok : Bool) :
    ROk P g H w ((nv (Instr.lookup T cm ck ok)).run P w) (lookupA P H m k T ok) := by
  unfold lookupA
  split
  rotate_left
  · trivial
  rename_i kt e hT
  split
  rotate_left
  · trivial
  rename_i ku z kv hku hz hkv
  obtain rfl := unP_ok hk hkv
  obtain ⟨i, zc, hi, hzc, hzr⟩ := zeroV_ok (g := g) hz
  split
  rotate_left
  · trivial
  rename_i hsimple
  split
  · rename_i id
    cases hm with
    | mm _ hid =>
      split
      · rename_i es hH
        obtain ⟨ents, clock, hob, hl, hr⟩ := hst.obj id _ hH
        have hrun : (Instr.lookup T (.map (some (g.mu id))) ck ok).run P w =
            lookOut w ok zc ((Instr.lookup T (.map (some (g.mu id))) ck ok).run P w) (Instr.findNow ku ck ents.toList 0) := by
          cases hf : Instr.findNow ku ck ents.toList 0 with
          | none => rfl
          | some r =>
            simp only [Instr.lookup, Sem.run_bind, run_underlying hT, Result.andThen_ok, run_getObj hob (by intros; simp), Sem.run_pure, run_checkKey hku hsimple, run_findKey hku ck _ hf]
            cases r with
            | none => simp [run_zeroValue hi hzc, lookOut]
            | some x => simp [lookOut]
        rw [nv_run, hrun]
        exact lookChain_ok ku ck ok z zc hzr _ es ents.toList 0 (by simpa using hl) (fun j x e hx he => hr j x e hx (by simpa using he))
      · rename_i kd es hH
        split
        · rename_i s kd' z0
          split
          · rename_i hc
            obtain ⟨rfl, rfl⟩ := hc
            obtain rfl := p_inv hzr
            obtain ⟨ents, clock, hob, hl, hr⟩ := hst.obj id _ hH
            have hf := findS_ok s kd es ents.toList 0 (by simpa using hl) (fun j x e hx he => hr j x e hx (by simpa using he))
            refine ⟨(if ok = true then .tuple #[.int kd (lookS s es), .bool (hasS s es)] else .int kd (lookS s es)), nv_ok ?_, okRes_ok (.d _ _ (.p _)) (.d _ _ (.p _))⟩
            simp only [Instr.lookup, Sem.run_bind, run_underlying hT, Result.andThen_ok, run_getObj hob (by intros; simp), Sem.run_pure, run_checkKey hku hsimple, run_findKey hku _ _ hf]
            cases hh : hasS s es with
            | true => simp
            | false =>
              have : lookS s es = 0 := by
                clear hf hl hr hob hH
                induction es with
                | nil => rfl
                | cons x es ih =>
                  obtain ⟨k, n⟩ := x
                  simp only [hasS] at hh
                  split at hh
                  · cases hh
                  · rename_i hne
                    simp only [lookS, if_neg hne]
                    exact ih hh
              simp [run_zeroValue hi hzc, this]
          · trivial
        · trivial
      · trivial
  · obtain rfl := p_inv hm
    refine ⟨(if ok = true then .tuple #[zc, .bool false] else zc), nv_ok ?_, okRes_ok hzr .ff⟩
    have hf : Instr.findNow ku ck (#[] : Array MapEntry).toList 0 = some none := rfl
    simp only [Instr.lookup, Sem.run_bind, run_underlying hT, Result.andThen_ok, Sem.run_pure, run_checkKey hku hsimple, run_findKey hku _ _ hf, run_zeroValue hi hzc]
  · trivial

end
end Go.Eng

/- The engine, part 10: what one operation does in the abstract, it does in the model: map stores, makes, literals. -/
set_option linter.unusedVariables false
set_option linter.unusedSimpArgs false
set_option linter.unnecessarySimpa false
namespace Go.Eng
open Go

theorem ba_iff (a b : ByteArray) : (a == b) = true ↔ a = b := by
  rw [show (a == b) = (a.data == b.data) from rfl, beq_iff_eq]
  exact ⟨fun h => by cases a; cases b; simp_all, fun h => by rw [h]⟩

theorem push_get {α : Type} (ents : Array α) (x : α) (n : Nat) : (ents.push x)[n]? = (ents.toList ++ [x])[n]? := by
  rw [← Array.toList_push, Array.getElem?_toList]
theorem modify_get {α : Type} (ents : Array α) (f : α → α) (j n : Nat) : (ents.modify j f)[n]? = (ents.toList.modify j f)[n]? := by
  rw [← Array.toList_modify, Array.getElem?_toList]

theorem sameNow_bits {ku : TypeDesc} {a b : Value} (h : Instr.sameNow ku a b = some true) : Instr.sameBits 10000 b a = true := by
  unfold Instr.sameNow at h
  split at h
  · split at h
    · rename_i e
      simp only [Option.some.injEq, beq_iff_eq] at h
      subst e; subst h
      simp [Instr.sameBits]
    · cases h
  · simp only [Option.some.injEq, ba_iff] at h
    subst h
    simp only [Instr.sameBits, ba_iff]
  · simp only [Option.some.injEq, beq_iff_eq] at h
    subst h
    simp [Instr.sameBits]
  · cases h

theorem findNow_some {ku : TypeDesc} {k : Value} : ∀ {L : List MapEntry} {i j : Nat} {v : Value}, Instr.findNow ku k L i = some (some (j, v)) →
    i ≤ j ∧ ∃ e, L[j - i]? = some e ∧ e.val = v ∧ Instr.sameNow ku k e.key = some true
  | [], i, j, v, h => by simp [Instr.findNow] at h
  | e :: L, i, j, v, h => by
    rw [Instr.findNow] at h
    split at h
    · rename_i hs
      cases h
      exact ⟨Nat.le_refl _, e, by simp, rfl, hs⟩
    · obtain ⟨h1, e', h2, h3, h4⟩ := findNow_some h
      refine ⟨by omega, e', ?_, h3, h4⟩
      rw [show j - i = (j - (i + 1)) + 1 by omega]
      simpa using h2
    · cases h

section
variable {P : Program} {g : Gh} {H : AHeap} {w : World} {ρ : Operand → AV} {ρc : Operand → Value} (hρ : ∀ x, ARep g (ρ x) (ρc x)) (hst : St g H w)

/-- What a store into a map comes to, on its entries. -/
def putEnt (k : Value) (v : Value) (clock : Nat) (ents : Array MapEntry) : Option (Nat × Value) → Obj
  | some (i, _) => .map (ents.modify i fun e => { e with key := k, val := v }) clock
  | none => .map (ents.push { key := k, val := v, born := clock }) (clock + 1)

theorem run_mapUpdate {T kt e : TypeId} {ku : TypeDesc} (hT : P.underlying T = some (.map kt e)) (hku : P.underlying kt = some ku) (hs : simpleKey ku = true)
    {b : Nat} {ents : Array MapEntry} {clock : Nat} (hob : w.heap[b]? = some (.map ents clock)) (k v : Value) {r : Option (Nat × Value)} (hf : Instr.findNow ku k ents.toList 0 = some r) :
    (Instr.mapUpdate T (.map (some b)) k v).run P w = .ok () (putB w b (putEnt k v clock ents r)) := by
  simp only [Instr.mapUpdate, Sem.run_bind, run_underlying hT, Result.andThen_ok, run_getObj hob (by intros; simp), run_checkKey hku hs, run_findKey hku _ _ hf]
  cases r with
  | none =>
    simp only []
    exact run_setObj hob (by intros; simp)
  | some x =>
    obtain ⟨j, u⟩ := x
    obtain ⟨_, e', he', _, hsame⟩ := findNow_some hf
    have hb := sameNow_bits hsame
    have hkey : ((ents[j]?).map (·.key)).getD k = e'.key := by
      have : ents[j]? = some e' := by simpa using he'
      simp [this]
    simp only [hkey, Instr.keyThatStays, hb, if_true, Sem.run_bind, Sem.run_pure, Result.andThen_ok]
    exact run_setObj hob (by intros; simp)

theorem setChain_ok {ku : TypeDesc} {k : Value} {v : AV} {vc : Value} (hv : ARep g v vc) (clock : Nat) :
    ∀ (es : List (Value × AV)) (L : List MapEntry) (i : Nat) {es' : List (Value × AV)}, es.length = L.length →
      (∀ (i : Nat) (x : Value × AV) (e : MapEntry), es[i]? = some x → L[i]? = some e → e.key = x.1 ∧ ARep g x.2 e.val) →
      setChain ku k v es = some es' →
      ∃ r, Instr.findNow ku k L i = some r ∧
        (match r with
         | some (j, _) => i ≤ j ∧ es'.length = L.length ∧ ∀ (n : Nat) (x : Value × AV) (e : MapEntry), es'[n]? = some x → (L.modify (j - i) fun e => { e with key := k, val := vc })[n]? = some e → e.key = x.1 ∧ ARep g x.2 e.val
         | none => es'.length = L.length + 1 ∧ ∀ (n : Nat) (x : Value × AV) (e : MapEntry), es'[n]? = some x → (L ++ [{ key := k, val := vc, born := clock }])[n]? = some e → e.key = x.1 ∧ ARep g x.2 e.val)
  | [], [], i, es', _, _, h => by
    simp only [setChain, Option.some.injEq] at h
    subst h
    refine ⟨none, rfl, rfl, ?_⟩
    intro n x e hx he
    cases n with
    | zero => simp at hx he; subst hx; subst he; exact ⟨rfl, hv⟩
    | succ n => simp at hx
  | (k', v') :: es, e :: L, i, es', hl, hh, h => by
    obtain ⟨hk, hv'⟩ := hh 0 _ _ rfl rfl
    dsimp only at hk hv'
    rw [setChain] at h
    rw [Instr.findNow, hk]
    cases hs : Instr.sameNow ku k k' with
    | none => rw [hs] at h; cases h
    | some c =>
      rw [hs] at h
      cases c with
      | true =>
        simp only [cond_true, Option.some.injEq] at h
        subst h
        refine ⟨some (i, e.val), rfl, Nat.le_refl _, by simpa using hl, ?_⟩
        intro n x e' hx he
        rw [Nat.sub_self] at he
        cases n with
        | zero => simp at hx he; subst hx; subst he; exact ⟨rfl, hv⟩
        | succ n => exact hh (n + 1) x e' (by simpa using hx) (by simpa using he)
      | false =>
        simp only [cond_false] at h
        split at h
        rotate_left
        · cases h
        rename_i r hr
        cases h
        obtain ⟨q, hq, hrest⟩ := setChain_ok hv clock es L (i + 1) (by simpa using hl) (fun j x e hx he => hh (j + 1) x e (by simpa using hx) (by simpa using he)) hr
        refine ⟨q, hq, ?_⟩
        cases q with
        | none =>
          obtain ⟨h1, h2⟩ := hrest
          refine ⟨by simp [h1], ?_⟩
          intro n x e' hx he
          cases n with
          | zero => simp at hx he; subst hx; subst he; exact ⟨hk, hv'⟩
          | succ n => exact h2 n x e' (by simpa using hx) (by simpa using he)
        | some y =>
          obtain ⟨j, u⟩ := y
          obtain ⟨h0, h1, h2⟩ := hrest
          dsimp only at h0 h1 h2 ⊢
          refine ⟨by omega, by simp [h1], ?_⟩
          intro n x e' hx he
          rw [show j - i = (j - (i + 1)) + 1 by omega] at he
          cases n with
          | zero => simp at hx he; subst hx; subst he; exact ⟨hk, hv'⟩
          | succ n => exact h2 n x e' (by simpa using hx) (by simpa using he)
  | [], _ :: _, _, _, hl, _, _ => by simp at hl
  | _ :: _, [], _, _, hl, _, _ => by simp at hl

theorem setS_ok (s : ByteArray) (kd : IntKind) (n : Int) (clock : Nat) :
    ∀ (es : List (ByteArray × Int)) (L : List MapEntry) (i : Nat), es.length = L.length →
      (∀ (i : Nat) (x : ByteArray × Int) (e : MapEntry), es[i]? = some x → L[i]? = some e → e.key = .string x.1 ∧ e.val = .int kd x.2) →
      ∃ r, Instr.findNow .string (.string s) L i = some r ∧
        (match r with
         | some (j, _) => i ≤ j ∧ (setS s n es).length = L.length ∧ ∀ (m : Nat) (x : ByteArray × Int) (e : MapEntry), (setS s n es)[m]? = some x → (L.modify (j - i) fun e => { e with key := .string s, val := .int kd n })[m]? = some e → e.key = .string x.1 ∧ e.val = .int kd x.2
         | none => (setS s n es).length = L.length + 1 ∧ ∀ (m : Nat) (x : ByteArray × Int) (e : MapEntry), (setS s n es)[m]? = some x → (L ++ [{ key := .string s, val := .int kd n, born := clock }])[m]? = some e → e.key = .string x.1 ∧ e.val = .int kd x.2)
  | [], [], i, _, _ => by
    refine ⟨none, rfl, rfl, ?_⟩
    intro m x e hx he
    cases m with
    | zero => simp [setS] at hx he; subst hx; subst he; exact ⟨rfl, rfl⟩
    | succ m => simp [setS] at hx
  | (k', v') :: es, e :: L, i, hl, hh => by
    obtain ⟨hk, hv'⟩ := hh 0 _ _ rfl rfl
    dsimp only at hk hv'
    rw [Instr.findNow, hk]
    by_cases hs : (s == k') = true
    · refine ⟨some (i, e.val), by simp [Instr.sameNow, hs], Nat.le_refl _, by simpa [setS, hs] using hl, ?_⟩
      intro m x e' hx he
      rw [Nat.sub_self] at he
      cases m with
      | zero => simp [setS, hs] at hx he; subst hx; subst he; exact ⟨rfl, rfl⟩
      | succ m => exact hh (m + 1) x e' (by simpa [setS, hs] using hx) (by simpa using he)
    · have hs' : (s == k') = false := by simpa using hs
      rw [show Instr.sameNow .string (.string s) (.string k') = some false by simp [Instr.sameNow, hs']]
      dsimp only
      obtain ⟨q, hq, hrest⟩ := setS_ok s kd n clock es L (i + 1) (by simpa using hl) (fun j x e hx he => hh (j + 1) x e (by simpa using hx) (by simpa using he))
      refine ⟨q, hq, ?_⟩
      cases q with
      | none =>
        obtain ⟨h1, h2⟩ := hrest
        refine ⟨by simp [setS, hs', h1], ?_⟩
        intro m x e' hx he
        cases m with
        | zero => simp [setS, hs'] at hx he; subst hx; subst he; exact ⟨hk, hv'⟩
        | succ m => exact h2 m x e' (by simpa [setS, hs'] using hx) (by simpa using he)
      | some y =>
        obtain ⟨j, u⟩ := y
        obtain ⟨h0, h1, h2⟩ := hrest
        dsimp only at h0 h1 h2 ⊢
        refine ⟨by omega, by simp [setS, hs', h1], ?_⟩
        intro m x e' hx he
        rw [show j - i = (j - (i + 1)) + 1 by omega] at he
        cases m with
        | zero => simp [setS, hs'] at hx he; subst hx; subst he; exact ⟨hk, hv'⟩
        | succ m => exact h2 m x e' (by simpa [setS, hs'] using hx) (by simpa using he)
  | [], _ :: _, _, hl, _ => by simp at hl
  | _ :: _, [], _, hl, _ => by simp at hl

include hst in
theorem mapUpdateA_ok {m k v : AV} {cm ck cv : Value} (hm : ARep g m cm) (hk : ARep g k ck) (hv : ARep g v cv) (T : TypeId) :
    ROk P g H w ((nu (Instr.mapUpdate T cm ck cv)).run P w) (mapUpdateA P H m k v T) := by
  unfold mapUpdateA
  split
  rotate_left
  · trivial
  rename_i kt e hT
  split
  rotate_left
  · trivial
  rename_i ku kv hku hkv
  obtain rfl := unP_ok hk hkv
  split
  rotate_left
  · trivial
  rename_i hsimple
  split
  rotate_left
  · trivial
  rename_i id
  cases hm with
  | mm _ hid =>
    split
    · rename_i es hH
      split
      · rename_i es' hes
        obtain ⟨ents, clock, hob, hl, hr⟩ := hst.obj id _ hH
        obtain ⟨r, hf, hrest⟩ := setChain_ok hv clock es ents.toList 0 (by simpa using hl) (fun j x e hx he => hr j x e hx (by simpa using he)) hes
        refine ⟨_, g, nu_ok (run_mapUpdate hT hku hsimple hob ck cv hf), Gh.le.refl g, ?_, Ext.put hst hH rfl _ _⟩
        refine hst.put hH rfl _ rfl _ ?_
        cases r with
        | none =>
          obtain ⟨h1, h2⟩ := hrest
          refine ⟨_, _, rfl, by simpa using h1, ?_⟩
          intro n x e hx he
          exact h2 n x e hx (by rw [← push_get]; exact he)
        | some y =>
          obtain ⟨j, u⟩ := y
          obtain ⟨_, h1, h2⟩ := hrest
          refine ⟨_, _, rfl, by simpa using h1, ?_⟩
          intro n x e hx he
          exact h2 n x e hx (by rw [← modify_get]; exact he)
      · trivial
    · rename_i kd es hH
      split
      · rename_i s kd' n
        split
        · rename_i e1
          subst e1
          obtain rfl := p_inv hv
          obtain ⟨ents, clock, hob, hl, hr⟩ := hst.obj id _ hH
          obtain ⟨r, hf, hrest⟩ := setS_ok s kd n clock es ents.toList 0 (by simpa using hl) (fun j x e hx he => hr j x e hx (by simpa using he))
          refine ⟨_, g, nu_ok (run_mapUpdate hT hku hsimple hob _ _ hf), Gh.le.refl g, ?_, Ext.put hst hH rfl _ _⟩
          refine hst.put hH rfl _ rfl _ ?_
          cases r with
          | none =>
            obtain ⟨h1, h2⟩ := hrest
            refine ⟨_, _, rfl, by simpa using h1, ?_⟩
            intro n x e hx he
            exact h2 n x e hx (by rw [← push_get]; exact he)
          | some y =>
            obtain ⟨j, u⟩ := y
            obtain ⟨_, h1, h2⟩ := hrest
            refine ⟨_, _, rfl, by simpa using h1, ?_⟩
            intro n x e hx he
            exact h2 n x e hx (by rw [← modify_get]; exact he)
        · trivial
      · trivial
    · trivial

include hst in
theorem makeMapA_ok (T : TypeId) : ROk P g H w ((nv (Instr.makeMap T none)).run P w) (makeMapA P H T) := by
  have hrun : (Instr.makeMap T none).run P w = .ok (.map (some w.heap.size)) (pushW w (.map #[] 0)) := by
    simp [Instr.makeMap, pushW]
  have hmm : ARep (g.push w.heap.size 0) (.mm H.length) (.map (some w.heap.size)) := by
    have := ARep.mm (g := g.push w.heap.size 0) g.n (by simp [Gh.push_n])
    rw [Gh.push_mu] at this
    rw [← hst.n]; exact this
  unfold makeMapA
  split
  · split
    · rename_i k _ _
      refine ⟨_, _, g.push w.heap.size 0, nv_ok hrun, g.le_push _ _, hst.push _ _ _ ?_, hmm, Ext.push hst _ _ _⟩
      exact ⟨#[], 0, rfl, rfl, fun i x e hx _ => by simp at hx⟩
    · refine ⟨_, _, g.push w.heap.size 0, nv_ok hrun, g.le_push _ _, hst.push _ _ _ ?_, hmm, Ext.push hst _ _ _⟩
      exact ⟨#[], 0, rfl, rfl, fun i x e hx _ => by simp at hx⟩
  · trivial

theorem typeAssertA_ok (hρ : ∀ x, ARep g (ρ x) (ρc x)) (o : Oper) (x : Operand) (xT T : TypeId) (ok : Bool) (ho : o.op = .typeAssert x xT T ok) :
    ROk P g H w ((execOp ρc o).run P w) (typeAssertA P ρ o (ρ x) xT T ok) := by
  have hx := hρ x
  have hex : execOp ρc o = nv (Instr.typeAssert (ρc x) xT T ok) := by simp only [execOp, ho]; rfl
  unfold typeAssertA
  split
  · rename_i t v e
    rw [e] at hx
    generalize hc : ρc x = c at hx
    cases hx with
    | ifc _ _ u hu =>
      split
      · trivial
      · rename_i d z hne hd hz
        obtain ⟨i, zc, hi, hzc, hzr⟩ := zeroV_ok (g := g) hz
        have hmatch : ∀ (A B : Sem Value), (Instr.typeAssert (.iface t u) xT T ok).run P w =
            (if t = T then (if ok = true then .ok (.tuple #[u, .bool true]) w else .ok u w) else (Instr.typeAssert (.iface t u) xT T ok).run P w) := by
          intro _ _
          split
          · rename_i e
            simp only [Instr.typeAssert, Sem.run_bind, run_underlying hd, Result.andThen_ok]
            cases d <;> first | (exact absurd rfl (hne _)) | (subst e; cases ok <;> simp)
          · rfl
        split
        · rename_i e1
          refine ⟨if ok = true then .tuple #[u, .bool true] else u, ?_, okRes_ok hu .tt⟩
          rw [hex, hc]
          refine nv_ok ?_
          rw [hmatch (pure u) (pure u), if_pos e1]
          cases ok <;> rfl
        · rename_i e1
          split
          · rename_i hok
            subst hok
            refine ⟨.tuple #[zc, .bool false], ?_, ?_⟩
            · rw [hex, hc]
              refine nv_ok ?_
              simp only [Instr.typeAssert, Sem.run_bind, run_underlying hd, Result.andThen_ok]
              cases d <;> first | (exact absurd rfl (hne _)) | (simp [e1, run_zeroValue hi hzc])
            · have := RepL.cons hzr (RepL.one (ARep.ff (g := g)))
              exact .tu _ _ this.1 this.2
          · trivial
      · trivial
  · refine closedA_ok hρ o ?_
    intro hx'
    simp only [ho, Op.operands] at hx'
    simp only [execOp, ho]
    rw [hx' x (by simp)]

include hst in
theorem lenA_ok (hρ : ∀ x, ARep g (ρ x) (ρc x)) (o : Oper) (T : TypeId) (x : Operand) (c : Call) (ts : List TypeId) (ho : o.op = .call c) (hc : c.callee = .builtin .len)
    (ha : c.args.toList = [x]) (ht : c.argTypes.toList = T :: ts) :
    ROk P g H w ((execOp ρc o).run P w) (lenA H P ρ o T (ρ x)) := by
  have ha' : c.args = #[x] := by apply Array.ext'; simpa using ha
  have ht' : c.argTypes = (T :: ts).toArray := by apply Array.ext'; simpa using ht
  have hex : ∀ v, (Builtin.len_ c.argTypes o.type #[ρc x]).run P w = .ok v w → (execOp ρc o).run P w = .ok (.value v) w := by
    intro v hv
    simp [execOp, ho, resolve, hc, ha', invoke, builtin, hv]
  have hx := hρ x
  unfold lenA
  split
  · rename_i e i off len esz hT he
    rw [he] at hx
    generalize hcx : ρc x = c at hx hex
    cases hx with
    | ms _ _ _ _ cap o hid h1 h2 h3 => exact ⟨_, hex _ (by simp [Builtin.len_, ht', run_underlying hT, goInt]), .d _ _ (.p _)⟩
  · rename_i e n esz f hT he
    rw [he] at hx
    generalize hcx : ρc x = c at hx hex
    cases hx with
    | d _ _ hd => cases hd with | sl _ _ _ b o cap vs h1 h2 h3 => exact ⟨_, hex _ (by simp [Builtin.len_, ht', run_underlying hT, goInt]), .d _ _ (.p _)⟩
  · rename_i e hT he
    rw [he] at hx
    generalize hcx : ρc x = c at hx hex
    cases hx with
    | d _ _ hd => cases hd with | sz a => exact ⟨_, hex _ (by simp [Builtin.len_, ht', run_underlying hT, goInt]), .d _ _ (.p _)⟩
  · rename_i k e id hT he
    rw [he] at hx
    generalize hcx : ρc x = c at hx hex
    cases hx with
    | mm _ hid =>
      split
      · rename_i es hH
        obtain ⟨ents, clock, hob, hl, hr⟩ := hst.obj id _ hH
        exact ⟨_, hex _ (by simp [Builtin.len_, ht', run_underlying hT, goInt, run_getObj hob (by intros; simp), hl]), .d _ _ (.p _)⟩
      · rename_i kd es hH
        obtain ⟨ents, clock, hob, hl, hr⟩ := hst.obj id _ hH
        exact ⟨_, hex _ (by simp [Builtin.len_, ht', run_underlying hT, goInt, run_getObj hob (by intros; simp), hl]), .d _ _ (.p _)⟩
      · trivial
  · refine closedA_ok hρ o ?_
    intro hx'
    simp only [ho, Op.operands, Call.operands, hc, ha'] at hx'
    simp only [execOp, ho, resolve, hc, ha']
    simp [hx' x (by simp)]

end
end Go.Eng

/- The engine, part 11: what one operation does in the abstract, it does in the model: literals, makes, append. -/
set_option linter.unusedVariables false
set_option linter.unusedSimpArgs false
set_option linter.unnecessarySimpa false
namespace Go.Eng
open Go

theorem foldl_over (vs : List Value) : ∀ (k off : Nat) (cs : Array Value), (vs.zipIdx k).foldl (fun cs (x : Value × Nat) => cs.setIfInBounds (off + x.2) x.1) cs = over cs (off + k) vs := by
  induction vs with
  | nil => intro k off cs; rfl
  | cons v vs ih =>
    intro k off cs
    rw [List.zipIdx_cons, List.foldl_cons, over, ih (k + 1) off]
    rfl

theorem fill_over (place : Nat → Option (Nat × Nat)) (cells : Array Value) (i : Nat) (v : Value) (rest : List (Nat × Value)) (off size : Nat) (hp : place i = some (off, size))
    (hs : v.cells.size = size) (hl : off + size ≤ cells.size) :
    Instr.fill place cells ((i, v) :: rest) = Instr.fill place (over cells off v.cells.toList) rest := by
  rw [Instr.fill, hp]
  simp only []
  rw [if_neg (by simp [hs]; omega)]
  congr 1
  have := foldl_over v.cells.toList 0 off cells
  rw [Nat.add_zero] at this
  rw [← this, ← Array.foldl_toList]
  simp

section
variable {P : Program} {g : Gh} {H : AHeap} {w : World} {ρ : Operand → AV} {ρc : Operand → Value} (hρ : ∀ x, ARep g (ρ x) (ρc x)) (hst : St g H w)

include hρ in
theorem fillA_ok (place place' : Nat → Option (Nat × Nat)) (hpl : ∀ i r, place i = some r → place' i = some r) : ∀ (parts : List (Nat × Operand)) (cs : List AV) (arr : Array Value) {cs' : List AV}, RepL g cs arr →
    fillA place cs (parts.map fun x => (x.1, ρ x.2)) = some cs' → ∃ arr', Instr.fill place' arr (parts.map fun x => (x.1, ρc x.2)) = some arr' ∧ RepL g cs' arr'
  | [], cs, arr, cs', hr, h => by
    simp only [List.map_nil, fillA, Option.some.injEq] at h
    subst h
    exact ⟨arr, rfl, hr⟩
  | (i, x) :: parts, cs, arr, cs', hr, h => by
    simp only [List.map_cons, fillA] at h
    split at h
    · cases h
    rename_i off size hp
    split at h
    · cases h
    rename_i hc
    have h1 : (cellsA (ρ x)).length = size := by
      rcases Nat.decEq (cellsA (ρ x)).length size with e | e
      · exact absurd (.inl e) hc
      · exact e
    have h2 : off + size ≤ cs.length := by
      rcases Nat.lt_or_ge cs.length (off + size) with e | e
      · exact absurd (.inr (.inl e)) hc
      · exact e
    have h3 : (cellsA (ρ x)).all oneA = true := by
      cases e : (cellsA (ρ x)).all oneA with
      | true => rfl
      | false => exact absurd (.inr (.inr e)) hc
    have hv := cellsA_ok (hρ x) h3
    have hs : (ρc x).cells.size = size := by rw [← hv.1, h1]
    rw [List.map_cons, fill_over place' arr i (ρc x) _ off size (hpl i _ hp) hs (by rw [← hr.1]; exact h2)]
    exact fillA_ok place place' hpl parts _ _ (overA_rep off hr (by simpa using hv)) h

theorem mapM_ok {α β : Type} (f : α → Sem β) (f' : α → β) (l : List α) (h : ∀ x ∈ l, (f x).run P w = .ok (f' x) w) : (l.mapM f).run P w = .ok (l.map f') w := by
  induction l with
  | nil => simp
  | cons x l ih =>
    rw [List.mapM_cons]
    simp only [Sem.run_bind, h x (by simp), Result.andThen_ok, ih (fun y hy => h y (by simp [hy])), Sem.run_pure, List.map_cons]

include hρ in
theorem buildA_ok (T : TypeId) (parts : Array (Nat × Operand)) : ROk P g H w ((nv (Instr.build T (parts.map fun x => (x.1, ρc x.2)))).run P w) (buildA P ρ T parts.toList) := by
  unfold buildA
  split
  · rename_i z fields hz hT
    obtain ⟨i, zc, hi, hzc, hzr, _, _⟩ := zeroA_ok (g := g) hz
    split
    · rename_i cs hcs
      split
      · rename_i hall
        have hfs : ∀ f ∈ fields.toList, (P.info? f.type).isSome = true := fun f hf => by
          have := Array.all_eq_true.1 hall
          obtain ⟨k, hk, rfl⟩ := List.getElem_of_mem hf
          simpa using this k (by simpa using hk)
        have hm := mapM_ok (P := P) (w := w) (fun f : Field => do pure (f.offset, ← sizeOf f.type)) (fun f => (f.offset, ((P.info? f.type).map (·.size)).getD 0)) fields.toList (fun f hf => by
          obtain ⟨j, hj⟩ := Option.isSome_iff_exists.1 (hfs f hf)
          simp [run_sizeOf hj, hj])
        have hm' : (fields.mapM fun f : Field => (do pure (f.offset, ← sizeOf f.type) : Sem (Nat × Nat))).run P w = .ok ((fields.toList.map (fun f : Field => (f.offset, ((P.info? f.type).map (·.size)).getD 0))).toArray) w := by
          rw [Array.mapM_eq_mapM_toList, Sem.run_map, hm]; rfl
        obtain ⟨arr', hfill, hrep⟩ := fillA_ok hρ _ (fun k => ((fields.toList.map (fun f : Field => (f.offset, ((P.info? f.type).map (·.size)).getD 0))).toArray)[k]?) (by
          intro k r hr
          split at hr
          · rename_i f hf
            split at hr
            · rename_i j hj
              cases hr
              simp [hf, hj]
            · cases hr
          · cases hr) parts.toList z zc.cells hzr hcs
        refine ⟨.agg arr', nv_ok ?_, .ag _ _ hrep.1 hrep.2⟩
        simp only [Instr.build, Sem.run_bind, run_zeroValue hi hzc, Result.andThen_ok, run_underlying hT, hm']
        rw [show (parts.map fun x => (x.1, ρc x.2)).toList = parts.toList.map fun x => (x.1, ρc x.2) from Array.toList_map ..]
        rw [hfill]
        rfl
      · trivial
    · trivial
  · rename_i z len e hz hT
    obtain ⟨i, zc, hi, hzc, hzr, _, _⟩ := zeroA_ok (g := g) hz
    split
    · rename_i j hj
      split
      · rename_i cs hcs
        obtain ⟨arr', hfill, hrep⟩ := fillA_ok hρ _ (fun k => some (k * j.size, j.size)) (fun _ _ h => h) parts.toList z zc.cells hzr hcs
        refine ⟨.agg arr', nv_ok ?_, .ag _ _ hrep.1 hrep.2⟩
        simp only [Instr.build, Sem.run_bind, run_zeroValue hi hzc, Result.andThen_ok, run_underlying hT, run_sizeOf hj]
        rw [show (parts.map fun x => (x.1, ρc x.2)).toList = parts.toList.map fun x => (x.1, ρc x.2) from Array.toList_map ..]
        rw [hfill]
        rfl
      · trivial
    · trivial
  · trivial

include hst in
/-- A new row. -/
theorem newRow_ok (T : TypeId) (esz n c : Nat) (f : Nat → Nat → AV) (arr : Array Value) (h0 : 0 < esz) (hs : c * esz ≤ arr.size) (hn : n ≤ c)
    (hr : ∀ a b, a < n → b < esz → ∃ v, arr[a * esz + b]? = some v ∧ ARep g (f a b) v) (h1 : oneCells arr) :
    ∃ w' g', (newRow T arr).run P w = .ok ⟨w.heap.size, 0, none⟩ w' ∧ g.le g' ∧ St g' (H ++ [.row T esz n f]) w' ∧ ARep g' (.ms H.length 0 n esz) (.slice (some ⟨w.heap.size, 0, none⟩) n c) ∧
      Ext g.imm (foot g H) w g'.imm (foot g' (H ++ [.row T esz n f])) w' := by
  refine ⟨pushW w (.cells arr T), g.push w.heap.size c, by simp [newRow, pushW], g.le_push _ _, ?_, ?_, Ext.push hst _ _ _⟩
  · refine hst.push _ _ _ ?_
    refine ⟨arr, (0, 0), rfl, by rw [Gh.push_bs, Gh.push_cap]; omega, by rw [Gh.push_cap]; exact hn, h0, ?_, fun k _ h => by omega, h1⟩
    intro a b ha hb
    obtain ⟨v, hv, hrep⟩ := hr a b ha hb
    exact ⟨v, by rw [Gh.push_bs, Nat.zero_add]; exact hv, hrep.mono (g.le_push _ _)⟩
  · have := ARep.ms (g := g.push w.heap.size c) g.n 0 n esz c 0 (by simp [Gh.push_n]) (by rw [Gh.push_cap]; omega) hn (fun _ => by rw [Gh.push_bs]; omega)
    rw [Gh.push_mu] at this
    rw [← hst.n]; exact this

include hρ hst in
theorem buildSliceA_ok (T : TypeId) (len : Nat) (parts : Array (Nat × Operand)) : ROk P g H w ((nv (Instr.buildSlice T len (parts.map fun x => (x.1, ρc x.2)))).run P w) (buildSliceA P H ρ T len parts.toList) := by
  unfold buildSliceA
  split
  rotate_left
  · trivial
  rename_i e hT
  split
  rotate_left
  · trivial
  rename_i j z hj hz
  obtain ⟨i, zc, hi, hzc, hzr, _, _⟩ := zeroA_ok (g := g) hz
  have : i = j := by rw [hj] at hi; exact (Option.some.inj hi).symm
  subst this
  split
  rotate_left
  · trivial
  rename_i hc
  obtain ⟨hzl, hpos, hlen⟩ := hc
  split
  rotate_left
  · trivial
  rename_i cs hcs
  split
  rotate_left
  · trivial
  rename_i hone
  have hzsz : zc.cells.size = i.size := by rw [← hzr.1, hzl]
  -- the zero row
  have hzero : ∀ (zz : Array Value), (len * i.size = 0 ∨ zz = zc.cells) → RepL g ((List.range (len * i.size)).map fun k => z.getD (k % i.size) .any) ((Array.range (len * i.size)).map (zz[· % zz.size]!)) := by
    intro zz hzz
    refine ⟨by simp, ?_⟩
    intro k x v hx hv
    simp only [List.getElem?_map, Option.map_eq_some_iff] at hx
    obtain ⟨a, ha, rfl⟩ := hx
    obtain ⟨hlt, ha⟩ := List.getElem?_eq_some_iff.1 ha
    simp at hlt ha
    subst ha
    rcases hzz with e0 | rfl
    · omega
    · have hm : k % i.size < i.size := Nat.mod_lt _ hpos
      have hv' : v = zc.cells[k % zc.cells.size]! := by
        have : ((Array.range (len * i.size)).map fun x => zc.cells[x % zc.cells.size]!)[k]? = some (zc.cells[k % zc.cells.size]!) := by
          simp [hlt]
        rw [this] at hv
        exact (Option.some.inj hv).symm
      subst hv'
      rw [List.getD_eq_getElem?_getD, List.getElem?_eq_getElem (by omega), hzsz]
      have hm2 : k % i.size < zc.cells.size := by omega
      rw [getElem!_pos zc.cells (k % i.size) hm2]
      exact hzr.2 (k % i.size) _ _ (List.getElem?_eq_getElem (by omega)) (by simp [hm2])
  -- the run up to the row
  have hrun : ∃ zz : Array Value, (len * i.size = 0 ∨ zz = zc.cells) ∧ (Instr.buildSlice T len (parts.map fun x => (x.1, ρc x.2))).run P w =
      (match Instr.fill (fun k => some (k * i.size, i.size)) ((Array.range (len * i.size)).map (zz[· % zz.size]!)) (parts.toList.map fun x => (x.1, ρc x.2)) with
       | some cells => ((newRow e cells).run P w).andThen fun a w' => .ok (.slice (some a) len len) w'
       | none => .halt (.stuck "buildSlice: a part of the wrong size") w) := by
    by_cases h0 : len * i.size = 0
    · refine ⟨#[], .inl h0, ?_⟩
      simp only [Instr.buildSlice, Sem.run_bind, run_underlying hT, Result.andThen_ok, run_sizeOf hj, if_neg (show ¬ len * i.size > 2 ^ 24 by omega), if_pos h0, Sem.run_pure]
      rw [show (parts.map fun x => (x.1, ρc x.2)).toList = parts.toList.map fun x => (x.1, ρc x.2) from Array.toList_map ..]
      split
      · rename_i cells hcells; rw [hcells]; simp
      · rename_i hn
        split
        · rename_i c hc'; exact absurd hc' (hn c)
        · rfl
    · refine ⟨zc.cells, .inr rfl, ?_⟩
      simp only [Instr.buildSlice, Sem.run_bind, run_underlying hT, Result.andThen_ok, run_sizeOf hj, if_neg (show ¬ len * i.size > 2 ^ 24 by omega), if_neg h0, Sem.run_pure, run_zeroValue hi hzc]
      rw [show (parts.map fun x => (x.1, ρc x.2)).toList = parts.toList.map fun x => (x.1, ρc x.2) from Array.toList_map ..]
      split
      · rename_i cells hcells; rw [hcells]; simp
      · rename_i hn
        split
        · rename_i c hc'; exact absurd hc' (hn c)
        · rfl
  obtain ⟨zz, hzz, hrun⟩ := hrun
  obtain ⟨arr', hfill, hrep⟩ := fillA_ok hρ _ (fun k => some (k * i.size, i.size)) (fun _ _ h => h) parts.toList _ _ (hzero zz hzz) hcs
  rw [hfill] at hrun
  have hcl : cs.length = len * i.size := by
    have : ∀ (parts : List (Nat × AV)) (c0 : List AV) {c1 : List AV}, fillA (fun k => some (k * i.size, i.size)) c0 parts = some c1 → c1.length = c0.length := by
      intro parts
      induction parts with
      | nil => intro c0 c1 h; simp only [fillA, Option.some.injEq] at h; rw [h]
      | cons p parts ih =>
        intro c0 c1 h
        obtain ⟨a, b⟩ := p
        simp only [fillA] at h
        split at h
        · cases h
        · rw [ih _ h, overA_length]
    rw [this _ _ hcs]; simp
  have hsz : arr'.size = len * i.size := by rw [← hrep.1, hcl]
  obtain ⟨w', g', hnew, hle, hst', harep, hext⟩ := newRow_ok (P := P) hst e i.size len len (fun a b => cs.getD (a * i.size + b) .any) arr' hpos (by omega) (Nat.le_refl _) (fun a b ha hb => by
    have hlt : a * i.size + b < len * i.size := by
      have : (a + 1) * i.size ≤ len * i.size := Nat.mul_le_mul_right _ (by omega)
      rw [Nat.add_mul, Nat.one_mul] at this; omega
    obtain ⟨v, hv, hr⟩ := hrep.get (List.getElem?_eq_getElem (show a * i.size + b < cs.length by omega))
    refine ⟨v, hv, ?_⟩
    rw [List.getD_eq_getElem?_getD, List.getElem?_eq_getElem (by omega)]; exact hr)
    (fun k v hv => repL_one hrep hone v (by have := Array.mem_of_getElem? hv; simpa using this))
  refine ⟨_, w', g', nv_ok (c := .slice (some ⟨w.heap.size, 0, none⟩) len len) ?_, hle, hst', harep, hext⟩
  rw [hrun]
  simp only [hnew, Result.andThen_ok]

include hst in
theorem makeSliceA_ok {l c : AV} {cl' cc : Value} (hl : ARep g l cl') (hc : ARep g c cc) (T : TypeId) : ROk P g H w ((nv (Instr.makeSlice T cl' cc)).run P w) (makeSliceA P H T l c) := by
  unfold makeSliceA
  split
  rotate_left
  · trivial
  rename_i e ln cn hT
  obtain rfl := p_inv hl
  obtain rfl := p_inv hc
  split
  rotate_left
  · trivial
  rename_i i z hi hz
  obtain ⟨i', zc, hi', hzc, hzr, hz1, _⟩ := zeroA_ok (g := g) hz
  have : i' = i := by rw [hi] at hi'; exact (Option.some.inj hi').symm
  subst this
  split
  rotate_left
  · trivial
  rename_i hcond
  obtain ⟨hzl, hpos⟩ := hcond
  intro hn
  obtain ⟨h0, h1, h2, h3⟩ : 0 ≤ ln ∧ ln ≤ cn ∧ cn ≤ 2 ^ 62 ∧ i'.bytes * cn ≤ 2 ^ 48 := by simpa using hn
  have hzsz : zc.cells.size = i'.size := by rw [← hzr.1, hzl]
  have hwl : IntKind.i64.wrap ln = ln := by
    have : ln ≤ 2 ^ 62 := by omega
    simp [IntKind.wrap, IntKind.bits, IntKind.signed]; omega
  have hwc : IntKind.i64.wrap cn = cn := by
    simp [IntKind.wrap, IntKind.bits, IntKind.signed]; omega
  let N := cn.toNat * i'.size
  let arrOf : Array Value → Array Value := fun zz => (Array.range N).map (zz[· % zz.size]!)
  have hrun : ∃ zz : Array Value, (N = 0 ∨ zz = zc.cells) ∧ (Instr.makeSlice T (.int .i64 ln) (.int .i64 cn)).run P w =
      ((newRow e (arrOf zz)).run P w).andThen fun a w' => .ok (.slice (some a) ln.toNat cn.toNat) w' := by
    have hcnd : ¬ (((decide (cn < 0) || decide (↑i'.bytes * cn > 2 ^ 48)) || decide (ln < 0) || decide (ln > cn)) = true) := by simp; omega
    by_cases hN : N = 0
    · refine ⟨#[], .inl hN, ?_⟩
      simp only [Instr.makeSlice, Sem.run_bind, run_underlying hT, Result.andThen_ok, asInt, asIntOf, Sem.run_pure, run_typeInfo hi, hwl, hwc, run_sizeOf hi]
      rw [if_neg (by simpa using hcnd)]
      simp only [Sem.run_bind, Sem.run_pure, Result.andThen_ok, run_askRoom, run_sizeOf hi, if_pos (show cn.toNat * i'.size = 0 from hN)]
      rfl
    · refine ⟨zc.cells, .inr rfl, ?_⟩
      simp only [Instr.makeSlice, Sem.run_bind, run_underlying hT, Result.andThen_ok, asInt, asIntOf, Sem.run_pure, run_typeInfo hi, hwl, hwc, run_sizeOf hi]
      rw [if_neg (by simpa using hcnd)]
      simp only [Sem.run_bind, Sem.run_pure, Result.andThen_ok, run_askRoom, run_sizeOf hi, if_neg (show ¬ cn.toNat * i'.size = 0 from hN), run_zeroValue hi hzc]
      rfl
  obtain ⟨zz, hzz, hrun⟩ := hrun
  have hget : ∀ k, k < N → (arrOf zz)[k]? = some (zc.cells[k % i'.size]!) := by
    intro k hk
    rcases hzz with e0 | rfl
    · omega
    · simp [arrOf, hk, hzsz]
  have hcell : ∀ k, k < N → ∃ v, (arrOf zz)[k]? = some v ∧ ARep g (z.getD (k % i'.size) .any) v ∧ v.oneCell' = true := by
    intro k hk
    have hm : k % i'.size < i'.size := Nat.mod_lt _ hpos
    have hm2 : k % i'.size < zc.cells.size := by omega
    refine ⟨_, hget k hk, ?_, ?_⟩
    · rw [List.getD_eq_getElem?_getD, List.getElem?_eq_getElem (by omega), getElem!_pos zc.cells (k % i'.size) hm2]
      exact hzr.2 (k % i'.size) _ _ (List.getElem?_eq_getElem (by omega)) (by simp [hm2])
    · rw [getElem!_pos zc.cells (k % i'.size) hm2]
      exact hz1 _ (by simp)
  have hsz : (arrOf zz).size = N := by simp [arrOf]
  obtain ⟨w', g', hnew, hle, hst', harep, hext⟩ := newRow_ok (P := P) hst e i'.size ln.toNat cn.toNat (fun _ b => z.getD b .any) (arrOf zz) hpos (by rw [hsz]; exact Nat.le_refl _) (by omega) (fun a b ha hb => by
    have hlt : a * i'.size + b < N := by
      have : (a + 1) * i'.size ≤ cn.toNat * i'.size := Nat.mul_le_mul_right _ (by omega)
      rw [Nat.add_mul, Nat.one_mul] at this; show _ < cn.toNat * i'.size; omega
    obtain ⟨v, hv, hr, _⟩ := hcell _ hlt
    refine ⟨v, hv, ?_⟩
    rwa [show (a * i'.size + b) % i'.size = b by rw [Nat.mul_comm, Nat.mul_add_mod]; exact Nat.mod_eq_of_lt hb] at hr)
    (fun k v hv => by
      have hk : k < N := by rw [← hsz]; exact (Array.getElem?_eq_some_iff.1 hv).1
      obtain ⟨u, hu, _, h1⟩ := hcell k hk
      rw [hu] at hv; cases hv; exact h1)
  refine ⟨_, w', g', nv_ok (c := .slice (some ⟨w.heap.size, 0, none⟩) ln.toNat cn.toNat) ?_, hle, hst', harep, hext⟩
  rw [hrun]
  simp only [hnew, Result.andThen_ok]

end
end Go.Eng

/- The engine, part 12: append. -/
set_option linter.unusedVariables false
set_option linter.unusedSimpArgs false
set_option linter.unnecessarySimpa false
namespace Go.Eng
open Go

theorem growBy_le (n : Nat) : ∀ (r c : Nat), c < n → Builtin.growBy n r c ≤ 2 * n + 200
  | 0, c, h => by rw [Builtin.growBy]; omega
  | r + 1, c, h => by
    rw [Builtin.growBy, if_neg (by omega)]
    by_cases h' : c + (c + 768) / 4 < n
    · exact growBy_le n r _ h'
    · cases r with
      | zero => rw [Builtin.growBy]; omega
      | succ r => rw [Builtin.growBy, if_pos (by omega)]; omega

theorem nextslicecap_le (need cap : Nat) (h : cap < need) : Builtin.nextslicecap need cap ≤ 2 * need + 200 := by
  unfold Builtin.nextslicecap
  split
  · omega
  · split
    · omega
    · exact growBy_le need 4 cap h

section
variable {P : Program} {g : Gh} {H : AHeap} {w : World} {ρ : Operand → AV} {ρc : Operand → Value} (hρ : ∀ x, ARep g (ρ x) (ρc x)) (hst : St g H w)

/-- Cells that are as told. -/
def CellsAs (g : Gh) (esz n : Nat) (f : Nat → Nat → AV) (arr : Array Value) : Prop :=
  arr.size = n * esz ∧ oneCells arr ∧ ∀ a b, a < n → b < esz → ∃ v, arr[a * esz + b]? = some v ∧ ARep g (f a b) v

theorem mul_lt {a n b esz : Nat} (ha : a < n) (hb : b < esz) : a * esz + b < n * esz := by
  have : (a + 1) * esz ≤ n * esz := Nat.mul_le_mul_right esz (by omega)
  rw [Nat.add_mul, Nat.one_mul] at this; omega

theorem divmod {k n esz : Nat} (h : k < n * esz) : ∃ a b, a < n ∧ b < esz ∧ k = a * esz + b := by
  have hpos : 0 < esz := by
    rcases Nat.eq_zero_or_pos esz with e | e
    · subst e; simp at h
    · exact e
  refine ⟨k / esz, k % esz, (Nat.div_lt_iff_lt_mul hpos).2 h, Nat.mod_lt _ hpos, ?_⟩
  rw [Nat.mul_comm]; exact (Nat.div_add_mod k esz).symm

/-- A slice's first cells, read. -/
theorem run_first {b o esz n len cap : Nat} {f : Nat → Nat → AV} (h : ∀ a c, a < n → c < esz → ∃ v, w.cell? ⟨b, o + (a * esz + c), none⟩ = some v ∧ v.oneCell' = true ∧ ARep g (f a c) v) :
    ∃ arr, (Builtin.firstCells esz n (.slice (some ⟨b, o, none⟩) len cap)).run P w = .ok arr w ∧ CellsAs g esz n f arr := by
  have hcell : ∀ j, j < n * esz → w.cell? ⟨b, o + j, none⟩ = some ((w.cell? ⟨b, o + j, none⟩).getD undef) := by
    intro j hj
    obtain ⟨a, c, ha, hc, rfl⟩ := divmod hj
    obtain ⟨v, hv, _⟩ := h a c ha hc
    rw [hv]; rfl
  refine ⟨((List.range (n * esz)).map fun j => (w.cell? ⟨b, o + j, none⟩).getD undef).toArray, ?_, by simp, ?_, ?_⟩
  · simp only [Builtin.firstCells]
    exact run_loadCells P w b o (n * esz) _ hcell
  · intro k v hv
    have hk : k < n * esz := by have := (Array.getElem?_eq_some_iff.1 hv).1; simpa using this
    obtain ⟨a, c, ha, hc, rfl⟩ := divmod hk
    obtain ⟨u, hu, h1, _⟩ := h a c ha hc
    simp [hk, hu] at hv
    subst hv; exact h1
  · intro a c ha hc
    obtain ⟨u, hu, _, hr⟩ := h a c ha hc
    exact ⟨u, by simp [mul_lt ha hc, hu], hr⟩

theorem CellsAs.none (f : Nat → Nat → AV) (esz : Nat) : CellsAs g esz 0 f #[] := ⟨by simp, fun k v h => by simp at h, fun a b ha => by omega⟩

/-- What is appended, read. -/
theorem srcA_ok {x : AV} {cx : Value} (hx : ARep g x cx) {esz n : Nat} {c : Bool} {f : Nat → Nat → AV} (h : srcA H esz x = some (c, n, f)) (hc : c = true) :
    (∀ w', (Builtin.lenOf cx).run P w' = .ok n w') ∧ ∀ w', St g H w' → ∃ arr, (Builtin.firstCells esz n cx).run P w' = .ok arr w' ∧ CellsAs g esz n f arr := by
  unfold srcA at h
  split at h
  · rename_i id off len esz'
    split at h
    · rename_i T0 esz'' m f' hH
      split at h
      · rename_i he
        obtain ⟨e1, e2⟩ := he
        subst e1; subst e2
        simp only [Option.some.injEq, Prod.mk.injEq] at h
        obtain ⟨h1, rfl, rfl⟩ := h
        rw [hc] at h1
        have hlen : off + len ≤ m := by simpa using h1
        cases hx with
        | ms _ _ _ _ cap o hid h2 h3 ho =>
          refine ⟨fun w' => by simp [Builtin.lenOf], fun w' hst => ?_⟩
          obtain ⟨arr, fr, hob, hsz, hn, hpos, hcell, hf, hone⟩ := hst.obj id _ hH
          refine run_first fun a b ha hb => ?_
          obtain ⟨v, hv, hr⟩ := hcell (off + a) b (by omega) hb
          have ho' := ho (by omega)
          refine ⟨v, ?_, hone _ _ hv, hr⟩
          rw [cell_of _ _ _ _ _ _ hob, ho', ← hv]
          congr 1
          rw [Nat.add_mul]; omega
      · cases h
    · cases h
  · rename_i m esz' f'
    split at h
    · rename_i e1
      subst e1
      simp only [Option.some.injEq, Prod.mk.injEq] at h
      obtain ⟨h1, rfl, rfl⟩ := h
      cases hx with
      | d _ _ hd =>
        cases hd with
        | sl _ _ _ b o cap vs hcap a1 a2 =>
          refine ⟨fun w' => by simp [Builtin.lenOf], fun w' hst => ?_⟩
          refine run_first fun a b' ha hb => ?_
          have := hst.imm _ _ _ (a1 a b' ha hb)
          refine ⟨vs a b', ?_, this.2, .d _ _ (a2 a b' ha hb)⟩
          rw [← Nat.add_assoc]; exact this.1
    · cases h
  · simp only [Option.some.injEq, Prod.mk.injEq] at h
    obtain ⟨_, rfl, rfl⟩ := h
    cases hx with
    | d _ _ hd =>
      cases hd with
      | sz a =>
        refine ⟨fun w' => by simp [Builtin.lenOf], fun w' hst => ⟨#[], ?_, CellsAs.none _ _⟩⟩
        simp [Builtin.firstCells, loadCells, loadCellsFrom]
  · simp only [Option.some.injEq, Prod.mk.injEq] at h
    obtain ⟨_, rfl, rfl⟩ := h
    obtain rfl := p_inv hx
    exact ⟨fun w' => by simp [Builtin.lenOf], fun w' hst => ⟨#[], by simp [Builtin.firstCells], CellsAs.none _ _⟩⟩
  · rename_i s
    split at h
    · rename_i e1
      subst e1
      simp only [Option.some.injEq, Prod.mk.injEq] at h
      obtain ⟨_, rfl, rfl⟩ := h
      obtain rfl := p_inv hx
      refine ⟨fun w' => by simp [Builtin.lenOf], fun w' hst => ⟨(s.extract 0 s.size).data.map fun b => .int .u8 b.toNat, by simp [Builtin.firstCells], ?_⟩⟩
      have hdata : (s.extract 0 s.size).data = s.data := by
        rw [ByteArray.data_extract]
        exact Array.extract_size
      rw [hdata]
      refine ⟨by rw [Array.size_map, Nat.mul_one]; rfl, ?_, ?_⟩
      · intro k v hv
        simp only [Array.getElem?_map, Option.map_eq_some_iff] at hv
        obtain ⟨b, _, rfl⟩ := hv
        rfl
      · intro a b ha hb
        obtain rfl : b = 0 := by omega
        have hlt : a < s.data.size := ha
        refine ⟨.int .u8 (s.data[a]'hlt).toNat, by rw [Nat.mul_one, Nat.add_zero, Array.getElem?_map, Array.getElem?_eq_getElem hlt]; rfl, ?_⟩
        simp only [Array.getElem?_eq_getElem hlt, Option.getD_some]
        exact .d _ _ (.p _)
    · cases h
  · cases h

theorem CellsAs.append {esz n m : Nat} {f k : Nat → Nat → AV} {a b : Array Value} (h : CellsAs g esz n f a) (h' : CellsAs g esz m k b) :
    CellsAs g esz (n + m) (fun i j => if i < n then f i j else k (i - n) j) (a ++ b) := by
  refine ⟨by rw [Array.size_append, h.1, h'.1, Nat.add_mul], ?_, ?_⟩
  · intro i v hv
    rw [Array.getElem?_append] at hv
    split at hv
    · exact h.2.1 i v hv
    · exact h'.2.1 _ v hv
  · intro i j hi hj
    by_cases hin : i < n
    · obtain ⟨v, hv, hr⟩ := h.2.2 i j hin hj
      refine ⟨v, ?_, by simpa [hin] using hr⟩
      rw [Array.getElem?_append_left (by rw [h.1]; exact mul_lt hin hj)]; exact hv
    · obtain ⟨v, hv, hr⟩ := h'.2.2 (i - n) j (by omega) hj
      refine ⟨v, ?_, by simpa [hin] using hr⟩
      have hge : n * esz ≤ i * esz := Nat.mul_le_mul_right esz (by omega)
      rw [Array.getElem?_append_right (by rw [h.1]; omega), h.1, ← hv]
      congr 1
      rw [Nat.sub_mul]; omega

/-- A block given up for a new object over the same memory. -/
theorem St.moveTo (hst : St g H w) {i : Nat} {o : AObj} (hi : H[i]? = some o) (hl : o.live = true) (c s : Nat) (o' : AObj) (co : Obj)
    (hr : ObjRep (g.pushAt (g.mu i) c s) g.n o' (some co)) : St (g.pushAt (g.mu i) c s) (H.set i .dead ++ [o']) (putB w (g.mu i) co) where
  n := by simp [Gh.pushAt, hst.n]
  imm b off v hm := by
    have hm' : g.imm b off = some v := hm
    have hne : b ≠ g.mu i := by
      intro e; subst e
      rw [hst.disj i o hi hl off] at hm'; cases hm'
    rw [cell_old (putB_other w _ _ co hne)]
    exact hst.imm b off v hm'
  obj j oj hj := by
    rcases Nat.lt_or_ge j H.length with hlt | hge
    · rw [List.getElem?_append_left (by simpa using hlt)] at hj
      have hjn : j < g.n := by rw [hst.n]; exact hlt
      rw [(g.le_pushAt _ c s).mu j hjn]
      rcases set_get hj with ⟨rfl, rfl⟩ | ⟨hne, hj'⟩
      · trivial
      · cases hlj : oj.live with
        | false => cases oj <;> simp [AObj.live] at hlj; trivial
        | true =>
          rw [putB_other _ _ _ _ (fun e => hne (hst.inj j i oj o hj' hi hlj hl e))]
          exact (hst.obj j oj hj').mono (g.le_pushAt _ c s) hjn
    · rw [List.getElem?_append_right (by simpa using hge)] at hj
      have : j = H.length := by
        rcases Nat.lt_or_ge 0 (j - H.length) with h' | h'
        · rw [List.getElem?_eq_none (by simp; omega)] at hj; cases hj
        · omega
      subst this
      simp at hj
      subst hj
      rw [← hst.n, show (g.pushAt (g.mu i) c s).mu g.n = g.mu i by simp [Gh.pushAt], putB_same _ _ _ (hst.size i o hi hl)]
      exact hr
  size j oj hj hlj := by
    rw [putB_size]
    rcases Nat.lt_or_ge j H.length with hlt | hge
    · rw [List.getElem?_append_left (by simpa using hlt)] at hj
      have hjn : j < g.n := by rw [hst.n]; exact hlt
      rw [(g.le_pushAt _ c s).mu j hjn]
      rcases set_get hj with ⟨rfl, rfl⟩ | ⟨hne, hj'⟩
      · simp [AObj.live] at hlj
      · exact hst.size j oj hj' hlj
    · rw [List.getElem?_append_right (by simpa using hge)] at hj
      have : j = H.length := by
        rcases Nat.lt_or_ge 0 (j - H.length) with h' | h'
        · rw [List.getElem?_eq_none (by simp; omega)] at hj; cases hj
        · omega
      subst this
      rw [← hst.n, show (g.pushAt (g.mu i) c s).mu g.n = g.mu i by simp [Gh.pushAt]]
      exact hst.size i o hi hl
  inj j k oj ok hj hk lj lk e := by
    have key : ∀ (j : Nat) (oj : AObj), (H.set i .dead ++ [o'])[j]? = some oj → oj.live = true → (j < g.n ∧ j ≠ i ∧ H[j]? = some oj) ∨ j = g.n := by
      intro j oj hj hlj
      rcases Nat.lt_or_ge j H.length with hlt | hge
      · rw [List.getElem?_append_left (by simpa using hlt)] at hj
        rcases set_get hj with ⟨rfl, rfl⟩ | ⟨hne, hj'⟩
        · simp [AObj.live] at hlj
        · exact .inl ⟨by rw [hst.n]; exact hlt, hne, hj'⟩
      · rw [List.getElem?_append_right (by simpa using hge)] at hj
        rcases Nat.lt_or_ge 0 (j - H.length) with h' | h'
        · rw [List.getElem?_eq_none (by simp; omega)] at hj; cases hj
        · right; rw [hst.n]; omega
    have hmun : (g.pushAt (g.mu i) c s).mu g.n = g.mu i := by simp [Gh.pushAt]
    rcases key j oj hj lj with ⟨a1, a2, a3⟩ | a <;> rcases key k ok hk lk with ⟨b1, b2, b3⟩ | b'
    · rw [(g.le_pushAt _ c s).mu j a1, (g.le_pushAt _ c s).mu k b1] at e
      exact hst.inj j k oj ok a3 b3 lj lk e
    · subst b'
      rw [(g.le_pushAt _ c s).mu j a1, hmun] at e
      exact absurd (hst.inj j i oj o a3 hi lj hl e) a2
    · subst a
      rw [(g.le_pushAt _ c s).mu k b1, hmun] at e
      exact absurd (hst.inj k i ok o b3 hi lk hl e.symm) b2
    · omega
  glob := hst.glob
  disj j oj hj hlj off := by
    show g.imm _ off = none
    rcases Nat.lt_or_ge j H.length with hlt | hge
    · rw [List.getElem?_append_left (by simpa using hlt)] at hj
      have hjn : j < g.n := by rw [hst.n]; exact hlt
      rw [(g.le_pushAt _ c s).mu j hjn]
      rcases set_get hj with ⟨rfl, rfl⟩ | ⟨hne, hj'⟩
      · simp [AObj.live] at hlj
      · exact hst.disj j oj hj' hlj off
    · rw [List.getElem?_append_right (by simpa using hge)] at hj
      have : j = H.length := by
        rcases Nat.lt_or_ge 0 (j - H.length) with h' | h'
        · rw [List.getElem?_eq_none (by simp; omega)] at hj; cases hj
        · omega
      subst this
      rw [← hst.n, show (g.pushAt (g.mu i) c s).mu g.n = g.mu i by simp [Gh.pushAt]]
      exact hst.disj i o hi hl off

theorem Ext.moveTo (hst : St g H w) {i : Nat} {o : AObj} (hi : H[i]? = some o) (hl : o.live = true) (c s : Nat) (o' : AObj) (co : Obj) :
    Ext g.imm (foot g H) w (g.pushAt (g.mu i) c s).imm (foot (g.pushAt (g.mu i) c s) (H.set i .dead ++ [o'])) (putB w (g.mu i) co) where
  os := rfl
  tape := rfl
  output := rfl
  size := by simp
  block b hb hF := putB_other _ _ _ _ (fun e => hF ⟨i, o, hi, hl, e.symm⟩)
  imm _ _ _ h := h
  fresh b o' v h1 h2 := by
    have h1' : g.imm b o' = some v := h1
    rw [h2] at h1'; cases h1'
  ft b hb := by
    obtain ⟨j, oj, hj, hlj, e⟩ := hb
    rcases Nat.lt_or_ge j H.length with hlt | hge
    · rw [List.getElem?_append_left (by simpa using hlt)] at hj
      have hjn : j < g.n := by rw [hst.n]; exact hlt
      rw [(g.le_pushAt _ c s).mu j hjn] at e
      rcases set_get hj with ⟨rfl, rfl⟩ | ⟨hne, hj'⟩
      · simp [AObj.live] at hlj
      · exact .inl ⟨j, oj, hj', hlj, e⟩
    · have : j = H.length := by
        rw [List.getElem?_append_right (by simpa using hge)] at hj
        rcases Nat.lt_or_ge 0 (j - H.length) with h' | h'
        · rw [List.getElem?_eq_none (by simp; omega)] at hj; cases hj
        · omega
      subst this
      rw [← hst.n, show (g.pushAt (g.mu i) c s).mu g.n = g.mu i by simp [Gh.pushAt]] at e
      exact .inl ⟨i, o, hi, hl, e⟩

theorem zeroCells_size (z : Array Value) (n : Nat) : (Builtin.zeroCells z n).size = n * z.size := by simp [Builtin.zeroCells]
theorem zeroCells_one {z : Array Value} (h : ∀ x ∈ z.toList, x.oneCell' = true) (n : Nat) : oneCells (Builtin.zeroCells z n) := by
  intro k v hv
  have hk : k < n * z.size := by have := (Array.getElem?_eq_some_iff.1 hv).1; simpa [zeroCells_size] using this
  have hpos : 0 < z.size := by
    rcases Nat.eq_zero_or_pos z.size with e | e
    · rw [e] at hk; simp at hk
    · exact e
  have hm : k % z.size < z.size := Nat.mod_lt _ hpos
  have : (Builtin.zeroCells z n)[k]? = some (z[k % z.size]!) := by simp [Builtin.zeroCells, hk]
  rw [this] at hv
  cases hv
  rw [getElem!_pos z (k % z.size) hm]
  exact h _ (by simp)

/-- What the built-in append comes to where it does not fit. -/
theorem run_append_grows (hst : St g H w) {T xT e : TypeId} {u : TypeDesc} {i : TypeInfo} {zc : Value} (hT : P.underlying T = some (.slice e)) (hxT : P.underlying xT = some u)
    (hu : ∀ k, u ≠ .int k) (hi : P.info? e = some i) (hzc : i.zero = some zc) (hb : 0 < i.bytes) (type : TypeId) (base : Option Addr) (len cap n : Nat) (cx : Value)
    (hlen : ∀ w', (Builtin.lenOf cx).run P w' = .ok n w') (hbound : (2 * (len + n) + 200) * i.bytes ≤ 2 ^ 48) (hgrow : cap < len + n)
    {old new : Array Value} (ho : (Builtin.firstCells i.size len (.slice base len cap)).run P (drewW w) = .ok old (drewW w)) (hn : (Builtin.firstCells i.size n cx).run P (drewW w) = .ok new (drewW w)) :
    ∃ newCap, len + n ≤ newCap ∧ (Builtin.append_ #[T, xT] type #[.slice base len cap, cx]).run P w =
      ((newRow e (old ++ new ++ Builtin.zeroCells zc.cells (newCap - (len + n)))).run P (drewW w)).andThen fun a w' => .ok (.slice (some a) (len + n) newCap) w' := by
  have hcapb : ¬ (Builtin.nextslicecap (len + n) cap * i.bytes > 2 ^ 48) := by
    have h1 := nextslicecap_le (len + n) cap hgrow
    have h2 : Builtin.nextslicecap (len + n) cap * i.bytes ≤ (2 * (len + n) + 200) * i.bytes := Nat.mul_le_mul_right _ h1
    omega
  have hzeros : (u matches .int _) = false := by
    cases u <;> first | rfl | (exact absurd rfl (hu _))
  refine ⟨(Question.appendCap (len + n) cap e).cut (w.tape w.drawn (.appendCap (len + n) cap e)), by simp [Question.cut], ?_⟩
  have hch : (choose (Question.appendCap (len + n) cap e)).run P w = .ok ((Question.appendCap (len + n) cap e).cut (w.tape w.drawn (.appendCap (len + n) cap e))) (drewW w) := rfl
  have hbz : ¬ ((↑(len + n) : Int) > IntKind.i64.max ∧ (False ∨ i.bytes = 0)) := by
    rintro ⟨_, h | h⟩
    · exact h
    · omega
  unfold Builtin.append_
  simp only [List.getElem?_toArray, List.getElem?_cons_zero, List.getElem?_cons_succ, Sem.run_bind, run_underlying hT, Result.andThen_ok, run_sizeOf hi, run_underlying hxT, Sem.run_pure, hzeros,
    Bool.false_eq_true, if_false, hlen, Bool.not_false, if_true, if_neg (show ¬ (len + n ≤ cap) by omega), run_typeInfo hi]
  rw [if_neg hbz]
  simp only [Sem.run_bind, run_typeInfo hi, Result.andThen_ok, if_neg hcapb, hch, run_askRoom, ho, hn, run_zeroValue hi hzc, Sem.run_pure]

/-- The part of append that makes a new row. -/
theorem newTail_ok (hst : St g H w) {e : TypeId} {i : TypeInfo} {zc : Value} (hi : P.info? e = some i) (hzc : i.zero = some zc) (hzs : zc.cells.size = i.size)
    (hz1 : ∀ x ∈ zc.cells.toList, x.oneCell' = true) (hpos : 0 < i.size) {need newCap : Nat} (hcap : need ≤ newCap) {f : Nat → Nat → AV} {arr : Array Value} (hc : CellsAs g i.size need f arr) :
    ∃ w' g', (newRow e (arr ++ Builtin.zeroCells zc.cells (newCap - need))).run P w = .ok ⟨w.heap.size, 0, none⟩ w' ∧ g.le g' ∧ St g' (H ++ [.row e i.size need f]) w' ∧
      ARep g' (.ms H.length 0 need i.size) (.slice (some ⟨w.heap.size, 0, none⟩) need newCap) ∧ Ext g.imm (foot g H) w g'.imm (foot g' (H ++ [.row e i.size need f])) w' := by
  refine newRow_ok hst e i.size need newCap f _ hpos ?_ hcap ?_ ?_
  · rw [Array.size_append, hc.1, zeroCells_size, hzs, ← Nat.add_mul]
    exact Nat.mul_le_mul_right _ (by omega)
  · intro a b ha hb
    obtain ⟨v, hv, hr⟩ := hc.2.2 a b ha hb
    exact ⟨v, by rw [Array.getElem?_append_left (by rw [hc.1]; exact mul_lt ha hb)]; exact hv, hr⟩
  · intro k v hv
    rw [Array.getElem?_append] at hv
    split at hv
    · exact hc.2.1 k v hv
    · exact zeroCells_one hz1 _ _ v hv

/-- The built-in append where it fits. -/
theorem run_append_fits {T xT e : TypeId} {u : TypeDesc} {i : TypeInfo} (hT : P.underlying T = some (.slice e)) (hxT : P.underlying xT = some u)
    (hu : ∀ k, u ≠ .int k) (hi : P.info? e = some i) (type : TypeId) (base : Option Addr) (len cap n : Nat) (cx : Value)
    (hlen : ∀ w', (Builtin.lenOf cx).run P w' = .ok n w') (hfits : len + n ≤ cap) {new : Array Value} (hn : (Builtin.firstCells i.size n cx).run P w = .ok new w) :
    (Builtin.append_ #[T, xT] type #[.slice base len cap, cx]).run P w =
      (match base with
       | some a => ((storeCells (a.add (len * i.size)) new.toList).run P w).andThen fun _ w' => .ok (.slice base (len + n) cap) w'
       | none => .ok (.slice base (len + n) cap) w) := by
  have hzeros : (u matches .int _) = false := by
    cases u <;> first | rfl | (exact absurd rfl (hu _))
  unfold Builtin.append_
  simp only [List.getElem?_toArray, List.getElem?_cons_zero, List.getElem?_cons_succ, Sem.run_bind, run_underlying hT, Result.andThen_ok, run_sizeOf hi, run_underlying hxT, Sem.run_pure, hzeros,
    Bool.false_eq_true, if_false, hlen, Bool.not_false, if_true, if_pos hfits, hn]
  cases base with
  | none => simp only [Sem.run_pure]
  | some a => simp only [Sem.run_bind, Sem.run_pure]

/-- The zeros of a row, by their places. -/
theorem zeroCells_as {zc : Value} {z : List AV} {esz : Nat} (hzr : RepL g z zc.cells) (hzl : z.length = esz) (hz1 : ∀ x ∈ zc.cells.toList, x.oneCell' = true) (hpos : 0 < esz) (n : Nat) :
    CellsAs g esz n (fun _ b => z.getD b .any) (Builtin.zeroCells zc.cells n) := by
  have hsz : zc.cells.size = esz := by rw [← hzr.1, hzl]
  refine ⟨by rw [zeroCells_size, hsz], fun k v hv => zeroCells_one hz1 _ _ v hv, ?_⟩
  intro a b ha hb
  have hlt := mul_lt ha hb
  have hmod : (a * esz + b) % esz = b := by rw [Nat.mul_comm, Nat.mul_add_mod, Nat.mod_eq_of_lt hb]
  have hb2 : b < zc.cells.size := by omega
  refine ⟨zc.cells[b], ?_, ?_⟩
  · simp only [Builtin.zeroCells]
    simp [hsz, hlt, hmod, hb2]
    exact getElem!_pos zc.cells b hb2
  · show ARep g (z.getD b .any) _
    rw [List.getD_eq_getElem?_getD, List.getElem?_eq_getElem (by omega)]
    exact hzr.2 b _ _ (List.getElem?_eq_getElem (by omega)) (by simp [hb2])

theorem run_append_zeros {T xT e : TypeId} {k : IntKind} {i : TypeInfo} {zc : Value} (hT : P.underlying T = some (.slice e)) (hxT : P.underlying xT = some (.int k))
    (hi : P.info? e = some i) (hzc : i.zero = some zc) (hb : 0 < i.bytes) (hpos : 0 < i.size) (type : TypeId) (base : Option Addr) (l : Int) (h0 : 0 ≤ l) (hbound : (2 * l.toNat + 200) * i.bytes ≤ 2 ^ 48) :
    (l.toNat = 0 → (Builtin.append_ #[T, xT] type #[.slice base 0 0, .int .i64 l]).run P w = .ok (.slice base 0 0) w) ∧
    (l.toNat ≠ 0 → ∃ newCap, l.toNat ≤ newCap ∧ (Builtin.append_ #[T, xT] type #[.slice base 0 0, .int .i64 l]).run P w =
      ((newRow e (Builtin.zeroCells zc.cells l.toNat ++ Builtin.zeroCells zc.cells (newCap - l.toNat))).run P (drewW w)).andThen fun a w' => .ok (.slice (some a) l.toNat newCap) w') := by
  have h2 : l.toNat ≤ 2 ^ 48 := by
    have : (2 * l.toNat + 200) * 1 ≤ (2 * l.toNat + 200) * i.bytes := Nat.mul_le_mul_left _ hb
    omega
  have hw : IntKind.i64.wrap l = l := by
    have : l ≤ 2 ^ 48 := by omega
    simp [IntKind.wrap, IntKind.bits, IntKind.signed]; omega
  have hneg : ¬ l < 0 := by omega
  have hbig : ¬ (l * ↑i.bytes > 2 ^ 48) := by
    have h3 : l.toNat * i.bytes ≤ (2 * l.toNat + 200) * i.bytes := Nat.mul_le_mul_right _ (by omega)
    have h4 : (l * ↑i.bytes) = ((l.toNat * i.bytes : Nat) : Int) := by
      rw [Int.natCast_mul, Int.toNat_of_nonneg h0]
    rw [h4]; omega
  have hzeros : (TypeDesc.int k matches .int _) = true := rfl
  have hold : (Builtin.firstCells i.size 0 (.slice base 0 0)).run P (drewW w) = .ok #[] (drewW w) := by
    cases base with
    | none => rfl
    | some a => simp [Builtin.firstCells, loadCells, loadCellsFrom]
  refine ⟨fun hn => ?_, fun hn => ?_⟩
  · unfold Builtin.append_
    simp only [List.getElem?_toArray, List.getElem?_cons_zero, List.getElem?_cons_succ, Sem.run_bind, run_underlying hT, Result.andThen_ok, run_sizeOf hi, run_underlying hxT, Sem.run_pure, hzeros, if_true,
      asInt, asIntOf, hw, if_neg hneg, run_typeInfo hi, if_neg hbig, hn, Nat.add_zero, Nat.le_refl, Nat.zero_mul, Bool.not_true, Bool.false_eq_true, if_false]
    cases base with
    | none => rfl
    | some a => rfl
  · have hcapb : ¬ (Builtin.nextslicecap (0 + l.toNat) 0 * i.bytes > 2 ^ 48) := by
      have h1 := nextslicecap_le (0 + l.toNat) 0 (by omega)
      have h2 : Builtin.nextslicecap (0 + l.toNat) 0 * i.bytes ≤ (2 * (0 + l.toNat) + 200) * i.bytes := Nat.mul_le_mul_right _ h1
      rw [Nat.zero_add] at h2 ⊢
      omega
    refine ⟨(Question.appendCap (0 + l.toNat) 0 e).cut (w.tape w.drawn (.appendCap (0 + l.toNat) 0 e)), by simp [Question.cut], ?_⟩
    have hch : (choose (Question.appendCap (0 + l.toNat) 0 e)).run P w = .ok ((Question.appendCap (0 + l.toNat) 0 e).cut (w.tape w.drawn (.appendCap (0 + l.toNat) 0 e))) (drewW w) := rfl
    have hmax : ¬ ((↑(0 + l.toNat) : Int) > IntKind.i64.max ∧ (True ∨ i.bytes = 0)) := by
      rintro ⟨h, _⟩
      simp [IntKind.max, IntKind.bits, IntKind.signed] at h
      omega
    unfold Builtin.append_
    simp only [List.getElem?_toArray, List.getElem?_cons_zero, List.getElem?_cons_succ, Sem.run_bind, run_underlying hT, Result.andThen_ok, run_sizeOf hi, run_underlying hxT, Sem.run_pure, hzeros, if_true,
      asInt, asIntOf, hw, if_neg hneg, run_typeInfo hi, if_neg hbig, if_neg (show ¬ (0 + l.toNat ≤ 0) by omega), Bool.not_true, Bool.false_eq_true, if_false]
    rw [if_neg hmax]
    have hns : ¬ l.toNat * i.size = 0 := by
      intro h
      rcases Nat.mul_eq_zero.1 h with h | h <;> omega
    simp only [Sem.run_bind, run_typeInfo hi, Result.andThen_ok, if_neg hcapb, hch, run_askRoom, hold, if_neg hns, run_zeroValue hi hzc, Sem.run_pure]
    simp

include hst in
theorem appendA_ok {s x : AV} {cs cx : Value} (hs : ARep g s cs) (hx : ARep g x cx) (T xT type : TypeId) :
    ROk P g H w ((nv (Builtin.append_ #[T, xT] type #[cs, cx])).run P w) (appendA P H T xT s x) := by
  unfold appendA
  split
  rotate_left
  · trivial
  rename_i e u hT hxT
  split
  · rename_i kk
    split
    rotate_left
    · trivial
    rename_i l i z hi hz
    obtain ⟨i', zc, hi', hzc, hzr, hz1, _⟩ := zeroA_ok (g := g) hz
    have : i' = i := by rw [hi] at hi'; exact (Option.some.inj hi').symm
    subst this
    split
    rotate_left
    · trivial
    rename_i hcond
    obtain ⟨hzl, hpos, hbytes⟩ := hcond
    have hx' := p_inv hx
    subst hx'
    have hzsz : zc.cells.size = i'.size := by rw [← hzr.1, hzl]
    have hempty : ∀ (base : Option Addr), cs = .slice base 0 0 → (0 ≤ l ∧ (2 * l.toNat + 200) * i'.bytes ≤ 2 ^ 48) →
        ROk P g H w ((nv (Builtin.append_ #[T, xT] type #[cs, .int .i64 l])).run P w) (.br (l.toNat == 0) (.val s) (.valH (.ms H.length 0 l.toNat i'.size) (H ++ [.row e i'.size l.toNat fun _ b => z.getD b .any]))) := by
      intro base e1 hbound
      subst e1
      obtain ⟨hr0, hr1⟩ := run_append_zeros (P := P) (w := w) hT hxT hi hzc hbytes hpos type base l hbound.1 hbound.2
      refine ⟨fun h0 => ?_, fun h0 => ?_⟩
      · exact ⟨_, nv_ok (hr0 (by simpa using h0)), hs⟩
      · obtain ⟨newCap, hcap, hrun⟩ := hr1 (by simpa using h0)
        obtain ⟨w', g', hnew, hle, hst', harep, hext⟩ := newTail_ok (P := P) hst.drew hi hzc hzsz hz1 hpos hcap (zeroCells_as hzr hzl hz1 hpos l.toNat)
        exact ⟨_, w', g', nv_ok (by rw [hrun, hnew]; rfl), hle, hst', harep, Ext.drew.trans hext⟩
    split
    · intro hb
      have e1 := p_inv hs
      exact hempty none e1 (by simpa using hb)
    · intro hb
      have e1 : ∃ a, cs = .slice (some a) 0 0 := by
        cases hs with
        | d _ _ hd => cases hd with | sz a => exact ⟨a, rfl⟩
      obtain ⟨a, e1⟩ := e1
      exact hempty (some a) e1 (by simpa using hb)
    · trivial
  rename_i hu
  split
  rotate_left
  · trivial
  rename_i i z hi hz
  obtain ⟨i', zc, hi', hzc, hzr, hz1, _⟩ := zeroA_ok (g := g) hz
  have : i' = i := by rw [hi] at hi'; exact (Option.some.inj hi').symm
  subst this
  split
  rotate_left
  · trivial
  rename_i hcond
  obtain ⟨hzl, hpos, hbytes⟩ := hcond
  have hzsz : zc.cells.size = i'.size := by rw [← hzr.1, hzl]
  split
  rotate_left
  · trivial
  rename_i c n src hsrc
  intro hc
  obtain ⟨hlen, hread⟩ := srcA_ok (P := P) hx hsrc hc
  -- no capacity: nil, or a slice of length and capacity 0
  have hempty : ∀ (base : Option Addr), cs = .slice base 0 0 → ((2 * n + 200) * i'.bytes ≤ 2 ^ 48) →
      ROk P g H w ((nv (Builtin.append_ #[T, xT] type #[cs, cx])).run P w) (.br (n == 0) (.val s) (.valH (.ms H.length 0 n i'.size) (H ++ [.row e i'.size n src]))) := by
    intro base e1 hbound
    subst e1
    refine ⟨fun h0 => ?_, fun h0 => ?_⟩
    · have h0 : n = 0 := by simpa using h0
      subst h0
      obtain ⟨arr, hfirst, hca⟩ := hread w hst
      have harr : arr = #[] := by have := hca.1; simp at this; exact this
      subst harr
      refine ⟨_, nv_ok ?_, hs⟩
      rw [run_append_fits hT hxT hu hi type base 0 0 0 cx hlen (Nat.le_refl _) hfirst]
      cases base with
      | none => rfl
      | some a => rfl
    · have h0 : n ≠ 0 := by simpa using h0
      obtain ⟨arr, hfirst, hca⟩ := hread (drewW w) hst.drew
      have hold : (Builtin.firstCells i'.size 0 (.slice base 0 0)).run P (drewW w) = .ok #[] (drewW w) := by
        cases base with
        | none => rfl
        | some a => simp [Builtin.firstCells, loadCells, loadCellsFrom]
      obtain ⟨newCap, hcap, hrun⟩ := run_append_grows hst hT hxT hu hi hzc hbytes type base 0 0 n cx hlen (by simpa using hbound) (by omega) hold hfirst
      simp only [Nat.zero_add] at hcap hrun
      rw [Array.empty_append] at hrun
      obtain ⟨w', g', hnew, hle, hst', harep, hext⟩ := newTail_ok (P := P) hst.drew hi hzc hzsz hz1 hpos hcap hca
      exact ⟨_, w', g', nv_ok (by rw [hrun, hnew]; rfl), hle, hst', harep, Ext.drew.trans hext⟩
  split
  · intro hb
    have e1 := p_inv hs
    exact hempty none e1 (by simpa using hb)
  · intro hb
    have e1 : ∃ a, cs = .slice (some a) 0 0 := by
      cases hs with
      | d _ _ hd => cases hd with | sz a => exact ⟨a, rfl⟩
    obtain ⟨a, e1⟩ := e1
    exact hempty (some a) e1 (by simpa using hb)
  · rename_i id off len esz
    split
    rotate_left
    · trivial
    rename_i T0 esz' m f hH
    split
    rotate_left
    · trivial
    rename_i he
    obtain ⟨e1, e2, e3⟩ := he
    subst e1; subst e2; subst e3
    intro hb
    obtain ⟨hb1, hb2⟩ : off + len ≤ m ∧ (2 * (len + n) + 200) * i'.bytes ≤ 2 ^ 48 := by simpa using hb
    cases hs with
    | ms _ _ _ _ cap o hid hcap hlc ho =>
      obtain ⟨arr, fr, hob, hsz, hm, _, hcell, hf, hone⟩ := hst.obj id _ hH
      have hcapmul : (off + cap) * i'.size ≤ g.cap id * i'.size := Nat.mul_le_mul_right _ hcap
      rw [Nat.add_mul] at hcapmul
      -- the cells of the slice, where there are any
      have hlcell : ∀ a b, a < len → b < i'.size → ∃ v, arr[g.bs id + off * i'.size + (a * i'.size + b)]? = some v ∧ ARep g (f (off + a) b) v := by
        intro a b ha hb
        obtain ⟨v, hv, hr⟩ := hcell (off + a) b (by omega) hb
        refine ⟨v, ?_, hr⟩
        rw [← hv]; congr 1; rw [Nat.add_mul]; omega
      by_cases hfit : len + n ≤ cap
      · -- in place
        obtain ⟨new, hfirst, hca⟩ := hread w hst
        have hnl : new.toList.length = n * i'.size := by simpa using hca.1
        have hmulfit : len * i'.size + n * i'.size ≤ cap * i'.size := by
          rw [← Nat.add_mul]; exact Nat.mul_le_mul_right _ hfit
        -- where the slice begins
        let s0 : Nat := if cap = 0 then 0 else g.bs id + off * i'.size
        have hs0 : s0 + cap * i'.size ≤ arr.size := by
          by_cases e0 : cap = 0
          · simp only [s0, if_pos e0, e0]; omega
          · simp only [s0, if_neg e0]; omega
        have hs0' : 0 < cap → s0 = g.bs id + off * i'.size := fun h => by simp only [s0, if_neg (show ¬ cap = 0 by omega)]
        let arr' := over arr (s0 + len * i'.size) new.toList
        have hrow : ∀ a b, a < len + n → b < i'.size → ∃ v, arr'[s0 + (a * i'.size + b)]? = some v ∧ ARep g (if a < len then f (off + a) b else src (a - len) b) v := by
          intro a b ha hb
          have hcap0 : 0 < cap := by omega
          have hlt := mul_lt ha hb
          rw [Nat.add_mul] at hlt
          by_cases hal : a < len
          · obtain ⟨v, hv, hr⟩ := hlcell a b hal hb
            have hlt2 := mul_lt hal hb
            refine ⟨v, ?_, by simpa [hal] using hr⟩
            rw [over_get, if_neg (by omega), hs0' hcap0]; exact hv
          · obtain ⟨v, hv, hr⟩ := hca.2.2 (a - len) b (by omega) hb
            have hge : len * i'.size ≤ a * i'.size := Nat.mul_le_mul_right _ (by omega)
            refine ⟨v, ?_, by simpa [hal] using hr⟩
            rw [over_get, if_pos (by omega)]
            rw [show s0 + (a * i'.size + b) - (s0 + len * i'.size) = (a - len) * i'.size + b by rw [Nat.sub_mul]; omega]
            simpa using hv
        have hmun : (g.pushAt (g.mu id) cap s0).mu g.n = g.mu id := by simp [Gh.pushAt]
        have hcn : (g.pushAt (g.mu id) cap s0).cap g.n = cap := by simp [Gh.pushAt]
        have hbn : (g.pushAt (g.mu id) cap s0).bs g.n = s0 := by simp [Gh.pushAt]
        have hobj : ObjRep (g.pushAt (g.mu id) cap s0) g.n (.row T0 i'.size (len + n) fun a b => if a < len then f (off + a) b else src (a - len) b) (some (.cells arr' T0 fr)) := by
          refine ⟨arr', fr, rfl, by rw [hcn, hbn, over_size]; exact hs0, by rw [hcn]; exact hfit, hpos, ?_, fun k hk => hf k (by rwa [over_size] at hk), over_one _ hone ?_⟩
          · intro a b ha hb
            obtain ⟨v, hv, hr⟩ := hrow a b ha hb
            exact ⟨v, by rw [hbn]; exact hv, hr.mono (g.le_pushAt _ _ _)⟩
          · intro v hv
            obtain ⟨k, hk, rfl⟩ := List.getElem_of_mem hv
            exact hca.2.1 k _ (by simpa using hk)
        have hms : ARep (g.pushAt (g.mu id) cap s0) (.ms H.length 0 (len + n) i'.size) (.slice (some ⟨g.mu id, o, none⟩) (len + n) cap) := by
          have := ARep.ms (g := g.pushAt (g.mu id) cap s0) g.n 0 (len + n) i'.size cap o (by simp [Gh.pushAt]) (by rw [hcn]; omega) hfit (fun h => by rw [hbn, hs0' h, ho h]; omega)
          rw [hmun] at this
          rw [← hst.n]; exact this
        refine ⟨_, putB w (g.mu id) (.cells arr' T0 fr), g.pushAt (g.mu id) cap s0, nv_ok (c := .slice (some ⟨g.mu id, o, none⟩) (len + n) cap) ?_, g.le_pushAt _ _ _, hst.moveTo hH rfl cap s0 _ _ hobj, hms, Ext.moveTo hst hH rfl _ _ _ _⟩
        rw [run_append_fits hT hxT hu hi type _ len cap n cx hlen hfit hfirst]
        dsimp only
        rw [add_none]
        by_cases hn0 : n = 0
        · have hnil : new.toList = [] := List.eq_nil_of_length_eq_zero (by rw [hnl, hn0]; omega)
          have harr' : arr' = arr := by show over arr _ new.toList = arr; rw [hnil]; rfl
          rw [hnil, harr', putB_self _ _ _ hob]
          rfl
        · have hcap0 : 0 < cap := by omega
          have := run_storeCells P (g.mu id) (o + len * i'.size) T0 fr new.toList 0 w arr hob hf (fun v hv => by
            obtain ⟨k, hk, rfl⟩ := List.getElem_of_mem hv
            exact hca.2.1 k _ (by simpa using hk)) (by rw [hnl, ho hcap0]; omega)
          rw [this]
          simp only [Result.andThen_ok, Nat.add_zero]
          show Result.ok _ _ = Result.ok _ (putB w (g.mu id) (.cells (over arr (s0 + len * i'.size) new.toList) T0 fr))
          rw [hs0' hcap0, ho hcap0]
      · -- a new row
        obtain ⟨new, hfirst, hca⟩ := hread (drewW w) hst.drew
        have hold : ∃ old, (Builtin.firstCells i'.size len (.slice (some ⟨g.mu id, o, none⟩) len cap)).run P (drewW w) = .ok old (drewW w) ∧ CellsAs g i'.size len (fun a b => f (off + a) b) old := by
          refine run_first fun a b ha hb => ?_
          obtain ⟨v, hv, hr⟩ := hlcell a b ha hb
          refine ⟨v, ?_, hone _ _ hv, hr⟩
          show w.cell? _ = _
          rw [cell_of _ _ _ _ _ _ hob, ho (by omega)]; exact hv
        obtain ⟨old, hold, hcold⟩ := hold
        obtain ⟨newCap, hnc, hrun⟩ := run_append_grows hst hT hxT hu hi hzc hbytes type _ len cap n cx hlen hb2 (by omega) hold hfirst
        have hst2 := (hst.kill id).drew
        obtain ⟨w', g', hnew, hle, hst', harep, hext⟩ := newTail_ok (P := P) hst2 hi hzc hzsz hz1 hpos hnc (hcold.append hca)
        rw [List.length_set] at harep
        exact ⟨_, w', g', nv_ok (by rw [hrun]; rw [show (drewW w).heap.size = w.heap.size from rfl] at hnew harep; rw [hnew]; rfl), hle, hst', harep, (Ext.kill id).trans (Ext.drew.trans hext)⟩
  · trivial

end
end Go.Eng

/- The engine, part 13: each operation, in one theorem. -/
set_option linter.unusedVariables false
set_option linter.unusedSimpArgs false
set_option linter.unnecessarySimpa false
namespace Go.Eng
open Go

section
variable {P : Program} {g : Gh} {H : AHeap} {w : World} {ρ : Operand → AV} {ρc : Operand → Value} (hρ : ∀ x, ARep g (ρ x) (ρc x)) (hst : St g H w)

theorem calleeA_ok {f : AV} {cf : Value} (hf : ARep g f cf) {args : List AV} {cargs : Array Value} (ha : RepL g args cargs) :
    ROk P g H w ((do let d ← Deferred.ofValue cf cargs; invoke d.target d.args : Sem Next).run P w) (calleeA f args) := by
  unfold calleeA
  split
  · rename_i k first cap
    obtain rfl := p_inv hf
    refine ⟨first ++ cargs ++ cap, ?_, ?_⟩
    · simp [Deferred.ofValue, invoke]
    · have h1 := repL_of_map g first.toList
      have h2 := repL_of_map g cap.toList
      simp only [Array.toArray_toList] at h1 h2
      exact (h1.append ha).append h2
  · rename_i k first cap
    cases hf with
    | fn _ _ _ vs ws l1 l2 h1 h2 =>
      refine ⟨vs ++ cargs ++ ws, ?_, (RepL.append (RepL.append ⟨l1, h1⟩ ha) ⟨l2, h2⟩)⟩
      simp [Deferred.ofValue, invoke]
  · rename_i i
    cases hf with
    | yl _ hi =>
      refine ⟨cargs, ?_, ha, hi⟩
      simp [Deferred.ofValue, invoke]
  · trivial

include hρ in
theorem deferA_ok (c : Call) (T : TypeId) : ROk P g H w ((do pure (.defer (← resolve ρc c T)) : Sem Next).run P w) (deferA ρ c) := by
  have ha := repL_map hρ c.args
  unfold deferA
  split
  · rename_i f hc
    have hf := hρ f
    split
    · rename_i k first cap e
      rw [e] at hf
      have e1 := p_inv hf
      refine ⟨{ target := .fn (.func k) cap, args := first ++ c.args.map ρc }, ?_, ?_⟩
      · simp [resolve, hc, Deferred.ofValue, e1]
      · have h1 := repL_of_map g first.toList
        have h2 := repL_of_map g cap.toList
        simp only [Array.toArray_toList] at h1 h2
        exact .fn _ _ _ _ _ h2 (h1.append ha)
    · rename_i k first cap e
      rw [e] at hf
      generalize hcf : ρc f = cf at hf
      cases hf with
      | fn _ _ _ vs ws l1 l2 h1 h2 =>
        refine ⟨{ target := .fn (.func k) ws, args := vs ++ c.args.map ρc }, ?_, .fn _ _ _ _ _ ⟨l2, h2⟩ (RepL.append ⟨l1, h1⟩ ha)⟩
        simp [resolve, hc, Deferred.ofValue, hcf]
    · trivial
  · trivial

theorem closed_builtin (hρ : ∀ x, ARep g (ρ x) (ρc x)) (o : Oper) (c : Call) (b : Builtin) (ho : o.op = .call c) (hc : c.callee = .builtin b) : ROk P g H w ((execOp ρc o).run P w) (closedA P ρ o) := by
  refine closedA_ok hρ o ?_
  intro hx
  simp only [ho, Op.operands, Call.operands, hc] at hx
  have : c.args.map ρc = c.args.map (rhoP ρ) := by
    apply Array.map_congr_left
    intro x hx'
    exact hx x (by simpa using hx')
  simp only [execOp, ho, resolve, hc, this]

include hst in
theorem callA_ok (hρ : ∀ x, ARep g (ρ x) (ρc x)) (o : Oper) (c : Call) (ho : o.op = .call c) : ROk P g H w ((execOp ρc o).run P w) (callA P H ρ o c) := by
  unfold callA
  split
  · rename_i f hc
    have := calleeA_ok (P := P) (H := H) (w := w) (hρ f) (repL_map hρ c.args)
    simpa [execOp, ho, resolve, hc] using this
  · trivial
  · rename_i b hc
    split
    · rename_i x t ts ha ht
      exact lenA_ok hst hρ o t x c ts ho hc ha ht
    · rename_i s x t u ha ht
      have ha' : c.args = #[s, x] := by apply Array.ext'; simpa using ha
      have ht' : c.argTypes = #[t, u] := by apply Array.ext'; simpa using ht
      have := appendA_ok (P := P) hst (hρ s) (hρ x) t u o.type
      simpa [execOp, ho, resolve, hc, invoke, builtin, ha', ht', nv] using this
    · show _ = _
      simp [execOp, ho, resolve, hc, invoke, builtin]
    · rename_i x ha
      have ha' : c.args = #[x] := by apply Array.ext'; simpa using ha
      split
      · rename_i id off len esz hx
        split
        · rename_i hlen
          have hr1 := hρ x
          rw [hx] at hr1
          generalize hcd : ρc x = cd at hr1
          cases hr1 with
          | ms _ _ _ _ cap ao hid h2 h3 h4 =>
            refine ⟨.pointer (some ⟨g.mu id, g.bs id + (off * esz + 0), none⟩), ?_, .mr id off 0 esz hid⟩
            have hao : ao = g.bs id + (off * esz + 0) := by rw [h4 (by omega)]; omega
            subst hao
            have hc0 : cap ≠ 0 := by omega
            have hsd : (nv (Builtin.unsafeSliceData_ c.argTypes o.type #[.slice (some ⟨g.mu id, g.bs id + (off * esz + 0), none⟩) len cap])).run P w = .ok (.value (.pointer (some ⟨g.mu id, g.bs id + (off * esz + 0), none⟩))) w := by
              refine nv_ok ?_
              have e0 : Builtin.unsafeSliceData_ c.argTypes o.type #[.slice (some ⟨g.mu id, g.bs id + (off * esz + 0), none⟩) len cap] = (if cap ≠ 0 then pure (.pointer (some ⟨g.mu id, g.bs id + (off * esz + 0), none⟩))
                else do
                  if (← viewAt (g.mu id)).isSome then pure (.pointer (some ⟨g.mu id, g.bs id + (off * esz + 0), none⟩))
                  else pure (.pointer (some ⟨← newObj (.view ⟨g.mu id, g.bs id + (off * esz + 0), none⟩ (← elemOf o.type)), 0, none⟩)) : Sem Value) := rfl
              rw [e0, if_pos hc0]
              rfl
            simpa [execOp, ho, resolve, hc, invoke, builtin, ha', nv, hcd] using hsd
        · trivial
      · exact closed_builtin hρ o c _ ho hc
    · rename_i x ha
      have ha' : c.args = #[x] := by apply Array.ext'; simpa using ha
      split
      · rename_i t v e
        have hx := hρ x
        rw [e] at hx
        generalize hcx : ρc x = cx at hx
        cases hx with
        | ifc _ _ u hu =>
          refine ⟨.iface t u, ?_, .ifc t v u hu⟩
          simp [execOp, ho, resolve, hc, invoke, builtin, ha', hcx, Instr.panic]
      · exact closed_builtin hρ o c _ ho hc
    · exact closed_builtin hρ o c _ ho hc

theorem clos1 (hρ : ∀ x, ARep g (ρ x) (ρc x)) (o : Oper) (h : (∀ x ∈ o.op.operands.toList, ρc x = rhoP ρ x) → execOp ρc o = execOp (rhoP ρ) o) :
    ROk P g H w ((execOp ρc o).run P w) (closedA P ρ o) := closedA_ok hρ o h

include hst in
theorem rangeA_ok {x : AV} {c : Value} (hx : ARep g x c) (T : TypeId) : ROk P g H w ((nv (Instr.range T c)).run P w) (rangeA P H T x) := by
  unfold rangeA
  split
  · rename_i s hT
    obtain rfl := p_inv hx
    have hmp : ARep (g.push w.heap.size 0) (.mp H.length 0) (.pointer (some ⟨w.heap.size, 0, none⟩)) := by
      have := ARep.mp (g := g.push w.heap.size 0) g.n 0 (by simp [Gh.push_n])
      rw [Gh.push_mu] at this
      rw [← hst.n]; exact this
    refine ⟨_, _, g.push w.heap.size 0, nv_ok (c := .pointer (some ⟨w.heap.size, 0, none⟩)) (w' := pushW w (.stringIter s 0)) ?_, g.le_push _ _, hst.push _ _ _ rfl, hmp, Ext.push hst _ _ _⟩
    simp only [Instr.range, Sem.run_bind, run_underlying hT, Result.andThen_ok, Sem.run_pure, run_newObj]
    rfl
  · trivial

include hst in
theorem nextA_ok {it : AV} {c : Value} (hx : ARep g it c) (isString : Bool) (T : TypeId) : ROk P g H w ((nv (Instr.next c isString T)).run P w) (nextA H it isString) := by
  unfold nextA
  split
  · rename_i id
    cases hx with
    | mp _ _ hid =>
      split
      · rename_i s pos hH
        have hob : w.heap[g.mu id]? = some (.stringIter s pos) := hst.obj id _ hH
        refine ⟨fun hc => ?_, fun hc => ?_⟩
        · have hc : pos < s.size := by simpa using hc
          refine ⟨.tuple #[.bool true, .int .i64 pos, .int .i32 (Utf8.decode s pos).1], putB w (g.mu id) (.stringIter s (pos + (Utf8.decode s pos).2)), g, nv_ok ?_, Gh.le.refl g, hst.put hH rfl _ rfl _ rfl, ?_, Ext.put hst hH rfl _ _⟩
          · simp only [Instr.next, Sem.run_bind, run_getObj hob (by intros; simp), Result.andThen_ok, if_pos hc, Sem.run_pure]
            rw [run_setObj hob (by intros; simp)]
            rfl
          · have := RepL.cons (ARep.tt (g := g)) (RepL.cons (ARep.d _ _ (.p (.int .i64 pos))) (RepL.one (ARep.d (g := g) _ _ (.p (.int .i32 (Utf8.decode s pos).1)))))
            exact .tu _ _ this.1 this.2
        · have hc : ¬ pos < s.size := by simpa using hc
          refine ⟨.tuple #[.bool false], nv_ok ?_, ?_⟩
          · simp only [Instr.next, Sem.run_bind, run_getObj hob (by intros; simp), Result.andThen_ok, if_neg hc, Sem.run_pure]
          · have := RepL.one (ARep.ff (g := g))
            exact .tu _ _ this.1 this.2
      · trivial
  · trivial

include hst in
/-- EACH OPERATION: what it does in the abstract, it does in the model. -/
theorem aexec_ok (hρ : ∀ x, ARep g (ρ x) (ρc x)) (o : Oper) : ROk P g H w ((execOp ρc o).run P w) (aexec P H ρ o) := by
  unfold aexec
  split
  · rename_i x ho; exact ⟨ρc x, by simp [execOp, ho], hρ x⟩
  · rename_i x ho; exact ⟨ρc x, by simp [execOp, ho], hρ x⟩
  · rename_i c a b ho
    have hc := hρ c
    split
    · rename_i e; rw [e] at hc
      generalize hcc : ρc c = cc at hc
      cases hc; exact ⟨ρc a, by simp [execOp, ho, hcc, asBool], hρ a⟩
    · rename_i e; rw [e] at hc
      generalize hcc : ρc c = cc at hc
      cases hc; exact ⟨ρc b, by simp [execOp, ho, hcc, asBool], hρ b⟩
    · rename_i t e; rw [e] at hc
      have e1 := p_inv hc
      refine ⟨?_, ?_⟩
      · rintro rfl; exact ⟨ρc a, by simp [execOp, ho, e1, asBool], hρ a⟩
      · rintro rfl; exact ⟨ρc b, by simp [execOp, ho, e1, asBool], hρ b⟩
    · trivial
  · rename_i T ho
    have := alloc_ok (P := P) hst T
    simp only [execOp, ho]
    exact this
  · rename_i T x ho
    have := box_ok (P := P) hst T (hρ x)
    simp only [execOp, ho]
    exact this
  · rename_i T parts ho
    have := buildA_ok (P := P) (H := H) (w := w) hρ T parts
    simp only [execOp, ho]
    exact this
  · rename_i T len parts ho
    have := buildSliceA_ok (P := P) hρ hst T len parts
    simp only [execOp, ho]
    exact this
  · rename_i T a ho
    have := loadA_ok (P := P) hst T (hρ a)
    simp only [execOp, ho]
    exact this
  · rename_i T a v ho
    have := storeA_ok (P := P) hst T (hρ a) (hρ v)
    simp only [execOp, ho]
    exact this
  · rename_i x ho
    exact nilCheckA_ok hρ o x ho
  · rename_i op T x y yT ho
    exact binA_ok hρ o op T x y yT ho
  · rename_i T x ho
    split
    · trivial
    · rename_i u hne hT
      refine ⟨.iface T (ρc x), ?_, .ifc _ _ _ (hρ x)⟩
      simp only [execOp, ho]
      refine nv_ok ?_
      simp only [Instr.makeInterface, Sem.run_bind, run_underlying hT, Result.andThen_ok]
      cases u <;> first | rfl | (exact absurd rfl (hne _))
    · trivial
  · rename_i fn first cap ho
    split
    · rename_i k
      have h1 := repL_map hρ first
      have h2 := repL_map hρ cap
      exact ⟨.func (.func k) (first.map ρc) (cap.map ρc), by simp [execOp, ho, Instr.makeFunc], .fn _ _ _ _ _ h1.1 h2.1 h1.2 h2.2⟩
    · trivial
  · rename_i T ho
    have := makeMapA_ok (P := P) hst T
    simp only [execOp, ho]
    exact this
  · rename_i T l c ho
    have := makeSliceA_ok (P := P) hst (hρ l) (hρ c) T
    simp only [execOp, ho]
    exact this
  · rename_i T x lo hi mx ho
    have := sliceA_ok (P := P) (H := H) (w := w) hρ o T x lo hi mx
    simp only [execOp, ho]
    exact this
  · rename_i s x f ho
    have := fieldAddrA_ok (P := P) (H := H) (w := w) (hρ x) s f
    simp only [execOp, ho]
    exact this
  · rename_i T x f ho
    have := fieldA_ok (P := P) (H := H) (w := w) (hρ x) T f
    simp only [execOp, ho]
    exact this
  · rename_i T x ix ho
    have := indexAddrA_ok (P := P) (H := H) (w := w) (hρ x) (hρ ix) T
    simp only [execOp, ho]
    exact this
  · rename_i T x ix ho
    have := indexA_ok (P := P) (H := H) (w := w) (ρ := ρ) o (hρ x) (hρ ix) T
    simp only [execOp, ho]
    exact this
  · rename_i T x k ok ho
    have := lookupA_ok (P := P) hst (hρ x) (hρ k) T ok
    simp only [execOp, ho]
    exact this
  · rename_i T m k v ho
    have := mapUpdateA_ok (P := P) hst (hρ m) (hρ k) (hρ v) T
    simp only [execOp, ho]
    exact this
  · rename_i T m k v ho
    have := mapUpdateA_ok (P := P) hst (hρ m) (hρ k) (hρ v) T
    simp only [execOp, ho]
    exact this
  · rename_i t ix ho
    have ht := hρ t
    split
    · rename_i vs e
      rw [e] at ht
      generalize hct : ρc t = ct at ht
      cases ht with
      | tu _ us hl hh =>
        split
        · rename_i v hv
          obtain ⟨u, hu, hr⟩ := RepL.get ⟨hl, hh⟩ hv
          exact ⟨u, by simp [execOp, ho, hct, Instr.extract, hu], hr⟩
        · trivial
    · refine clos1 hρ o ?_
      intro hx
      simp only [ho, Op.operands] at hx
      simp only [execOp, ho, hx t (by simp)]
  · rename_i x xT T ok ho
    exact typeAssertA_ok hρ o x xT T ok ho
  · rename_i c ho
    exact callA_ok hst hρ o c ho
  · rename_i c ho
    have := deferA_ok (P := P) (H := H) (w := w) hρ c o.type
    simpa [execOp, ho] using this
  · rename_i x ho
    have hx := hρ x
    split
    · rename_i t v e
      rw [e] at hx
      generalize hcx : ρc x = cx at hx
      cases hx with
      | ifc _ _ u hu =>
        refine ⟨.iface t u, ?_, .ifc t v u hu⟩
        simp [execOp, ho, hcx, Instr.panic]
    · refine clos1 hρ o ?_
      intro hx'
      simp only [ho, Op.operands] at hx'
      simp only [execOp, ho, hx' x (by simp)]
  · rename_i T x ho
    have := rangeA_ok (P := P) hst (hρ x) T
    simp only [execOp, ho]
    exact this
  · rename_i it isString ho
    have := nextA_ok (P := P) hst (hρ it) isString o.type
    simp only [execOp, ho]
    exact this
  · rename_i ho
    refine clos1 hρ o ?_
    intro hx'
    simp only [ho, Op.operands] at hx'
    simp only [execOp, ho, hx' _ (List.mem_singleton.2 rfl)]
  · rename_i ho
    refine clos1 hρ o ?_
    intro hx'
    simp only [ho, Op.operands] at hx'
    simp only [execOp, ho, hx' _ (List.mem_singleton.2 rfl)]
  · trivial

theorem evalA_ok {tmps : List AV} {ts : Array Value} (h : RepL g tmps ts) (d : List Deferred) (x : Operand) : ARep g (evalA tmps x) (({ tmps := ts, defers := d } : Act).eval x) := by
  cases x with
  | tmp t =>
    simp only [evalA, Act.eval]
    rcases Nat.lt_or_ge t tmps.length with hlt | hge
    · obtain ⟨v, hv, hr⟩ := h.get (List.getElem?_eq_getElem hlt)
      rw [List.getD_eq_getElem?_getD, List.getElem?_eq_getElem hlt, Array.getD_eq_getD_getElem?, hv]
      exact hr
    · have hge' : ts.size ≤ t := by rw [← h.1]; exact hge
      rw [List.getD_eq_getElem?_getD, List.getElem?_eq_none hge, Array.getD_eq_getD_getElem?, Array.getElem?_eq_none hge']
      exact .un
  | const v =>
    simp only [evalA, Act.eval]
    split
    · exact .tt
    · exact .ff
    · exact .d _ _ (.p _)
  | global k => exact .d _ _ (.p _)
  | func f => exact .d _ _ (.p _)

end
end Go.Eng

/- The engine, part W1: conversions of texts and rows of bytes; methods called on interface values. -/
set_option linter.unusedVariables false
set_option linter.unusedSimpArgs false
set_option linter.unnecessarySimpa false
namespace Go.Eng
open Go

def byteOf : AV → Option Int
  | .d (.p (.int .u8 n)) => some n
  | _ => none

def bytesW (f : Nat → AV) : List Nat → Option (List Int)
  | [] => some []
  | i :: is => match byteOf (f i) with
    | some b => match bytesW f is with
      | some bs => some (b :: bs)
      | none => none
    | none => none

def convW (P : Program) (H : AHeap) (ρ : Operand → AV) (o : Oper) (src dst : TypeId) (x : Operand) : ARes :=
  match P.underlying src, P.underlying dst, ρ x with
  | some (.slice e), some .string, .ms id off len 1 =>
    match P.underlying e, H[id]? with
    | some (.int .u8), some (.row _ 1 n f) =>
      if off + len ≤ n then
        match bytesW (fun i => f (off + i) 0) (List.range len) with
        | some bs => .val (.d (.p (.string ⟨(bs.map fun n => UInt8.ofNat n.toNat).toArray⟩)))
        | none => .stuck
      else .stuck
    | _, _ => .stuck
  | some .string, some (.slice e), .d (.p (.string s)) =>
    match P.underlying e with
    | some (.int .u8) => .valH (.ms H.length 0 s.size 1) (H ++ [.row e 1 s.size fun a _ => .d (.p (.int .u8 (s.data[a]?.getD 0).toNat))])
    | _ => .stuck
  | _, _, _ => closedA P ρ o

def invokeW (P : Program) (ρ : Operand → AV) (recv : Operand) (m : String) (args : List AV) : ARes :=
  match ρ recv with
  | .ifc t x =>
    match P.info? t, P.underlying t with
    | some i, some (.pointer _) =>
      match i.methods.find? (·.name == m) with
      | some mm => match mm.func, mm.path.toList with
        | some (f, true), [] => .call f (x :: args)
        | _, _ => .stuck
      | none => .stuck
    | _, _ => .stuck
  | _ => .stuck

/-- An operation that stands in the order of the text. -/
def aexecW (P : Program) (H : AHeap) (ρ : Operand → AV) (o : Oper) : ARes :=
  match o.op with
  | .convert s d x => convW P H ρ o s d x
  | .call { callee := .invoke r m, args, .. } => invokeW P ρ r m (args.toList.map ρ)
  | _ => aexec P H ρ o

section
variable {P : Program} {g : Gh} {H : AHeap} {w : World} {ρ : Operand → AV} {ρc : Operand → Value} (hρ : ∀ x, ARep g (ρ x) (ρc x)) (hst : St g H w)

theorem bytesW_ok {f : Nat → AV} : ∀ {is : List Nat} {bs : List Int}, bytesW f is = some bs → bs.length = is.length ∧ ∀ (k i : Nat), is[k]? = some i → ∃ n : Int, bs[k]? = some n ∧ f i = .d (.p (.int .u8 n))
  | [], bs, h => by
    simp only [bytesW, Option.some.injEq] at h
    subst h
    exact ⟨rfl, fun k i h => by simp at h⟩
  | j :: is, bs, h => by
    rw [bytesW] at h
    split at h
    · rename_i b hb
      split at h
      · rename_i bs' hbs
        cases h
        obtain ⟨h1, h2⟩ := bytesW_ok hbs
        refine ⟨by simp [h1], fun k i hk => ?_⟩
        cases k with
        | zero =>
          simp only [List.getElem?_cons_zero, Option.some.injEq] at hk
          subst hk
          unfold byteOf at hb
          split at hb
          · rename_i n e
            cases hb
            exact ⟨_, rfl, e⟩
          · cases hb
        | succ k => exact h2 k i (by simpa using hk)
      · cases h
    · cases h

theorem foldl_pushB (bs : List Int) : ∀ s : ByteArray, bs.foldl (fun r n => r.push (UInt8.ofNat n.toNat)) s = ⟨s.data ++ (bs.map fun n => UInt8.ofNat n.toNat).toArray⟩ := by
  induction bs with
  | nil => intro s; simp
  | cons b bs ih =>
    intro s
    rw [List.foldl_cons, ih]
    simp [ByteArray.push]

include hst in
theorem convW_ok (hρ : ∀ x, ARep g (ρ x) (ρc x)) (o : Oper) (src dst : TypeId) (x : Operand) (ho : o.op = .convert src dst x) :
    ROk P g H w ((execOp ρc o).run P w) (convW P H ρ o src dst x) := by
  unfold convW
  split
  · rename_i e id off len hs hd hx
    split
    · rename_i T n f he hH
      split
      · rename_i hle
        split
        · rename_i bs hbs
          have hr := hρ x
          rw [hx] at hr
          generalize hcx : ρc x = cx at hr
          cases hr with
          | ms _ _ _ _ cap a hid h2 h3 ha =>
            refine ⟨.string ⟨(bs.map fun n => UInt8.ofNat n.toNat).toArray⟩, ?_, .d _ _ (.p _)⟩
            simp only [execOp, ho, hcx]
            refine nv_ok ?_
            unfold convert
            simp only [Sem.run_bind, run_underlying hs, run_underlying hd, Result.andThen_ok]
            simp only [Sem.run_bind, run_underlying he, Result.andThen_ok]
            obtain ⟨hlen, hb⟩ := bytesW_ok hbs
            rw [List.length_range] at hlen
            obtain ⟨arr, fr, hob, hsz, hn, hpos, hcell, hf, hone⟩ := hst.obj id _ hH
            have hl := run_loadCells P w (g.mu id) a len (fun j => .int .u8 (bs.getD j 0)) (fun j hj => by
              obtain ⟨v, hv, hrv⟩ := hcell (off + j) 0 (by omega) (by omega)
              obtain ⟨m, hm1, hm2⟩ := hb j j (by rw [List.getElem?_range hj])
              rw [hm2] at hrv
              have hve := p_inv hrv
              rw [cell_of _ _ _ _ _ _ hob, ha (by omega)]
              rw [List.getD_eq_getElem?_getD, hm1, Option.getD_some]
              rw [← hve, ← hv]
              congr 1
              omega)
            have hll : ((List.range len).map fun j => Value.int .u8 (bs.getD j 0)) = bs.map (Value.int .u8) := by
              apply List.ext_getElem
              · simp [hlen]
              · intro j h1 h2
                simp only [List.getElem_map, List.getElem_range]
                congr 1
                rw [List.getD_eq_getElem?_getD, List.getElem?_eq_getElem (by simpa using h2), Option.getD_some]
            rw [hll] at hl
            rw [run_bytesToString w _ len cap bs hl, foldl_pushB]
            simp [ByteArray.empty, ByteArray.emptyWithCapacity]
            rfl
        · trivial
      · trivial
    · trivial
  · rename_i e s hs hd hx
    split
    · rename_i he
      have hr := hρ x
      rw [hx] at hr
      generalize hcx : ρc x = cx at hr
      obtain rfl := p_inv hr
      simp only [execOp, ho, hcx]
      unfold convert
      simp only [Sem.run_bind, run_underlying hs, run_underlying hd, Result.andThen_ok]
      simp only [Sem.run_bind, run_underlying he, Result.andThen_ok]
      have hnf : (Question.appendCap s.size 0 e).forced = false := rfl
      generalize hcap : (Question.appendCap s.size 0 e).cut (w.tape w.drawn (Question.appendCap s.size 0 e)) = cap
      have hcs : s.size ≤ cap := by rw [← hcap]; simp [Question.cut]
      let arr : Array Value := (s.data.map fun b => Value.int .u8 b.toNat) ++ Array.replicate (cap - s.size) (.int .u8 0)
      have hasz : arr.size = cap := by
        have : s.data.size = s.size := rfl
        simp [arr, this]; omega
      have hrun : (Conv.stringToBytes e s).run P w = .ok (.slice (some ⟨w.heap.size, 0, none⟩) s.size cap) (pushW (drewW w) (.cells arr e (cap, cap + 1))) := by
        simp only [Conv.stringToBytes, Sem.run_bind]
        rw [show (choose (Question.appendCap s.size 0 e)).run P w = .ok cap (drewW w) by
          simp [choose, Sem.run, hnf, hcap, drewW]]
        simp only [Result.andThen_ok]
        rw [show (newRow e ((s.data.map fun b => Value.int .u8 b.toNat) ++ Array.replicate (cap - s.size) (.int .u8 0))).run P (drewW w) = .ok ⟨w.heap.size, 0, none⟩ (pushW (drewW w) (.cells arr e)) by
          simp [newRow, pushW, drewW, arr]]
        simp only [Result.andThen_ok, markStringish, Sem.run_bind]
        rw [show (shape w.heap.size).run P (pushW (drewW w) (.cells arr e)) = .ok (some (e, cap)) (pushW (drewW w) (.cells arr e)) by
          have : (pushW (drewW w) (.cells arr e)).heap[w.heap.size]? = some (.cells arr e) := pushW_new (drewW w) _
          simp [shape, Sem.run, World.shape?, this, hasz]]
        simp only [Result.andThen_ok]
        rw [show (freeze { block := w.heap.size, off := cap } 1).run P (pushW (drewW w) (.cells arr e)) = .ok () (pushW (drewW w) (.cells arr e (cap, cap + 1))) by
          have hm : (pushW (drewW w) (.cells arr e)).freeze { block := w.heap.size, off := cap } 1 = pushW (drewW w) (.cells arr e (cap, cap + 1)) := by
            simp only [World.freeze, pushW, drewW]
            rw [if_neg (by omega)]
            simp only [World.mk.injEq, and_true]
            apply Array.ext_getElem?
            intro i
            rw [Array.getElem?_modify, Array.getElem?_push, Array.getElem?_push]
            by_cases h : w.heap.size = i
            · simp [h]
            · simp [h, Ne.symm h]
          simp [freeze, Sem.run, hm]]
        simp only [Result.andThen_ok, Sem.run_pure]
      have hst2 := hst.drew
      have hE : Ext g.imm (foot g H) w g.imm (foot g H) (drewW w) := Ext.drew
      have hbyte : ∀ a, a < s.size → arr[a]? = some (.int .u8 (s.data[a]?.getD 0).toNat) := by
        intro a ha
        have ha' : a < s.data.size := ha
        simp only [arr]
        rw [Array.getElem?_append_left (by simpa using ha'), Array.getElem?_map, Array.getElem?_eq_getElem ha']
        rfl
      have hone : oneCells arr := by
        intro k v hv
        simp only [arr] at hv
        rcases Nat.lt_or_ge k s.data.size with hk | hk
        · rw [Array.getElem?_append_left (by simpa using hk), Array.getElem?_map, Array.getElem?_eq_getElem hk] at hv
          cases hv; rfl
        · rw [Array.getElem?_append_right (by simpa using hk), Array.getElem?_replicate] at hv
          split at hv
          · cases hv; rfl
          · cases hv
      refine ⟨.slice (some ⟨w.heap.size, 0, none⟩) s.size cap, pushW (drewW w) (.cells arr e (cap, cap + 1)), g.push w.heap.size cap, ?_, g.le_push _ _, ?_, ?_, ?_⟩
      · rw [hrun]; rfl
      · refine hst2.push _ _ _ ?_
        refine ⟨arr, (cap, cap + 1), rfl, by rw [Gh.push_bs, Gh.push_cap, hasz]; omega, by rw [Gh.push_cap]; exact hcs, by omega, ?_, fun k hk h => by rw [hasz] at hk; simp only [] at h; omega, hone⟩
        intro a b ha hb
        obtain rfl : b = 0 := by omega
        exact ⟨_, by rw [Gh.push_bs]; simpa using hbyte a ha, .d _ _ (.p _)⟩
      · have := ARep.ms (g := g.push w.heap.size cap) g.n 0 s.size 1 cap 0 (by simp [Gh.push_n]) (by rw [Gh.push_cap]; omega) hcs (fun _ => by rw [Gh.push_bs])
        rw [Gh.push_mu] at this
        rw [← hst.n]; exact this
      · exact hE.trans (Ext.push hst2 _ _ _)
    · trivial
  · refine clos1 hρ o ?_
    intro hx'
    simp only [ho, Op.operands] at hx'
    simp only [execOp, ho, hx' _ (List.mem_singleton.2 rfl)]

theorem invokeW_ok (hρ : ∀ x, ARep g (ρ x) (ρc x)) (o : Oper) (c : Call) (recv : Operand) (m : String) (ho : o.op = .call c) (hc : c.callee = .invoke recv m) :
    ROk P g H w ((execOp ρc o).run P w) (invokeW P ρ recv m (c.args.toList.map ρ)) := by
  unfold invokeW
  split
  rotate_left
  · trivial
  rename_i t x hx
  split
  rotate_left
  · trivial
  rename_i i e hi hu
  split
  rotate_left
  · trivial
  rename_i mm hm
  split
  rotate_left
  · trivial
  rename_i f hf hp
  have hr := hρ recv
  rw [hx] at hr
  generalize hcr : ρc recv = cr at hr
  cases hr with
  | ifc _ _ v hv =>
    refine ⟨#[v] ++ c.args.map ρc, ?_, ?_⟩
    · have hmeth : ∀ k, (method (k + 1) t v m).run P w = .ok (f, v) w := by
        intro k
        simp only [method, Sem.run_bind, run_typeInfo hi, Result.andThen_ok, hm, hp, follow, Sem.run_pure, hf, receiverAt, run_underlying hu, Place.get]
      have hfuel : P.types.size + Made.depth = (P.types.size + 99) + 1 := rfl
      have hex : (#[Value.iface t v] ++ Array.map ρc c.args).extract 1 = Array.map ρc c.args := by
        apply Array.ext'
        simp [List.take_of_length_le]
      have h0 : (#[Value.iface t v] ++ Array.map ρc c.args)[0]? = some (.iface t v) := by
        rw [Array.getElem?_append_left (Nat.zero_lt_one)]; rfl
      simp only [execOp, ho, resolve, hc, hcr, Sem.run_bind, Sem.run_pure, Result.andThen_ok, invoke, h0, callMethod]
      rw [run_program]
      simp only [Result.andThen_ok]
      rw [hfuel, hmeth]
      simp only [Result.andThen_ok]
      rw [show (#[Value.iface t v] ++ Array.map ρc c.args).extract 1 (#[Value.iface t v] ++ Array.map ρc c.args).size = Array.map ρc c.args from hex]
    · have h1 := RepL.one hv
      have h2 := repL_map hρ c.args
      exact h1.append h2

include hst in
theorem aexecW_ok (hρ : ∀ x, ARep g (ρ x) (ρc x)) (o : Oper) : ROk P g H w ((execOp ρc o).run P w) (aexecW P H ρ o) := by
  unfold aexecW
  split
  · rename_i s d x ho
    exact convW_ok hst hρ o s d x ho
  · rename_i r m args ts ho
    exact invokeW_ok hρ o _ r m ho rfl
  · exact aexec_ok hst hρ o

end
end Go.Eng

/- The engine, part W2: what package strings' Builder does with addresses and bytes. -/
set_option linter.unusedVariables false
set_option linter.unusedSimpArgs false
set_option linter.unnecessarySimpa false
namespace Go.Eng
open Go

def ptrConvV (P : Program) (H : AHeap) (ρ : Operand → AV) (o : Oper) (src dst : TypeId) (x : Operand) : ARes :=
  match P.underlying src, P.underlying dst, ρ x with
  | some (.pointer t), some .unsafePointer, .mp id off =>
    match H[id]?, P.info? t with
    | some (.cells cs _), some i => if i.size ≠ 0 ∧ off < cs.length then .val (.mp id off) else .stuck
    | _, _ => .stuck
  | some .unsafePointer, some (.pointer u), .mp id off =>
    match H[id]?, P.info? u with
    | some (.cells cs T), some _ => if liesAt P P.depth T (cs.length / P.cellsOf T) off u 1 then .val (.mp id off) else .stuck
    | _, _ => .stuck
  | _, _, _ => convW P H ρ o src dst x

def ptrEqV (P : Program) (H : AHeap) (ρ : Operand → AV) (o : Oper) (op : BinOp) (T : TypeId) (x y : Operand) : ARes :=
  match ρ x, ρ y with
  | .mp i a, .mp j b =>
    match P.underlying T with
    | some (.pointer e) =>
      match P.info? e with
      | some k =>
        if i = j ∧ k.size ≠ 0 then
          match op with
          | .eql => .val (.d (.p (.bool (a == b))))
          | .neq => .val (.d (.p (.bool (!(a == b)))))
          | _ => .stuck
        else .stuck
      | none => .stuck
    | _ => .stuck
  | .d (.p (.string a)), .d (.p (.string b)) =>
    match op with
    | .add => .need (decide (a.size + b.size ≤ 9223372036854775807)) (.val (.d (.p (.string (a ++ b)))))
    | _ => aexec P H ρ o
  | _, _ => aexec P H ρ o

/-- The bytes of a row, as a text: the row is given up (its bytes are the text's from now on). -/
def textV (P : Program) (H : AHeap) (pt : TypeId) (p n : AV) : ARes :=
  match p, n, P.underlying pt with
  | .mr id k 0 1, .d (.p (.int _ n)), some (.pointer u) =>
    match H[id]? with
    | some (.row T 1 m f) =>
      if 0 < n ∧ n ≤ 2 ^ 62 ∧ k + n.toNat ≤ m ∧ P.cellsOf T = 1 ∧ sameLayout P P.depth T u = true then
        match bytesW (fun i => f (k + i) 0) (List.range n.toNat) with
        | some bs => .valH (.d (.p (.string ⟨(bs.map fun n => UInt8.ofNat n.toNat).toArray⟩))) (H.set id .dead)
        | none => .stuck
      else .stuck
    | _ => .stuck
  | _, _, _ => .stuck

def callV (P : Program) (H : AHeap) (ρ : Operand → AV) (o : Oper) (c : Call) : ARes :=
  match c.callee with
  | .builtin .copy =>
    match c.args.toList, c.argTypes.toList with
    | [d, s], t :: _ => match ρ d, ρ s, P.underlying t with
      | .ms _ _ _ _, .d (.p (.slice none 0 0)), some (.slice e) => if (P.info? e).isSome then .val (.d (.p (.int .i64 0))) else .stuck
      | _, _, _ => aexecW P H ρ o
    | _, _ => aexecW P H ρ o
  | .builtin .unsafeString =>
    match c.args.toList, c.argTypes.toList with
    | [p, n], t :: _ => match ρ p with
      | .mr _ _ _ _ => textV P H t (ρ p) (ρ n)
      | _ => aexecW P H ρ o
    | _, _ => aexecW P H ρ o
  | _ => aexecW P H ρ o

def aexecV (P : Program) (H : AHeap) (ρ : Operand → AV) (o : Oper) : ARes :=
  match o.op with
  | .convert s d x => ptrConvV P H ρ o s d x
  | .binOp op T x y _ => ptrEqV P H ρ o op T x y
  | .call c => callV P H ρ o c
  | _ => aexecW P H ρ o

section
variable {P : Program} {g : Gh} {H : AHeap} {w : World} {ρ : Operand → AV} {ρc : Operand → Value} (hρ : ∀ x, ARep g (ρ x) (ρc x)) (hst : St g H w)

theorem run_shape {b : Nat} {arr : Array Value} {T : TypeId} {fr : Nat × Nat} (h : w.heap[b]? = some (.cells arr T fr)) : (shape b).run P w = .ok (some (T, arr.size)) w := by
  simp [shape, Sem.run, World.shape?, h]

theorem run_viewAt {b : Nat} {arr : Array Value} {T : TypeId} {fr : Nat × Nat} (h : w.heap[b]? = some (.cells arr T fr)) : (viewAt b).run P w = .ok none w := by
  simp only [viewAt, Sem.run_bind, run_shape h, Result.andThen_ok]
  rfl

theorem run_seenAt {b o : Nat} {arr : Array Value} {T : TypeId} {fr : Nat × Nat} (h : w.heap[b]? = some (.cells arr T fr)) : (Conv.seenAt ⟨b, o, none⟩).run P w = .ok ⟨b, o, none⟩ w := by
  simp only [Conv.seenAt, Sem.run_bind, run_viewAt h, Result.andThen_ok]
  rfl

theorem run_cellsIn {b : Nat} {arr : Array Value} {T : TypeId} {fr : Nat × Nat} (h : w.heap[b]? = some (.cells arr T fr)) : (cellsIn b).run P w = .ok (some arr.size) w := by
  simp only [cellsIn, Sem.run_bind, run_shape h, Result.andThen_ok]
  rfl

include hst in
theorem ptrConvV_ok (hρ : ∀ x, ARep g (ρ x) (ρc x)) (o : Oper) (src dst : TypeId) (x : Operand) (ho : o.op = .convert src dst x) :
    ROk P g H w ((execOp ρc o).run P w) (ptrConvV P H ρ o src dst x) := by
  unfold ptrConvV
  split
  · rename_i t id off hs hd hx
    split
    rotate_left
    · trivial
    rename_i cs T i hH hi
    split
    rotate_left
    · trivial
    rename_i hc
    have hr := hρ x
    rw [hx] at hr
    generalize hcx : ρc x = cx at hr
    cases hr with
    | mp _ _ hid =>
      obtain ⟨arr, fr, hob, hrep, _, _⟩ := hst.obj id _ hH
      refine ⟨_, ?_, .mp id off hid⟩
      simp only [execOp, ho, hcx]
      refine nv_ok ?_
      unfold convert
      simp only [Sem.run_bind, run_underlying hs, run_underlying hd, Result.andThen_ok]
      unfold Conv.unsafePointer
      simp only [Sem.run_bind, run_underlying hs, run_underlying hd, Result.andThen_ok, run_seenAt hob, run_cellsIn hob, run_sizeOf hi]
      have h1 : (decide (i.size = 0)) = false := by simpa using hc.1
      have h2 : (decide (off ≥ arr.size)) = false := by have := hrep.1; simp; omega
      simp [h1, h2, hc.1, Sem.run_pure, show ¬ (arr.size ≤ off) by have := hrep.1; omega]
  · rename_i u id off hs hd hx
    split
    rotate_left
    · trivial
    rename_i cs T i hH hi
    split
    rotate_left
    · trivial
    rename_i hc
    have hr := hρ x
    rw [hx] at hr
    generalize hcx : ρc x = cx at hr
    cases hr with
    | mp _ _ hid =>
      obtain ⟨arr, fr, hob, hrep, _, _⟩ := hst.obj id _ hH
      refine ⟨_, ?_, .mp id off hid⟩
      simp only [execOp, ho, hcx]
      refine nv_ok ?_
      unfold convert
      simp only [Sem.run_bind, run_underlying hs, run_underlying hd, Result.andThen_ok]
      unfold Conv.unsafePointer
      simp only [Sem.run_bind, run_underlying hs, run_underlying hd, Result.andThen_ok, run_seenAt hob, run_sizeOf hi]
      have hv : (variablesAt ⟨g.mu id, off, none⟩ u 1).run P w = .ok true w := by
        unfold variablesAt
        simp only [Sem.run_bind, run_program, Result.andThen_ok, run_shape hob, Sem.run_pure]
        rw [← hrep.1, hc]
      rw [hv]
      simp [Sem.run_pure]
  · exact convW_ok hst hρ o src dst x ho

include hst in
theorem ptrEqV_ok (hρ : ∀ x, ARep g (ρ x) (ρc x)) (o : Oper) (op : BinOp) (T : TypeId) (x y : Operand) (yT : TypeId) (ho : o.op = .binOp op T x y yT) :
    ROk P g H w ((execOp ρc o).run P w) (ptrEqV P H ρ o op T x y) := by
  unfold ptrEqV
  split
  rotate_left
  · rename_i a b hx hy
    split
    · intro hc
      have hc : a.size + b.size ≤ 9223372036854775807 := by simpa using hc
      have hrx := hρ x
      have hry := hρ y
      rw [hx] at hrx
      rw [hy] at hry
      have ex := p_inv hrx
      have ey := p_inv hry
      refine ⟨.string (a ++ b), ?_, .d _ _ (.p _)⟩
      have hi1 : IntKind.max .i64 = 9223372036854775807 := by decide
      simp only [execOp, ho, ex, ey]
      refine nv_ok ?_
      have hg : (eqGuard .add T x y (.string a) (.string b)).run P w = .ok () w := by
        unfold eqGuard
        simp [Sem.run_bind, Sem.run_pure]
      rw [Sem.run_bind, hg, Result.andThen_ok]
      show (Op.stringOp .add a b).run P w = _
      unfold Op.stringOp
      simp only []
      rw [if_neg (by rw [hi1]; omega)]
      rfl
    · exact aexec_ok hst hρ o
  · exact aexec_ok hst hρ o
  rename_i i a j b hx hy
  split
  rotate_left
  · trivial
  rename_i e hT
  split
  rotate_left
  · trivial
  rename_i k hk
  split
  rotate_left
  · trivial
  rename_i hc
  obtain ⟨rfl, hsz⟩ := hc
  have hrx := hρ x
  have hry := hρ y
  rw [hx] at hrx
  rw [hy] at hry
  generalize hcx : ρc x = cx at hrx
  generalize hcy : ρc y = cy at hry
  cases hrx
  cases hry
  have heq : (Op.equal T (.pointer (some ⟨g.mu i, a, none⟩)) (.pointer (some ⟨g.mu i, b, none⟩))).run P w = .ok (a == b) w := by
    unfold Op.equal
    rw [show Op.maxDepth = 9999 + 1 from rfl, Op.equalIn]
    simp only [Sem.run_bind, run_underlying hT, Result.andThen_ok, run_sizeOf hk]
    rw [if_pos hsz]
    simp only [sameAddr, beq_self_eq_true, if_true, Sem.run_pure]
    congr 1
    rw [Bool.eq_iff_iff]
    simp
  have hg : ∀ op, (eqGuard op T x y (.pointer (some ⟨g.mu i, a, none⟩)) (.pointer (some ⟨g.mu i, b, none⟩))).run P w = .ok () w := by
    intro op
    unfold eqGuard
    cases op <;> simp [Sem.run_bind, Sem.run_pure]
  split
  · refine ⟨_, ?_, .d _ _ (.p _)⟩
    simp only [execOp, ho, hcx, hcy]
    exact nv_ok (by simp only [Sem.run_bind, hg, Result.andThen_ok, binOp, heq, Sem.run_pure])
  · refine ⟨_, ?_, .d _ _ (.p _)⟩
    simp only [execOp, ho, hcx, hcy]
    exact nv_ok (by simp only [Sem.run_bind, hg, Result.andThen_ok, binOp, heq, Sem.run_pure])
  · trivial

include hst in
/-- A block turned, and given up. -/
theorem St.putDead {i : Nat} {o : AObj} (hi : H[i]? = some o) (hl : o.live = true) (co : Obj) : St g (H.set i .dead) (putB w (g.mu i) co) where
  n := by simp [hst.n]
  imm b off v hm := by
    have hne : b ≠ g.mu i := by
      intro e; subst e
      rw [hst.disj i o hi hl off] at hm; cases hm
    rw [cell_old (putB_other w _ _ co hne)]
    exact hst.imm b off v hm
  obj j oj hj := by
    rcases set_get hj with ⟨rfl, rfl⟩ | ⟨hne, hj'⟩
    · trivial
    · cases hlj : oj.live with
      | false => cases oj <;> simp [AObj.live] at hlj; trivial
      | true =>
        rw [putB_other]
        · exact hst.obj j oj hj'
        · intro e; exact hne (hst.inj j i oj o hj' hi hlj hl e)
  size j oj hj hlj := by
    rw [putB_size]
    rcases set_get hj with ⟨rfl, rfl⟩ | ⟨hne, hj'⟩
    · simp [AObj.live] at hlj
    · exact hst.size j oj hj' hlj
  inj j k oj ok hj hk lj lk e := by
    rcases set_get hj with ⟨rfl, rfl⟩ | ⟨hnj, hj'⟩
    · simp [AObj.live] at lj
    · rcases set_get hk with ⟨rfl, rfl⟩ | ⟨hnk, hk'⟩
      · simp [AObj.live] at lk
      · exact hst.inj _ _ _ _ hj' hk' lj lk e
  glob := hst.glob
  disj j oj hj hlj off := by
    rcases set_get hj with ⟨rfl, rfl⟩ | ⟨hne, hj'⟩
    · simp [AObj.live] at hlj
    · exact hst.disj j oj hj' hlj off

theorem run_loadBytes (b : Nat) : ∀ (bs : List Int) (o : Nat) (acc : ByteArray), (∀ (j : Nat) (n : Int), bs[j]? = some n → w.cell? ⟨b, o + j, none⟩ = some (.int .u8 n)) →
    (loadBytes ⟨b, o, none⟩ acc bs.length).run P w = .ok ⟨acc.data ++ (bs.map fun n => UInt8.ofNat n.toNat).toArray⟩ w
  | [], o, acc, h => by simp [loadBytes, Sem.run_pure]
  | n :: bs, o, acc, h => by
    have h0 := h 0 n rfl
    rw [Nat.add_zero] at h0
    have ih := run_loadBytes b bs (o + 1) (acc.push n.toNat.toUInt8) (fun j m hj => by
      have := h (j + 1) m (by simpa using hj)
      rwa [show o + (j + 1) = o + 1 + j by omega] at this)
    rw [List.length_cons, loadBytes, Sem.run_bind, run_load, h0]
    simp only [Result.andThen_ok, add_none]
    rw [ih]
    simp [ByteArray.push, Nat.toUInt8]

include hst in
theorem textV_ok {pt : TypeId} {ts : Array TypeId} {p n : AV} {cp cn : Value} (hp : ARep g p cp) (hn : ARep g n cn) (ht : ts[0]? = some pt) (T : TypeId) :
    ROk P g H w ((nv (Builtin.unsafeString_ ts T #[cp, cn])).run P w) (textV P H pt p n) := by
  unfold textV
  split
  rotate_left
  · trivial
  rename_i id k kd m u hu
  split
  rotate_left
  · trivial
  rename_i T1 mm f hH
  split
  rotate_left
  · trivial
  rename_i hc
  obtain ⟨h0, hmax, hkm, hc1, hsl⟩ := hc
  split
  rotate_left
  · trivial
  rename_i bs hbs
  obtain rfl := p_inv hn
  obtain ⟨hlen, hb⟩ := bytesW_ok hbs
  rw [List.length_range] at hlen
  cases hp with
  | mr _ _ _ _ hid =>
    obtain ⟨arr, fr, hob, hsz, hcap, hpos, hcell, hf, hone⟩ := hst.obj id _ hH
    have hcells : ∀ (j : Nat) (x : Int), bs[j]? = some x → w.cell? ⟨g.mu id, g.bs id + (k * 1 + 0) + j, none⟩ = some (.int .u8 x) := by
      intro j x hj
      have hj' : j < m.toNat := by rw [← hlen]; exact (List.getElem?_eq_some_iff.1 hj).1
      obtain ⟨v, hv, hrv⟩ := hcell (k + j) 0 (by omega) (by omega)
      obtain ⟨y, hy1, hy2⟩ := hb j j (by rw [List.getElem?_range hj'])
      rw [hj] at hy1
      cases hy1
      rw [hy2] at hrv
      have hve := p_inv hrv
      rw [cell_of _ _ _ _ _ _ hob, ← hve, ← hv]
      congr 1
      omega
    have hva : (variablesAt ⟨g.mu id, g.bs id + (k * 1 + 0), none⟩ u m.toNat).run P w = .ok true w := by
      unfold variablesAt
      simp only [Sem.run_bind, run_program, Result.andThen_ok, run_shape hob, Sem.run_pure, hc1, Nat.div_one]
      congr 1
      have hd : P.depth ≠ 0 := by
        intro e
        rw [e] at hsl
        simp [sameLayout] at hsl
      have key : ∀ (fits : TypeId → Bool) (d : Nat), d ≠ 0 → fits T1 = true → rowAt P fits d T1 arr.size (g.bs id + (k * 1 + 0)) m.toNat = true := by
        intro fits d hd hfit
        cases d with
        | zero => exact absurd rfl hd
        | succ d =>
          unfold rowAt
          simp only [hc1, hfit, Nat.mod_one, Nat.div_one]
          rw [if_neg (by omega)]
          simp only [beq_self_eq_true, Bool.true_and, Bool.and_true, Bool.or_eq_true, decide_eq_true_eq]
          left
          omega
      have key2 : ∀ d, d ≠ 0 → liesAt P d T1 arr.size (g.bs id + (k * 1 + 0)) u m.toNat = true := by
        intro d hd'
        cases d with
        | zero => exact absurd rfl hd'
        | succ d =>
          unfold liesAt
          rw [Bool.or_eq_true]
          left
          exact key _ _ hd hsl
      exact key2 _ hd
    have hel : (elemOf pt).run P w = .ok u w := by
      simp only [elemOf, Sem.run_bind, run_underlying hu, Result.andThen_ok, Sem.run_pure]
    have hlb := run_loadBytes (P := P) (w := w) (g.mu id) bs (g.bs id + (k * 1 + 0)) .empty hcells
    rw [hlen] at hlb
    let fr' : Nat × Nat := if fr.1 == fr.2 then (g.bs id + (k * 1 + 0), g.bs id + (k * 1 + 0) + m.toNat) else (min fr.1 (g.bs id + (k * 1 + 0)), max fr.2 (g.bs id + (k * 1 + 0) + m.toNat))
    have hfz : (freeze ⟨g.mu id, g.bs id + (k * 1 + 0), none⟩ m.toNat).run P w = .ok () (putB w (g.mu id) (.cells arr T1 fr')) := by
      have hm : w.freeze ⟨g.mu id, g.bs id + (k * 1 + 0), none⟩ m.toNat = putB w (g.mu id) (.cells arr T1 fr') := by
        simp only [World.freeze, putB]
        rw [if_neg (by omega)]
        simp only [World.mk.injEq, and_true]
        apply Array.ext_getElem?
        intro i
        rw [Array.getElem?_modify, Array.getElem?_setIfInBounds]
        by_cases h : g.mu id = i
        · subst h
          have hlt := (Array.getElem?_eq_some_iff.1 hob).1
          rw [if_pos rfl, if_pos rfl, if_pos hlt, hob]
          obtain ⟨f1, f2⟩ := fr
          rfl
        · rw [if_neg h, if_neg h]
      rw [show (freeze ⟨g.mu id, g.bs id + (k * 1 + 0), none⟩ m.toNat).run P w = .ok () (w.freeze ⟨g.mu id, g.bs id + (k * 1 + 0), none⟩ m.toNat) from rfl, hm]
    refine ⟨.string ⟨(bs.map fun n => UInt8.ofNat n.toNat).toArray⟩, putB w (g.mu id) (.cells arr T1 fr'), g, ?_, Gh.le.refl g, St.putDead hst hH rfl _, .d _ _ (.p _), Ext.put hst hH rfl _ _⟩
    refine nv_ok ?_
    have hi1 : IntKind.max .i64 = 9223372036854775807 := by decide
    have e0 : Builtin.unsafeString_ ts T #[.pointer (some ⟨g.mu id, g.bs id + (k * 1 + 0), none⟩), .int kd m] = (do
        let n ← asInt (.int kd m)
        let some pt := ts[0]? | stuck "unsafe.String: no argument types"
        if n < 0 then runtimePanic (.error "unsafe.String: len out of range")
        if n > IntKind.i64.max then unsupported (.unsafePointer "String: a length above the largest int")
        if n = 0 then pure (.string .empty)
        else if ← variablesAt ⟨g.mu id, g.bs id + (k * 1 + 0), none⟩ (← elemOf pt) n.toNat then do
          let s ← loadBytes ⟨g.mu id, g.bs id + (k * 1 + 0), none⟩ .empty n.toNat
          freeze ⟨g.mu id, g.bs id + (k * 1 + 0), none⟩ n.toNat
          pure (.string s)
        else unsupported (.unsafePointer "String: not so many bytes at ptr") : Sem Value) := rfl
    rw [e0]
    have e1 : (asInt (.int kd m)).run P w = .ok m w := rfl
    rw [Sem.run_bind, e1, Result.andThen_ok, ht]
    dsimp only
    rw [if_neg (show ¬ m < 0 by omega), if_neg (show ¬ m > IntKind.max .i64 by rw [hi1]; omega)]
    rw [if_neg (show ¬ m = 0 by omega)]
    simp only [Sem.run_bind, Sem.run_pure, Result.andThen_ok, hel, hva, if_true, hlb, hfz]
    simp [ByteArray.empty, ByteArray.emptyWithCapacity]
    try rfl

theorem run_copy_nil (ts : Array TypeId) (t T e : TypeId) (i : TypeInfo) (ht : ts[0]? = some t) (hT : P.underlying t = some (.slice e)) (hi : P.info? e = some i) (a : Addr) (l c : Nat) :
    (nv (Builtin.copy_ ts T #[.slice (some a) l c, .slice none 0 0])).run P w = .ok (.value (.int .i64 0)) w := by
  have e0 : Builtin.copy_ ts T #[.slice (some a) l c, .slice none 0 0] = (do
      let (some dType, some dst, some src) := (ts[0]?, some (Value.slice (some a) l c), some (Value.slice none 0 0)) | stuck "copy: two arguments expected"
      let .slice elem ← underlying dType | stuck "copy: slice type expected"
      let .slice base dLen _ := dst | stuck "copy: slice expected"
      let n := Nat.min (← Builtin.lenOf src) dLen
      let cells ← Builtin.firstCells (← sizeOf elem) n src
      if let some a := base then storeCells a cells.toList
      pure (goInt n) : Sem Value) := rfl
  refine nv_ok ?_
  rw [e0, ht]
  simp [run_underlying hT, Builtin.lenOf, Builtin.firstCells, run_sizeOf hi, storeCells, goInt]

include hst in
theorem callV_ok (hρ : ∀ x, ARep g (ρ x) (ρc x)) (o : Oper) (c : Call) (ho : o.op = .call c) : ROk P g H w ((execOp ρc o).run P w) (callV P H ρ o c) := by
  have base : ROk P g H w ((execOp ρc o).run P w) (aexecW P H ρ o) := aexecW_ok hst hρ o
  unfold callV
  split
  · rename_i hc
    split
    · rename_i d s t ts ha ht
      split
      · rename_i e a1 a2 a3 a4 hd hs hT
        split
        · rename_i hi
          obtain ⟨i, hi⟩ := Option.isSome_iff_exists.1 hi
          have ha' : c.args = #[d, s] := by apply Array.ext'; simpa using ha
          have ht' : c.argTypes[0]? = some t := by rw [← Array.getElem?_toList, ht]; rfl
          have hr1 := hρ d
          have hr2 := hρ s
          rw [hd] at hr1
          rw [hs] at hr2
          have e2 := p_inv hr2
          generalize hcd : ρc d = cd at hr1
          cases hr1 with
          | ms _ _ _ _ cap ao hid h2 h3 h4 =>
            refine ⟨.int .i64 0, ?_, .d _ _ (.p _)⟩
            have hcopy := fun (a : Addr) (l c' : Nat) => run_copy_nil (P := P) (w := w) c.argTypes t o.type _ i ht' hT hi a l c'
            simpa [execOp, ho, resolve, hc, invoke, builtin, ha', nv, hcd, e2] using hcopy _ _ _
        · trivial
      · exact base
    · exact base
  · rename_i hc
    split
    · rename_i p n t ts ha ht
      split
      · rename_i a1 a2 a3 a4 hp
        have ha' : c.args = #[p, n] := by apply Array.ext'; simpa using ha
        have ht' : c.argTypes[0]? = some t := by rw [← Array.getElem?_toList, ht]; rfl
        have := textV_ok (P := P) hst (hρ p) (hρ n) ht' o.type
        simpa [execOp, ho, resolve, hc, invoke, builtin, ha', nv] using this
      · exact base
    · exact base
  · exact base

include hst in
theorem aexecV_ok (hρ : ∀ x, ARep g (ρ x) (ρc x)) (o : Oper) : ROk P g H w ((execOp ρc o).run P w) (aexecV P H ρ o) := by
  unfold aexecV
  split
  · rename_i s d x ho
    exact ptrConvV_ok hst hρ o s d x ho
  · rename_i op T x y yT ho
    exact ptrEqV_ok hst hρ o op T x y yT ho
  · rename_i c ho
    exact callV_ok hst hρ o c ho
  · exact aexecW_ok hst hρ o

end
end Go.Eng
