/- The engine, drawn regions, part 9: blocks that are made in no fixed place. -/
import Derived.Test.YtgmbiahkameikaaGreatDoorEngD
set_option linter.unusedVariables false
set_option linter.unusedSimpArgs false
set_option linter.unnecessarySimpa false
namespace Go.Eng
open Go

theorem ancT_map {f : Oper → Oper} (hf : ∀ o, (f o).after = o.after) : ∀ (l : List Oper) (acc : List Nat), ancT acc (l.map f) = ancT acc l
  | [], _ => rfl
  | o :: l, acc => by
    rw [List.map_cons, ancT, ancT, ancT_map hf l]
    unfold ancOf
    rw [hf]

theorem Ord.map {ops ops' : Array Oper} {f : Oper → Oper} (hf : ∀ o, (f o).after = o.after) (h : ∀ i : Nat, ops'[i]? = (ops[i]?).map f) {S : Nat → Prop} {l : List Nat} (ho : Ord ops S l) : Ord ops' S l := by
  induction ho with
  | nil S => exact .nil S
  | cons S i o l hio hs hd hl ih => exact .cons S i (f o) l (by rw [h, hio]; rfl) hs (by rw [hf]; exact hd) ih

/-- A block that nobody owns. -/
theorem St.other {g : Gh} {H : AHeap} {w : World} (h : St g H w) (co : Obj) : St g H (pushW w co) where
  n := h.n
  imm b o v hi := by
    have := imm_lt h hi
    rw [cell_old (pushW_old w co b this)]
    exact h.imm b o v hi
  obj i oi hoi := by
    cases hl : oi.live with
    | true => rw [pushW_old w co _ (h.size i oi hoi hl)]; exact h.obj i oi hoi
    | false => cases oi <;> simp [AObj.live] at hl; trivial
  size i oi hoi hl := by rw [pushW_size]; have := h.size i oi hoi hl; omega
  inj := h.inj
  disj := h.disj
  glob := h.glob

theorem Ext.other {g : Gh} {H : AHeap} {w : World} (co : Obj) : Ext g.imm (foot g H) w g.imm (foot g H) (pushW w co) where
  os := rfl
  tape := rfl
  output := rfl
  size := by simp
  block b hb _ := pushW_old w co b hb
  imm _ _ _ h := h
  fresh b o v h1 h2 := by rw [h2] at h1; cases h1
  ft b h := .inl h

theorem alloc_run {P : Program} {T : TypeId} {z : List AV} (hz : zeroA P T = some z) {o : Oper} (ho : o.op = .alloc T) (ρc : Operand → Value) (w : World) :
    ∃ v : Value, (execOp ρc o).run P w = .ok (.value (.pointer (some ⟨w.heap.size, 0, none⟩))) (pushW w (.cells v.cells T)) ∧ (∃ i, P.info? T = some i ∧ i.zero = some v) := by
  obtain ⟨i, v, hi, hv, hr, h1, _⟩ := zeroA_ok (g := ⟨fun _ _ => none, fun _ => 0, fun _ => 0, fun _ => 0, 0⟩) hz
  refine ⟨v, ?_, i, hi, hv⟩
  have hrun : (newVar T v).run P w = .ok ⟨w.heap.size, 0, none⟩ (pushW w (.cells v.cells T)) := by simp [newVar, newRow, pushW]
  have : (execOp ρc o).run P w = (nv (Instr.alloc T true (.tuple #[]))).run P w := by simp [execOp, ho, nv]
  rw [this]
  refine nv_ok ?_
  simp [Instr.alloc, run_zeroValue hi hv, hrun]

/-- A block that nobody owns is owned. -/
theorem St.adopt {P : Program} {g : Gh} {H : AHeap} {w : World} (h : St g H w) {b : Nat} {T : TypeId} {z : List AV} (hz : zeroA P T = some z) {v : Value} (hv : ∃ i, P.info? T = some i ∧ i.zero = some v)
    (hb : w.heap[b]? = some (.cells v.cells T)) (hf : ¬ foot g H b) (hi : ∀ off, g.imm b off = none) : St (g.push b 0) (H ++ [.cells z T]) w := by
  have hlt : b < w.heap.size := (Array.getElem?_eq_some_iff.1 hb).1
  have hcase : ∀ {i : Nat} {oi : AObj}, (H ++ [.cells z T])[i]? = some oi → (i < g.n ∧ H[i]? = some oi) ∨ (i = g.n ∧ oi = .cells z T) := by
    intro i oi hi
    rcases Nat.lt_or_ge i H.length with h1 | h1
    · rw [List.getElem?_append_left h1] at hi; exact .inl ⟨by rw [h.n]; exact h1, hi⟩
    · rw [List.getElem?_append_right h1] at hi
      right
      have : i - H.length = 0 := by
        rcases Nat.lt_or_ge 0 (i - H.length) with h' | h'
        · rw [List.getElem?_eq_none (by simp; omega)] at hi; cases hi
        · omega
      rw [this] at hi
      simp at hi
      exact ⟨by rw [h.n]; omega, hi.symm⟩
  have hmu : ∀ i, i < g.n → (g.push b 0).mu i = g.mu i := fun i hi => (g.le_push b 0).mu i hi
  refine ⟨by simp [Gh.push, Gh.pushAt, h.n], h.imm, ?_, ?_, ?_, ?_, h.glob⟩
  · intro i oi hoi
    rcases hcase hoi with ⟨h1, h2⟩ | ⟨rfl, rfl⟩
    · rw [hmu i h1]; exact (h.obj i oi h2).mono (g.le_push b 0) h1
    · rw [Gh.push_mu, hb]
      obtain ⟨i, v', hi', hv', hr, hone, _⟩ := zeroA_ok (g := g.push b 0) hz
      obtain ⟨i2, hi2, hv2⟩ := hv
      rw [hi2] at hi'
      cases hi'
      rw [hv2] at hv'
      cases hv'
      exact ⟨v.cells, (0, 0), rfl, hr, fun k _ h => by omega, fun k u hu => hone u (List.mem_of_getElem? (by simpa using hu))⟩
  · intro i oi hoi hl
    rcases hcase hoi with ⟨h1, h2⟩ | ⟨rfl, rfl⟩
    · rw [hmu i h1]; exact h.size i oi h2 hl
    · rw [Gh.push_mu]; exact hlt
  · intro i j oi oj hi hj li lj e
    rcases hcase hi with ⟨h1, h2⟩ | ⟨rfl, rfl⟩ <;> rcases hcase hj with ⟨h3, h4⟩ | ⟨rfl, rfl⟩
    · rw [hmu i h1, hmu j h3] at e; exact h.inj i j oi oj h2 h4 li lj e
    · rw [hmu i h1, Gh.push_mu] at e; exact absurd ⟨i, oi, h2, li, e⟩ hf
    · rw [hmu j h3, Gh.push_mu] at e; exact absurd ⟨j, oj, h4, lj, e.symm⟩ hf
    · rfl
  · intro i oi hoi hl off
    rcases hcase hoi with ⟨h1, h2⟩ | ⟨rfl, rfl⟩
    · rw [hmu i h1]; exact h.disj i oi h2 hl off
    · rw [Gh.push_mu]; exact hi off

end Go.Eng

/- The engine, drawn regions, part 10: blocks that are made in no fixed place: the run. -/
set_option linter.unusedVariables false
set_option linter.unusedSimpArgs false
set_option linter.unnecessarySimpa false
namespace Go.Eng
open Go

def ptrA (b : Nat) : AV := .d (.p (.pointer (some ⟨b, 0, none⟩)))

theorem ptrA_inj {a b : Nat} (h : ptrA a = ptrA b) : a = b := by
  unfold ptrA at h
  simpa using h

/-- Nobody asks for a slot. -/
def Unasked (ops : Array Oper) (m : Nat) (t : Tmp) : Prop := ∀ i o, ops[i]? = some o → i < m → o.dst ≠ some t ∧ usedSlot o t = false ∧ ∀ k want, o.guard = some (k, want) → (ops[k]?).bind (·.dst) ≠ some t

section
variable {ca : Bool} {P : Program} {Γ : Oracle} {ops : Array Oper} {anc : List Nat} {os : List Oper} {m : Nat} {T0 : List AV} {H0 : AHeap} {s : QS}

theorem slotQ_set {t u : Tmp} (h : u ≠ t) (x : AV) (vs : List AV) (env : QEnv) : slotQ ops (T0.set t x) vs env u = slotQ ops T0 vs env u := by
  unfold slotQ
  have : (T0.set t x).getD u .un = T0.getD u .un := by
    rw [List.getD_eq_getElem?_getD, List.getD_eq_getElem?_getD, List.getElem?_set, if_neg (fun e => h e.symm)]
  rw [this]

theorem Met.set (M : Met ca P Γ ops anc os m T0 H0 s) {t : Tmp} (hu : Unasked ops m t) (x : AV) : Met ca P Γ ops anc os m (T0.set t x) H0 s := by
  refine ⟨M.R, M.hg, M.ht, fun i o u h1 h2 h3 => by rw [List.length_set]; exact M.hd i o u h1 h2 h3, ?_, M.len⟩
  refine ⟨?_, M.K.first, M.K.ids, M.K.late, M.K.once, M.K.env⟩
  intro i hi
  obtain ⟨o, env, v, ho, hv, henv, ha, hrest⟩ := M.K.fact i hi
  obtain ⟨_, h2, h3⟩ := hu i o ho (by rw [← M.len]; exact hi)
  have hrho : rhoQ o (slotQ ops (T0.set t x) (s.vs.take i) env) = rhoQ o (slotQ ops T0 (s.vs.take i) env) := by
    funext y
    cases y with
    | tmp u =>
      simp only [rhoQ]
      split
      · rename_i hus
        exact slotQ_set (by intro e; subst e; rw [h2] at hus; cases hus) _ _ _
      · rfl
    | _ => rfl
  have hguard : ∀ b, GuardIs ops o (slotQ ops T0 (s.vs.take i) env) b → GuardIs ops o (slotQ ops (T0.set t x) (s.vs.take i) env) b := by
    rintro b (h | ⟨j, want, h4, h5⟩)
    · exact .inl h
    · refine .inr ⟨j, want, h4, ?_⟩
      rcases h5 with h5 | ⟨u, h5, h6⟩
      · exact .inl h5
      · refine .inr ⟨u, h5, ?_⟩
        have : u ≠ t := by intro e; subst e; exact h3 j want h4 h5
        rw [slotQ_set this]; exact h6
  refine ⟨o, env, v, ho, hv, henv, ha, ?_⟩
  rcases hrest with ⟨h4, h5, h6⟩ | ⟨h4, leaf, h5, h6⟩
  · exact .inl ⟨h4, h5, hguard _ h6⟩
  · exact .inr ⟨hguard _ h4, leaf, by rw [hrho]; exact h5, by rw [hrho]; exact h6⟩

theorem tmpsM_set {vs : List AV} {S : Nat → Bool} {i : Nat} {t : Tmp} (hu : Unasked ops m t) (hlen : vs.length = m) (hi : (ops[i]?).bind (·.dst) = none) (x : AV) (hm : m ≤ ops.size) :
    tmpsM ops (T0.set t x) vs (addS S i) = (tmpsM ops T0 vs S).set t x := by
  refine List.ext_getElem? fun u => ?_
  unfold tmpsM
  rw [List.getElem?_set, List.getElem?_map, List.getElem?_map, List.length_set]
  have hslot : ∀ u, slotS ops (addS S i) u vs 0 = slotS ops S u vs 0 := by
    intro u
    refine slotS_congr fun j hj hd => ?_
    simp only [Nat.zero_add] at hd ⊢
    have : j ≠ i := by intro e; subst e; rw [hi] at hd; cases hd
    simp [addS, this]
  by_cases e : t = u
  · subst e
    rw [if_pos rfl]
    by_cases hlt : t < T0.length
    · rw [List.getElem?_range hlt, if_pos (by simpa using hlt)]
      simp only [Option.map_some, slotM, hslot]
      cases h : slotS ops S t vs 0 with
      | some v =>
        exfalso
        obtain ⟨j, h1, h2, h3⟩ := slotS_some h
        simp only [Nat.zero_add] at h3
        have hj : j < m := by rw [← hlen]; exact (List.getElem?_eq_some_iff.1 h1).1
        cases ho : ops[j]? with
        | none => rw [ho] at h3; cases h3
        | some o => rw [ho] at h3; exact (hu j o ho hj).1 h3
      | none =>
        simp only [Option.getD_none]
        rw [List.getD_eq_getElem?_getD, List.getElem?_set, if_pos rfl, if_pos hlt]; rfl
    · rw [if_neg (by simpa using hlt), List.getElem?_eq_none (by simpa using hlt)]; rfl
  · rw [if_neg e]
    by_cases hlt : u < T0.length
    · rw [List.getElem?_range hlt]
      simp only [Option.map_some, slotM, hslot]
      rw [List.getD_eq_getElem?_getD, List.getElem?_set, if_neg e, ← List.getD_eq_getElem?_getD]
    · rw [List.getElem?_eq_none (by simpa using hlt)]; rfl

/-- The blocks that have been made so far. -/
def LateInv (P : Program) (ops : Array Oper) (os : List Oper) (m n0 : Nat) (T0 : List AV) (S : Nat → Bool) (g : Gh) (H : AHeap) (w : World) : Prop :=
  ∀ (i : Nat) (o : Oper) (t : Tmp) (ty : TypeId), ops[i]? = some o → i < m → lateAl os o = true → isAl o = some ty → o.dst = some t → S i = true →
    ∃ b v, T0[t]? = some (ptrA b) ∧ n0 ≤ b ∧ w.heap[b]? = some (.cells v.cells ty) ∧ (∃ j, P.info? ty = some j ∧ j.zero = some v) ∧ ¬ foot g H b ∧ ∀ off, g.imm b off = none

theorem LateInv.ext {rops : Array Oper} {ros : List Oper} {n0 : Nat} {S : Nat → Bool} {g g' : Gh} {H H' : AHeap} {w w' : World} (h : LateInv P rops ros m n0 T0 S g H w) (he : Ext g.imm (foot g H) w g'.imm (foot g' H') w') :
    LateInv P rops ros m n0 T0 S g' H' w' := by
  intro i o t ty h1 h2 h3 h4 h5 h6
  obtain ⟨b, v, a1, a2, a3, a4, a5, a6⟩ := h i o t ty h1 h2 h3 h4 h5 h6
  have hlt : b < w.heap.size := (Array.getElem?_eq_some_iff.1 a3).1
  refine ⟨b, v, a1, a2, by rw [he.block b hlt a5]; exact a3, a4, ?_, ?_⟩
  · intro hf
    rcases he.ft b hf with h7 | h7
    · exact a5 h7
    · omega
  · intro off
    cases h7 : g'.imm b off with
    | none => rfl
    | some u =>
      exfalso
      rcases he.fresh b off u h7 (a6 off) with h8 | h8
      · exact a5 h8
      · omega

end
end Go.Eng

/- The engine, drawn regions, part 11: blocks that are made in no fixed place: any order. -/
set_option linter.unusedVariables false
set_option linter.unusedSimpArgs false
set_option linter.unnecessarySimpa false
namespace Go.Eng
open Go

theorem filter_two {α : Type} {p : α → Bool} : ∀ {l : List α} {i j : Nat} {a b : α}, l[i]? = some a → l[j]? = some b → p a = true → p b = true → i < j → 2 ≤ (l.filter p).length
  | [], i, j, a, b, h, _, _, _, _ => by simp at h
  | x :: l, 0, j, a, b, h1, h2, pa, pb, hij => by
    simp only [List.getElem?_cons_zero, Option.some.injEq] at h1
    subst h1
    rw [List.filter_cons_of_pos pa, List.length_cons]
    have : b ∈ l.filter p := by
      obtain ⟨j', rfl⟩ : ∃ j', j = j' + 1 := ⟨j - 1, by omega⟩
      rw [List.getElem?_cons_succ] at h2
      exact List.mem_filter.2 ⟨List.mem_of_getElem? h2, pb⟩
    have := List.length_pos_of_mem this
    omega
  | x :: l, i + 1, j, a, b, h1, h2, pa, pb, hij => by
    obtain ⟨j', rfl⟩ : ∃ j', j = j' + 1 := ⟨j - 1, by omega⟩
    rw [List.getElem?_cons_succ] at h1 h2
    have := filter_two h1 h2 pa pb (by omega)
    rw [List.filter_cons]
    split
    · rw [List.length_cons]; omega
    · exact this

def eraseF (os : List Oper) (o : Oper) : Oper := if lateAl os o then dummyOf o else o

theorem eraseF_after (os : List Oper) (o : Oper) : (eraseF os o).after = o.after := by
  unfold eraseF; split <;> rfl

/-- The region as it runs, and as it is reckoned. -/
structure Two (rops ops : Array Oper) (ros os : List Oper) (m : Nat) : Prop where
  get : ∀ i : Nat, ops[i]? = (rops[i]?).map (eraseF ros)
  hros : ros = rops.toList.take m
  hos : os = ops.toList.take m
  hg : guardsOk os m = true
  hm : m ≤ rops.size

section
variable {rops ops : Array Oper} {ros os : List Oper} {m : Nat} (W : Two rops ops ros os m)

include W in
theorem Two.ros_get {i : Nat} (hi : i < m) : ros[i]? = rops[i]? := by rw [W.hros, List.getElem?_take, if_pos hi, Array.getElem?_toList]

theorem late_parts {os : List Oper} {o : Oper} (h : lateAl os o = true) : ∃ ty t, isAl o = some ty ∧ o.dst = some t ∧ o.guard = none ∧ (os.filter fun x => x.dst == some t).length = 1 ∧ ∀ x ∈ os, usedSlot x t = false ∧ guardSlot os x ≠ some t := by
  unfold lateAl at h
  simp only [Bool.and_eq_true] at h
  obtain ⟨⟨h1, h2⟩, h3⟩ := h
  obtain ⟨ty, hty⟩ := Option.isSome_iff_exists.1 h1
  split at h3
  · rename_i t ht
    obtain ⟨h4, h5⟩ := Bool.and_eq_true_iff.1 h3
    refine ⟨ty, t, hty, ht, by simpa using h2, by simpa using h4, fun x hx => ?_⟩
    rw [List.all_eq_true] at h5
    have := h5 x hx
    simp only [Bool.and_eq_true, Bool.not_eq_true', beq_eq_false_iff_ne] at this
    exact this
  · cases h3

include W in
theorem Two.guard_lt {i j : Nat} {o : Oper} {want : Bool} (ho : ops[i]? = some o) (hi : i < m) (h : o.guard = some (j, want)) : j < m := by
  have := W.hg
  unfold guardsOk at this
  rw [List.all_eq_true] at this
  have hmem : o ∈ os := List.mem_of_getElem? (i := i) (by rw [W.hos, List.getElem?_take, if_pos hi, Array.getElem?_toList]; exact ho)
  have := this o hmem
  rw [h] at this
  simpa using this

include W in
theorem Two.plain {i : Nat} {o : Oper} (ho : rops[i]? = some o) (h : lateAl ros o = false) : ops[i]? = some o := by
  rw [W.get, ho]; simp [eraseF, h]

include W in
theorem Two.guard_same {i : Nat} {o : Oper} (ho : rops[i]? = some o) (hi : i < m) (h : lateAl ros o = false) : ∀ j want, o.guard = some (j, want) → (rops[j]?).bind (·.dst) = (ops[j]?).bind (·.dst) := by
  intro j want hg
  have hj := W.guard_lt (W.plain ho h) hi hg
  rw [W.get]
  cases hy : rops[j]? with
  | none => rfl
  | some y =>
    cases hl : lateAl ros y with
    | false => simp [eraseF, hl]
    | true =>
      exfalso
      obtain ⟨ty, t, _, ht, _, _, hall⟩ := late_parts hl
      have hmem : o ∈ ros := List.mem_of_getElem? (i := i) (by rw [W.ros_get hi]; exact ho)
      apply (hall o hmem).2
      unfold guardSlot
      rw [hg]
      simp only [W.ros_get hj, hy]
      exact ht

include W in
theorem Two.unasked {i : Nat} {o : Oper} {t : Tmp} (ho : rops[i]? = some o) (hi : i < m) (h : lateAl ros o = true) (ht : o.dst = some t) : Unasked ops m t := by
  obtain ⟨ty, t', _, ht', _, hone, hall⟩ := late_parts h
  rw [ht] at ht'
  cases ht'
  intro j x hx hj
  rw [W.get] at hx
  obtain ⟨y, hy, rfl⟩ := Option.map_eq_some_iff.1 hx
  have hymem : y ∈ ros := List.mem_of_getElem? (i := j) (by rw [W.ros_get hj]; exact hy)
  cases hl : lateAl ros y with
  | true =>
    simp only [eraseF, hl, if_true]
    refine ⟨by simp [dummyOf], ?_, fun k want hg => by simp [dummyOf] at hg⟩
    simp [usedSlot, dummyOf, Op.operands]
  | false =>
    have hplain := W.plain hy hl
    simp only [eraseF, hl, Bool.false_eq_true, if_false]
    refine ⟨?_, (hall y hymem).1, ?_⟩
    · intro hd
      have hne : i ≠ j := by
        intro e; subst e
        rw [ho] at hy; cases hy
        rw [h] at hl; cases hl
      rcases Nat.lt_or_gt_of_ne hne with h1 | h1
      · have := filter_two (p := fun x : Oper => x.dst == some t) (l := ros) (by rw [W.ros_get hi]; exact ho) (by rw [W.ros_get hj]; exact hy) (by simp [ht]) (by simp [hd]) h1
        omega
      · have := filter_two (p := fun x : Oper => x.dst == some t) (l := ros) (by rw [W.ros_get hj]; exact hy) (by rw [W.ros_get hi]; exact ho) (by simp [hd]) (by simp [ht]) h1
        omega
    · intro k want hg hk
      have hkm := W.guard_lt hplain hj hg
      rw [← W.guard_same hy hj hl k want hg] at hk
      apply (hall y hymem).2
      unfold guardSlot
      rw [hg]
      simp only [W.ros_get hkm]
      exact hk

include W in
theorem Two.distinct {i j : Nat} {o o' : Oper} {t : Tmp} (ho : rops[i]? = some o) (ho' : rops[j]? = some o') (hi : i < m) (hj : j < m) (h : lateAl ros o = true) (ht : o.dst = some t) (ht' : o'.dst = some t) : i = j := by
  obtain ⟨ty, t', _, ht2, _, hone, hall⟩ := late_parts h
  rw [ht] at ht2
  cases ht2
  rcases Nat.lt_trichotomy i j with h1 | h1 | h1
  · have := filter_two (p := fun x : Oper => x.dst == some t) (l := ros) (by rw [W.ros_get hi]; exact ho) (by rw [W.ros_get hj]; exact ho') (by simp [ht]) (by simp [ht']) h1
    omega
  · exact h1
  · have := filter_two (p := fun x : Oper => x.dst == some t) (l := ros) (by rw [W.ros_get hj]; exact ho') (by rw [W.ros_get hi]; exact ho) (by simp [ht']) (by simp [ht]) h1
    omega

end
end Go.Eng

/- The engine, drawn regions, part 12: blocks that are made in no fixed place: the steps. -/
set_option linter.unusedVariables false
set_option linter.unusedSimpArgs false
set_option linter.unnecessarySimpa false
namespace Go.Eng
open Go

def LateDist (rops : Array Oper) (ros : List Oper) (m : Nat) (T0 : List AV) (S : Nat → Bool) : Prop :=
  ∀ (i j : Nat) (o o' : Oper) (t t' : Tmp) (b : Nat), rops[i]? = some o → rops[j]? = some o' → i < m → j < m → lateAl ros o = true → lateAl ros o' = true → o.dst = some t → o'.dst = some t' → S i = true → S j = true → i ≠ j →
    T0[t]? = some (ptrA b) → T0[t']? ≠ some (ptrA b)

section
variable {ca : Bool} {P : Program} {Γ : Oracle} {rops ops : Array Oper} {anc : List Nat} {ros os : List Oper} {m : Nat} {T0 : List AV} {H0 : AHeap} {s : QS}
variable {g : Gh} {F0 : AFrame} {Fs : List AFrame} {fr : Frame} {frs cs0 : List Frame} {w : World} {k : List AItem} {S : Nat → Bool} {i : Nat} {o : Oper} {l : List Nat}

theorem Met.lateStep (M : Met ca P Γ ops anc os m T0 H0 s) (W : Two rops ops ros os m) (hr : Ready ops m S i (eraseF ros o)) (ho : rops[i]? = some o) (hl : lateAl ros o = true) {ty : TypeId} {t : Tmp} (hty : isAl o = some ty) (ht : o.dst = some t)
    {z : List AV} (hz : zeroA P ty = some z) (hlt : t < T0.length) (hm : F0.mode = .run) (hF : RepFrame g (frS F0 rops ops T0 s k S (i :: l)) fr) :
    ∃ (v : Value) (fr' : Frame), (∃ j, P.info? ty = some j ∧ j.zero = some v) ∧ Go.step P (lone fr (frs ++ cs0) w) = .next (lone fr' (frs ++ cs0) (pushW w (.cells v.cells ty))) ∧
      RepFrame g (frS F0 rops ops (T0.set t (ptrA w.heap.size)) s k (addS S i) l) fr' ∧ heapM ca anc os s (addS S i) = heapM ca anc os s S := by
  have hmode := mode_run hF hm
  obtain ⟨it, its, hfr, h1, h2⟩ := items_cons hF (a := .inRegion rops (i :: l)) (k := k) rfl
  have h1 : it = .inRegion rops (i :: l) := h1
  subst h1
  obtain ⟨ty', t', hty', ht', hg, _, _⟩ := late_parts hl
  have hop : o.op = .alloc ty := by
    unfold isAl at hty
    split at hty
    · rename_i T e; cases hty; exact e
    · cases hty
  obtain ⟨v, hrun, hv⟩ := alloc_run hz hop fr.eval w
  have hw : Region.wanted o (yielded rops fr.tmps) = true := by unfold Region.wanted; rw [hg]
  have hnd : ∀ c, o.op ≠ .defer c := fun c e => by rw [hop] at e; cases e
  have hs := applied (P := P) (cs := frs ++ cs0) (w := w) hmode hfr ho hw (.inr hnd)
  have hdummy : eraseF ros o = dummyOf o := by simp [eraseF, hl]
  have hputs : tmpsM ops (T0.set t (ptrA w.heap.size)) s.vs (addS S i) = (tmpsM ops T0 s.vs S).set t (ptrA w.heap.size) :=
    tmpsM_set (W.unasked ho hr.hi hl ht) M.len (by rw [hr.ho, hdummy]; rfl) _ M.R.hm
  have hfin : (frS F0 rops ops T0 s k S (i :: l)).finish (ptrA w.heap.size) = some (frS F0 rops ops (T0.set t (ptrA w.heap.size)) s k (addS S i) l) := by
    unfold AFrame.finish frS
    simp only [ho, Option.bind_some, ht, putA]
    rw [hputs]
  refine ⟨v, fr.finish (.pointer (some ⟨w.heap.size, 0, none⟩)), hv, step_lone_go ?_, finish_ok hF (.d _ _ (.p _)) hfin, ?_⟩
  · rw [hs]
    simp [stepG.apply, hrun]
  · refine M.heap_quiet hr ?_
    rw [hdummy]; rfl

theorem Met.simL (W : Two rops ops ros os m) (hΓ : OracleOK P Γ) (hm : F0.mode = .run) {n0 : Nat} (hzs : ∀ (i : Nat) (o : Oper) (ty : TypeId), rops[i]? = some o → i < m → lateAl ros o = true → isAl o = some ty → ∃ z, zeroA P ty = some z)
    (hq : ∀ i, m ≤ i → i < ops.size → ∀ j, j < i → (anc.getD i 0).testBit j = true) :
    ∀ (l : List Nat) (S : Nat → Bool) (T0 : List AV) (g : Gh) (fr : Frame) (frs : List Frame) (w : World), Met ca P Γ ops anc os m T0 H0 s → (∀ (i : Nat) (o : Oper) (t : Tmp), rops[i]? = some o → i < m → o.dst = some t → t < T0.length) →
      Ord ops (fun j => S j = true) l → Closed ops S → (∀ j, S j = true → j < m) → (∀ j, j < ops.size → S j = true ∨ j ∈ l) →
      RepFrame g (frS F0 rops ops T0 s k S l) fr → RepFrames g Fs frs → St g (heapM ca anc os s S) w → n0 ≤ w.heap.size → LateInv P rops ros m n0 T0 S g (heapM ca anc os s S) w → LateDist rops ros m T0 S →
      ∃ T1 fr' frs' w' g', Steps P (lone fr (frs ++ cs0) w) (lone fr' (frs' ++ cs0) w') ∧ RepFrame g' (frS F0 rops ops T1 s k (fun j => decide (j < m)) (List.range' m (ops.size - m))) fr' ∧ RepFrames g' Fs frs' ∧
        St g' (heapM ca anc os s fun j => decide (j < m)) w' ∧ Ext g.imm (foot g (heapM ca anc os s S)) w g'.imm (foot g' (heapM ca anc os s fun j => decide (j < m))) w' ∧ g.le g' ∧
        LateInv P rops ros m n0 T1 (fun j => decide (j < m)) g' (heapM ca anc os s fun j => decide (j < m)) w' ∧ LateDist rops ros m T1 (fun j => decide (j < m)) ∧
        T1.length = T0.length ∧ (∀ u, (∀ i o, rops[i]? = some o → i < m → lateAl ros o = true → o.dst ≠ some u) → T1[u]? = T0[u]?) := by
  intro l
  induction l with
  | nil =>
    intro S T0 g fr frs w M hdT ho hcl hsub hc hF hFs hst hn0 hinv hdist
    have hS : S = fun j => decide (j < m) := by
      funext j
      rcases Nat.lt_or_ge j m with h | h
      · rcases hc j (M.lt_size h) with h2 | h2
        · rw [h2]; simp [h]
        · cases h2
      · cases h2 : S j with
        | true => have := hsub j h2; omega
        | false => simp; omega
    have hn : ops.size - m = 0 := by
      rcases Nat.lt_or_ge m ops.size with h | h
      · rcases hc m h with h2 | h2
        · have := hsub m h2; omega
        · cases h2
      · omega
    subst hS
    rw [hn]
    exact ⟨T0, fr, frs, w, g, .refl _ _, hF, hFs, hst, Ext.refl _ _ _, Gh.le.refl _, hinv, hdist, rfl, fun _ _ => rfl⟩
  | cons i l ih =>
    intro S T0 g fr frs w M hdT ho hcl hsub hc hF hFs hst hn0 hinv hdist
    by_cases hall : ∀ j, j < m → S j = true
    · have hS : S = fun j => decide (j < m) := by
        funext j
        rcases Nat.lt_or_ge j m with h | h
        · rw [hall j h]; simp [h]
        · cases h2 : S j with
          | true => have := hsub j h2; omega
          | false => simp; omega
      subst hS
      have := tail_eq M.R hq (i :: l) m (Nat.le_refl _) M.R.hm ho (fun j hj => by
        rcases hc j hj with h | h
        · exact .inl (by simpa using h)
        · exact .inr h)
      rw [this] at hF
      exact ⟨T0, fr, frs, w, g, .refl _ _, hF, hFs, hst, Ext.refl _ _ _, Gh.le.refl _, hinv, hdist, rfl, fun _ _ => rfl⟩
    · cases ho with
      | cons _ _ o' _ hio hs hd hl =>
        have hin : i < ops.size := (Array.getElem?_eq_some_iff.1 hio).1
        have hiS : S i = false := by simpa using hs
        have him : i < m := by
          rcases Nat.lt_or_ge i m with h | h
          · exact h
          · exfalso
            apply hall
            intro j hj
            exact M.R.ready hcl hio hd (hq i h hin j (by omega)) (by omega)
        have hr : Ready ops m S i o' := ⟨hcl, hsub, hio, him, hiS, hd⟩
        have hcl' : Closed ops (addS S i) := by
          intro a oa hoa hSa e he hb
          simp only [addS, Bool.or_eq_true, beq_iff_eq] at hSa ⊢
          rcases hSa with h | h
          · exact .inl (hcl a oa hoa h e he hb)
          · subst h
            rw [hio] at hoa
            cases hoa
            exact .inl (hd e he hb)
        have hsub' : ∀ j, addS S i j = true → j < m := by
          intro j hj
          simp only [addS, Bool.or_eq_true, beq_iff_eq] at hj
          rcases hj with h | h
          · exact hsub j h
          · omega
        have hc' : ∀ j, j < ops.size → addS S i j = true ∨ j ∈ l := by
          intro j hj
          simp only [addS, Bool.or_eq_true, beq_iff_eq]
          rcases hc j hj with h | h
          · exact .inl (.inl h)
          · rcases List.mem_cons.1 h with h | h
            · exact .inl (.inr h)
            · exact .inr h
        have hord' : Ord ops (fun j => addS S i j = true) l := hl.congr fun j => by simp [addS]
        have hio2 := hio
        rw [W.get] at hio2
        obtain ⟨o, hro, hoe⟩ := Option.map_eq_some_iff.1 hio2
        subst hoe
        have hadd : ∀ {j : Nat}, addS S i j = true → j = i ∨ S j = true := by
          intro j hj
          simp only [addS, Bool.or_eq_true, beq_iff_eq] at hj
          rcases hj with h | h
          · exact .inr h
          · exact .inl h
        cases hlate : lateAl ros o with
        | false =>
          have hpl := W.plain hro hlate
          rw [hio] at hpl
          have hoo : eraseF ros o = o := by simpa using hpl
          rw [hoo] at hr
          obtain ⟨fr1, frs1, w1, g1, e1, e2, e3, e4, e5, _, e6⟩ := M.step (cs0 := cs0) (l := l) hΓ hr hro (W.guard_same hro him hlate) hm hF hFs hst
          have hinv1 : LateInv P rops ros m n0 T0 (addS S i) g1 (heapM ca anc os s (addS S i)) w1 := by
            intro j oj t ty h1 h2 h3 h4 h5 h6
            rcases hadd h6 with h7 | h7
            · subst h7
              rw [hro] at h1; cases h1
              rw [hlate] at h3; cases h3
            · exact (hinv.ext e5) j oj t ty h1 h2 h3 h4 h5 h7
          have hdist1 : LateDist rops ros m T0 (addS S i) := by
            intro a b oa ob ta tb p h1 h2 h3 h4 h5 h6 h7 h8 h9 h10 h11
            rcases hadd h9 with h12 | h12
            · subst h12; rw [hro] at h1; cases h1; rw [hlate] at h5; cases h5
            rcases hadd h10 with h13 | h13
            · subst h13; rw [hro] at h2; cases h2; rw [hlate] at h6; cases h6
            exact hdist a b oa ob ta tb p h1 h2 h3 h4 h5 h6 h7 h8 h12 h13 h11
          obtain ⟨T1, fr2, frs2, w2, g2, d1, d2, d3, d4, d5, d6, d7, d8, d9, d10⟩ := ih (addS S i) T0 g1 fr1 frs1 w1 M hdT hord' hcl' hsub' hc' e2 e3 e4 (Nat.le_trans hn0 e5.size) hinv1 hdist1
          exact ⟨T1, fr2, frs2, w2, g2, e1.trans d1, d2, d3, d4, e5.trans d5, e6.trans d6, d7, d8, d9, d10⟩
        | true =>
          obtain ⟨ty, t, hty, ht, _, _, _⟩ := late_parts hlate
          obtain ⟨z, hz⟩ := hzs i o ty hro him hlate hty
          have htl := hdT i o t hro him ht
          obtain ⟨v, fr1, hv, e1, e2, e3⟩ := M.lateStep (frs := frs) (cs0 := cs0) (w := w) (l := l) W hr hro hlate hty ht hz htl hm hF
          have hst1 : St g (heapM ca anc os s (addS S i)) (pushW w (.cells v.cells ty)) := by rw [e3]; exact hst.other _
          have hother : ∀ {j : Nat} {oj : Oper} {t' : Tmp}, rops[j]? = some oj → j < m → oj.dst = some t' → j ≠ i → (T0.set t (ptrA w.heap.size))[t']? = T0[t']? := by
            intro j oj t' h1 h2 h3 h4
            rw [List.getElem?_set, if_neg]
            intro e
            subst e
            exact h4 (W.distinct hro h1 him h2 hlate ht h3).symm
          have hself : (T0.set t (ptrA w.heap.size))[t]? = some (ptrA w.heap.size) := by rw [List.getElem?_set, if_pos rfl, if_pos htl]
          have hold := hinv.ext (Ext.other (g := g) (H := heapM ca anc os s S) (w := w) (.cells v.cells ty))
          have hinv1 : LateInv P rops ros m n0 (T0.set t (ptrA w.heap.size)) (addS S i) g (heapM ca anc os s (addS S i)) (pushW w (.cells v.cells ty)) := by
            intro j oj t' ty' h1 h2 h3 h4 h5 h6
            rw [e3]
            rcases Nat.decEq j i with hne | rfl
            · rcases hadd h6 with h7 | h7
              · exact absurd h7 hne
              · rw [hother h1 h2 h5 hne]
                exact hold j oj t' ty' h1 h2 h3 h4 h5 h7
            · rw [hro] at h1; cases h1
              rw [ht] at h5; cases h5
              rw [hty] at h4; cases h4
              refine ⟨w.heap.size, v, hself, hn0, pushW_new _ _, hv, ?_, ?_⟩
              · rintro ⟨a, ob, h7, h8, h9⟩
                have := hst.size a ob h7 h8
                omega
              · intro off
                cases h7 : g.imm w.heap.size off with
                | none => rfl
                | some u => have := imm_lt hst h7; omega
          have hbelow : ∀ {j : Nat} {oj : Oper} {t' : Tmp} {b : Nat}, rops[j]? = some oj → j < m → lateAl ros oj = true → oj.dst = some t' → S j = true → T0[t']? = some (ptrA b) → b < w.heap.size := by
            intro j oj t' b h1 h2 h3 h4 h5 h6
            obtain ⟨ty', _, hty', _⟩ := late_parts h3
            obtain ⟨b', _, a1, _, a3, _⟩ := hinv j oj t' ty' h1 h2 h3 hty' h4 h5
            rw [h6] at a1
            have := ptrA_inj (Option.some.inj a1)
            subst this
            exact (Array.getElem?_eq_some_iff.1 a3).1
          have hdist1 : LateDist rops ros m (T0.set t (ptrA w.heap.size)) (addS S i) := by
            intro a b oa ob ta tb p h1 h2 h3 h4 h5 h6 h7 h8 h9 h10 h11 h12 h13
            rcases Nat.decEq a i with hna | hna <;> rcases Nat.decEq b i with hnb | hnb
            · rw [hother h1 h3 h7 hna] at h12
              rw [hother h2 h4 h8 hnb] at h13
              exact hdist a b oa ob ta tb p h1 h2 h3 h4 h5 h6 h7 h8 ((hadd h9).resolve_left hna) ((hadd h10).resolve_left hnb) h11 h12 h13
            · rw [hother h1 h3 h7 hna] at h12
              rw [hnb, hro] at h2; cases h2
              rw [ht] at h8; cases h8
              rw [hself] at h13
              have := ptrA_inj (Option.some.inj h13)
              have h14 := hbelow h1 h3 h5 h7 ((hadd h9).resolve_left hna) h12
              omega
            · rw [hother h2 h4 h8 hnb] at h13
              rw [hna, hro] at h1; cases h1
              rw [ht] at h7; cases h7
              rw [hself] at h12
              have := ptrA_inj (Option.some.inj h12)
              have h14 := hbelow h2 h4 h6 h8 ((hadd h10).resolve_left hnb) h13
              omega
            · exact h11 (hna.trans hnb.symm)
          obtain ⟨T1, fr2, frs2, w2, g2, d1, d2, d3, d4, d5, d6, d7, d8, d9, d10⟩ := ih (addS S i) (T0.set t (ptrA w.heap.size)) g fr1 frs (pushW w (.cells v.cells ty)) (M.set (W.unasked hro him hlate ht) _) (fun a oa ta h1 h2 h3 => by rw [List.length_set]; exact hdT a oa ta h1 h2 h3)
            hord' hcl' hsub' hc' e2 hFs hst1 (by simp; omega) hinv1 hdist1
          refine ⟨T1, fr2, frs2, w2, g2, .head e1 d1, d2, d3, d4, ?_, d6, d7, d8, by rw [d9, List.length_set], ?_⟩
          · rw [e3] at d5
            exact (Ext.other (g := g) (H := heapM ca anc os s S) (w := w) (.cells v.cells ty)).trans d5
          · intro u hu
            rw [d10 u hu, List.getElem?_set, if_neg]
            intro e
            subst e
            exact hu i o hro him hlate ht

end
end Go.Eng

/- The engine, drawn regions, part 13: blocks that are made in no fixed place: the end. -/
set_option linter.unusedVariables false
set_option linter.unusedSimpArgs false
set_option linter.unnecessarySimpa false
namespace Go.Eng
open Go

theorem Ext.adopt {I : Nat → Nat → Option Value} {F : Nat → Prop} {w0 w : World} {g : Gh} {H : AHeap} (h : Ext I F w0 g.imm (foot g H) w) (hn : g.n = H.length) {b : Nat} (hb : w0.heap.size ≤ b) (o : AObj) :
    Ext I F w0 (g.push b 0).imm (foot (g.push b 0) (H ++ [o])) w := by
  refine ⟨h.os, h.tape, h.output, h.size, h.block, h.imm, h.fresh, ?_⟩
  rintro x ⟨i, oi, h1, h2, h3⟩
  rcases Nat.lt_or_ge i H.length with h4 | h4
  · rw [List.getElem?_append_left h4] at h1
    rw [(g.le_push b 0).mu i (by rw [hn]; exact h4)] at h3
    exact h.ft x ⟨i, oi, h1, h2, h3⟩
  · right
    have : i = g.n := by
      rw [List.getElem?_append_right h4] at h1
      rcases Nat.lt_or_ge 0 (i - H.length) with h' | h'
      · rw [List.getElem?_eq_none (by simp; omega)] at h1; cases h1
      · omega
    subst this
    rw [Gh.push_mu] at h3
    omega

def Pend (P : Program) (ros : List Oper) (ts : Array Value) (n0 n : Nat) (g : Gh) (H : AHeap) (w : World) : Prop :=
  ∀ (j : Nat) (o : Oper) (t : Tmp) (ty : TypeId), ros[j]? = some o → n ≤ j → lateAl ros o = true → isAl o = some ty → o.dst = some t →
    ∃ b v, ts[t]? = some (.pointer (some ⟨b, 0, none⟩)) ∧ n0 ≤ b ∧ w.heap[b]? = some (.cells v.cells ty) ∧ (∃ k, P.info? ty = some k ∧ k.zero = some v) ∧ ¬ foot g H b ∧ ∀ off, g.imm b off = none

def RepX (ros : List Oper) (n : Nat) (g : Gh) (T : List AV) (ts : Array Value) : Prop :=
  T.length = ts.size ∧ ∀ (u : Nat) (x : AV) (v : Value), (∀ j o, ros[j]? = some o → n ≤ j → lateAl ros o = true → o.dst ≠ some u) → T[u]? = some x → ts[u]? = some v → ARep g x v

theorem adopt_ok {P : Program} {ros : List Oper} {ts : Array Value} {w0 w : World} {I : Nat → Nat → Option Value} {F : Nat → Prop}
    (hdist : ∀ (i j : Nat) (o o' : Oper) (t t' : Tmp) (b : Nat), ros[i]? = some o → ros[j]? = some o' → lateAl ros o = true → lateAl ros o' = true → o.dst = some t → o'.dst = some t' → i ≠ j →
      ts[t]? = some (.pointer (some ⟨b, 0, none⟩)) → ts[t']? ≠ some (.pointer (some ⟨b, 0, none⟩)))
    (huniq : ∀ (i j : Nat) (o o' : Oper) (t : Tmp), ros[i]? = some o → ros[j]? = some o' → lateAl ros o = true → o.dst = some t → o'.dst = some t → i = j) :
    ∀ (r : List Oper) (n : Nat) (T : List AV) (H : AHeap) (g : Gh) (T' : List AV) (H' : AHeap), (∀ j, r[j]? = ros[n + j]?) → adopt P ros r T H = some (T', H') → RepX ros n g T ts → St g H w → Pend P ros ts w0.heap.size n g H w →
      Ext I F w0 g.imm (foot g H) w → ∃ g', g.le g' ∧ RepL g' T' ts ∧ St g' H' w ∧ Ext I F w0 g'.imm (foot g' H') w
  | [], n, T, H, g, T', H', hr, ha, hx, hst, hp, he => by
    simp only [adopt, Option.some.injEq, Prod.mk.injEq] at ha
    obtain ⟨rfl, rfl⟩ := ha
    refine ⟨g, Gh.le.refl _, ⟨hx.1, fun i x v h1 h2 => hx.2 i x v (fun j o h3 h4 => ?_) h1 h2⟩, hst, he⟩
    exfalso
    have := hr (j - n)
    rw [show n + (j - n) = j by omega, h3] at this
    simp at this
  | o :: r, n, T, H, g, T', H', hr, ha, hx, hst, hp, he => by
    have hon : ros[n]? = some o := by have := hr 0; simpa using this.symm
    have hr' : ∀ j, r[j]? = ros[n + 1 + j]? := fun j => by
      have := hr (j + 1)
      rw [List.getElem?_cons_succ] at this
      rw [this]; congr 1; omega
    rw [adopt] at ha
    split at ha
    · rename_i hl
      split at ha
      · rename_i ty t hty ht
        split at ha
        · rename_i z hz
          obtain ⟨b, v, a1, a2, a3, a4, a5, a6⟩ := hp n o t ty hon (Nat.le_refl _) hl hty ht
          have hst' := hst.adopt hz a4 a3 a5 a6
          have hle := g.le_push b 0
          refine (adopt_ok hdist huniq r (n + 1) _ _ (g.push b 0) T' H' hr' ha ?_ hst' ?_ (he.adopt hst.n a2 _)).imp fun g' h => ⟨hle.trans h.1, h.2⟩
          · refine ⟨by rw [List.length_set]; exact hx.1, fun u x y h1 h2 h3 => ?_⟩
            rw [List.getElem?_set] at h2
            split at h2
            · rename_i e
              subst e
              split at h2
              · cases h2
                rw [a1] at h3
                cases h3
                have := ARep.mp (g := g.push b 0) g.n 0 (by simp [Gh.push_n])
                rw [Gh.push_mu] at this
                rw [← hst.n]; exact this
              · cases h2
            · rename_i e
              refine (hx.2 u x y (fun j oj h4 h5 h6 h7 => ?_) h2 h3).mono hle
              rcases Nat.lt_or_ge n j with h8 | h8
              · exact h1 j oj h4 h8 h6 h7
              · have : j = n := by omega
                subst this
                rw [hon] at h4; cases h4
                rw [ht] at h7
                exact e (Option.some.inj h7)
          · intro j oj t' ty' h1 h2 h3 h4 h5
            obtain ⟨b', v', c1, c2, c3, c4, c5, c6⟩ := hp j oj t' ty' h1 (by omega) h3 h4 h5
            refine ⟨b', v', c1, c2, c3, c4, ?_, c6⟩
            rintro ⟨i, oi, d1, d2, d3⟩
            rcases Nat.lt_or_ge i H.length with d4 | d4
            · rw [List.getElem?_append_left d4] at d1
              rw [hle.mu i (by rw [hst.n]; exact d4)] at d3
              exact c5 ⟨i, oi, d1, d2, d3⟩
            · have : i = g.n := by
                rw [List.getElem?_append_right d4] at d1
                rcases Nat.lt_or_ge 0 (i - H.length) with h' | h'
                · rw [List.getElem?_eq_none (by simp; omega)] at d1; cases d1
                · rw [hst.n]; omega
              subst this
              rw [Gh.push_mu] at d3
              subst d3
              exact hdist n j o oj t t' b hon h1 hl h3 ht h5 (by omega) a1 c1
        · cases ha
      · cases ha
    · rename_i hl
      refine adopt_ok hdist huniq r (n + 1) T H g T' H' hr' ha ?_ hst (fun j oj t ty h1 h2 => hp j oj t ty h1 (by omega)) he
      refine ⟨hx.1, fun u x y h1 h2 h3 => hx.2 u x y (fun j oj h4 h5 h6 h7 => ?_) h2 h3⟩
      rcases Nat.lt_or_ge n j with h8 | h8
      · exact h1 j oj h4 h8 h6 h7
      · have : j = n := by omega
        subst this
        rw [hon] at h4; cases h4
        exact hl h6

end Go.Eng

/- The engine, drawn regions, part 14: a region whose order is open, with blocks that are made in no fixed place. -/
set_option linter.unusedVariables false
set_option linter.unusedSimpArgs false
set_option linter.unnecessarySimpa false
namespace Go.Eng
open Go

section
variable {P : Program} {Γ : Oracle} {g : Gh} {F : AFrame} {Fs : List AFrame} {H : AHeap} {fr : Frame} {frs cs0 : List Frame} {w : World}

theorem qConvL_ok {Q : QS → Prop} {k : List AItem} {ops ops' : Array Oper} {os : List Oper} {m nf : Nat}
    (h : ∀ s T1 H1, Q s → adopt P os os (applyEnv s.env (finalT ops' s.vs F.tmps)) (applyL (s.Hs.getD nf []) s.L) = some (T1, H1) →
      NextOK P g (F :: Fs) H fr (frs ++ cs0) cs0 w (.next (.run ({ F with tmps := T1, todo := .inRegion ops (List.range' m (ops.size - m)) :: k } :: Fs) H1))) :
    ∀ r, QAll Q r → NextOK P g (F :: Fs) H fr (frs ++ cs0) cs0 w (qConvL P F Fs k ops ops' os m nf r) := by
  intro r
  induction r with
  | done s =>
    intro hq
    simp only [qConvL]
    split
    · rename_i T1 H1 e; exact h s T1 H1 hq e
    · trivial
  | br c a b iha ihb => intro hq; exact ⟨fun hc => iha (hq.1 hc), fun hc => ihb (hq.2 hc)⟩
  | need c a ih => intro hq hc; exact ih (hq hc)
  | fail => intro _; trivial

theorem adopt_zero {os : List Oper} : ∀ (r : List Oper) {T : List AV} {H : AHeap} {x : List AV × AHeap}, adopt P os r T H = some x → ∀ o ∈ r, lateAl os o = true → ∀ ty, isAl o = some ty → ∃ z, zeroA P ty = some z
  | [], T, H, x, h, o, ho, _, _, _ => by cases ho
  | q :: r, T, H, x, h, o, ho, hl, ty, hty => by
    rw [adopt] at h
    split at h
    · split at h
      · rename_i ty' t hty' ht
        split at h
        · rename_i z hz
          rcases List.mem_cons.1 ho with e | e
          · subst e; rw [hty] at hty'; cases hty'; exact ⟨z, hz⟩
          · exact adopt_zero r h o e hl ty hty
        · cases h
      · cases h
    · rename_i hn
      rcases List.mem_cons.1 ho with e | e
      · subst e; exact absurd hl hn
      · exact adopt_zero r h o e hl ty hty

theorem drawStepL_ok (hΓ : OracleOK P Γ) (hF : RepFrame g F fr) (hFs : RepFrames g Fs frs) (hst : St g H w) {id : Nat} {ops : Array Oper} {k : List AItem} (hm : F.mode = .run)
    (ht : F.todo = .code (.region id ops true) :: k) : NextOK P g (F :: Fs) H fr (frs ++ cs0) cs0 w (drawStepL P Γ F Fs H k ops) := by
  unfold drawStepL
  dsimp only
  split
  rotate_left
  · trivial
  rename_i hc
  simp only [Bool.and_eq_true] at hc
  obtain ⟨⟨⟨⟨⟨hmix, hedge⟩, hdraw⟩, hguard⟩, htrans⟩, hdst⟩ := hc
  generalize hqm : quietLen (ancT [] ops.toList) ops.size = m at *
  generalize hros : ops.toList.take m = ros at *
  have hmapE : eraseL ros ops.toList = ops.toList.map (eraseF ros) := rfl
  generalize hops' : (eraseL ros ops.toList).toArray = ops' at *
  have hl' : ops'.toList = ops.toList.map (eraseF ros) := by rw [← hops', hmapE]
  have hel : eraseL ros ops.toList = ops'.toList := by rw [hl', hmapE]
  simp only [hel] at hedge hdraw hguard ⊢
  have hget : ∀ i : Nat, ops'[i]? = (ops[i]?).map (eraseF ros) := by
    intro i
    rw [← Array.getElem?_toList, hl', List.getElem?_map, Array.getElem?_toList]
  have hsz : ops'.size = ops.size := by
    have := congrArg List.length hl'
    simpa using this
  have hanc' : ancT [] ops'.toList = ancT [] ops.toList := by rw [hl', ancT_map (eraseF_after ros)]
  generalize hanc : ancT [] ops.toList = anc at *
  generalize hos : ops'.toList.take m = os at *
  generalize hca : drawOk true anc os = ca at *
  have hmle : m ≤ ops.size := by rw [← hqm]; exact quietLen_le _ _
  have R : Reg ca ops' anc os m := ⟨by rw [hsz]; exact hmle, hos.symm, hanc'.symm, hedge, hdraw⟩
  have W : Two ops ops' ros os m := ⟨hget, hros.symm, hos.symm, hguard, hmle⟩
  have hq : ∀ i, m ≤ i → i < ops'.size → ∀ j, j < i → (anc.getD i 0).testBit j = true := fun i h1 h2 => quiet_ok ops.size i (by rw [hqm]; exact h1) (by rw [← hsz]; exact h2)
  have hdT : ∀ (i : Nat) (o : Oper) (t : Tmp), ops[i]? = some o → i < m → o.dst = some t → t < F.tmps.length := by
    intro i o t ho hi hot
    rw [List.all_eq_true] at hdst
    have hmem : o ∈ ros := List.mem_of_getElem? (i := i) (by rw [W.ros_get hi]; exact ho)
    have := hdst o hmem
    rw [hot] at this
    simpa using this
  have hd : ∀ (i : Nat) (o : Oper) (t : Tmp), ops'[i]? = some o → i < m → o.dst = some t → t < F.tmps.length := by
    intro i o t ho hi hot
    rw [hget] at ho
    obtain ⟨o', ho', rfl⟩ := Option.map_eq_some_iff.1 ho
    unfold eraseF at hot
    split at hot
    · cases hot
    · exact hdT i o' t ho' hi hot
  have hK0 : Known ca P Γ ops' anc os F.tmps H { env := [], vs := [], Hs := [H], L := [] } :=
    ⟨fun i hi => (by simp at hi), rfl, (by simp), fun x hx => (by cases hx), (by simp), fun t b h => (by simp [envGet] at h)⟩
  have hall := qRun_known (P := P) (Γ := Γ) (List.range m) _ hK0 (by simp [List.range_eq_range'])
  refine qConvL_ok ?_ _ hall
  rintro s T1 H1 ⟨hK, hlen⟩ hadopt
  have hlen : s.vs.length = m := by simpa using hlen
  have M : Met ca P Γ ops' anc os m F.tmps H s := ⟨R, hguard, htrans, hd, hK, hlen⟩
  have hzs : ∀ (i : Nat) (o : Oper) (ty : TypeId), ops[i]? = some o → i < m → lateAl ros o = true → isAl o = some ty → ∃ z, zeroA P ty = some z := by
    intro i o ty ho hi hl hty
    exact adopt_zero ros hadopt o (List.mem_of_getElem? (i := i) (by rw [W.ros_get hi]; exact ho)) hl ty hty
  obtain ⟨it, its, hfr, h1, h2⟩ := items_cons hF ht
  have h1 : it = .code (.region id ops true) := h1
  subst h1
  have hmode := mode_run hF hm
  have hedge0 : edgesOk ops.toList = true := by
    unfold edgesOk at hedge ⊢
    rw [List.all_eq_true] at hedge ⊢
    rintro ⟨o, i⟩ hx
    have hx2 := List.mem_zipIdx_iff_getElem?.1 hx
    have : (eraseF ros o, i) ∈ ops'.toList.zipIdx := by
      rw [List.mem_zipIdx_iff_getElem?]
      simp only [hl', List.getElem?_map] at hx2 ⊢
      rw [hx2]; rfl
    have := hedge _ this
    simpa only [eraseF_after] using this
  obtain ⟨hord, hcomp⟩ := schedule_ok hedge0 (w.tape w.drawn (.order fr.fn id))
  generalize hsch : Region.schedule true ops (w.tape w.drawn (.order fr.fn id)) = l at hord hcomp
  have hno : ∀ t, slotS ops' (fun _ => false) t s.vs 0 = none := by
    intro t
    have hn : ∀ (vs : List AV) (j : Nat), slotS ops' (fun _ => false) t vs j = none := by
      intro vs
      induction vs with
      | nil => intro j; rfl
      | cons v vs ih => intro j; rw [slotS]; simp [ih]
    exact hn _ _
  have hT0 : tmpsM ops' F.tmps s.vs (fun _ => false) = F.tmps := by
    unfold tmpsM slotM
    refine List.ext_getElem? fun t => ?_
    rw [List.getElem?_map]
    rcases Nat.lt_or_ge t F.tmps.length with hlt | hge
    · rw [List.getElem?_range hlt]
      simp only [hno, Option.getD_none, Option.map_some]
      rw [List.getD_eq_getElem?_getD, List.getElem?_eq_getElem hlt]; rfl
    · rw [List.getElem?_eq_none (by simpa using hge), List.getElem?_eq_none hge]; rfl
  have hH0 : heapM ca anc os s (fun _ => false) = H := by
    unfold heapM
    have h1 : kS ca anc os (fun _ => false) = 0 := by
      unfold kS
      simp
    have h2 : (s.L.filter fun _ => false) = [] := by simp
    rw [h1, h2, applyL, List.getD_eq_getElem?_getD, hK.first]; rfl
  have hstep : step P (lone fr (frs ++ cs0) w) = .next (lone { fr with todo := .inRegion ops l :: its } (frs ++ cs0) (drewW w)) :=
    step_lone_go (by simp [stepG, hmode, stepG.exec, hfr, choose, Sem.run, Question.forced, Question.cut, hmix, hsch, drewW])
  have hF1 : RepFrame g (frS F ops ops' F.tmps s k (fun _ => false) l) { fr with todo := .inRegion ops l :: its } := by
    unfold frS
    rw [hT0]
    exact hF.withTodo (k := .inRegion ops l :: k) (k' := .inRegion ops l :: its) ⟨rfl, h2⟩
  obtain ⟨T2, fr', frs', w', g', e1, e2, e3, e4, e5, e6, e7, e8, e9, e10⟩ := Met.simL (F0 := F) (k := k) (cs0 := cs0) (n0 := w.heap.size) W hΓ hm hzs hq l (fun _ => false) F.tmps g { fr with todo := .inRegion ops l :: its } frs (drewW w) M hdT
    ((hord.map (eraseF_after ros) hget).congr fun j => by simp) (fun i o ho h => by cases h) (fun j h => by cases h) (fun j hj => .inr (hcomp j (by rw [← hsz]; exact hj))) hF1 hFs (by rw [hH0]; exact hst.drew) (Nat.le_refl _)
    (fun i o t ty _ _ _ _ _ h => by cases h) (fun i j o o' t t' b _ _ _ _ _ _ _ _ h => by cases h)
  rw [hH0] at e5
  have hfinT : ∀ T, tmpsM ops' T s.vs (fun j => decide (j < m)) = finalT ops' s.vs T := by
    intro T
    unfold tmpsM finalT slotM
    refine List.map_congr_left fun t _ => ?_
    congr 1
    rw [slotFind_eq]
    refine slotS_congr fun i hi _ => ?_
    rw [hlen] at hi
    simp [hi]
  have hfinH : heapM ca anc os s (fun j => decide (j < m)) = applyL (s.Hs.getD (os.zipIdx.filter (fixedOp ca anc os)).length []) s.L := by
    unfold heapM
    have h1 : kS ca anc os (fun j => decide (j < m)) = (os.zipIdx.filter (fixedOp ca anc os)).length := by
      unfold kS
      refine filter_len_congr fun x hx => ?_
      have h3 := List.mem_zipIdx_iff_getElem?.1 hx
      have : x.2 < m := by rw [← R.len]; exact (List.getElem?_eq_some_iff.1 (by simpa using h3)).1
      simp [this]
    have h2 : (s.L.filter fun e => decide (e.1 < m)) = s.L := by
      rw [List.filter_eq_self]
      intro x hx
      have := (hK.late x hx).1
      rw [hlen] at this
      simpa using this
    rw [h1, h2]
  rw [hfinH] at e4 e5 e7
  have htm := e2.tmps
  unfold frS at htm
  dsimp only at htm
  rw [hfinT] at htm
  have hrosm : ∀ {j : Nat} {o : Oper}, ros[j]? = some o → j < m ∧ ops[j]? = some o := by
    intro j o h
    have hj : j < m := by
      have := (List.getElem?_eq_some_iff.1 h).1
      rw [← hros, List.length_take] at this
      omega
    exact ⟨hj, by rw [← W.ros_get hj]; exact h⟩
  -- a late slot's value
  have hslot : ∀ {j : Nat} {o : Oper} {t : Tmp} {b : Nat}, ros[j]? = some o → lateAl ros o = true → o.dst = some t → T2[t]? = some (ptrA b) → fr'.tmps[t]? = some (.pointer (some ⟨b, 0, none⟩)) := by
    intro j o t b h3 h4 h5 h6
    obtain ⟨hj, h7⟩ := hrosm h3
    have hun := W.unasked h7 hj h4 h5
    have : (finalT ops' s.vs T2)[t]? = some (ptrA b) := by
      unfold finalT
      have hlt := (List.getElem?_eq_some_iff.1 h6).1
      rw [List.getElem?_map, List.getElem?_range hlt]
      simp only [Option.map_some]
      rw [slotFind_eq]
      cases h8 : slotS ops' (fun _ => true) t s.vs 0 with
      | some u =>
        exfalso
        obtain ⟨a, b1, _, b3⟩ := slotS_some h8
        simp only [Nat.zero_add] at b3
        have ha : a < m := by rw [← hlen]; exact (List.getElem?_eq_some_iff.1 b1).1
        cases hx : ops'[a]? with
        | none => rw [hx] at b3; cases b3
        | some y => rw [hx] at b3; exact (hun a y hx ha).1 b3
      | none => rw [Option.getD_none, List.getD_eq_getElem?_getD, h6]; rfl
    obtain ⟨v, hv, hr⟩ := htm.get this
    have := p_inv hr
    rw [hv, this]
  have henv := env_rep (g := g') hK.env htm
  have hx : RepX ros 0 g' (applyEnv s.env (finalT ops' s.vs F.tmps)) fr'.tmps := by
    have hlen2 : (finalT ops' s.vs F.tmps).length = (finalT ops' s.vs T2).length := by simp [finalT, e9]
    have hlE : ∀ (env : QEnv) (T : List AV), (applyEnv env T).length = T.length := by
      intro env
      induction env with
      | nil => intro T; rfl
      | cons x r ih => intro T; obtain ⟨u, b⟩ := x; rw [applyEnv, List.length_set]; exact ih T
    refine ⟨by rw [hlE, hlen2, ← hlE s.env]; exact henv.1, fun u x v h3 h4 h5 => ?_⟩
    refine henv.2 u x v ?_ h5
    rw [applyEnv_get] at h4 ⊢
    rw [← h4]
    congr 1
    unfold finalT
    rw [List.getElem?_map, List.getElem?_map, e9]
    by_cases hlt : u < F.tmps.length
    · rw [List.getElem?_range hlt]
      simp only [Option.map_some]
      congr 2
      rw [List.getD_eq_getElem?_getD, List.getD_eq_getElem?_getD]
      congr 1
      exact e10 u fun i o ho hi hl => h3 i o (by rw [W.ros_get hi]; exact ho) (Nat.zero_le _) hl
    · rw [List.getElem?_eq_none (by simpa using hlt)]; rfl
  have hp : Pend P ros fr'.tmps w.heap.size 0 g' (applyL (s.Hs.getD (os.zipIdx.filter (fixedOp ca anc os)).length []) s.L) w' := by
    intro j o t ty h3 _ h4 h5 h6
    obtain ⟨hj, h7⟩ := hrosm h3
    obtain ⟨b, v, a1, a2, a3, a4, a5, a6⟩ := e7 j o t ty h7 hj h4 h5 h6 (by simpa using hj)
    exact ⟨b, v, hslot h3 h4 h6 a1, a2, a3, a4, a5, a6⟩
  have hptr : ∀ {j : Nat} {o : Oper} {t : Tmp} {b : Nat}, ros[j]? = some o → lateAl ros o = true → o.dst = some t → fr'.tmps[t]? = some (.pointer (some ⟨b, 0, none⟩)) → T2[t]? = some (ptrA b) := by
    intro j o t b h3 h4 h5 h6
    obtain ⟨hj, h7⟩ := hrosm h3
    obtain ⟨ty, _, hty, _⟩ := late_parts h4
    obtain ⟨b', v, a1, _⟩ := e7 j o t ty h7 hj h4 hty h5 (by simpa using hj)
    have := hslot h3 h4 h5 a1
    rw [h6] at this
    cases this
    exact a1
  obtain ⟨g2, c1, c2, c3, c4⟩ := adopt_ok (P := P) (w0 := w) (I := g.imm) (F := foot g H) (ros := ros) (ts := fr'.tmps) (w := w') (fun i j o o' t t' b h3 h4 h5 h6 h7 h8 h9 h10 h11 => by
      obtain ⟨hi, h3'⟩ := hrosm h3
      obtain ⟨hj, h4'⟩ := hrosm h4
      exact e8 i j o o' t t' b h3' h4' hi hj h5 h6 h7 h8 (by simpa using hi) (by simpa using hj) h9 (hptr h3 h5 h7 h10) (hptr h4 h6 h8 h11))
    (fun i j o o' t h3 h4 h5 h6 h7 => by
      obtain ⟨hi, h3'⟩ := hrosm h3
      obtain ⟨hj, h4'⟩ := hrosm h4
      exact W.distinct h3' h4' hi hj h5 h6 h7) ros 0 _ _ g' T1 H1 (fun j => by rw [Nat.zero_add]) hadopt hx e4 hp (Ext.drew.trans e5)
  refine ⟨fr', frs', w', g2, .head hstep e1, ?_, e3.mono c1, c3, c4, botFn_top F _ Fs rfl, e6.trans c1⟩
  have e2' := e2.mono c1
  have htodo := e2'.todo
  unfold frS at htodo
  dsimp only at htodo
  rw [hsz] at htodo
  exact ⟨e2'.fn, c2, htodo, e2'.defers, e2'.mode, e2'.kind, e2'.round, e2'.roundn⟩

end
end Go.Eng

/- The engine, part 18: the abstract machine's steps are the model's: the whole. -/
set_option linter.unusedVariables false
set_option linter.unusedSimpArgs false
set_option linter.unnecessarySimpa false
namespace Go.Eng
open Go

section
variable {P : Program} {Γ : Oracle} {g : Gh} {F : AFrame} {Fs : List AFrame} {H : AHeap} {fr : Frame} {frs cs0 : List Frame} {w : World}

theorem codeStep_ok (hΓ : OracleOK P Γ) (hF : RepFrame g F fr) (hFs : RepFrames g Fs frs) (hst : St g H w) {c : Code} {k : List AItem} (hm : F.mode = .run)
    (ht : F.todo = .code c :: k) : NextOK P g (F :: Fs) H fr (frs ++ cs0) cs0 w (codeStep P Γ F Fs H k c) := by
  obtain ⟨it, its, hfr, h1, h2⟩ := items_cons hF ht
  have h1 : it = .code c := h1
  subst h1
  have hmode := mode_run hF hm
  have hto : ∀ {k1 : List AItem} {k2 : List Item}, RepItems g k1 k2 → (stepG P true { frame := fr, callers := frs ++ cs0, status := .running, dying := none } w).bare = .go { frame := { fr with todo := k2 }, callers := frs ++ cs0, status := .running, dying := none } w →
      NextOK P g (F :: Fs) H fr (frs ++ cs0) cs0 w (.next (.run ({ F with todo := k1 } :: Fs) H)) :=
    fun hk hs => go1 hFs hst (step_lone_go hs) (hF.withTodo hk) rfl
  cases c with
  | skip => exact hto h2 (by simp [stepG, hmode, stepG.exec, hfr])
  | label l => exact hto h2 (by simp [stepG, hmode, stepG.exec, hfr])
  | seq a b => exact hto (k1 := .code a :: .code b :: k) (k2 := .code a :: .code b :: its) ⟨rfl, rfl, h2⟩ (by simp [stepG, hmode, stepG.exec, hfr])
  | cond x t e =>
    have hx := evalF_ok hF x
    simp only [codeStep]
    split
    · rename_i e1; rw [e1] at hx
      generalize hc : fr.eval x = cc at hx
      cases hx
      exact hto (k1 := .code t :: k) (k2 := .code t :: its) ⟨rfl, h2⟩ (by simp [stepG, hmode, stepG.exec, hfr, hc])
    · rename_i e1; rw [e1] at hx
      generalize hc : fr.eval x = cc at hx
      cases hx
      exact hto (k1 := .code e :: k) (k2 := .code e :: its) ⟨rfl, h2⟩ (by simp [stepG, hmode, stepG.exec, hfr, hc])
    · rename_i b e1; rw [e1] at hx
      have hc := p_inv hx
      refine ⟨fun hb => ?_, fun hb => ?_⟩
      · subst hb; exact hto (k1 := .code t :: k) (k2 := .code t :: its) ⟨rfl, h2⟩ (by simp [stepG, hmode, stepG.exec, hfr, hc])
      · subst hb; exact hto (k1 := .code e :: k) (k2 := .code e :: its) ⟨rfl, h2⟩ (by simp [stepG, hmode, stepG.exec, hfr, hc])
    · trivial
  | block id b => exact hto (k1 := .code b :: .inBlock id :: k) (k2 := .code b :: .inBlock id :: its) ⟨rfl, rfl, h2⟩ (by simp [stepG, hmode, stepG.exec, hfr])
  | loop b => exact hto (k1 := .code b :: .inLoop b :: k) (k2 := .code b :: .inLoop b :: its) ⟨rfl, rfl, h2⟩ (by simp [stepG, hmode, stepG.exec, hfr])
  | scope b => exact hto (k1 := .code b :: .inScope b :: k) (k2 := .code b :: .inScope b :: its) ⟨rfl, rfl, h2⟩ (by simp [stepG, hmode, stepG.exec, hfr])
  | exit id =>
    obtain ⟨h3, h4⟩ := exitToA_ok (id := id) h2
    simp only [codeStep]
    split
    · rename_i k' hk
      obtain ⟨r', hr', hrep⟩ := h3 k' hk
      exact hto hrep (by simp [stepG, hmode, stepG.exec, hfr, hr'])
    · rename_i hk
      have hn := h4 hk
      refine leaveA_ok hF hFs hst _ (fun hr hj => by rcases hj with hj | hj <;> cases hj) (fun l v w' hr hrun cs => ?_)
      simp [stepG, hmode, stepG.exec, hfr, hn, hr, Sem.runT_eq, hrun]
  | ret =>
    simp only [codeStep]
    refine leaveA_ok hF hFs hst _ (fun hr hj cs => step_lone_go ?_) (fun l v w' hr hrun cs => ?_)
    · simp [stepG, hmode, stepG.exec, hfr, hr]
    · simp [stepG, hmode, stepG.exec, hfr, hr, Sem.runT_eq, hrun]
  | region id ops draw =>
    cases draw with
    | true =>
      simp only [codeStep]
      split
      · exact drawStepL_ok hΓ hF hFs hst hm ht
      · exact drawStep_ok hΓ hF hFs hst hm ht
    | false => exact hto (k1 := .inRegion ops (List.range ops.size) :: k) (k2 := .inRegion ops (List.range ops.size) :: its) ⟨rfl, h2⟩ (by simp [stepG, hmode, stepG.exec, hfr])
  | rangeFunc f params assign body =>
    simp only [codeStep]
    split
    rotate_left
    · trivial
    rename_i fn args hround hcallee
    split
    rotate_left
    · trivial
    rename_i hb
    have hr0 : fr.roundOf = none := by rw [hF.round, hround]; rfl
    -- the two blocks
    let w1 := pushW w (.deferred (some []))
    let g1 := g.push w.heap.size 0
    have hst1 : St g1 (H ++ [.defd (some [])]) w1 := hst.push _ _ _ ⟨[], trivial, rfl⟩
    let lp : Go.Loop := { state := .ready, pending := none, fn := fr.fn, tmps := fr.tmps, params, assign, body, defers := w.heap.size }
    let w2 := pushW w1 (.loop lp)
    let g2 := g1.push w1.heap.size 0
    have hle1 : g.le g1 := g.le_push _ _
    have hle2 : g1.le g2 := g1.le_push _ _
    have hle := hle1.trans hle2
    have hn1 : g1.n = g.n + 1 := rfl
    have hmu1 : g1.mu g.n = w.heap.size := g.push_mu _ _
    have hmu2 : g2.mu g1.n = w1.heap.size := g1.push_mu _ _
    have hmu2' : g2.mu g.n = w.heap.size := by rw [hle2.mu g.n (by omega)]; exact hmu1
    have hst2 : St g2 (H ++ [.defd (some [])] ++ [.loop .ready none F.fn F.tmps params assign body H.length]) w2 := by
      refine hst1.push _ _ _ ⟨fr.tmps, hF.tmps.mono hle, ?_, ?_⟩
      · show H.length < g1.n + 1; rw [← hst.n]; omega
      · rw [← hst.n, show ((g1.push w1.heap.size 0).mu g.n) = w.heap.size from hmu2', ← hF.fn]
    have hext : Ext g.imm (foot g H) w g2.imm (foot g2 (H ++ [.defd (some [])] ++ [.loop .ready none F.fn F.tmps params assign body H.length])) w2 := (Ext.push hst _ _ _).trans (Ext.push hst1 _ _ _)
    have hw1 : w1.heap.size = w.heap.size + 1 := by simp [w1]
    have hyl : ARep g2 (.yl (H.length + 1)) (.func (.yield (w.heap.size + 1)) #[] #[]) := by
      have := ARep.yl (g := g2) g1.n (by show g1.n < g1.n + 1; omega)
      rw [hmu2, hw1] at this
      rw [← hst.n]; exact this
    have hcal := calleeA_ok (P := P) (H := H) (w := w2) ((evalF_ok hF f).mono hle) (RepL.one hyl)
    rw [hcallee] at hcal
    obtain ⟨cargs, hc, ha⟩ := hcal
    rw [run_callFunc hb] at hc
    let fr1 : Frame := { fr with todo := .inRangeFunc (w.heap.size + 1) :: its, defers := { target := .collected w.heap.size, args := #[] } :: fr.defers, mode := .run }
    have hF1 : RepFrame g2 { F with todo := .inRF (H.length + 1) :: k, defers := .collected H.length :: F.defers } fr1 := by
      have hm2 := hF.mono hle
      refine ⟨hm2.fn, hm2.tmps, ⟨⟨?_, ?_⟩, h2.mono hle⟩, ⟨?_, hm2.defers⟩, by show RepMode g2 F.mode _; rw [hm]; rfl, hm2.kind, hm2.round, hm2.roundn⟩
      · rw [← hst.n, show g.n + 1 = g1.n from rfl, hmu2, hw1]
      · rw [← hst.n]; show g.n + 1 < g1.n + 1; omega
      · have := RepDef.collected (g := g2) g.n (by show g.n < g1.n + 1; omega)
        rw [hmu2'] at this
        rw [← hst.n]; exact this
    refine ⟨Frame.enter P fn cargs .normal, fr1 :: frs, w2, g2, .one (step_lone_go ?_), enterA_ok hb ha .normal, ⟨hF1, hFs.mono hle⟩, hst2, hext, by rw [botFn_cons _ _ (by simp)]; exact botFn_top F _ Fs rfl, hle⟩
    have hel : (Instr.enterLoop fr.fn fr.tmps params assign body fr.roundOf).run P w = .ok (w.heap.size + 1, [{ target := .collected w.heap.size, args := #[] }]) w2 := by
      rw [hr0]
      simp only [Instr.enterLoop, Sem.run_bind, run_newObj, Result.andThen_ok, Sem.run_pure]
      first
        | (simp [w2, w1, pushW, lp]; done)
        | (simp [w2, w1, pushW, lp]; exact ⟨rfl, rfl, rfl⟩)
    have hev : fr1.eval = fr.eval := by funext x; cases x <;> rfl
    have hres : (do let d ← resolve fr.eval { callee := .value f, args := #[.const (.func (.yield (w.heap.size + 1)) #[] #[])], argTypes := #[] } 0; invoke d.target d.args : Sem Next).run P w2 = .ok (.enter fn cargs) w2 := by
      rw [← hc]
      simp [resolve, Frame.eval]
    simp only [stepG, hmode, stepG.exec, hfr, Sem.runT_eq, hel, GStep.bare_after, List.singleton_append]
    show (stepG.apply P true fr1 (frs ++ cs0) none _ w2).bare = _
    rw [hev]
    simp only [stepG.apply, Sem.runT_eq, if_true, hres, GStep.bare_after]
    rfl
  | goto l => trivial
  | refuse y => trivial

theorem runStep_ok (hΓ : OracleOK P Γ) (hF : RepFrame g F fr) (hFs : RepFrames g Fs frs) (hst : St g H w) (hm : F.mode = .run) :
    NextOK P g (F :: Fs) H fr (frs ++ cs0) cs0 w (runStep P Γ F Fs H) := by
  have hmode := mode_run hF hm
  unfold runStep
  split
  · rename_i ht
    have hfr : fr.todo = [] := by
      have := hF.todo
      rw [ht] at this
      cases h : fr.todo with
      | nil => rfl
      | cons _ _ => rw [h] at this; exact this.elim
    refine leaveA_ok hF hFs hst _ (fun hr hj cs => step_lone_go ?_) (fun l v w' hr hrun cs => ?_)
    · simp [stepG, hmode, stepG.exec, hfr, hr]
    · simp [stepG, hmode, stepG.exec, hfr, hr, Sem.runT_eq, hrun]
  · rename_i c k ht; exact codeStep_ok hΓ hF hFs hst hm ht
  · rename_i id k ht
    obtain ⟨it, its, hfr, h1, h2⟩ := items_cons hF ht
    have h1 : it = .inBlock id := h1
    subst h1
    exact go1 hFs hst (step_lone_go (by simp [stepG, hmode, stepG.exec, hfr])) (hF.withTodo h2) rfl
  · rename_i b k ht
    obtain ⟨it, its, hfr, h1, h2⟩ := items_cons hF ht
    have h1 : it = .inScope b := h1
    subst h1
    exact go1 hFs hst (step_lone_go (by simp [stepG, hmode, stepG.exec, hfr])) (hF.withTodo h2) rfl
  · rename_i b k ht
    obtain ⟨it, its, hfr, h1, h2⟩ := items_cons hF ht
    have h1 : it = .inLoop b := h1
    subst h1
    exact go1 hFs hst (step_lone_go (by simp [stepG, hmode, stepG.exec, hfr])) (hF.withTodo (k := .code b :: .inLoop b :: k) (k' := .code b :: .inLoop b :: its) ⟨rfl, rfl, h2⟩) rfl
  · rename_i ops k ht
    obtain ⟨it, its, hfr, h1, h2⟩ := items_cons hF ht
    have h1 : it = .inRegion ops [] := h1
    subst h1
    exact go1 hFs hst (step_lone_go (by simp [stepG, hmode, stepG.exec, hfr])) (hF.withTodo h2) rfl
  · rename_i ops i rest k ht; exact regionStep_ok hΓ hF hFs hst hm ht
  · trivial
  · rename_i l k ht
    obtain ⟨it, its, hfr, ⟨h1, hln⟩, h2⟩ := items_cons hF ht
    subst h1
    split
    rotate_left
    · trivial
    rename_i st pend fn tmps params assign body defers hH
    obtain ⟨ts, hts, hd, hob⟩ := hst.obj l _ hH
    have key : st ≠ .busy → NextOK P g (F :: Fs) H fr (frs ++ cs0) cs0 w (.next (.run ({ F with todo := (pend.map AItem.code).toList ++ k } :: Fs) (H.set l (.loop .exhausted pend fn tmps params assign body defers)))) := by
      intro hne
      have hrun : (Instr.endLoop (g.mu l)).run P w = .ok pend (putB w (g.mu l) (.loop { state := .exhausted, pending := pend, fn, tmps := ts, params, assign, body, defers := g.mu defers })) := by
        have hb : (st == LoopState.busy) = false := by cases st <;> first | rfl | (exact absurd rfl hne)
        simp only [Instr.endLoop, Instr.getLoop, Sem.run_bind, run_getObj hob (by intros; simp), Result.andThen_ok, Sem.run_pure, hb, Bool.false_eq_true, if_false]
        rw [run_setObj hob (by intros; simp)]
        rfl
      have hst' := hst.put hH rfl (.loop .exhausted pend fn tmps params assign body defers) rfl _ ⟨ts, hts, hd, rfl⟩
      refine ⟨{ fr with todo := (pend.map Item.code).toList ++ its }, frs, _, g, .one (step_lone_go ?_), hF.withTodo (RepItems.append ?_ h2), hFs, hst', Ext.put hst hH rfl _ _, botFn_top F _ Fs rfl, Gh.le.refl _⟩
      · simp [stepG, hmode, stepG.exec, hfr, Sem.runT_eq, hrun]
      · cases pend with
        | none => trivial
        | some c => exact ⟨rfl, trivial⟩
    split
    · trivial
    · rename_i hne; exact key (fun e => hne e)
  · rename_i k ht
    obtain ⟨it, its, hfr, h1, h2⟩ := items_cons hF ht
    have h1 : it = .beginRound := h1
    subst h1
    split
    rotate_left
    · trivial
    rename_i l hround
    split
    rotate_left
    · trivial
    rename_i pend fn tmps params assign body defers hH
    obtain ⟨ts, hts, hd, hob⟩ := hst.obj l _ hH
    have hr : fr.roundOf = some (g.mu l) := by rw [hF.round, hround]; rfl
    have hrun : (Instr.beginRound (g.mu l)).run P w = .ok () (putB w (g.mu l) (.loop { state := .busy, pending := pend, fn, tmps := ts, params, assign, body, defers := g.mu defers })) := by
      simp only [Instr.beginRound, Instr.getLoop, Sem.run_bind, run_getObj hob (by intros; simp), Result.andThen_ok, Sem.run_pure]
      rw [run_setObj hob (by intros; simp)]
      rfl
    have hst' := hst.put hH rfl (.loop .busy pend fn tmps params assign body defers) rfl _ ⟨ts, hts, hd, rfl⟩
    refine ⟨{ fr with todo := its }, frs, _, g, .one (step_lone_go ?_), hF.withTodo h2, hFs, hst', Ext.put hst hH rfl _ _, botFn_top F _ Fs rfl, Gh.le.refl _⟩
    simp [stepG, hmode, stepG.exec, hfr, stepG.apply, hr, Sem.runT_eq, hrun, Frame.finish]

end
end Go.Eng

/- The engine, part 19: unwinding; the step theorem; what a run of the abstract machine says of a call. -/
set_option linter.unusedVariables false
set_option linter.unusedSimpArgs false
set_option linter.unnecessarySimpa false
namespace Go.Eng
open Go

section
variable {P : Program} {Γ : Oracle} {g : Gh} {F : AFrame} {Fs : List AFrame} {H : AHeap} {fr : Frame} {frs cs0 : List Frame} {w : World}

theorem loadVar_of_loadAt {T : TypeId} {c v : Value} (h : (nv (Instr.loadAt T c)).run P w = .ok (.value v) w) : (do loadVar T (← asAddr c) : Sem Value).run P w = .ok v w := by
  rw [nv_run] at h
  cases c with
  | pointer a =>
    cases a with
    | some a =>
      have e1 : (Instr.loadAt T (.pointer (some a))) = loadVar T a := rfl
      have e2 : (do loadVar T (← asAddr (.pointer (some a))) : Sem Value) = loadVar T a := rfl
      rw [e1] at h
      rw [e2]
      cases hr : (loadVar T a).run P w with
      | ok x w' => rw [hr] at h; simp [nvR] at h; obtain ⟨rfl, rfl⟩ := h; rfl
      | halt x w' => rw [hr] at h; simp [nvR] at h
    | none => simp [Instr.loadAt, Instr.sureAddr, nvR, stuck] at h
  | _ => simp [Instr.loadAt, Instr.sureAddr, nvR, stuck] at h

/-- A result, read. -/
def resOf (ts : Array Value) (r : ResultVar) : Sem Value :=
  match r with
  | .tmp t => pure (ts.getD t undef)
  | .cell a t => do loadVar t (← asAddr (ts.getD a undef))

theorem results_eq (fn : Func) (ts : Array Value) : results fn ts = (do let vs ← fn.results.mapM (resOf ts); pure (if h : vs.size = 1 then vs[0] else .tuple vs)) := by
  unfold results
  congr 2

theorem resAs_ok (hst : St g H w) {tmps : List AV} {ts : Array Value} (ht : RepL g tmps ts) : ∀ (rs : List ResultVar) {vs : List AV}, resAs P tmps H rs = some vs →
    ∃ cs : List Value, (rs.mapM (resOf ts)).run P w = .ok cs w ∧ RepL g vs cs.toArray
  | [], vs, h => by
    simp only [resAs, Option.some.injEq] at h
    subst h
    exact ⟨[], rfl, RepL.nil g⟩
  | r :: rs, vs, h => by
    simp only [resAs] at h
    split at h
    · rename_i v hv
      split at h
      · rename_i vs' hvs
        cases h
        obtain ⟨cs, hrun, hrep⟩ := resAs_ok hst ht rs hvs
        have hget : ∀ t, ARep g (tmps.getD t .un) (ts.getD t undef) := fun t => evalA_ok ht [] (.tmp t)
        cases r with
        | tmp t =>
          simp only [resA, Option.some.injEq] at hv
          subst hv
          refine ⟨ts.getD t undef :: cs, ?_, RepL.cons (hget t) hrep⟩
          rw [List.mapM_cons]
          simp only [resOf, Sem.run_bind, Sem.run_pure, Result.andThen_ok, hrun]
        | cell a t =>
          simp only [resA] at hv
          split at hv
          · rename_i v' hl
            cases hv
            have hok := loadA_ok (P := P) hst t (hget a)
            rw [hl] at hok
            obtain ⟨c, hc, hr⟩ := hok
            have := loadVar_of_loadAt hc
            refine ⟨c :: cs, ?_, RepL.cons hr hrep⟩
            rw [List.mapM_cons, Sem.run_bind]
            rw [show (resOf ts (.cell a t)).run P w = .ok c w from this]
            simp only [Sem.run_bind, Sem.run_pure, Result.andThen_ok, hrun]
          · cases hv
      · cases h
    · cases h

theorem resultsA_ok (hst : St g H w) {tmps : List AV} {ts : Array Value} (ht : RepL g tmps ts) {fn : Func} {v : AV} (h : resultsA P fn tmps H = some v) :
    ∃ c, (results fn ts).run P w = .ok c w ∧ ARep g v c := by
  have key : ∀ {cs : List Value}, (fn.results.toList.mapM (resOf ts)).run P w = .ok cs w →
      (results fn ts).run P w = .ok (if h : cs.toArray.size = 1 then cs.toArray[0] else .tuple cs.toArray) w := by
    intro cs hcs
    rw [results_eq, Sem.run_bind, Array.mapM_eq_mapM_toList, Sem.run_map, hcs]
    rfl
  unfold resultsA at h
  split at h
  · rename_i v' hv
    cases h
    obtain ⟨cs, hrun, hrep⟩ := resAs_ok (P := P) hst ht _ hv
    have hlen : cs.length = 1 := by have := hrep.1; simpa using this.symm
    obtain ⟨c, rfl⟩ := List.length_eq_one_iff.1 hlen
    refine ⟨c, ?_, hrep.2 0 _ _ rfl rfl⟩
    rw [key hrun]; rfl
  · rename_i vs hne hv
    cases h
    obtain ⟨cs, hrun, hrep⟩ := resAs_ok (P := P) hst ht _ hv
    refine ⟨.tuple cs.toArray, ?_, .tu _ _ hrep.1 hrep.2⟩
    rw [key hrun, dif_neg]
    intro hlen
    have : vs.length = 1 := by rw [hrep.1]; exact hlen
    obtain ⟨c, rfl⟩ := List.length_eq_one_iff.1 this
    exact hne _ rfl
  · cases h

theorem mode_ne_run (hF : RepFrame g F fr) (h : F.mode ≠ .run) : fr.mode ≠ .run := by
  have hm := hF.mode
  cases e : F.mode with
  | run => exact absurd e h
  | ret => rw [e] at hm; rw [show fr.mode = .returning from hm]; simp
  | pan ps => rw [e] at hm; obtain ⟨cs, e', _⟩ := hm; rw [e']; simp

theorem unwindA_ok (hF : RepFrame g F fr) (hFs : RepFrames g Fs frs) (hst : St g H w) (hm : F.mode ≠ .run) :
    NextOK P g (F :: Fs) H fr (frs ++ cs0) cs0 w (unwindA P F Fs H) := by
  have hmode := mode_ne_run hF hm
  have hd := hF.defers
  unfold unwindA
  split
  · -- the rounds' deferred calls
    rename_i i ds e
    rw [e] at hd
    cases hfd : fr.defers with
    | nil => rw [hfd] at hd; exact hd.elim
    | cons d ds' =>
      rw [hfd] at hd
      obtain ⟨h1, h2⟩ := hd
      cases h1 with
      | collected _ hi =>
        split
        rotate_left
        · trivial
        rename_i calls hH
        obtain ⟨cs, hcs, hob⟩ := hst.obj i _ hH
        have hrun : (Instr.takeDeferred (g.mu i)).run P w = .ok cs (putB w (g.mu i) (.deferred none)) := by
          simp only [Instr.takeDeferred, Sem.run_bind, run_getObj hob (by intros; simp), Result.andThen_ok, Sem.run_pure]
          rw [run_setObj hob (by intros; simp)]
          rfl
        have hst' := hst.put hH rfl (.defd none) rfl (.deferred none) rfl
        refine ⟨{ fr with defers := cs ++ ds' }, frs, _, g, .one (step_lone_go ?_), ⟨hF.fn, hF.tmps, hF.todo, hcs.append h2, hF.mode, hF.kind, hF.round, hF.roundn⟩, hFs, hst', Ext.put hst hH rfl _ _, botFn_top F _ Fs rfl, Gh.le.refl _⟩
        cases hfm : fr.mode with
        | run => exact absurd hfm hmode
        | returning => simp [stepG, unwind, hfm, hfd, Sem.runT_eq, hrun]
        | panicking chain => simp [stepG, unwind, hfm, hfd, Sem.runT_eq, hrun]
  · rename_i f cap args ds e
    rw [e] at hd
    cases hfd : fr.defers with
    | nil => rw [hfd] at hd; exact hd.elim
    | cons d ds' =>
      rw [hfd] at hd
      obtain ⟨h1, h2⟩ := hd
      cases h1 with
      | fn _ _ _ cs as hc ha =>
        split
        rotate_left
        · trivial
        rename_i hb
        have hinv : (invoke (.fn (.func f) cs) as).run P w = .ok (.enter f (as ++ cs)) w := by
          simp only [invoke]
          exact run_callFunc hb _ _
        have hs := step_defer (P := P) (cs := frs ++ cs0) (w := w) hmode hfd rfl hinv
        exact ⟨_, { fr with defers := ds' } :: frs, w, g, .one hs, enterA_ok hb (ha.append hc) .deferred, ⟨⟨hF.fn, hF.tmps, hF.todo, h2, hF.mode, hF.kind, hF.round, hF.roundn⟩, hFs⟩, hst, Ext.refl _ _ _, by
          rw [botFn_cons _ _ (by simp)]; exact botFn_top F _ Fs rfl, Gh.le.refl _⟩
  · trivial
  · rename_i e
    rw [e] at hd
    have hfd : fr.defers = [] := by
      cases hfd : fr.defers with
      | nil => rfl
      | cons _ _ => rw [hfd] at hd; exact hd.elim
    split
    · trivial
    · rename_i chain em
      have hFm := hF.mode
      rw [em] at hFm
      obtain ⟨cs, hfm, hps⟩ := hFm
      split
      · trivial
      rename_i fn hfn
      have hleave : fr.leaving P w (.panicked cs) := ⟨hfm, hfd, fn, by rw [hF.fn]; exact hfn⟩
      cases Fs with
      | nil =>
        cases frs with
        | cons _ _ => exact hFs.elim
        | nil => exact ⟨cs, rfl, hF.fn, hleave, hps, rfl⟩
      | cons C rest =>
        cases frs with
        | nil => exact hFs.elim
        | cons C' rest' =>
          obtain ⟨hC, hrest⟩ := hFs
          exact ⟨C'.raise cs, rest', w, g, .one (step_leave_panicked hleave), raise_ok hC hps, hrest, hst, Ext.refl _ _ _, by
            rw [botFn_cons F _ (by simp)]; exact botFn_top C _ rest (by unfold AFrame.raise; split <;> rfl), Gh.le.refl _⟩
    · rename_i em
      have hfm : fr.mode = .returning := by have := hF.mode; rw [em] at this; exact this
      split
      · trivial
      rename_i fn hfn
      have hfn' : P.funcs[fr.fn]? = some fn := by rw [hF.fn]; exact hfn
      split
      rotate_left
      · trivial
      rename_i v hv
      obtain ⟨c, hrun, hrep⟩ := resultsA_ok (P := P) hst hF.tmps hv
      cases Fs with
      | nil =>
        cases frs with
        | cons _ _ => exact hFs.elim
        | nil =>
          unfold backA
          simp only []
          split
          · rename_i hk
            exact ⟨c, rfl, hF.fn, ⟨hfm, hfd, by rw [hF.kind, hk], fn, hfn', hrun⟩, hrep, rfl⟩
          · trivial
      | cons C rest =>
        refine backA_ok (c := c) hF hFs (Gh.le.refl g) hst (Ext.refl _ _ _) hrep (by simp) ?_
        intro C' cs hcs
        simp [stepG, unwind, hfm, hfd, hfn', Sem.runT_eq, hrun]

/-- EACH STEP of the abstract machine is the model's. -/
theorem astep_ok (hΓ : OracleOK P Γ) (hF : RepFrame g F fr) (hFs : RepFrames g Fs frs) (hst : St g H w) :
    NextOK P g (F :: Fs) H fr (frs ++ cs0) cs0 w (astep P Γ (.run (F :: Fs) H)) := by
  unfold astep
  simp only []
  split
  · rename_i hm; exact runStep_ok hΓ hF hFs hst hm
  · rename_i hm; exact unwindA_ok hF hFs hst (fun e => hm e)

end

/-- How an abstract run may end. -/
inductive AEnd where
  | ret (v : AV)
  | pan (chain : List APanic)

def RepEnd (g : Gh) : AEnd → Ending → Prop
  | .ret v, e => ∃ c, e = .returned c ∧ ARep g v c
  | .pan ps, e => ∃ c, e = .panicked c ∧ RepPs g ps c

/-- WHAT A STATE OF THE ABSTRACT MACHINE COMES TO: whatever state of the model it stands for, that comes to an end that the abstract one tells. -/
def Wp (P : Program) (Q : AEnd → AHeap → Prop) : AM → Prop
  | .run fs H => ∀ (g : Gh) (fr : Frame) (frs cs0 : List Frame) (w : World), RepFrames g fs (fr :: frs) → St g H w →
      ∃ a H' e w' frb g', g.le g' ∧ Q a H' ∧ RepEnd g' a e ∧ Comes P (lone fr (frs ++ cs0) w) (lone frb cs0 w') e ∧ frb.fn = botFn fs ∧ frb.leaving P w' e ∧ St g' H' w' ∧
        Ext g.imm (foot g H) w g'.imm (foot g' H') w'
  | .ret v H => Q (.ret v) H
  | .pan ps H => Q (.pan ps) H

def WpN (P : Program) (Q : AEnd → AHeap → Prop) : ANext → Prop
  | .next m => Wp P Q m
  | .br c a b => (c = true → WpN P Q a) ∧ (c = false → WpN P Q b)
  | .need c a => c = true ∧ WpN P Q a
  | .stop => False

theorem Comes.steps {P : Program} {m m1 m' : Machine} {e : Ending} (h : Steps P m m1) (k : Comes P m1 m' e) : Comes P m m' e := Comes.of_steps h k

theorem wp_step {P : Program} {Γ : Oracle} (hΓ : OracleOK P Γ) {Q : AEnd → AHeap → Prop} {m : AM} (h : WpN P Q (astep P Γ m)) : Wp P Q m := by
  cases m with
  | ret v H => exact h.elim
  | pan ps H => exact h.elim
  | run fs H =>
    cases fs with
    | nil => exact h.elim
    | cons F Fs =>
      intro g fr frs cs0 w ⟨hF, hFs⟩ hst
      have hn := astep_ok (cs0 := cs0) hΓ hF hFs hst
      have key : ∀ n, NextOK P g (F :: Fs) H fr (frs ++ cs0) cs0 w n → WpN P Q n →
          ∃ a H' e w' frb g', g.le g' ∧ Q a H' ∧ RepEnd g' a e ∧ Comes P (lone fr (frs ++ cs0) w) (lone frb cs0 w') e ∧ frb.fn = botFn (F :: Fs) ∧ frb.leaving P w' e ∧ St g' H' w' ∧
            Ext g.imm (foot g H) w g'.imm (foot g' H') w' := by
        intro n
        induction n with
        | next m =>
          intro hn hw
          cases m with
          | run fs' H' =>
            cases fs' with
            | nil => exact hn.elim
            | cons F' Fs' =>
              obtain ⟨fr', frs', w', g', hsteps, hF', hFs', hst', hext, hbot, hle⟩ := hn
              obtain ⟨a, H2, e, w2, frb, g2, hle2, h1, h2, h3, h4, h5, h6, h7⟩ := hw g' fr' frs' cs0 w' ⟨hF', hFs'⟩ hst'
              exact ⟨a, H2, e, w2, frb, g2, hle.trans hle2, h1, h2, Comes.of_steps hsteps h3, h4.trans hbot, h5, h6, hext.trans h7⟩
          | ret v H' =>
            obtain ⟨c, h1, h2, h3, h4, h5⟩ := hn
            subst h5
            rw [h1]
            exact ⟨.ret v, H', .returned c, w, fr, g, Gh.le.refl _, hw, ⟨c, rfl, h4⟩, Steps.refl P _, h2, h3, hst, Ext.refl _ _ _⟩
          | pan ps H' =>
            obtain ⟨c, h1, h2, h3, h4, h5⟩ := hn
            subst h5
            rw [h1]
            exact ⟨.pan ps, H', .panicked c, w, fr, g, Gh.le.refl _, hw, ⟨c, rfl, h4⟩, Steps.refl P _, h2, h3, hst, Ext.refl _ _ _⟩
        | br c a b iha ihb =>
          intro hn hw
          cases c with
          | true => exact iha (hn.1 rfl) (hw.1 rfl)
          | false => exact ihb (hn.2 rfl) (hw.2 rfl)
        | need c a ih => intro hn hw; exact ih (hn hw.1) hw.2
        | stop => intro _ hw; exact hw.elim
      exact key _ hn h

theorem Wp.mono {P : Program} {Q Q' : AEnd → AHeap → Prop} (h : ∀ a H, Q a H → Q' a H) {m : AM} (hw : Wp P Q m) : Wp P Q' m := by
  cases m with
  | ret v H => exact h _ _ hw
  | pan ps H => exact h _ _ hw
  | run fs H =>
    intro g fr frs cs0 w hf hst
    obtain ⟨a, H', e, w', frb, g', hle, h1, rest⟩ := hw g fr frs cs0 w hf hst
    exact ⟨a, H', e, w', frb, g', hle, h _ _ h1, rest⟩

/-- A CALL, by a run of the abstract machine. -/
theorem calls_of_wp {P : Program} {Q : AEnd → AHeap → Prop} {f : FuncId} {args : List AV} {H : AHeap} (hb : hasBody P f = true) (h : Wp P Q (.run [enterA P f args .normal] H))
    (g : Gh) (w : World) (cargs : Array Value) (hst : St g H w) (ha : RepL g args cargs) :
    Calls P f cargs w fun e w' => ∃ a H' g', g.le g' ∧ Q a H' ∧ RepEnd g' a e ∧ St g' H' w' ∧ Ext g.imm (foot g H) w g'.imm (foot g' H') w' := by
  intro cs
  obtain ⟨a, H', e, w', frb, g', hle, h1, h2, h3, h4, h5, h6, h7⟩ := h g (Frame.enter P f cargs .normal) [] cs w ⟨enterA_ok hb ha .normal, trivial⟩ hst
  refine ⟨e, w', frb, ⟨a, H', g', hle, h1, h2, h6, h7⟩, h3, ?_, h5⟩
  rw [h4]
  unfold hasBody at hb
  split at hb
  · rename_i fn hf; simp [botFn, enterA, hf]
  · cases hb

end Go.Eng

/- The engine, part 20: runs. -/
set_option linter.unusedVariables false
set_option linter.unusedSimpArgs false
set_option linter.unnecessarySimpa false
namespace Go.Eng
open Go

def atLoop : AM → Bool
  | .run (F :: _) _ => match F.mode, F.todo with
    | .run, .code (.loop _) :: _ => true
    | .run, .inLoop _ :: _ => true
    | _, _ => false
  | _ => false

def isEnd : AM → Bool
  | .run .. => false
  | _ => true

/-- Steps till a loop's head, a question, or the end. -/
def goA (P : Program) (Γ : Oracle) : Nat → AM → ANext
  | 0, m => .next m
  | n + 1, m => match astep P Γ m with
    | .next m' => if isEnd m' then .next m' else if atLoop m' then .next m' else goA P Γ n m'
    | r => r

def goN (P : Program) (Γ : Oracle) (n : Nat) : ANext → ANext
  | .next m => if isEnd m then .next m else goA P Γ n m
  | x => x

/-- Questions answered by reckoning. -/
def reck : ANext → ANext
  | .br c a b => bif c then reck a else reck b
  | .need c a => bif c then reck a else .stop
  | x => x

/-- Steps to the end, all questions answered by reckoning. -/
def goC (P : Program) (Γ : Oracle) : Nat → AM → ANext
  | 0, m => .next m
  | n + 1, m => match reck (astep P Γ m) with
    | .next m' => if isEnd m' then .next m' else goC P Γ n m'
    | r => r

def condOf : ANext → Option Bool
  | .br c _ _ => some c
  | _ => none
def leftOf : ANext → ANext
  | .br _ a _ => a
  | x => x
def rightOf : ANext → ANext
  | .br _ _ b => b
  | x => x
def needOf : ANext → Option Bool
  | .need c _ => some c
  | _ => none
def bodyOf : ANext → ANext
  | .need _ a => a
  | x => x

section
variable {P : Program} {Γ : Oracle} (hΓ : OracleOK P Γ) {Q : AEnd → AHeap → Prop}

include hΓ in
theorem wp_goA : ∀ (n : Nat) (m : AM), WpN P Q (goA P Γ n m) → Wp P Q m
  | 0, m, h => h
  | n + 1, m, h => by
    refine wp_step hΓ ?_
    rw [goA] at h
    cases e : astep P Γ m with
    | next m' =>
      rw [e] at h
      simp only [] at h
      show Wp P Q m'
      split at h
      · exact h
      · split at h
        · exact h
        · exact wp_goA n m' h
    | br c a b => rw [e] at h; exact h
    | need c a => rw [e] at h; exact h
    | stop => rw [e] at h; exact h

include hΓ in
theorem wp_goN (n : Nat) (x : ANext) (h : WpN P Q (goN P Γ n x)) : WpN P Q x := by
  cases x with
  | next m =>
    simp only [goN] at h
    split at h
    · exact h
    · exact wp_goA hΓ n m h
  | _ => exact h

theorem wpn_reck : ∀ (x : ANext), WpN P Q (reck x) → WpN P Q x
  | .next m, h => h
  | .br c a b, h => by
    rw [reck] at h
    cases c with
    | true => exact ⟨fun _ => wpn_reck a h, fun hc => by cases hc⟩
    | false => exact ⟨fun hc => (by cases hc), fun _ => wpn_reck b h⟩
  | .need c a, h => by
    rw [reck] at h
    cases c with
    | true => exact ⟨rfl, wpn_reck a h⟩
    | false => exact h.elim
  | .stop, h => h

include hΓ in
theorem wp_goC : ∀ (n : Nat) (m : AM), WpN P Q (goC P Γ n m) → Wp P Q m
  | 0, m, h => h
  | n + 1, m, h => by
    refine wp_step hΓ (wpn_reck _ ?_)
    rw [goC] at h
    cases e : reck (astep P Γ m) with
    | next m' =>
      rw [e] at h
      simp only [] at h
      show Wp P Q m'
      split at h
      · exact h
      · exact wp_goC n m' h
    | br c a b => rw [e] at h; exact h
    | need c a => rw [e] at h; exact h
    | stop => rw [e] at h; exact h

include hΓ in
/-- A question: both ways. -/
theorem w_br (n : Nat) {x : ANext} (c : Bool) (h : condOf (goN P Γ n x) = some c) (ht : c = true → WpN P Q (leftOf (goN P Γ n x))) (hf : c = false → WpN P Q (rightOf (goN P Γ n x))) : WpN P Q x := by
  refine wp_goN hΓ n x ?_
  cases e : goN P Γ n x with
  | br c' a b =>
    rw [e] at h ht hf
    cases h
    exact ⟨ht, hf⟩
  | _ => rw [e] at h; cases h

include hΓ in
theorem w_t (n : Nat) {x : ANext} (h : condOf (goN P Γ n x) = some true) (ht : WpN P Q (leftOf (goN P Γ n x))) : WpN P Q x :=
  w_br hΓ n true h (fun _ => ht) (fun h => by cases h)

include hΓ in
theorem w_f (n : Nat) {x : ANext} (h : condOf (goN P Γ n x) = some false) (hf : WpN P Q (rightOf (goN P Γ n x))) : WpN P Q x :=
  w_br hΓ n false h (fun h => by cases h) (fun _ => hf)

include hΓ in
/-- A thing that must hold. -/
theorem w_need (n : Nat) {x : ANext} (c : Bool) (h : needOf (goN P Γ n x) = some c) (hc : c = true) (k : WpN P Q (bodyOf (goN P Γ n x))) : WpN P Q x := by
  refine wp_goN hΓ n x ?_
  cases e : goN P Γ n x with
  | need c' a =>
    rw [e] at h k
    cases h
    exact ⟨hc, k⟩
  | _ => rw [e] at h; cases h

include hΓ in
/-- The end. -/
theorem w_ret (n : Nat) {x : ANext} (v : AV) (H : AHeap) (h : goN P Γ n x = .next (.ret v H)) (hq : Q (.ret v) H) : WpN P Q x := by
  refine wp_goN hΓ n x ?_
  rw [h]; exact hq

include hΓ in
/-- A state, written out. -/
theorem w_at (n : Nat) {x : ANext} (m : AM) (h : goN P Γ n x = .next m) (hq : WpN P Q (.next m)) : WpN P Q x := by
  refine wp_goN hΓ n x ?_
  rw [h]; exact hq

end

def noOracle : Oracle := fun _ _ _ => none
theorem noOracle_ok (P : Program) : OracleOK P noOracle := fun f args H r h => by cases h

end Go.Eng
