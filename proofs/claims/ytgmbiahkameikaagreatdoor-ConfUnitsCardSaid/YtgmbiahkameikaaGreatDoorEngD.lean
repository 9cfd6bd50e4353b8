/- The engine, drawn regions, part 1: which orders there are. -/
import Derived.Test.YtgmbiahkameikaaGreatDoorEngC
set_option linter.unusedVariables false
set_option linter.unusedSimpArgs false
set_option linter.unnecessarySimpa false
namespace Go.Eng
open Go

/-- An order in which each operation comes behind all that it waits for. -/
inductive Ord (ops : Array Oper) : (Nat → Prop) → List Nat → Prop
  | nil (S : Nat → Prop) : Ord ops S []
  | cons (S : Nat → Prop) (i : Nat) (o : Oper) (l : List Nat) (ho : ops[i]? = some o) (hs : ¬ S i) (hd : ∀ e ∈ o.after.toList, Region.binds .any e = true → S e.on)
      (hl : Ord ops (fun j => S j ∨ j = i) l) : Ord ops S (i :: l)

theorem Ord.congr {ops : Array Oper} {S S' : Nat → Prop} (h : ∀ j, S j ↔ S' j) {l : List Nat} (ho : Ord ops S l) : Ord ops S' l := by
  have : S = S' := funext fun j => propext (h j)
  rw [← this]; exact ho

theorem edges_lt {ops : Array Oper} (h : edgesOk ops.toList = true) {i : Nat} {o : Oper} (ho : ops[i]? = some o) {e : Edge} (he : e ∈ o.after.toList) (hb : Region.binds .any e = true) : e.on < i := by
  unfold edgesOk at h
  rw [List.all_eq_true] at h
  have hm : (o, i) ∈ ops.toList.zipIdx := by
    rw [List.mem_zipIdx_iff_getElem?]
    simpa using ho
  have h2 := h _ hm
  rw [List.all_eq_true] at h2
  have h3 := h2 e he
  rw [hb] at h3
  simpa using h3

/-- How many have not been listed. -/
def open_ (listed : Array Bool) (n : Nat) : Nat := ((List.range n).filter fun j => listed.getD j false = false).length

theorem open_set {listed : Array Bool} {n i : Nat} (hs : listed.size = n) (hi : i < n) (hf : listed.getD i false = false) : open_ (listed.setIfInBounds i true) n + 1 = open_ listed n := by
  have key : ∀ (m : Nat), m ≤ n → (i < m → ((List.range m).filter fun j => (listed.setIfInBounds i true).getD j false = false).length + 1 = ((List.range m).filter fun j => listed.getD j false = false).length) ∧
      (m ≤ i → ((List.range m).filter fun j => (listed.setIfInBounds i true).getD j false = false).length = ((List.range m).filter fun j => listed.getD j false = false).length) := by
    intro m
    induction m with
    | zero => intro _; exact ⟨fun h => by omega, fun _ => rfl⟩
    | succ m ih =>
      intro hm
      obtain ⟨ih1, ih2⟩ := ih (by omega)
      have hget : ∀ j, j ≠ i → (listed.setIfInBounds i true).getD j false = listed.getD j false := by
        intro j hj
        rw [Array.getD_eq_getD_getElem?, Array.getD_eq_getD_getElem?, Array.getElem?_setIfInBounds, if_neg (fun e => hj e.symm)]
      have hgeti : (listed.setIfInBounds i true).getD i false = true := by
        rw [Array.getD_eq_getD_getElem?, Array.getElem?_setIfInBounds, if_pos rfl, if_pos (by omega)]; rfl
      refine ⟨fun h => ?_, fun h => ?_⟩
      · rw [List.range_succ, List.filter_append, List.filter_append, List.length_append, List.length_append]
        by_cases e : m = i
        · subst e
          have := ih2 (Nat.le_refl _)
          rw [this]
          simp only [List.filter_cons, List.filter_nil, hgeti, hf]
          simp
        · have := ih1 (by omega)
          simp only [List.filter_cons, List.filter_nil, hget m e]
          omega
      · rw [List.range_succ, List.filter_append, List.filter_append, List.length_append, List.length_append]
        have := ih2 (by omega)
        simp only [List.filter_cons, List.filter_nil, hget m (by omega)]
        omega
  exact (key n (Nat.le_refl _)).1 hi

theorem lin_ok {ops : Array Oper} (hedge : edgesOk ops.toList = true) : ∀ (fuel t : Nat) (listed : Array Bool) (acc : List Nat), listed.size = ops.size →
    ∃ l, Region.linearise.go .any ops fuel t listed acc = acc.reverse ++ l ∧ Ord ops (fun j => listed.getD j false = true) l ∧
      (open_ listed ops.size ≤ fuel → ∀ j, j < ops.size → listed.getD j false = true ∨ j ∈ l)
  | 0, t, listed, acc, hs => by
    refine ⟨[], by simp [Region.linearise.go], .nil _, fun h j hj => ?_⟩
    cases hl : listed.getD j false with
    | true => exact .inl rfl
    | false =>
      have : j ∈ (List.range ops.size).filter fun j => listed.getD j false = false := List.mem_filter.2 ⟨List.mem_range.2 hj, by simpa using hl⟩
      have := List.length_pos_of_mem this
      unfold open_ at h
      omega
  | fuel + 1, t, listed, acc, hs => by
    rw [Region.linearise.go]
    let rs := (List.range ops.size).filter fun i => !listed.getD i true && ((ops[i]?).map (·.after.all fun e => !Region.binds .any e || listed.getD e.on false)).getD false
    have hrs : rs = (List.range ops.size).filter fun i => !listed.getD i true && ((ops[i]?).map (·.after.all fun e => !Region.binds .any e || listed.getD e.on false)).getD false := rfl
    rw [← hrs]
    have hmem : ∀ i ∈ rs, i < ops.size ∧ listed.getD i false = false ∧ ∃ o, ops[i]? = some o ∧ ∀ e ∈ o.after.toList, Region.binds .any e = true → listed.getD e.on false = true := by
      intro i hi
      obtain ⟨h1, h2⟩ := List.mem_filter.1 hi
      have h1 := List.mem_range.1 h1
      obtain ⟨h3, h4⟩ := Bool.and_eq_true_iff.1 h2
      refine ⟨h1, ?_, ops[i], by simp [h1], ?_⟩
      · have hlt : i < listed.size := by omega
        simp only [Array.getD_eq_getD_getElem?, Array.getElem?_eq_getElem hlt, Option.getD_some] at h3 ⊢
        simpa using h3
      · intro e he hb
        rw [Array.getElem?_eq_getElem h1] at h4
        simp only [Option.map_some, Option.getD_some] at h4
        have := Array.all_eq_true'.1 h4 e (by simpa using he)
        rw [hb] at this
        simpa using this
    cases hg : rs[t % rs.length]? with
    | none =>
      refine ⟨[], by simp, .nil _, fun h j hj => ?_⟩
      -- no operation is ready: all are listed
      have hnil : rs = [] := by
        rcases List.eq_nil_or_concat rs with e | ⟨a, b, e⟩
        · exact e
        · have hpos : 0 < rs.length := by rw [e]; simp
          have := Nat.mod_lt t hpos
          rw [List.getElem?_eq_none_iff] at hg
          omega
      have hall : ∀ j, j < ops.size → listed.getD j false = true := by
        intro j
        induction j using Nat.strongRecOn with
        | _ j ih =>
          intro hj
          cases hl : listed.getD j false with
          | true => rfl
          | false =>
            exfalso
            have : j ∈ rs := by
              rw [hrs]
              refine List.mem_filter.2 ⟨List.mem_range.2 hj, ?_⟩
              rw [Bool.and_eq_true_iff]
              refine ⟨?_, ?_⟩
              · have hlt : j < listed.size := by omega
                simp only [Array.getD_eq_getD_getElem?, Array.getElem?_eq_getElem hlt, Option.getD_some] at hl ⊢
                simpa using hl
              · rw [Array.getElem?_eq_getElem hj]
                simp only [Option.map_some, Option.getD_some]
                rw [Array.all_eq_true']
                intro e he
                cases hb : Region.binds .any e with
                | false => rfl
                | true =>
                  have hlt := edges_lt hedge (Array.getElem?_eq_getElem hj) (by simpa using he) hb
                  rw [ih e.on hlt (by omega)]; rfl
            rw [hnil] at this
            cases this
      exact .inl (hall j hj)
    | some i =>
      have hi := hmem i (List.mem_of_getElem? hg)
      obtain ⟨h1, h2, o, ho, hd⟩ := hi
      obtain ⟨l, hl1, hl2, hl3⟩ := lin_ok hedge fuel (t / rs.length) (listed.setIfInBounds i true) (i :: acc) (by simpa using hs)
      have hset : ∀ j, (listed.setIfInBounds i true).getD j false = true ↔ (listed.getD j false = true ∨ j = i) := by
        intro j
        rw [Array.getD_eq_getD_getElem?, Array.getElem?_setIfInBounds]
        by_cases e : i = j
        · subst e
          simp [show i < listed.size by omega]
        · rw [if_neg e, ← Array.getD_eq_getD_getElem?]
          constructor
          · intro h; exact .inl h
          · rintro (h | h)
            · exact h
            · exact absurd h.symm e
      refine ⟨i :: l, by simp only []; rw [hl1]; simp, .cons _ i o l ho (by simp [h2]) hd (hl2.congr hset), fun hf j hj => ?_⟩
      have := open_set (listed := listed) hs h1 h2
      rcases hl3 (by omega) j hj with h | h
      · rcases (hset j).1 h with h | h
        · exact .inl h
        · exact .inr (by simp [h])
      · exact .inr (by simp [h])

/-- The orders of a region that draws. -/
theorem schedule_ok {ops : Array Oper} (hedge : edgesOk ops.toList = true) (t : Nat) : Ord ops (fun _ => False) (Region.schedule true ops t) ∧ ∀ j, j < ops.size → j ∈ Region.schedule true ops t := by
  obtain ⟨l, h1, h2, h3⟩ := lin_ok hedge ops.size t (Array.replicate ops.size false) [] (by simp)
  have hf : ∀ j, (Array.replicate ops.size false).getD j false = false := by
    intro j
    rw [Array.getD_eq_getD_getElem?, Array.getElem?_replicate]
    split <;> rfl
  have e : Region.schedule true ops t = l := by
    simp only [Region.schedule, Bool.true_or, if_true, Region.linearise]
    rw [h1]; rfl
  rw [e]
  refine ⟨h2.congr fun j => by simp [hf], fun j hj => ?_⟩
  have : open_ (Array.replicate ops.size false) ops.size ≤ ops.size := by
    unfold open_
    exact Nat.le_trans (List.length_filter_le _ _) (by simp)
  rcases h3 this j hj with h | h
  · rw [hf] at h; cases h
  · exact h

/-- What must be ahead: the bits tell no more than the edges. -/
theorem anc_ok {S : Nat → Prop} : ∀ (os : List Oper) (acc : List Nat), (∀ i, i < acc.length → S i → ∀ j, (acc.getD i 0).testBit j = true → S j) →
    (∀ i o, os[i]? = some o → S (acc.length + i) → ∀ e ∈ o.after.toList, Region.binds .any e = true → S e.on) →
    ∀ i, i < (ancT acc os).length → S i → ∀ j, ((ancT acc os).getD i 0).testBit j = true → S j
  | [], acc, h, _ => h
  | o :: os, acc, h, hd => by
    refine anc_ok os (acc ++ [ancOf acc o]) ?_ ?_
    · intro i hi hS j hj
      rw [List.length_append] at hi
      simp only [List.length_cons, List.length_nil] at hi
      rcases Nat.lt_or_ge i acc.length with hlt | hge
      · rw [List.getD_eq_getElem?_getD, List.getElem?_append_left hlt, ← List.getD_eq_getElem?_getD] at hj
        exact h i hlt hS j hj
      · have e : i = acc.length := by omega
        subst e
        rw [List.getD_eq_getElem?_getD, List.getElem?_append_right (Nat.le_refl _)] at hj
        simp only [Nat.sub_self, List.getElem?_cons_zero, Option.getD_some] at hj
        have hedges := hd 0 o rfl hS
        -- over the edges
        have key : ∀ (es : List Edge) (s : Nat), (∀ e ∈ es, Region.binds .any e = true → S e.on) → (s.testBit j = true → S j) →
            (es.foldl (fun s e => if Region.binds .any e then s ||| 2 ^ e.on ||| acc.getD e.on 0 else s) s).testBit j = true → S j := by
          intro es
          induction es with
          | nil => intro s _ hs h; exact hs h
          | cons e es ih =>
            intro s he hs hb
            rw [List.foldl_cons] at hb
            refine ih _ (fun e' he' => he e' (by simp [he'])) ?_ hb
            intro h2
            split at h2
            · rename_i hbind
              have hon := he e (by simp) hbind
              rw [Nat.testBit_or, Nat.testBit_or] at h2
              rcases Bool.or_eq_true_iff.1 h2 with h2 | h2
              · rcases Bool.or_eq_true_iff.1 h2 with h2 | h2
                · exact hs h2
                · rw [Nat.testBit_two_pow] at h2
                  have : e.on = j := by simpa using h2
                  rw [← this]; exact hon
              · rcases Nat.lt_or_ge e.on acc.length with hlt | hge
                · exact h e.on hlt hon j h2
                · rw [List.getD_eq_getElem?_getD, List.getElem?_eq_none hge] at h2
                  simp at h2
            · exact hs h2
        exact key o.after.toList 0 hedges (by simp) hj
    · intro i o' ho' hS e he hb
      refine hd (i + 1) o' (by simpa using ho') ?_ e he hb
      rw [List.length_append] at hS
      simp only [List.length_cons, List.length_nil] at hS
      rwa [show acc.length + (i + 1) = acc.length + (0 + 1) + i by omega]

theorem ancT_length : ∀ (os : List Oper) (acc : List Nat), (ancT acc os).length = acc.length + os.length
  | [], acc => by simp [ancT]
  | o :: os, acc => by rw [ancT, ancT_length os]; simp; omega

end Go.Eng

/- The engine, drawn regions, part 2: what is not ordered does not meddle. -/
set_option linter.unusedVariables false
set_option linter.unusedSimpArgs false
set_option linter.unnecessarySimpa false
namespace Go.Eng
open Go

/-- Some operations of a region are over: a slot's value. -/
def slotS (ops : Array Oper) (S : Nat → Bool) (t : Tmp) : List AV → Nat → Option AV
  | [], _ => none
  | v :: vs, j => if S j = true ∧ (ops[j]?).bind (·.dst) = some t then some v else slotS ops S t vs (j + 1)

theorem slotS_some {ops : Array Oper} {S : Nat → Bool} {t : Tmp} : ∀ {vs : List AV} {j : Nat} {v : AV}, slotS ops S t vs j = some v → ∃ i, vs[i]? = some v ∧ S (j + i) = true ∧ (ops[j + i]?).bind (·.dst) = some t
  | [], j, v, h => by simp [slotS] at h
  | u :: vs, j, v, h => by
    rw [slotS] at h
    split at h
    · rename_i hc
      cases h
      exact ⟨0, rfl, hc.1, hc.2⟩
    · obtain ⟨i, h1, h2, h3⟩ := slotS_some h
      exact ⟨i + 1, by simpa using h1, by rwa [show j + (i + 1) = j + 1 + i by omega], by rwa [show j + (i + 1) = j + 1 + i by omega]⟩

theorem slotS_none {ops : Array Oper} {S : Nat → Bool} {t : Tmp} : ∀ {vs : List AV} {j : Nat}, slotS ops S t vs j = none → ∀ i, i < vs.length → S (j + i) = true → (ops[j + i]?).bind (·.dst) ≠ some t
  | [], j, h => fun i hi => by simp at hi
  | u :: vs, j, h => by
    intro i hi hS hd
    rw [slotS] at h
    split at h
    · cases h
    · rename_i hc
      cases i with
      | zero => exact hc ⟨hS, hd⟩
      | succ i => exact slotS_none h i (by simpa using hi) (by rwa [show j + 1 + i = j + (i + 1) by omega]) (by rwa [show j + 1 + i = j + (i + 1) by omega])

theorem slotFind_eq (ops : Array Oper) (t : Tmp) : ∀ (vs : List AV) (j : Nat), slotFind ops t vs j = slotS ops (fun _ => true) t vs j
  | [], _ => rfl
  | v :: vs, j => by rw [slotFind, slotS, slotFind_eq ops t vs (j + 1)]; simp

/-- The region that is looked at. -/
structure Reg (ca : Bool) (ops : Array Oper) (anc : List Nat) (os : List Oper) (m : Nat) : Prop where
  hm : m ≤ ops.size
  hos : os = ops.toList.take m
  hanc : anc = ancT [] ops.toList
  hedge : edgesOk ops.toList = true
  hdraw : drawOk ca anc os = true

section
variable {ca : Bool} {ops : Array Oper} {anc : List Nat} {os : List Oper} {m : Nat} (R : Reg ca ops anc os m)

include R in
theorem Reg.get {i : Nat} (hi : i < m) : os[i]? = ops[i]? := by
  rw [R.hos, List.getElem?_take, if_pos hi, Array.getElem?_toList]

include R in
theorem Reg.len : os.length = m := by rw [R.hos, List.length_take]; have := R.hm; simp; omega

include R in
theorem Reg.anc_len : anc.length = ops.size := by rw [R.hanc, ancT_length]; simp

/-- What is over holds what had to be over. -/
def Closed (ops : Array Oper) (S : Nat → Bool) : Prop := ∀ (i : Nat) (o : Oper), ops[i]? = some o → S i = true → ∀ e ∈ o.after.toList, Region.binds .any e = true → S e.on = true

include R in
theorem Reg.closed {S : Nat → Bool} (h : Closed ops S) {i : Nat} (hi : i < ops.size) (hS : S i = true) {j : Nat} (hj : (anc.getD i 0).testBit j = true) : S j = true := by
  have := anc_ok (S := fun j => S j = true) ops.toList [] (fun i hi => by simp at hi) (fun i o ho hS e he hb => h i o (by simpa using ho) (by simpa using hS) e he hb)
  rw [R.hanc] at hj
  exact this i (by rw [ancT_length]; simpa using hi) hS j hj

include R in
theorem Reg.anc_le {i j : Nat} (hi : i < ops.size) (hj : (anc.getD i 0).testBit j = true) : j ≤ i := by
  have h : Closed ops (fun j => decide (j ≤ i)) := by
    intro k o ho hk e he hb
    have := edges_lt R.hedge ho he hb
    simp at hk ⊢
    omega
  simpa using R.closed h hi (by simp) hj

include R in
theorem Reg.ready {S : Nat → Bool} (h : Closed ops S) {i : Nat} {o : Oper} (ho : ops[i]? = some o) (hd : ∀ e ∈ o.after.toList, Region.binds .any e = true → S e.on = true) {j : Nat} (hj : (anc.getD i 0).testBit j = true) (hne : j ≠ i) : S j = true := by
  have hc : Closed ops (fun k => S k || k == i) := by
    intro k o' ho' hk e he hb
    rw [Bool.or_eq_true_iff] at hk ⊢
    rcases hk with hk | hk
    · exact .inl (h k o' ho' hk e he hb)
    · have : k = i := by simpa using hk
      subst this
      rw [ho] at ho'; cases ho'
      exact .inl (hd e he hb)
  have hi : i < ops.size := (Array.getElem?_eq_some_iff.1 ho).1
  have := R.closed hc hi (by simp) hj
  rw [Bool.or_eq_true_iff] at this
  rcases this with h1 | h1
  · exact h1
  · exact absurd (by simpa using h1) hne

include R in
theorem Reg.pair {i j : Nat} {x y : Oper} (hx : ops[i]? = some x) (hy : ops[j]? = some y) (hi : i < m) (hj : j < m) (hne : i ≠ j) :
    (∀ t, y.dst = some t → x.dst ≠ some t ∧ ((usedSlot x t = true ∨ ∃ k want, x.guard = some (k, want) ∧ (ops[k]?).bind (·.dst) = some t ∧ k < m) → (anc.getD i 0).testBit j = true)) ∧
    (lateOp ca anc os (y, j) = true → okind ca x = .pure ∨ lateOp ca anc os (x, i) = true ∨ (anc.getD j 0).testBit i = true) ∧
    (lateOp ca anc os (y, j) = false → (okind ca y = .alloc ∧ (okind ca x = .pure ∨ okind ca x = .load)) ∨ (okind ca y = .write ∧ okind ca x = .pure) ∨ (okind ca y).heap = false ∨ (anc.getD i 0).testBit j = true ∨ (anc.getD j 0).testBit i = true) := by
  have h := R.hdraw
  unfold drawOk at h
  rw [List.all_eq_true] at h
  have mem : ∀ {i : Nat} {x : Oper}, ops[i]? = some x → i < m → (x, i) ∈ os.zipIdx := by
    intro i x hx hi
    rw [List.mem_zipIdx_iff_getElem?]
    simpa [R.get hi] using hx
  have h2 := h _ (mem hx hi)
  rw [List.all_eq_true] at h2
  have h3 := h2 _ (mem hy hj)
  unfold pairOk at h3
  have hb : (i == j) = false := by simpa using hne
  simp only [hb, Bool.false_or] at h3
  obtain ⟨h4, h5⟩ := Bool.and_eq_true_iff.1 h3
  refine ⟨?_, ?_, ?_⟩
  · intro t ht
    rw [ht] at h4
    simp only [] at h4
    obtain ⟨h6, h7⟩ := Bool.and_eq_true_iff.1 h4
    refine ⟨by simpa using h6, ?_⟩
    intro hu
    rcases Bool.or_eq_true_iff.1 h7 with h8 | h8
    · exfalso
      have h8 : (usedSlot x t || guardSlot os x == some t) = false := by simpa using h8
      rw [Bool.or_eq_false_iff] at h8
      rcases hu with hu | ⟨k, want, hg, hd, hk⟩
      · rw [hu] at h8; cases h8.1
      · have h9 := h8.2
        unfold guardSlot at h9
        rw [hg] at h9
        simp only [R.get hk, hd] at h9
        simp at h9
    · exact h8
  · intro hl
    rw [if_pos hl] at h5
    simp only [Bool.or_eq_true, beq_iff_eq] at h5
    rcases h5 with (h6 | h6) | h6
    · exact .inl h6
    · exact .inr (.inl h6)
    · exact .inr (.inr h6)
  · intro hl
    rw [hl] at h5
    simp only [Bool.false_eq_true, if_false] at h5
    cases hky : okind ca y <;> cases hkx : okind ca x <;> rw [hky, hkx] at h5 <;> simp [OKind.heap] at h5 ⊢ <;> first | exact h5 | trivial

end
end Go.Eng

/- The engine, drawn regions, part 3: operations in memory that has gone on. -/
set_option linter.unusedVariables false
set_option linter.unusedSimpArgs false
set_option linter.unnecessarySimpa false
namespace Go.Eng
open Go

/-- What a result comes to, its questions answered. -/
inductive Resv : ARes → ARes → Prop
  | val (v : AV) : Resv (.val v) (.val v)
  | valH (v : AV) (H : AHeap) : Resv (.valH v H) (.valH v H)
  | skipH (H : AHeap) : Resv (.skipH H) (.skipH H)
  | call (f : FuncId) (args : List AV) : Resv (.call f args) (.call f args)
  | need (c : Bool) (r l : ARes) (hc : c = true) (h : Resv r l) : Resv (.need c r) l
  | br1 (c : Bool) (r1 r2 l : ARes) (hc : c = true) (h : Resv r1 l) : Resv (.br c r1 r2) l
  | br2 (c : Bool) (r1 r2 l : ARes) (hc : c = false) (h : Resv r2 l) : Resv (.br c r1 r2) l

theorem ROk.resv {P : Program} {g : Gh} {H : AHeap} {w : World} {cr : Result Next} {r l : ARes} (h : Resv r l) (ho : ROk P g H w cr r) : ROk P g H w cr l := by
  induction h with
  | val v => exact ho
  | valH v H => exact ho
  | skipH H => exact ho
  | call f args => exact ho
  | need c r l hc h ih => exact ih (ho hc)
  | br1 c r1 r2 l hc h ih => exact ih (ho.1 hc)
  | br2 c r1 r2 l hc h ih => exact ih (ho.2 hc)

theorem resv_stuck {l : ARes} (h : Resv .stuck l) : False := by cases h

theorem get_ext {H X : AHeap} {i : Nat} {o : AObj} (h : H[i]? = some o) : (H ++ X)[i]? = some o := by
  rw [List.getElem?_append_left (List.getElem?_eq_some_iff.1 h).1]; exact h

section
variable {ca : Bool} {P : Program} {ρ : Operand → AV}

theorem loadA_ext {H X : AHeap} {T : TypeId} {a : AV} {l : ARes} (h : Resv (loadA P H T a) l) : Resv (loadA P (H ++ X) T a) l := by
  have key : loadA P H T a = .stuck ∨ loadA P (H ++ X) T a = loadA P H T a := by
    unfold loadA
    split
    · exact .inl rfl
    split
    · exact .inl rfl
    split
    · rename_i id off
      cases hH : H[id]? with
      | none => exact .inl rfl
      | some o => right; rw [get_ext hH]
    · rename_i id k j esz
      cases hH : H[id]? with
      | none => exact .inl rfl
      | some o => right; rw [get_ext hH]
    · exact .inr rfl
    · exact .inl rfl
  rcases key with e | e
  · rw [e] at h; exact (resv_stuck h).elim
  · rw [e]; exact h

theorem lookupA_ext {H X : AHeap} {T : TypeId} {m k : AV} {ok : Bool} {l : ARes} (h : Resv (lookupA P H m k T ok) l) : Resv (lookupA P (H ++ X) m k T ok) l := by
  have key : lookupA P H m k T ok = .stuck ∨ lookupA P (H ++ X) m k T ok = lookupA P H m k T ok := by
    unfold lookupA
    split
    · split
      · split
        · split
          · rename_i id
            cases hH : H[id]? with
            | none => exact .inl rfl
            | some o => right; rw [get_ext hH]
          · exact .inr rfl
          · exact .inl rfl
        · exact .inl rfl
      · exact .inl rfl
    · exact .inl rfl
  rcases key with e | e
  · rw [e] at h; exact (resv_stuck h).elim
  · rw [e]; exact h

theorem lenA_ext {H X : AHeap} {o : Oper} {T : TypeId} {x : AV} {l : ARes} (h : Resv (lenA H P ρ o T x) l) : Resv (lenA (H ++ X) P ρ o T x) l := by
  have key : lenA H P ρ o T x = .stuck ∨ lenA (H ++ X) P ρ o T x = lenA H P ρ o T x := by
    unfold lenA
    split
    · exact .inr rfl
    · exact .inr rfl
    · exact .inr rfl
    · rename_i id _
      cases hH : H[id]? with
      | none => exact .inl rfl
      | some ob => right; rw [get_ext hH]
    · exact .inr rfl
  rcases key with e | e
  · rw [e] at h; exact (resv_stuck h).elim
  · rw [e]; exact h

/-- What reads reads the same where more blocks have been made. -/
theorem aexec_load {H X : AHeap} {o : Oper} {l : ARes} (hk : okind ca o = .load) (h : Resv (aexec P H ρ o) l) : Resv (aexec P (H ++ X) ρ o) l := by
  unfold okind at hk
  unfold aexec at h ⊢
  cases hop : o.op with
  | load T a => rw [hop] at h; simp only [] at h ⊢; exact loadA_ext h
  | lookup T x k ok => rw [hop] at h; simp only [] at h ⊢; exact lookupA_ext h
  | call c =>
    rw [hop] at h hk
    simp only [] at h hk ⊢
    unfold callA at h ⊢
    cases hc : c.callee with
    | value f => rw [hc] at h; exact h
    | invoke r n => rw [hc] at h; exact h
    | builtin b =>
      obtain ⟨cc, ca, ct⟩ := c
      dsimp only at hc
      subst hc
      cases b <;> simp at hk
      simp only [] at h ⊢
      rcases ha : ca.toList with _ | ⟨x, _ | ⟨y, r⟩⟩ <;> rcases ht : ct.toList with _ | ⟨t, ts⟩ <;> rw [ha, ht] at h <;> first | exact lenA_ext h | exact h
  | _ => rw [hop] at hk; simp at hk

/-- What does nothing with memory. -/
theorem aexec_pure {H H' : AHeap} {o : Oper} (hk : okind ca o = .pure) : aexec P H ρ o = aexec P H' ρ o := by
  unfold okind at hk
  unfold aexec
  cases hop : o.op with
  | call c =>
    rw [hop] at hk
    obtain ⟨cc, ca, ct⟩ := c
    cases cc with
    | builtin b =>
      cases b <;> simp at hk
      show callA P H ρ o _ = callA P H' ρ o _
      unfold callA
      simp only []
      rcases ca.toList with _ | ⟨x, _ | ⟨y, r⟩⟩ <;> rcases ct.toList with _ | ⟨t, ts⟩ <;> rfl
    | value f => simp only [] at hk; split at hk <;> cases hk
    | invoke r n => simp at hk
  | makeMap T r => rw [hop] at hk; simp at hk
  | alloc T => rw [hop] at hk; simp at hk
  | box T x => rw [hop] at hk; simp at hk
  | buildSlice T len parts => rw [hop] at hk; simp at hk
  | load T a => rw [hop] at hk; simp at hk
  | store T a v => rw [hop] at hk; simp at hk
  | makeSlice T l c => rw [hop] at hk; simp at hk
  | lookup T x k ok => rw [hop] at hk; simp at hk
  | mapUpdate T m k v => rw [hop] at hk; simp at hk
  | insert T m k v => rw [hop] at hk; simp at hk
  | range T x => rw [hop] at hk; simp at hk
  | next it s => rw [hop] at hk; simp at hk
  | _ => rfl

/-- What makes a block. -/
theorem aexec_alloc {H : AHeap} {o : Oper} {l : ARes} (hk : okind ca o = .alloc) (h : Resv (aexec P H ρ o) l) :
    (∀ v H', l = .valH v H' → ∃ X, H' = H ++ X) ∧ (∀ H', l ≠ .skipH H') := by
  have base : ∀ {v : AV} {X : AHeap} {l : ARes}, Resv (.valH v (H ++ X)) l → (∀ v H', l = .valH v H' → ∃ X, H' = H ++ X) ∧ (∀ H', l ≠ .skipH H') := by
    intro v X l h
    cases h
    exact ⟨fun v' H' e => by cases e; exact ⟨X, rfl⟩, fun H' e => by cases e⟩
  unfold okind at hk
  unfold aexec at h
  cases hop : o.op with
  | alloc T =>
    rw [hop] at h; simp only [] at h
    split at h
    · exact base h
    · exact (resv_stuck h).elim
  | box T x =>
    rw [hop] at h; simp only [] at h
    split at h
    · exact base h
    · exact (resv_stuck h).elim
  | buildSlice T len parts =>
    rw [hop] at h; simp only [] at h
    unfold buildSliceA at h
    split at h
    · split at h
      · split at h
        · split at h
          · split at h
            · exact base h
            · exact (resv_stuck h).elim
          · exact (resv_stuck h).elim
        · exact (resv_stuck h).elim
      · exact (resv_stuck h).elim
    · exact (resv_stuck h).elim
  | makeMap T r =>
    rw [hop] at h
    cases r with
    | some _ => exact (resv_stuck h).elim
    | none =>
      simp only [] at h
      unfold makeMapA at h
      split at h
      · split at h
        · exact base h
        · exact base h
      · exact (resv_stuck h).elim
  | makeSlice T l' c =>
    rw [hop] at h; simp only [] at h
    unfold makeSliceA at h
    split at h
    · split at h
      · split at h
        · cases h with
          | need _ _ _ _ h => exact base h
        · exact (resv_stuck h).elim
      · exact (resv_stuck h).elim
    · exact (resv_stuck h).elim
  | range T x =>
    rw [hop] at h; simp only [] at h
    unfold rangeA at h
    split at h
    · exact base h
    · exact (resv_stuck h).elim
  | call c =>
    rw [hop] at hk h
    obtain ⟨cc, cas, ct⟩ := c
    cases cc with
    | builtin b => cases b <;> simp at hk
    | value f =>
      simp only [callA] at h
      unfold calleeA at h
      split at h <;> cases h <;> exact ⟨fun v H' e => (by cases e), fun H' e => (by cases e)⟩
    | invoke r n => simp at hk
  | _ => rw [hop] at hk; simp at hk

/-- A store turns one block, and looks at no other. -/
theorem aexec_store {H H2 : AHeap} {o : Oper} {H' : AHeap} {id : Nat} (hs : isStore o = true) (h : Resv (aexec P H ρ o) (.skipH H')) (hid : storeId o ρ = some id) (hsame : H2[id]? = H[id]?) :
    ∃ ob, H'[id]? = some ob ∧ H' = H.set id ob ∧ Resv (aexec P H2 ρ o) (.skipH (H2.set id ob)) := by
  unfold isStore at hs
  unfold storeId at hid
  unfold aexec at h ⊢
  cases hop : o.op with
  | store T a v =>
    rw [hop] at h hid
    simp only [] at h hid ⊢
    have hlt : ∀ {x : AObj}, H[id]? = some x → id < H.length := fun hx => (List.getElem?_eq_some_iff.1 hx).1
    unfold storeA at h ⊢
    split at h
    · exact (resv_stuck h).elim
    rename_i i hi
    dsimp only at h ⊢
    by_cases hc : (cellsA (ρ v)).length = i.size ∧ (cellsA (ρ v)).all oneA = true
    rotate_left
    · rw [if_neg hc] at h; exact (resv_stuck h).elim
    rw [if_pos hc] at h ⊢
    generalize ρ a = av at h hid
    cases av with
    | mp i off =>
      simp only [Option.some.injEq] at hid
      subst hid
      simp only [] at h ⊢
      split at h
      · rename_i cs T0 hH
        rw [hsame, hH]
        simp only []
        split at h
        · rename_i hle
          rw [if_pos hle]
          cases h
          exact ⟨_, by rw [List.getElem?_set, if_pos rfl, if_pos (hlt hH)], rfl, .skipH _⟩
        · exact (resv_stuck h).elim
      · exact (resv_stuck h).elim
    | mr i k j esz =>
      simp only [Option.some.injEq] at hid
      subst hid
      simp only [] at h ⊢
      split at h
      · rename_i T0 esz' n f hH
        rw [hsame, hH]
        simp only []
        split at h
        · rename_i hle
          rw [if_pos hle]
          cases h with
          | need _ _ _ hcond h =>
            cases h
            exact ⟨_, by rw [List.getElem?_set, if_pos rfl, if_pos (hlt hH)], rfl, .need _ _ _ hcond (.skipH _)⟩
        · exact (resv_stuck h).elim
      · exact (resv_stuck h).elim
    | _ => simp at hid
  | _ => rw [hop] at hs; simp at hs

end
end Go.Eng

/- The engine, drawn regions, part 4: what is known of a region that has been carried out in the order of the text. -/
set_option linter.unusedVariables false
set_option linter.unusedSimpArgs false
set_option linter.unnecessarySimpa false
namespace Go.Eng
open Go

def EnvOK (ops : Array Oper) (vs : List AV) (env : QEnv) : Prop := ∀ t b, envGet env t = some b → slotFind ops t vs 0 = some (.d (.p (.bool b)))

def GuardIs (ops : Array Oper) (o : Oper) (slot : Tmp → AV) (b : Bool) : Prop :=
  (o.guard = none ∧ b = true) ∨
  ∃ j want, o.guard = some (j, want) ∧ (((ops[j]?).bind (·.dst) = none ∧ b = false) ∨
    ∃ t, (ops[j]?).bind (·.dst) = some t ∧ ((slot t = .tt ∧ b = want) ∨ (slot t = .ff ∧ b = !want) ∨ (slot t = .un ∧ b = false)))

inductive LeafOK (ca : Bool) (P : Program) (Γ : Oracle) (anc : List Nat) (os : List Oper) (Hs : List AHeap) (L : List (Nat × Nat × AObj)) (i : Nat) (o : Oper) (ρ : Operand → AV) (v : AV) (leaf : ARes) : Prop
  | val (h : (okind ca o).heap = false) (hl : leaf = .val v)
  | call (h : okind ca o = .load) (f : FuncId) (args : List AV) (hl : leaf = .call f args) (hg : Γ f args (Hs.getD (heapsAhead ca anc os i) []) = some (.pure v))
  | ext (h : okind ca o = .load) (f : FuncId) (args : List AV) (hl : leaf = .call f args) (hb : hasBody P f = false) (us : List Value) (hu : unPs args = some us) (x : Value)
      (hx : cl P (callFunc f us.toArray) = some (.ok (.value x))) (hv : v = .d (.p x))
  | fixed (h : (okind ca o).heap = true) (hn : lateOp ca anc os (o, i) = false) (H' : AHeap) (hl : leaf = .valH v H' ∨ (leaf = .skipH H' ∧ v = .un)) (hs : Hs[heapsAhead ca anc os i + 1]? = some H')
  | callA (h : okind ca o = .alloc) (f : FuncId) (args : List AV) (hl : leaf = .call f args) (X : AHeap)
      (hg : Γ f args (Hs.getD (heapsAhead ca anc os i) []) = some (.new v X) ∨ (Γ f args (Hs.getD (heapsAhead ca anc os i) []) = some (.pure v) ∧ X = []))
      (hs : Hs[heapsAhead ca anc os i + 1]? = some (Hs.getD (heapsAhead ca anc os i) [] ++ X))
  | extA (h : okind ca o = .alloc) (f : FuncId) (args : List AV) (hl : leaf = .call f args) (hb : hasBody P f = false) (us : List Value) (hu : unPs args = some us) (x : Value)
      (hx : cl P (callFunc f us.toArray) = some (.ok (.value x))) (hv : v = .d (.p x)) (hs : Hs[heapsAhead ca anc os i + 1]? = some (Hs.getD (heapsAhead ca anc os i) []))
  | late (hn : lateOp ca anc os (o, i) = true) (H' : AHeap) (hl : leaf = .skipH H') (hv : v = .un) (id : Nat) (ob : AObj) (hid : storeId o ρ = some id) (hob : H'[id]? = some ob) (hlive : ob.live = true)
      (hL : (i, id, ob) ∈ L) (hlen : heapsAhead ca anc os i + 1 = Hs.length)

def Fact (ca : Bool) (P : Program) (Γ : Oracle) (ops : Array Oper) (anc : List Nat) (os : List Oper) (T0 : List AV) (vs : List AV) (Hs : List AHeap) (L : List (Nat × Nat × AObj)) (i : Nat) : Prop :=
  ∃ o env v, ops[i]? = some o ∧ vs[i]? = some v ∧ EnvOK ops (vs.take i) env ∧ heapsAhead ca anc os i < Hs.length ∧
    (((okind ca o).heap = false ∧ v = .un ∧ GuardIs ops o (slotQ ops T0 (vs.take i) env) false) ∨
     (GuardIs ops o (slotQ ops T0 (vs.take i) env) true ∧ ∃ leaf, Resv (aexec P (Hs.getD (heapsAhead ca anc os i) []) (rhoQ o (slotQ ops T0 (vs.take i) env)) o) leaf ∧
        LeafOK ca P Γ anc os Hs L i o (rhoQ o (slotQ ops T0 (vs.take i) env)) v leaf))

structure Known (ca : Bool) (P : Program) (Γ : Oracle) (ops : Array Oper) (anc : List Nat) (os : List Oper) (T0 : List AV) (H0 : AHeap) (s : QS) : Prop where
  fact : ∀ i, i < s.vs.length → Fact ca P Γ ops anc os T0 s.vs s.Hs s.L i
  first : s.Hs[0]? = some H0
  ids : (s.L.map (·.2.1)).Nodup
  late : ∀ x ∈ s.L, x.1 < s.vs.length ∧ ∃ o, ops[x.1]? = some o ∧ lateOp ca anc os (o, x.1) = true
  once : (s.L.map (·.1)).Nodup
  env : EnvOK ops s.vs s.env

section
variable {ca : Bool} {P : Program} {Γ : Oracle} {ops : Array Oper} {anc : List Nat} {os : List Oper} {T0 : List AV} {H0 : AHeap}

theorem slotFind_append {t : Tmp} : ∀ {vs : List AV} {j : Nat} {v : AV} (ws : List AV), slotFind ops t vs j = some v → slotFind ops t (vs ++ ws) j = some v
  | [], j, v, ws, h => by simp [slotFind] at h
  | u :: vs, j, v, ws, h => by
    rw [slotFind] at h
    rw [List.cons_append, slotFind]
    split at h
    · rename_i hc; rw [if_pos hc]; exact h
    · rename_i hc; rw [if_neg hc]; exact slotFind_append ws h

theorem Fact.grow {vs : List AV} {Hs : List AHeap} {L : List (Nat × Nat × AObj)} {i : Nat} (h : Fact ca P Γ ops anc os T0 vs Hs L i) (v : AV) (Y : List AHeap) (K : List (Nat × Nat × AObj)) (hY : Y = [] ∨ L = []) :
    Fact ca P Γ ops anc os T0 (vs ++ [v]) (Hs ++ Y) (L ++ K) i := by
  obtain ⟨o, env, u, ho, hu, henv, ha, hrest⟩ := h
  have hi : i < vs.length := (List.getElem?_eq_some_iff.1 hu).1
  have htake : (vs ++ [v]).take i = vs.take i := by rw [List.take_append_of_le_length (by omega)]
  have hget : (Hs ++ Y).getD (heapsAhead ca anc os i) [] = Hs.getD (heapsAhead ca anc os i) [] := by
    rw [List.getD_eq_getElem?_getD, List.getElem?_append_left ha, ← List.getD_eq_getElem?_getD]
  refine ⟨o, env, u, ho, by rw [List.getElem?_append_left hi]; exact hu, by rw [htake]; exact henv, by rw [List.length_append]; omega, ?_⟩
  rw [htake, hget]
  rcases hrest with h | ⟨hg, leaf, hr, hl⟩
  · exact .inl h
  · refine .inr ⟨hg, leaf, hr, ?_⟩
    cases hl with
    | val h hl => exact .val h hl
    | call h f args hl hg => exact .call h f args hl (by rw [hget]; exact hg)
    | ext h f args hl hb us hu x hx hv => exact .ext h f args hl hb us hu x hx hv
    | callA h f args hl X hg hs => exact .callA h f args hl X (by rw [hget]; exact hg) (by rw [hget, List.getElem?_append_left (List.getElem?_eq_some_iff.1 hs).1]; exact hs)
    | extA h f args hl hb us hu x hx hv hs => exact .extA h f args hl hb us hu x hx hv (by rw [hget, List.getElem?_append_left (List.getElem?_eq_some_iff.1 hs).1]; exact hs)
    | fixed h hn H' hl hs => exact .fixed h hn H' hl (by rw [List.getElem?_append_left (List.getElem?_eq_some_iff.1 hs).1]; exact hs)
    | late hn H' hl hv id ob hid hob hlive hL hlen =>
      rcases hY with e | e
      · subst e; exact .late hn H' hl hv id ob hid hob hlive (by simp [hL]) (by simpa using hlen)
      · subst e; cases hL

theorem isStore_kind {o : Oper} (h : isStore o = true) : okind ca o = .write := by
  unfold isStore at h
  unfold okind
  cases hop : o.op <;> rw [hop] at h <;> simp at h ⊢

theorem late_store {x : Oper × Nat} (h : lateOp ca anc os x = true) : isStore x.1 = true := by
  unfold lateOp at h
  exact (Bool.and_eq_true_iff.1 h).1

/-- The tree of a drawn region: at each of its ends all is known. -/
def QAll (Q : QS → Prop) : QR → Prop
  | .done s => Q s
  | .br c a b => (c = true → QAll Q a) ∧ (c = false → QAll Q b)
  | .need c a => c = true → QAll Q a
  | .fail => True

theorem qRes_all {Q : QS → Prop} {kd : OKind} {H : AHeap} {k : AV → Option AHeap → QR} (r : ARes)
    (hk : ∀ leaf, Resv r leaf →
      (∀ v, leaf = .val v → kd.heap = false → QAll Q (k v none)) ∧
      (∀ f args v, leaf = .call f args → kd = .load → Γ f args H = some (.pure v) → QAll Q (k v none)) ∧
      (∀ f args us x, leaf = .call f args → kd = .load → hasBody P f = false → unPs args = some us → cl P (callFunc f us.toArray) = some (.ok (.value x)) → QAll Q (k (.d (.p x)) none)) ∧
      (∀ v H', leaf = .valH v H' → kd.heap = true → QAll Q (k v (some H'))) ∧
      (∀ H', leaf = .skipH H' → kd.heap = true → QAll Q (k .un (some H'))) ∧
      (∀ f args v, leaf = .call f args → kd = .alloc → Γ f args H = some (.pure v) → QAll Q (k v (some H))) ∧
      (∀ f args v X, leaf = .call f args → kd = .alloc → Γ f args H = some (.new v X) → QAll Q (k v (some (H ++ X)))) ∧
      (∀ f args us x, leaf = .call f args → kd = .alloc → hasBody P f = false → unPs args = some us → cl P (callFunc f us.toArray) = some (.ok (.value x)) → QAll Q (k (.d (.p x)) (some H)))) : QAll Q (qRes P Γ kd H k r) := by
  induction r with
  | val v =>
    simp only [qRes]
    split
    · trivial
    · rename_i h; exact (hk _ (.val v)).1 v rfl (by simpa using h)
  | valH v H' =>
    simp only [qRes]
    split
    · rename_i h; exact (hk _ (.valH v H')).2.2.2.1 v H' rfl h
    · trivial
  | skipH H' =>
    simp only [qRes]
    split
    · rename_i h; exact (hk _ (.skipH H')).2.2.2.2.1 H' rfl h
    · trivial
  | call f args =>
    simp only [qRes]
    split
    rotate_left
    · split
      rotate_left
      · trivial
      rename_i h
      split
      · rename_i v hg; exact (hk _ (.call f args)).2.2.2.2.2.1 f args v rfl h hg
      · rename_i v X hg; exact (hk _ (.call f args)).2.2.2.2.2.2.1 f args v X rfl h hg
      · trivial
      · split
        · trivial
        rename_i hb
        split
        rotate_left
        · trivial
        rename_i us hus
        split
        · rename_i x hx; exact (hk _ (.call f args)).2.2.2.2.2.2.2 f args us x rfl h (by simpa using hb) hus hx
        · trivial
    rename_i h
    split
    · rename_i v hg; exact (hk _ (.call f args)).2.1 f args v rfl h hg
    · trivial
    · split
      · trivial
      rename_i hb
      split
      rotate_left
      · trivial
      rename_i us hus
      split
      · rename_i x hx; exact (hk _ (.call f args)).2.2.1 f args us x rfl h (by simpa using hb) hus hx
      · trivial
  | need c r ih => exact fun hc => ih (fun leaf hl => hk leaf (.need c r leaf hc hl))
  | br c r1 r2 ih1 ih2 => exact ⟨fun hc => ih1 (fun leaf hl => hk leaf (.br1 c r1 r2 leaf hc hl)), fun hc => ih2 (fun leaf hl => hk leaf (.br2 c r1 r2 leaf hc hl))⟩
  | _ => trivial

theorem envGet_cons (t u : Tmp) (b : Bool) (env : QEnv) : envGet ((t, b) :: env) u = if t = u then some b else envGet env u := rfl

theorem qRun_known : ∀ (is : List Nat) (s : QS), Known ca P Γ ops anc os T0 H0 s → is = List.range' s.vs.length is.length → QAll (fun s' => Known ca P Γ ops anc os T0 H0 s' ∧ s'.vs.length = s.vs.length + is.length) (qRun ca P Γ ops anc os T0 is s)
  | [], s, hK, _ => ⟨hK, by simp⟩
  | i :: is, s, hK, his => by
    have hi : i = s.vs.length := by
      rw [List.length_cons, List.range'_succ] at his
      exact (List.cons.inj his).1
    have his' : is = List.range' (s.vs.length + 1) is.length := by
      rw [List.length_cons, List.range'_succ] at his
      exact (List.cons.inj his).2
    subst hi
    rw [qRun]
    split
    · trivial
    rename_i o ho
    simp only []
    split
    rotate_left
    · trivial
    rename_i ha
    have hlast : ∀ (v : AV), (s.vs ++ [v])[s.vs.length]? = some v := fun v => by simp
    have htake : ∀ (v : AV), (s.vs ++ [v]).take s.vs.length = s.vs := fun v => by simp
    -- the next state is known
    have step : ∀ (s' : QS) (v : AV) (Y : List AHeap) (K : List (Nat × Nat × AObj)), EnvOK ops s.vs s'.env → s'.vs = s.vs ++ [v] → s'.Hs = s.Hs ++ Y → s'.L = s.L ++ K → (Y = [] ∨ s.L = []) →
        Fact ca P Γ ops anc os T0 (s.vs ++ [v]) (s.Hs ++ Y) (s.L ++ K) s.vs.length → ((s.L ++ K).map (·.2.1)).Nodup → (∀ x ∈ K, x.1 = s.vs.length ∧ lateOp ca anc os (o, x.1) = true) → ((s.L ++ K).map (·.1)).Nodup →
        QAll (fun s' => Known ca P Γ ops anc os T0 H0 s' ∧ s'.vs.length = s.vs.length + (s.vs.length :: is).length) (qRun ca P Γ ops anc os T0 is s') := by
      intro s' v Y K henv' h1 h2 h3 hY hf hids hK2 honce
      have hk' : Known ca P Γ ops anc os T0 H0 s' := by
        refine ⟨?_, ?_, by rw [h3]; exact hids, ?_, by rw [h3]; exact honce, fun t b h => by rw [h1]; exact slotFind_append _ (henv' t b h)⟩
        · intro j hj
          rw [h1, h2, h3]
          rw [h1, List.length_append] at hj
          simp only [List.length_cons, List.length_nil] at hj
          rcases Nat.lt_or_ge j s.vs.length with hlt | hge
          · exact (hK.fact j hlt).grow v Y K hY
          · rw [show j = s.vs.length by omega]; exact hf
        · rw [h2, List.getElem?_append_left (List.getElem?_eq_some_iff.1 hK.first).1]; exact hK.first
        · intro x hx
          rw [h1, List.length_append]
          rw [h3] at hx
          rcases List.mem_append.1 hx with hx | hx
          · obtain ⟨a, b⟩ := hK.late x hx
            exact ⟨by omega, b⟩
          · obtain ⟨a, b⟩ := hK2 x hx
            exact ⟨by simp; omega, o, by rw [a]; exact ho, b⟩
      have hlen : s'.vs.length = s.vs.length + 1 := by rw [h1]; simp
      have := qRun_known is s' hk' (by rw [hlen]; exact his')
      rw [hlen] at this
      simpa [Nat.add_assoc, Nat.add_comm 1] using this
    have hgo : ∀ (env : QEnv), EnvOK ops s.vs env → GuardIs ops o (slotQ ops T0 s.vs env) true → QAll (fun s' => Known ca P Γ ops anc os T0 H0 s' ∧ s'.vs.length = s.vs.length + (s.vs.length :: is).length)
        (qRes P Γ (okind ca o) (s.Hs.getD (heapsAhead ca anc os s.vs.length) []) (fun v h => match h with
          | none => qRun ca P Γ ops anc os T0 is { s with env, vs := s.vs ++ [v] }
          | some H' =>
            if lateOp ca anc os (o, s.vs.length) then
              match storeId o (rhoQ o (slotQ ops T0 s.vs env)) with
              | some id => match H'[id]? with
                | some ob => if heapsAhead ca anc os s.vs.length + 1 = s.Hs.length ∧ s.L.any (·.2.1 == id) = false ∧ ob.live = true then qRun ca P Γ ops anc os T0 is { s with env, vs := s.vs ++ [v], L := s.L ++ [(s.vs.length, id, ob)] } else .fail
                | none => .fail
              | none => .fail
            else if heapsAhead ca anc os s.vs.length + 1 = s.Hs.length ∧ s.L.isEmpty = true then qRun ca P Γ ops anc os T0 is { s with env, vs := s.vs ++ [v], Hs := s.Hs ++ [H'] } else .fail)
          (aexec P (s.Hs.getD (heapsAhead ca anc os s.vs.length) []) (rhoQ o (slotQ ops T0 s.vs env)) o)) := by
      intro env henv hguard
      have quiet : ∀ (v : AV) (leaf : ARes), Resv (aexec P (s.Hs.getD (heapsAhead ca anc os s.vs.length) []) (rhoQ o (slotQ ops T0 s.vs env)) o) leaf →
          LeafOK ca P Γ anc os s.Hs s.L s.vs.length o (rhoQ o (slotQ ops T0 s.vs env)) v leaf → QAll (fun s' => Known ca P Γ ops anc os T0 H0 s' ∧ s'.vs.length = s.vs.length + (s.vs.length :: is).length) (qRun ca P Γ ops anc os T0 is { s with env, vs := s.vs ++ [v] }) := by
        intro v leaf hr hl
        refine step _ v [] [] henv rfl (by simp) (by simp) (.inl rfl) ?_ (by simpa using hK.ids) (fun x hx => by cases hx) (by simpa using hK.once)
        rw [List.append_nil, List.append_nil]
        exact ⟨o, env, v, ho, hlast v, by rw [htake]; exact henv, ha, .inr ⟨by rw [htake]; exact hguard, leaf, by rw [htake]; exact hr, by rw [htake]; exact hl⟩⟩
      have heapy : ∀ (v : AV) (H' : AHeap) (leaf : ARes), Resv (aexec P (s.Hs.getD (heapsAhead ca anc os s.vs.length) []) (rhoQ o (slotQ ops T0 s.vs env)) o) leaf → (okind ca o).heap = true →
          (leaf = .valH v H' ∨ (leaf = .skipH H' ∧ v = .un)) → QAll (fun s' => Known ca P Γ ops anc os T0 H0 s' ∧ s'.vs.length = s.vs.length + (s.vs.length :: is).length)
            (if lateOp ca anc os (o, s.vs.length) then
              match storeId o (rhoQ o (slotQ ops T0 s.vs env)) with
              | some id => match H'[id]? with
                | some ob => if heapsAhead ca anc os s.vs.length + 1 = s.Hs.length ∧ s.L.any (·.2.1 == id) = false ∧ ob.live = true then qRun ca P Γ ops anc os T0 is { s with env, vs := s.vs ++ [v], L := s.L ++ [(s.vs.length, id, ob)] } else .fail
                | none => .fail
              | none => .fail
            else if heapsAhead ca anc os s.vs.length + 1 = s.Hs.length ∧ s.L.isEmpty = true then qRun ca P Γ ops anc os T0 is { s with env, vs := s.vs ++ [v], Hs := s.Hs ++ [H'] } else .fail) := by
        intro v H' leaf hr hheap hleaf
        split
        · rename_i hlate
          split
          rotate_left
          · trivial
          rename_i id hid
          split
          rotate_left
          · trivial
          rename_i ob hob
          split
          rotate_left
          · trivial
          rename_i hc
          obtain ⟨hc1, hc2, hc3⟩ := hc
          have hskip : leaf = .skipH H' ∧ v = .un := by
            rcases hleaf with e | e
            · exfalso
              subst e
              have hst : isStore o = true := by
                unfold lateOp at hlate
                exact (Bool.and_eq_true_iff.1 hlate).1
              unfold isStore at hst
              unfold aexec at hr
              cases hop : o.op with
              | store T a w =>
                rw [hop] at hr
                simp only [] at hr
                unfold storeA at hr
                split at hr
                · cases hr
                · dsimp only at hr
                  split at hr
                  · split at hr
                    · split at hr
                      · split at hr
                        · cases hr
                        · cases hr
                      · cases hr
                    · split at hr
                      · split at hr
                        · cases hr with
                          | need _ _ _ _ h => cases h
                        · cases hr
                      · cases hr
                    · cases hr
                  · cases hr
              | _ => rw [hop] at hst; simp at hst
            · exact e
          refine step _ v [] [(s.vs.length, id, ob)] henv rfl (by simp) rfl (.inl rfl) ?_ ?_ ?_ ?_
          · rw [List.append_nil]
            exact ⟨o, env, v, ho, hlast v, by rw [htake]; exact henv, ha, .inr ⟨by rw [htake]; exact hguard, leaf, by rw [htake]; exact hr,
              .late hlate H' hskip.1 hskip.2 id ob (by rw [htake]; exact hid) hob hc3 (by simp) hc1⟩⟩
          · rw [List.map_append, List.nodup_append]
            refine ⟨hK.ids, by simp, ?_⟩
            intro a ha' b hb
            simp only [List.map_cons, List.map_nil, List.mem_singleton] at hb
            subst hb
            intro e
            subst e
            obtain ⟨y, hy, hye⟩ := List.mem_map.1 ha'
            have := List.any_eq_false.1 hc2 y hy
            simp [hye] at this
          · intro x hx
            simp only [List.mem_singleton] at hx
            subst hx
            exact ⟨rfl, hlate⟩
          · rw [List.map_append, List.nodup_append]
            refine ⟨hK.once, by simp, ?_⟩
            intro a ha' b hb
            simp only [List.map_cons, List.map_nil, List.mem_singleton] at hb
            subst hb
            intro e
            subst e
            obtain ⟨y, hy, hye⟩ := List.mem_map.1 ha'
            have := (hK.late y hy).1
            omega
        · rename_i hlate
          split
          rotate_left
          · trivial
          rename_i hc
          obtain ⟨hc1, hc2⟩ := hc
          have hL : s.L = [] := by simpa using hc2
          refine step _ v [H'] [] henv rfl rfl (by simp) (.inr hL) ?_ (by simpa using hK.ids) (fun x hx => by cases hx) (by simpa using hK.once)
          rw [List.append_nil]
          refine ⟨o, env, v, ho, hlast v, by rw [htake]; exact henv, by rw [List.length_append]; omega, .inr ⟨by rw [htake]; exact hguard, leaf, ?_, ?_⟩⟩
          · rw [htake, List.getD_eq_getElem?_getD, List.getElem?_append_left ha, ← List.getD_eq_getElem?_getD]; exact hr
          · refine .fixed hheap (by simpa using hlate) H' hleaf ?_
            rw [List.getElem?_append_right (by omega), hc1]; simp
      have heapC : ∀ (v : AV) (H' : AHeap) (leaf : ARes), Resv (aexec P (s.Hs.getD (heapsAhead ca anc os s.vs.length) []) (rhoQ o (slotQ ops T0 s.vs env)) o) leaf → okind ca o = .alloc →
          (s.L = [] → (s.Hs ++ [H'])[heapsAhead ca anc os s.vs.length + 1]? = some H' → LeafOK ca P Γ anc os (s.Hs ++ [H']) s.L s.vs.length o (rhoQ o (slotQ ops T0 s.vs env)) v leaf) →
          QAll (fun s' => Known ca P Γ ops anc os T0 H0 s' ∧ s'.vs.length = s.vs.length + (s.vs.length :: is).length)
            (if lateOp ca anc os (o, s.vs.length) then
              match storeId o (rhoQ o (slotQ ops T0 s.vs env)) with
              | some id => match H'[id]? with
                | some ob => if heapsAhead ca anc os s.vs.length + 1 = s.Hs.length ∧ s.L.any (·.2.1 == id) = false ∧ ob.live = true then qRun ca P Γ ops anc os T0 is { s with env, vs := s.vs ++ [v], L := s.L ++ [(s.vs.length, id, ob)] } else .fail
                | none => .fail
              | none => .fail
            else if heapsAhead ca anc os s.vs.length + 1 = s.Hs.length ∧ s.L.isEmpty = true then qRun ca P Γ ops anc os T0 is { s with env, vs := s.vs ++ [v], Hs := s.Hs ++ [H'] } else .fail) := by
        intro v H' leaf hr hal hleaf
        split
        · rename_i hlate
          have := isStore_kind (ca := ca) (late_store hlate)
          simp only [] at this
          rw [hal] at this
          cases this
        · split
          rotate_left
          · trivial
          rename_i hc
          obtain ⟨hc1, hc2⟩ := hc
          have hL : s.L = [] := by simpa using hc2
          refine step _ v [H'] [] henv rfl rfl (by simp) (.inr hL) ?_ (by simpa using hK.ids) (fun x hx => by cases hx) (by simpa using hK.once)
          rw [List.append_nil]
          refine ⟨o, env, v, ho, hlast v, by rw [htake]; exact henv, by rw [List.length_append]; omega, .inr ⟨by rw [htake]; exact hguard, leaf, ?_, ?_⟩⟩
          · rw [htake, List.getD_eq_getElem?_getD, List.getElem?_append_left ha, ← List.getD_eq_getElem?_getD]; exact hr
          · rw [htake]
            exact hleaf hL (by rw [List.getElem?_append_right (by omega), hc1]; simp)
      have hget : ∀ H', (s.Hs ++ [H']).getD (heapsAhead ca anc os s.vs.length) [] = s.Hs.getD (heapsAhead ca anc os s.vs.length) [] := fun H' => by
        rw [List.getD_eq_getElem?_getD, List.getElem?_append_left ha, ← List.getD_eq_getElem?_getD]
      refine qRes_all _ fun leaf hr => ⟨?_, ?_, ?_, ?_, ?_, ?_, ?_, ?_⟩
      · intro v e hh; exact quiet v leaf hr (.val hh e)
      · intro f args v e hh hg; exact quiet v leaf hr (.call hh f args e hg)
      · intro f args us x e hh hb hu hx; exact quiet _ leaf hr (.ext hh f args e hb us hu x hx rfl)
      · intro v H' e hh; exact heapy v H' leaf hr hh (.inl e)
      · intro H' e hh; exact heapy .un H' leaf hr hh (.inr ⟨e, rfl⟩)
      · intro f args v e hh hg
        exact heapC v _ leaf hr hh fun hL hs => .callA hh f args e [] (by rw [hget]; exact .inr ⟨hg, rfl⟩) (by rw [hget, List.append_nil]; exact hs)
      · intro f args v X e hh hg
        exact heapC v _ leaf hr hh fun hL hs => .callA hh f args e X (by rw [hget]; exact .inl hg) (by rw [hget]; exact hs)
      · intro f args us x e hh hb hu hx
        exact heapC _ _ leaf hr hh fun hL hs => .extA hh f args e hb us hu x hx rfl (by rw [hget]; exact hs)
    have hskip : ∀ (env : QEnv), EnvOK ops s.vs env → GuardIs ops o (slotQ ops T0 s.vs env) false → QAll (fun s' => Known ca P Γ ops anc os T0 H0 s' ∧ s'.vs.length = s.vs.length + (s.vs.length :: is).length)
        (if (okind ca o).heap then .fail else qRun ca P Γ ops anc os T0 is { s with env, vs := s.vs ++ [.un] }) := by
      intro env henv hguard
      split
      · trivial
      rename_i hh
      refine step _ .un [] [] henv rfl (by simp) (by simp) (.inl rfl) ?_ (by simpa using hK.ids) (fun x hx => by cases hx) (by simpa using hK.once)
      rw [List.append_nil, List.append_nil]
      exact ⟨o, env, .un, ho, hlast _, by rw [htake]; exact henv, ha, .inl ⟨by simpa using hh, rfl, by rw [htake]; exact hguard⟩⟩
    have hw : ∀ (env : QEnv) (j : Nat) (want : Bool) (t : Tmp), o.guard = some (j, want) → (ops[j]?).bind (·.dst) = some t → ∀ b, ((slotQ ops T0 s.vs env t = .tt ∧ b = want) ∨ (slotQ ops T0 s.vs env t = .ff ∧ b = !want) ∨ (slotQ ops T0 s.vs env t = .un ∧ b = false)) →
        GuardIs ops o (slotQ ops T0 s.vs env) b := fun env j want t h1 h2 b h3 => .inr ⟨j, want, h1, .inr ⟨t, h2, h3⟩⟩
    cases hwq : wantQ o ops (slotQ ops T0 s.vs s.env) with
    | yes =>
      simp only []
      refine hgo s.env hK.env ?_
      unfold wantQ at hwq
      split at hwq
      · rename_i hg; exact .inl ⟨hg, rfl⟩
      · rename_i j want hg
        split at hwq
        · cases hwq
        · rename_i t ht
          split at hwq
          · rename_i hx; cases want <;> simp at hwq; exact hw _ _ _ _ hg ht _ (.inl ⟨hx, rfl⟩)
          · rename_i hx; cases want <;> simp at hwq; exact hw _ _ _ _ hg ht _ (.inr (.inl ⟨hx, rfl⟩))
          · cases hwq
          · cases hwq
          · cases hwq
    | no =>
      simp only []
      refine hskip s.env hK.env ?_
      unfold wantQ at hwq
      split at hwq
      · cases hwq
      · rename_i j want hg
        split at hwq
        · rename_i hd; exact .inr ⟨j, want, hg, .inl ⟨hd, rfl⟩⟩
        · rename_i t ht
          split at hwq
          · rename_i hx; cases want <;> simp at hwq; exact hw _ _ _ _ hg ht _ (.inl ⟨hx, rfl⟩)
          · rename_i hx; cases want <;> simp at hwq; exact hw _ _ _ _ hg ht _ (.inr (.inl ⟨hx, rfl⟩))
          · cases hwq
          · rename_i hx; exact hw _ _ _ _ hg ht _ (.inr (.inr ⟨hx, rfl⟩))
          · cases hwq
    | ask c t want =>
      simp only []
      split
      rotate_left
      · trivial
      rename_i hsome
      unfold wantQ at hwq
      split at hwq
      · cases hwq
      rename_i j want' hg
      split at hwq
      · cases hwq
      rename_i t' ht
      split at hwq
      · cases want' <;> simp at hwq
      · cases want' <;> simp at hwq
      rotate_left
      · cases hwq
      · cases hwq
      rename_i c' hx
      simp only [Want.ask.injEq] at hwq
      obtain ⟨rfl, rfl, rfl⟩ := hwq
      have hfind : slotFind ops t' s.vs 0 = some (.d (.p (.bool c'))) := by
        unfold slotQ at hx
        split at hx
        · cases hx
        · cases hx
        · obtain ⟨u, hu⟩ := Option.isSome_iff_exists.1 hsome
          rw [hu] at hx ⊢
          simp only [Option.getD_some] at hx
          rw [hx]
      have henv : ∀ b, c' = b → EnvOK ops s.vs ((t', b) :: s.env) := by
        intro b hb u b' h
        rw [envGet_cons] at h
        split at h
        · rename_i e; cases h; subst e; subst hb; exact hfind
        · exact hK.env u b' h
      have htt : slotQ ops T0 s.vs ((t', true) :: s.env) t' = .tt := by unfold slotQ; rw [envGet_cons, if_pos rfl]
      have hff : slotQ ops T0 s.vs ((t', false) :: s.env) t' = .ff := by unfold slotQ; rw [envGet_cons, if_pos rfl]
      refine ⟨fun hc => ?_, fun hc => ?_⟩
      · cases want' with
        | true => exact hgo _ (henv _ hc) (hw _ _ _ _ hg ht _ (.inl ⟨htt, rfl⟩))
        | false => exact hskip _ (henv _ hc) (hw _ _ _ _ hg ht _ (.inl ⟨htt, rfl⟩))
      · cases want' with
        | true => exact hskip _ (henv _ hc) (hw _ _ _ _ hg ht _ (.inr (.inl ⟨hff, rfl⟩)))
        | false => exact hgo _ (henv _ hc) (hw _ _ _ _ hg ht _ (.inr (.inl ⟨hff, rfl⟩)))
    | unknown => trivial

end
end Go.Eng

/- The engine, drawn regions, part 5: what any order has made by the time it comes to an operation. -/
set_option linter.unusedVariables false
set_option linter.unusedSimpArgs false
set_option linter.unnecessarySimpa false
namespace Go.Eng
open Go

/-- Slots. -/
def slotM (ops : Array Oper) (T0 vs : List AV) (S : Nat → Bool) (t : Tmp) : AV := (slotS ops S t vs 0).getD (T0.getD t .un)
def tmpsM (ops : Array Oper) (T0 vs : List AV) (S : Nat → Bool) : List AV := (List.range T0.length).map (slotM ops T0 vs S)
def addS (S : Nat → Bool) (i : Nat) : Nat → Bool := fun j => S j || j == i
/-- How many of the fixed operations are over. -/
def kS (ca : Bool) (anc : List Nat) (os : List Oper) (S : Nat → Bool) : Nat := (os.zipIdx.filter fun x => fixedOp ca anc os x && S x.2).length
def heapM (ca : Bool) (anc : List Nat) (os : List Oper) (s : QS) (S : Nat → Bool) : AHeap := applyL (s.Hs.getD (kS ca anc os S) []) (s.L.filter fun e => S e.1)

theorem slotS_congr {ops : Array Oper} {S S' : Nat → Bool} {t : Tmp} : ∀ {vs : List AV} {j : Nat}, (∀ i, i < vs.length → (ops[j + i]?).bind (·.dst) = some t → S (j + i) = S' (j + i)) → slotS ops S t vs j = slotS ops S' t vs j
  | [], _, _ => rfl
  | v :: vs, j, h => by
    rw [slotS, slotS]
    have ih := slotS_congr (S := S) (S' := S') (t := t) (vs := vs) (j := j + 1) fun i hi hd => by
      have := h (i + 1) (by simpa using hi) (by rw [show j + (i + 1) = j + 1 + i by omega]; exact hd)
      rwa [show j + (i + 1) = j + 1 + i by omega] at this
    rw [ih]
    by_cases hd : (ops[j]?).bind (·.dst) = some t
    · have := h 0 (by simp) (by simpa using hd)
      simp only [Nat.add_zero] at this
      rw [this]
    · simp [hd]

theorem slotS_take {ops : Array Oper} {S : Nat → Bool} {t : Tmp} : ∀ (vs : List AV) (j i : Nat), slotS ops (fun k => S k && decide (k < j + i)) t vs j = slotS ops S t (vs.take i) j
  | [], j, i => by simp [slotS]
  | v :: vs, j, 0 => by
    rw [slotS]
    · simp [slotS]
      have : slotS ops (fun k => S k && decide (k < j)) t vs (j + 1) = slotS ops (fun _ => false) t vs (j + 1) := slotS_congr fun i hi _ => by simp; omega
      rw [this]
      have hn : ∀ (vs : List AV) (j : Nat), slotS ops (fun _ => false) t vs j = none := by
        intro vs
        induction vs with
        | nil => intro j; rfl
        | cons v vs ih => intro j; rw [slotS]; simp [ih]
      exact hn vs (j + 1)
  | v :: vs, j, i + 1 => by
    rw [List.take_succ_cons, slotS, slotS]
    have ih := slotS_take (ops := ops) (S := S) (t := t) vs (j + 1) i
    have e : (fun k => S k && decide (k < j + 1 + i)) = fun k => S k && decide (k < j + (i + 1)) := by funext k; rw [show j + 1 + i = j + (i + 1) by omega]
    rw [e] at ih
    rw [ih]
    simp [show j < j + (i + 1) by omega]

theorem filter_len_congr {α : Type} {p q : α → Bool} {l : List α} (h : ∀ x ∈ l, p x = q x) : (l.filter p).length = (l.filter q).length := by
  rw [List.filter_congr h]

theorem filter_add {p : Oper × Nat → Bool} {S : Nat → Bool} {i : Nat} (hS : S i = false) : ∀ (l : List Oper) (n : Nat),
    ((l.zipIdx n).filter fun x => p x && addS S i x.2).length = ((l.zipIdx n).filter fun x => p x && S x.2).length + (if (∃ o, l[i - n]? = some o ∧ n ≤ i ∧ p (o, i) = true) then 1 else 0)
  | [], n => by simp
  | o :: l, n => by
    rw [List.zipIdx_cons, List.filter_cons, List.filter_cons]
    have ih := filter_add (p := p) hS l (n + 1)
    by_cases e : n = i
    · subst e
      have hnone : ¬ ∃ o, l[n - (n + 1)]? = some o ∧ n + 1 ≤ n ∧ p (o, n) = true := fun ⟨_, _, h, _⟩ => by omega
      rw [if_neg hnone] at ih
      simp only [addS, hS, beq_self_eq_true, Bool.or_true, Bool.and_true, Bool.and_false, Bool.false_eq_true, if_false, Nat.sub_self, List.getElem?_cons_zero, Option.some.injEq, Nat.le_refl, true_and, exists_eq_left']
      by_cases hp : p (o, n) = true
      · simp only [hp, if_true, List.length_cons]; simpa [addS] using ih
      · simp only [hp, if_false]; simpa [addS] using ih
    · have h1 : addS S i n = S n := by simp [addS, e]
      have h2 : (∃ o', (o :: l)[i - n]? = some o' ∧ n ≤ i ∧ p (o', i) = true) ↔ ∃ o', l[i - (n + 1)]? = some o' ∧ n + 1 ≤ i ∧ p (o', i) = true := by
        constructor
        · rintro ⟨o', h3, h4, h5⟩
          refine ⟨o', ?_, by omega, h5⟩
          rw [show i - n = (i - (n + 1)) + 1 by omega, List.getElem?_cons_succ] at h3
          exact h3
        · rintro ⟨o', h3, h4, h5⟩
          refine ⟨o', ?_, by omega, h5⟩
          rw [show i - n = (i - (n + 1)) + 1 by omega, List.getElem?_cons_succ]
          exact h3
      simp only [h1, h2]
      split
      · simp only [List.length_cons]; rw [ih]; omega
      · exact ih

theorem applyL_length : ∀ (L : List (Nat × Nat × AObj)) (H : AHeap), (applyL H L).length = H.length
  | [], _ => rfl
  | (_, _, _) :: L, H => by rw [applyL, applyL_length L]; simp

theorem applyL_get {id : Nat} : ∀ (L : List (Nat × Nat × AObj)) (H : AHeap), id ∉ L.map (·.2.1) → (applyL H L)[id]? = H[id]?
  | [], _, _ => rfl
  | (a, i, o) :: L, H, h => by
    rw [List.map_cons, List.mem_cons, not_or] at h
    rw [applyL, applyL_get L _ h.2, List.getElem?_set, if_neg (fun e => h.1 e.symm)]

theorem applyL_set {id : Nat} {ob : AObj} : ∀ (L : List (Nat × Nat × AObj)) (H : AHeap), id ∉ L.map (·.2.1) → applyL (H.set id ob) L = (applyL H L).set id ob
  | [], _, _ => rfl
  | (a, i, o) :: L, H, h => by
    rw [List.map_cons, List.mem_cons, not_or] at h
    rw [applyL, applyL, ← applyL_set L _ h.2, List.set_comm _ _ (fun e => h.1 e)]

/-- One more late store. -/
theorem applyL_add {S : Nat → Bool} {i id : Nat} {ob : AObj} (hS : S i = false) : ∀ (L : List (Nat × Nat × AObj)) (H : AHeap), (L.map (·.2.1)).Nodup → (L.map (·.1)).Nodup → (i, id, ob) ∈ L →
    applyL H (L.filter fun e => addS S i e.1) = (applyL H (L.filter fun e => S e.1)).set id ob ∧ id ∉ (L.filter fun e => S e.1).map (·.2.1)
  | [], _, _, _, h => by cases h
  | (a, b, c) :: L, H, h1, h2, hm => by
    rw [List.map_cons, List.nodup_cons] at h1 h2
    have hsub : ∀ {p : Nat × Nat × AObj → Bool} {x : Nat}, x ∈ (L.filter p).map (·.2.1) → x ∈ L.map (·.2.1) := by
      intro p x hx
      obtain ⟨y, hy, e⟩ := List.mem_map.1 hx
      exact List.mem_map.2 ⟨y, (List.mem_filter.1 hy).1, e⟩
    by_cases e : (a, b, c) = (i, id, ob)
    · cases e
      have hsame : L.filter (fun e => addS S i e.1) = L.filter fun e => S e.1 := by
        refine List.filter_congr fun x hx => ?_
        have : x.1 ≠ i := fun e => h2.1 (List.mem_map.2 ⟨x, hx, e⟩)
        simp [addS, this]
      have hid : id ∉ (L.filter fun e => S e.1).map (·.2.1) := fun h => h1.1 (hsub h)
      rw [List.filter_cons_of_pos (by simp [addS]), List.filter_cons_of_neg (by simp [hS]), applyL, hsame]
      exact ⟨applyL_set _ _ hid, hid⟩
    · have hm : (i, id, ob) ∈ L := by
        rcases List.mem_cons.1 hm with h | h
        · exact absurd h.symm e
        · exact h
      have hai : a ≠ i := fun e => h2.1 (by rw [e]; exact List.mem_map.2 ⟨_, hm, rfl⟩)
      have hb : b ≠ id := fun e => h1.1 (by rw [e]; exact List.mem_map.2 ⟨_, hm, rfl⟩)
      have hadd : addS S i a = S a := by simp [addS, hai]
      have ih := applyL_add (id := id) (ob := ob) hS L
      cases ha : S a with
      | true =>
        rw [List.filter_cons_of_pos (by simp [hadd, ha]), List.filter_cons_of_pos (by simp [ha]), applyL, applyL]
        obtain ⟨e1, e2⟩ := ih (H.set b c) h1.2 h2.2 hm
        refine ⟨e1, ?_⟩
        rw [List.map_cons, List.mem_cons, not_or]
        exact ⟨fun e => hb e.symm, e2⟩
      | false =>
        rw [List.filter_cons_of_neg (by simp [hadd, ha]), List.filter_cons_of_neg (by simp [ha])]
        exact ih H h1.2 h2.2 hm

theorem applyEnv_get : ∀ (env : QEnv) (T : List AV) (t : Nat), (applyEnv env T)[t]? = (T[t]?).map fun x => match envGet env t with
    | some true => .tt
    | some false => .ff
    | none => x
  | [], T, t => by simp [applyEnv, envGet]
  | (u, b) :: r, T, t => by
    rw [applyEnv, List.getElem?_set, envGet]
    have ih := applyEnv_get r T t
    by_cases e : u = t
    · subst e
      simp only [if_true]
      have hlen : (applyEnv r T).length = T.length := by
        have hl : ∀ (env : QEnv) (T : List AV), (applyEnv env T).length = T.length := by
          intro env
          induction env with
          | nil => intro T; rfl
          | cons x r ih => intro T; obtain ⟨u, b⟩ := x; rw [applyEnv, List.length_set]; exact ih T
        exact hl r T
      rw [hlen]
      by_cases hlt : u < T.length
      · rw [if_pos hlt, List.getElem?_eq_getElem hlt]
        cases b <;> rfl
      · rw [if_neg hlt, List.getElem?_eq_none (Nat.le_of_not_lt hlt)]; rfl
    · rw [if_neg e, if_neg e]; exact ih

/-- A set of numbers that is closed downward among those that count: it is what lies below some number. -/
theorem cut_of {f p : Nat → Bool} (h : ∀ i j, f i = true → f j = true → p i = true → j < i → p j = true) : ∀ n, ∃ c, c ≤ n ∧ ∀ j, j < n → f j = true → p j = decide (j < c)
  | 0 => ⟨0, Nat.le_refl _, fun j hj => by omega⟩
  | n + 1 => by
    by_cases hn : f n = true ∧ p n = true
    · refine ⟨n + 1, Nat.le_refl _, fun j hj hf => ?_⟩
      rw [show decide (j < n + 1) = true by simpa using hj]
      rcases Nat.lt_or_ge j n with hlt | hge
      · exact h n j hn.1 hf hn.2 hlt
      · rw [show j = n by omega]; exact hn.2
    · obtain ⟨c, hc, hp⟩ := cut_of h n
      refine ⟨c, by omega, fun j hj hf => ?_⟩
      rcases Nat.lt_or_ge j n with hlt | hge
      · exact hp j hlt hf
      · have e : j = n := by omega
        subst e
        have : p j = false := by
          cases hpj : p j with
          | true => exact absurd ⟨hf, hpj⟩ hn
          | false => rfl
        rw [this]; simp; omega

end Go.Eng

/- The engine, drawn regions, part 6: what any order has made by the time it comes to an operation: slots and memory. -/
set_option linter.unusedVariables false
set_option linter.unusedSimpArgs false
set_option linter.unnecessarySimpa false
namespace Go.Eng
open Go

/-- The region, and what has been found of it. -/
structure Met (ca : Bool) (P : Program) (Γ : Oracle) (ops : Array Oper) (anc : List Nat) (os : List Oper) (m : Nat) (T0 : List AV) (H0 : AHeap) (s : QS) : Prop where
  R : Reg ca ops anc os m
  hg : guardsOk os m = true
  ht : transOk anc m = true
  hd : ∀ (i : Nat) (o : Oper) (t : Tmp), ops[i]? = some o → i < m → o.dst = some t → t < T0.length
  K : Known ca P Γ ops anc os T0 H0 s
  len : s.vs.length = m

section
variable {ca : Bool} {P : Program} {Γ : Oracle} {ops : Array Oper} {anc : List Nat} {os : List Oper} {m : Nat} {T0 : List AV} {H0 : AHeap} {s : QS} (M : Met ca P Γ ops anc os m T0 H0 s)

include M in
theorem Met.irrefl {i : Nat} (hi : i < m) : (anc.getD i 0).testBit i = false := by
  have := M.ht
  unfold transOk at this
  rw [List.all_eq_true] at this
  have := (Bool.and_eq_true_iff.1 (this i (List.mem_range.2 hi))).1
  simpa using this

include M in
theorem Met.lt_size {i : Nat} (hi : i < m) : i < ops.size := Nat.lt_of_lt_of_le hi M.R.hm

include M in
theorem Met.anc_lt {i j : Nat} (hi : i < m) (h : (anc.getD i 0).testBit j = true) : j < i := by
  have h1 := M.R.anc_le (M.lt_size hi) h
  rcases Nat.lt_or_ge j i with h2 | h2
  · exact h2
  · have : j = i := by omega
    subst this
    rw [M.irrefl hi] at h; cases h

include M in
theorem Met.trans {i j k : Nat} (hi : i < m) (hj : j < m) (h1 : (anc.getD i 0).testBit j = true) (h2 : (anc.getD j 0).testBit k = true) : (anc.getD i 0).testBit k = true := by
  have := M.ht
  unfold transOk at this
  rw [List.all_eq_true] at this
  have h3 := (Bool.and_eq_true_iff.1 (this i (List.mem_range.2 hi))).2
  rw [List.all_eq_true] at h3
  have h4 := h3 j (List.mem_range.2 hj)
  rw [h1] at h4
  simp only [Bool.not_true, Bool.false_or, beq_iff_eq] at h4
  rw [← h4, Nat.testBit_or, h2, Bool.or_true]

/-- What is ready. -/
structure Ready (ops : Array Oper) (m : Nat) (S : Nat → Bool) (i : Nat) (o : Oper) : Prop where
  cl : Closed ops S
  sub : ∀ j, S j = true → j < m
  ho : ops[i]? = some o
  hi : i < m
  hs : S i = false
  hd : ∀ e ∈ o.after.toList, Region.binds .any e = true → S e.on = true

variable {S : Nat → Bool} {i : Nat} {o : Oper} (hr : Ready ops m S i o)

include M hr in
theorem Met.ahead {j : Nat} (h : (anc.getD i 0).testBit j = true) : S j = true := M.R.ready hr.cl hr.ho hr.hd h (by have := M.anc_lt hr.hi h; omega)

include M hr in
theorem Met.behind {j : Nat} (hj : S j = true) : (anc.getD j 0).testBit i = false := by
  cases h : (anc.getD j 0).testBit i with
  | false => rfl
  | true =>
    have := M.R.closed hr.cl (M.lt_size (hr.sub j hj)) hj h
    rw [hr.hs] at this; cases this

include M hr in
theorem Met.slot {t : Tmp} (hu : usedSlot o t = true ∨ ∃ k want, o.guard = some (k, want) ∧ (ops[k]?).bind (·.dst) = some t) : slotM ops T0 s.vs S t = (slotFind ops t (s.vs.take i) 0).getD (T0.getD t .un) := by
  have hu : usedSlot o t = true ∨ ∃ k want, o.guard = some (k, want) ∧ (ops[k]?).bind (·.dst) = some t ∧ k < m := by
    rcases hu with h | ⟨k, want, h1, h2⟩
    · exact .inl h
    · refine .inr ⟨k, want, h1, h2, ?_⟩
      have := M.hg
      unfold guardsOk at this
      rw [List.all_eq_true] at this
      have hmem : o ∈ os := List.mem_of_getElem? (i := i) (by rw [M.R.get hr.hi]; exact hr.ho)
      have := this o hmem
      rw [h1] at this
      simpa using this
  unfold slotM
  congr 1
  rw [slotFind_eq, ← slotS_take s.vs 0 i]
  refine slotS_congr fun j hj hd => ?_
  simp only [Nat.zero_add] at hd ⊢
  rw [M.len] at hj
  rcases Nat.decEq j i with hne | rfl
  · obtain ⟨y, hy⟩ : ∃ y, ops[j]? = some y := ⟨_, Array.getElem?_eq_getElem (M.lt_size hj)⟩
    rw [hy] at hd
    have := (M.R.pair hr.ho hy hr.hi hj (fun e => hne e.symm)).1 t hd
    have hb := this.2 hu
    rw [M.ahead hr hb]
    simp [M.anc_lt hr.hi hb]
  · rw [hr.hs]; simp

include M hr in
theorem Met.put {v : AV} (hv : s.vs[i]? = some v) : tmpsM ops T0 s.vs (addS S i) = putA (tmpsM ops T0 s.vs S) o.dst v := by
  have hother : ∀ t, o.dst ≠ some t → slotM ops T0 s.vs (addS S i) t = slotM ops T0 s.vs S t := by
    intro t ht
    unfold slotM
    congr 1
    refine slotS_congr fun j hj hd => ?_
    simp only [Nat.zero_add] at hd ⊢
    have : j ≠ i := by
      intro e
      subst e
      rw [hr.ho] at hd
      exact ht hd
    simp [addS, this]
  cases hod : o.dst with
  | none =>
    simp only [putA]
    unfold tmpsM
    exact List.map_congr_left fun t _ => hother t (by rw [hod]; simp)
  | some d =>
    have hthis : slotM ops T0 s.vs (addS S i) d = v := by
      unfold slotM
      cases h : slotS ops (addS S i) d s.vs 0 with
      | none =>
        exfalso
        refine slotS_none h i (by rw [M.len]; exact hr.hi) (by simp [addS]) ?_
        rw [Nat.zero_add, hr.ho]; exact hod
      | some u =>
        obtain ⟨j, h1, h2, h3⟩ := slotS_some h
        simp only [Nat.zero_add] at h3
        have hj : j < m := by rw [← M.len]; exact (List.getElem?_eq_some_iff.1 h1).1
        obtain ⟨y, hy⟩ : ∃ y, ops[j]? = some y := ⟨_, Array.getElem?_eq_getElem (M.lt_size hj)⟩
        rcases Nat.decEq j i with hne | rfl
        · exfalso
          rw [hy] at h3
          exact ((M.R.pair hy hr.ho hj hr.hi hne).1 d hod).1 h3
        · rw [hv] at h1
          cases h1; rfl
    simp only [putA]
    refine List.ext_getElem? fun t => ?_
    unfold tmpsM
    rw [List.getElem?_set, List.getElem?_map, List.getElem?_map]
    by_cases e : d = t
    · subst e
      rw [if_pos rfl]
      by_cases hlt : d < T0.length
      · rw [List.getElem?_range hlt, if_pos (by simpa using hlt)]
        simp [hthis]
      · rw [if_neg (by simpa using hlt), List.getElem?_eq_none (by simpa using hlt)]; rfl
    · rw [if_neg e]
      by_cases hlt : t < T0.length
      · rw [List.getElem?_range hlt]
        simp [hother t (by rw [hod]; simpa using e)]
      · rw [List.getElem?_eq_none (by simpa using hlt)]; rfl

/-- Memory. -/
def fixedAt (ca : Bool) (anc : List Nat) (os : List Oper) (j : Nat) : Bool := match os[j]? with
  | some o => fixedOp ca anc os (o, j)
  | none => false

include M in
theorem Met.fixedAt {j : Nat} (h : fixedAt ca anc os j = true) : ∃ y, ops[j]? = some y ∧ j < m ∧ (okind ca y).heap = true ∧ lateOp ca anc os (y, j) = false := by
  unfold Eng.fixedAt at h
  split at h
  · rename_i y hy
    have hj : j < m := by rw [← M.R.len]; exact (List.getElem?_eq_some_iff.1 hy).1
    rw [M.R.get hj] at hy
    unfold fixedOp at h
    obtain ⟨h1, h2⟩ := Bool.and_eq_true_iff.1 h
    exact ⟨y, hy, hj, h1, by simpa using h2⟩
  · cases h

include M in
theorem Met.ordered {j k : Nat} (hj : Eng.fixedAt ca anc os j = true) (hk : Eng.fixedAt ca anc os k = true) (hne : j ≠ k) : (anc.getD j 0).testBit k = true ∨ (anc.getD k 0).testBit j = true := by
  obtain ⟨x, hx, hxm, hx1, hx2⟩ := M.fixedAt hj
  obtain ⟨y, hy, hym, hy1, hy2⟩ := M.fixedAt hk
  rcases (M.R.pair hx hy hxm hym hne).2.2 hy2 with ⟨_, h | h⟩ | ⟨_, h⟩ | h | h | h
  · rw [h] at hx1; cases hx1
  · rw [h] at hx1; cases hx1
  · rw [h] at hx1; cases hx1
  · rw [h] at hy1; cases hy1
  · exact .inl h
  · exact .inr h

theorem kS_congr {anc : List Nat} {os : List Oper} {p q : Nat → Bool} (h : ∀ j, fixedAt ca anc os j = true → p j = q j) : kS ca anc os p = kS ca anc os q := by
  unfold kS
  refine filter_len_congr fun x hx => ?_
  cases hf : fixedOp ca anc os x with
  | false => rfl
  | true =>
    rw [h x.2]
    unfold fixedAt
    have : os[x.2]? = some x.1 := by
      have := List.mem_zipIdx_iff_getElem?.1 hx
      simpa using this
    rw [this]; exact hf

theorem kS_add {anc : List Nat} {os : List Oper} {S : Nat → Bool} {i : Nat} (hS : S i = false) : kS ca anc os (addS S i) = kS ca anc os S + (if fixedAt ca anc os i = true then 1 else 0) := by
  unfold kS
  rw [filter_add hS os 0]
  congr 1
  have : (∃ o, os[i - 0]? = some o ∧ 0 ≤ i ∧ fixedOp ca anc os (o, i) = true) ↔ fixedAt ca anc os i = true := by
    unfold fixedAt
    simp only [Nat.sub_zero, Nat.zero_le, true_and]
    constructor
    · rintro ⟨o, h1, h2⟩; rw [h1]; exact h2
    · intro h
      split at h
      · rename_i o ho; exact ⟨o, ho, h⟩
      · cases h
  simp only [this]

/-- A set closed downward is a beginning. -/
def Down (ca : Bool) (anc : List Nat) (os : List Oper) (p : Nat → Bool) : Prop := ∀ i j, fixedAt ca anc os i = true → fixedAt ca anc os j = true → p i = true → j < i → p j = true

include M in
theorem Met.cut {p : Nat → Bool} (h : Down ca anc os p) : ∃ c, c ≤ m ∧ (∀ j, Eng.fixedAt ca anc os j = true → p j = decide (j < c)) := by
  obtain ⟨c, hc, hp⟩ := cut_of (f := Eng.fixedAt ca anc os) (p := p) h m
  exact ⟨c, hc, fun j hf => hp j (by obtain ⟨_, _, h, _⟩ := M.fixedAt hf; exact h) hf⟩

include M in
theorem Met.down_closed (hcl : Closed ops S) (hsub : ∀ j, S j = true → j < m) : Down ca anc os S := by
  intro a b ha hb hS hlt
  rcases M.ordered ha hb (by omega) with h | h
  · exact M.R.closed hcl (M.lt_size (hsub a hS)) hS h
  · obtain ⟨_, _, hbm, _⟩ := M.fixedAt hb
    have := M.anc_lt hbm h
    omega

include M in
theorem Met.down_anc (hi : i < m) : Down ca anc os fun j => (anc.getD i 0).testBit j := by
  intro a b ha hb hS hlt
  rcases M.ordered ha hb (by omega) with h | h
  · obtain ⟨_, _, ham, _⟩ := M.fixedAt ha
    exact M.trans hi ham hS h
  · obtain ⟨_, _, hbm, _⟩ := M.fixedAt hb
    have := M.anc_lt hbm h
    omega

include M in
theorem Met.ahead_fixed {c : Nat} (hc : Eng.fixedAt ca anc os c = true) : heapsAhead ca anc os c = kS ca anc os fun j => decide (j < c) := by
  obtain ⟨_, _, hcm, _⟩ := M.fixedAt hc
  refine kS_congr (p := fun j => (anc.getD c 0).testBit j) fun j hj => ?_
  rcases Nat.decEq j c with hne | rfl
  · rcases M.ordered hc hj (fun e => hne e.symm) with h | h
    · rw [h]; simp [M.anc_lt hcm h]
    · obtain ⟨_, _, hjm, _⟩ := M.fixedAt hj
      have h1 := M.anc_lt hjm h
      cases h2 : (anc.getD c 0).testBit j with
      | true => have := M.anc_lt hcm h2; omega
      | false => simp; omega
  · rw [M.irrefl hcm]; simp

include M hr in
theorem Met.no_late (hl : lateOp ca anc os (o, i) = false) (hk : okind ca o ≠ .pure) : (s.L.filter fun e => S e.1) = [] := by
  rw [List.filter_eq_nil_iff]
  intro x hx hS
  obtain ⟨h1, y, hy, hlate⟩ := M.K.late x hx
  rw [M.len] at h1
  have hne : i ≠ x.1 := by intro e; rw [← e, hr.hs] at hS; cases hS
  rcases (M.R.pair hr.ho hy hr.hi h1 hne).2.1 hlate with h | h | h
  · exact hk h
  · rw [hl] at h; cases h
  · rw [M.behind hr hS] at h; cases h

/-- Memory where an operation that is bound to a place comes. -/
theorem Met.heap_eq (M : Met ca P Γ ops anc os m T0 H0 s) (hr : Ready ops m S i o) (hl : lateOp ca anc os (o, i) = false) (hk : okind ca o ≠ .pure) (hk2 : okind ca o ≠ .load) : heapM ca anc os s S = s.Hs.getD (heapsAhead ca anc os i) [] ∧ kS ca anc os S = heapsAhead ca anc os i := by
  have hkS : kS ca anc os S = heapsAhead ca anc os i := by
    refine kS_congr (q := fun j => (anc.getD i 0).testBit j) fun j hj => ?_
    obtain ⟨y, hy, hjm, hh, hl2⟩ := M.fixedAt hj
    cases hb : (anc.getD i 0).testBit j with
    | true => exact M.ahead hr hb
    | false =>
      cases hS : S j with
      | false => rfl
      | true =>
        exfalso
        have hne : i ≠ j := by intro e; rw [← e, hr.hs] at hS; cases hS
        rcases (M.R.pair hr.ho hy hr.hi hjm hne).2.2 hl2 with ⟨_, h | h⟩ | ⟨_, h⟩ | h | h | h
        · exact hk h
        · exact hk2 h
        · exact hk h
        · rw [h] at hh; cases hh
        · rw [h] at hb; cases hb
        · rw [M.behind hr hS] at h; cases h
  refine ⟨?_, hkS⟩
  unfold heapM
  rw [M.no_late hr hl hk, hkS]; rfl

/-- Memory where a read comes: it may have grown. -/
theorem Met.heap_load (M : Met ca P Γ ops anc os m T0 H0 s) (hr : Ready ops m S i o) (hk : okind ca o = .load) : ∃ X, heapM ca anc os s S = s.Hs.getD (heapsAhead ca anc os i) [] ++ X := by
  have hl : lateOp ca anc os (o, i) = false := by
    cases h : lateOp ca anc os (o, i) with
    | false => rfl
    | true => have := isStore_kind (ca := ca) (late_store h); rw [hk] at this; cases this
  have hhm : heapM ca anc os s S = s.Hs.getD (kS ca anc os S) [] := by
    unfold heapM
    rw [M.no_late hr hl (by rw [hk]; simp)]; rfl
  rw [hhm]
  obtain ⟨b, hb, hpb⟩ := M.cut (M.down_closed hr.cl hr.sub)
  obtain ⟨a, ha, hpa⟩ := M.cut (M.down_anc hr.hi)
  have hkb : kS ca anc os S = kS ca anc os fun j => decide (j < b) := kS_congr hpb
  have hka : heapsAhead ca anc os i = kS ca anc os fun j => decide (j < a) := kS_congr (p := fun j => (anc.getD i 0).testBit j) hpa
  rw [hkb, hka]
  rcases Nat.lt_or_ge b a with hlt | hge
  · refine ⟨[], ?_⟩
    rw [List.append_nil]
    congr 1
    refine kS_congr fun j hj => ?_
    rw [← hpb j hj, ← hpa j hj]
    cases h : (anc.getD i 0).testBit j with
    | true => exact M.ahead hr h
    | false =>
      have h1 := hpa j hj
      simp only [h] at h1
      rw [hpb j hj]
      simp at h1 ⊢; omega
  · -- from a up to b
    have key : ∀ n, a + n ≤ b → ∃ X, s.Hs.getD (kS ca anc os fun j => decide (j < a + n)) [] = s.Hs.getD (kS ca anc os fun j => decide (j < a)) [] ++ X := by
      intro n
      induction n with
      | zero => intro _; exact ⟨[], by simp⟩
      | succ n ih =>
        intro hn
        obtain ⟨X, hX⟩ := ih (by omega)
        have hadd : (fun j => decide (j < a + (n + 1))) = addS (fun j => decide (j < a + n)) (a + n) := by
          funext j
          simp only [addS]
          rcases Nat.lt_trichotomy j (a + n) with h | h | h
          · simp [h, show j < a + (n + 1) by omega]
          · subst h; simp
          · simp [show ¬ j < a + n by omega, show ¬ j < a + (n + 1) by omega, show j ≠ a + n by omega]
        rw [hadd, kS_add (by simp)]
        by_cases hf : Eng.fixedAt ca anc os (a + n) = true
        rotate_left
        · rw [if_neg hf]; exact ⟨X, hX⟩
        rw [if_pos hf]
        obtain ⟨y, hy, hcm, hh, hl2⟩ := M.fixedAt hf
        have hSc : S (a + n) = true := by rw [hpb _ hf]; simp; omega
        have hAc : (anc.getD i 0).testBit (a + n) = false := by rw [hpa _ hf]; simp
        have hne : i ≠ a + n := by intro e; rw [← e, hr.hs] at hSc; cases hSc
        have hal : okind ca y = .alloc := by
          rcases (M.R.pair hr.ho hy hr.hi hcm hne).2.2 hl2 with ⟨h, _⟩ | ⟨_, h⟩ | h | h | h
          · exact h
          · rw [hk] at h; cases h
          · rw [h] at hh; cases hh
          · rw [hAc] at h; cases h
          · rw [M.behind hr hSc] at h; cases h
        obtain ⟨y', env, v, hy', hv, henv, hlt, hrest⟩ := M.K.fact (a + n) (by rw [M.len]; exact hcm)
        rw [hy] at hy'
        cases hy'
        rcases hrest with ⟨h, _⟩ | ⟨hg, leaf, hres, hleaf⟩
        · rw [hh] at h; cases h
        · cases hleaf with
          | val h _ => rw [hh] at h; cases h
          | call h _ _ _ _ => rw [hal] at h; cases h
          | ext h _ _ _ _ _ _ _ _ _ => rw [hal] at h; cases h
          | late h _ _ _ _ _ _ _ _ _ _ => rw [hl2] at h; cases h
          | callA _ f args _ Y _ hs =>
            refine ⟨X ++ Y, ?_⟩
            rw [← M.ahead_fixed hf] at hX ⊢
            rw [List.getD_eq_getElem?_getD, hs]
            simp only [Option.getD_some]
            rw [hX, List.append_assoc]
          | extA _ _ _ _ _ _ _ _ _ _ hs =>
            refine ⟨X, ?_⟩
            rw [← M.ahead_fixed hf] at hX ⊢
            rw [List.getD_eq_getElem?_getD, hs]
            exact hX
          | fixed _ _ H' hlf hs =>
            obtain ⟨h1, h2⟩ := aexec_alloc hal hres
            rcases hlf with e | ⟨e, _⟩
            · obtain ⟨Y, hY⟩ := h1 v H' e
              refine ⟨X ++ Y, ?_⟩
              rw [← M.ahead_fixed hf] at hX ⊢
              rw [List.getD_eq_getElem?_getD, hs]
              simp only [Option.getD_some]
              rw [hY, hX, List.append_assoc]
            · exact absurd e (h2 H')
    obtain ⟨X, hX⟩ := key (b - a) (by omega)
    rw [show a + (b - a) = b by omega] at hX
    exact ⟨X, hX⟩

/-- What does nothing with memory leaves it as it is. -/
theorem Met.heap_quiet (M : Met ca P Γ ops anc os m T0 H0 s) (hr : Ready ops m S i o) (hh : (okind ca o).heap = false) : heapM ca anc os s (addS S i) = heapM ca anc os s S := by
  have hf : ¬ Eng.fixedAt ca anc os i = true := by
    intro h
    obtain ⟨y, hy, _, h1, _⟩ := M.fixedAt h
    rw [hr.ho] at hy
    cases hy
    rw [hh] at h1; cases h1
  unfold heapM
  rw [kS_add hr.hs, if_neg hf]
  congr 1
  refine List.filter_congr fun x hx => ?_
  obtain ⟨h1, y, hy, hlate⟩ := M.K.late x hx
  have : x.1 ≠ i := by
    intro e
    rw [e, hr.ho] at hy
    cases hy
    have := isStore_kind (ca := ca) (late_store hlate)
    rw [this] at hh; cases hh
  simp [addS, this]

/-- What turns memory in its place. -/
theorem Met.heap_fixed (M : Met ca P Γ ops anc os m T0 H0 s) (hr : Ready ops m S i o) (hh : (okind ca o).heap = true) (hl : lateOp ca anc os (o, i) = false) : heapM ca anc os s (addS S i) = s.Hs.getD (heapsAhead ca anc os i + 1) [] := by
  have hf : Eng.fixedAt ca anc os i = true := by
    unfold Eng.fixedAt
    rw [M.R.get hr.hi, hr.ho]
    simp only [fixedOp, hh, hl]; rfl
  have hk : okind ca o ≠ .pure := by intro e; rw [e] at hh; cases hh
  have hk2 : okind ca o ≠ .load := by intro e; rw [e] at hh; cases hh
  unfold heapM
  rw [kS_add hr.hs, if_pos hf, (M.heap_eq hr hl hk hk2).2]
  have : (s.L.filter fun e => addS S i e.1) = [] := by
    rw [List.filter_eq_nil_iff]
    intro x hx hS
    have hno := M.no_late hr hl hk
    rw [List.filter_eq_nil_iff] at hno
    have hn := hno x hx
    obtain ⟨h1, y, hy, hlate⟩ := M.K.late x hx
    have : x.1 = i := by
      simp only [addS, Bool.or_eq_true, beq_iff_eq] at hS
      rcases hS with h | h
      · exact absurd h hn
      · exact h
    rw [this, hr.ho] at hy
    cases hy
    rw [this, hl] at hlate
    cases hlate
  rw [this]; rfl

/-- A late store. -/
theorem Met.heap_late (M : Met ca P Γ ops anc os m T0 H0 s) (hr : Ready ops m S i o) (hl : lateOp ca anc os (o, i) = true) {id : Nat} {ob : AObj} (hm : (i, id, ob) ∈ s.L) :
    (heapM ca anc os s S)[id]? = (s.Hs.getD (heapsAhead ca anc os i) [])[id]? ∧ heapM ca anc os s (addS S i) = (heapM ca anc os s S).set id ob := by
  have hf : ¬ Eng.fixedAt ca anc os i = true := by
    intro h
    obtain ⟨y, hy, _, _, h1⟩ := M.fixedAt h
    rw [hr.ho] at hy
    cases hy
    rw [hl] at h1; cases h1
  have hkS : kS ca anc os S = heapsAhead ca anc os i := by
    refine kS_congr (q := fun j => (anc.getD i 0).testBit j) fun j hj => ?_
    obtain ⟨y, hy, hjm, hh, hl2⟩ := M.fixedAt hj
    have hne : j ≠ i := by intro e; subst e; exact hf hj
    rcases (M.R.pair hy hr.ho hjm hr.hi hne).2.1 hl with h | h | h
    · rw [h] at hh; cases hh
    · rw [hl2] at h; cases h
    · rw [h, M.ahead hr h]
  obtain ⟨h1, h2⟩ := applyL_add hr.hs s.L (s.Hs.getD (kS ca anc os S) []) M.K.ids M.K.once hm
  refine ⟨?_, ?_⟩
  · unfold heapM
    rw [applyL_get _ _ h2, hkS]
  · unfold heapM
    rw [kS_add hr.hs, if_neg hf]
    exact h1

end
end Go.Eng

/- The engine, drawn regions, part 7: the model's steps in any order come to what the order of the text comes to. -/
set_option linter.unusedVariables false
set_option linter.unusedSimpArgs false
set_option linter.unnecessarySimpa false
namespace Go.Eng
open Go

def noO : Oracle := fun _ _ _ => none
theorem noO_ok (P : Program) : OracleOK P noO := fun f args H r h => by cases h

section
variable {ca : Bool} {P : Program} {Γ : Oracle} {ops : Array Oper} {anc : List Nat} {os : List Oper} {m : Nat} {T0 : List AV} {H0 : AHeap} {s : QS} (M : Met ca P Γ ops anc os m T0 H0 s)
variable {g : Gh} {F0 : AFrame} {Fs : List AFrame} {fr : Frame} {frs cs0 : List Frame} {w : World} {k : List AItem} {rops : Array Oper}

def frS (F0 : AFrame) (rops ops : Array Oper) (T0 : List AV) (s : QS) (k : List AItem) (S : Nat → Bool) (l : List Nat) : AFrame :=
  { F0 with tmps := tmpsM ops T0 s.vs S, todo := .inRegion rops l :: k }

theorem getD_inv {ts : Array Value} {t : Nat} {v : Value} (h : ts.getD t undef = v) (ht : t < ts.size) : ts[t]? = some v := by
  rw [Array.getElem?_eq_getElem ht]
  rw [Array.getD_eq_getD_getElem?, Array.getElem?_eq_getElem ht] at h
  simpa using h

include M in
theorem Met.slot_big {S : Nat → Bool} {t : Nat} (ht : T0.length ≤ t) : slotM ops T0 s.vs S t = .un := by
  unfold slotM
  have h0 : T0.getD t .un = .un := by rw [List.getD_eq_getElem?_getD, List.getElem?_eq_none ht]; rfl
  rw [h0]
  cases h : slotS ops S t s.vs 0 with
  | none => rfl
  | some u =>
    obtain ⟨j, h1, h2, h3⟩ := slotS_some h
    simp only [Nat.zero_add] at h3
    have hj : j < m := by rw [← M.len]; exact (List.getElem?_eq_some_iff.1 h1).1
    cases hy : ops[j]? with
    | none => rw [hy] at h3; cases h3
    | some y =>
      rw [hy] at h3
      exact absurd (M.hd j y t hy hj h3) (Nat.not_lt.2 ht)

include M in
theorem Met.eval_slot {S : Nat → Bool} {l : List Nat} (hF : RepFrame g (frS F0 rops ops T0 s k S l) fr) (t : Tmp) : ARep g (slotM ops T0 s.vs S t) (fr.eval (.tmp t)) := by
  have h := evalF_ok hF (.tmp t)
  have e : evalA (frS F0 rops ops T0 s k S l).tmps (.tmp t) = slotM ops T0 s.vs S t := by
    simp only [evalA, frS, tmpsM]
    rw [List.getD_eq_getElem?_getD, List.getElem?_map]
    rcases Nat.lt_or_ge t T0.length with hlt | hge
    · rw [List.getElem?_range hlt]; rfl
    · rw [List.getElem?_eq_none (by simpa using hge), M.slot_big hge]; rfl
  rwa [e] at h

variable {S : Nat → Bool} {i : Nat} {o : Oper} {l : List Nat}

theorem Met.slotQ_rep (M : Met ca P Γ ops anc os m T0 H0 s) (hr : Ready ops m S i o) (hF : RepFrame g (frS F0 rops ops T0 s k S l) fr) {env : QEnv} (henv : EnvOK ops (s.vs.take i) env) {t : Tmp}
    (hu : usedSlot o t = true ∨ ∃ k want, o.guard = some (k, want) ∧ (ops[k]?).bind (·.dst) = some t) : ARep g (slotQ ops T0 (s.vs.take i) env t) (fr.eval (.tmp t)) := by
  have h := M.eval_slot hF t
  rw [M.slot hr hu] at h
  unfold slotQ
  cases he : envGet env t with
  | none => exact h
  | some b =>
    rw [henv t b he] at h
    have := p_inv h
    rw [this]
    cases b <;> first | exact .tt | exact .ff

theorem Met.rho_rep (M : Met ca P Γ ops anc os m T0 H0 s) (hr : Ready ops m S i o) (hF : RepFrame g (frS F0 rops ops T0 s k S l) fr) {env : QEnv} (henv : EnvOK ops (s.vs.take i) env) (x : Operand) :
    ARep g (rhoQ o (slotQ ops T0 (s.vs.take i) env) x) (fr.eval x) := by
  cases x with
  | tmp t =>
    simp only [rhoQ]
    split
    · rename_i hu; exact M.slotQ_rep hr hF henv (.inl hu)
    · exact .any _
  | const v => exact evalF_ok hF (.const v)
  | global v => exact evalF_ok hF (.global v)
  | func v => exact evalF_ok hF (.func v)

theorem Met.guard_rep (M : Met ca P Γ ops anc os m T0 H0 s) (hr : Ready ops m S i o) (hF : RepFrame g (frS F0 rops ops T0 s k S l) fr) {env : QEnv} (henv : EnvOK ops (s.vs.take i) env) {b : Bool}
    (hg : GuardIs ops o (slotQ ops T0 (s.vs.take i) env) b) (hgd : ∀ j want, o.guard = some (j, want) → (rops[j]?).bind (·.dst) = (ops[j]?).bind (·.dst)) : Region.wanted o (yielded rops fr.tmps) = b := by
  unfold Region.wanted
  rcases hg with ⟨h1, h2⟩ | ⟨j, want, h1, h2⟩
  · rw [h1, h2]
  · have hgd := hgd j want h1
    rw [h1]
    simp only []
    have hjm : j < m := by
      have := M.hg
      unfold guardsOk at this
      rw [List.all_eq_true] at this
      have hmem : o ∈ os := List.mem_of_getElem? (i := i) (by rw [M.R.get hr.hi]; exact hr.ho)
      have := this o hmem
      rw [h1] at this
      simpa using this
    rcases h2 with ⟨h2, h3⟩ | ⟨t, h2, h3⟩
    · have : yielded rops fr.tmps j = none := by simp [yielded, hgd, h2]
      rw [this, h3]; rfl
    · have hrep := M.slotQ_rep hr hF henv (t := t) (.inr ⟨j, want, h1, h2⟩)
      have ht : t < fr.tmps.size := by
        have h4 := hF.tmps.1
        have : t < T0.length := by
          cases hy : ops[j]? with
          | none => rw [hy] at h2; cases h2
          | some y => rw [hy] at h2; exact M.hd j y t hy hjm h2
        rw [← h4]
        simpa [frS, tmpsM] using this
      have hy : ∀ v, fr.eval (.tmp t) = v → yielded rops fr.tmps j = (match v with | .bool b => some b | _ => none) := by
        intro v hv
        unfold yielded
        rw [hgd, h2]
        simp only [Option.bind_some]
        rw [getD_inv (v := v) hv ht]
        cases v <;> rfl
      generalize hv : fr.eval (.tmp t) = v at hrep
      rw [hy v hv]
      rcases h3 with ⟨e, h3⟩ | ⟨e, h3⟩ | ⟨e, h3⟩
      · rw [e] at hrep; cases hrep; rw [h3]; cases want <;> rfl
      · rw [e] at hrep; cases hrep; rw [h3]; cases want <;> rfl
      · rw [e] at hrep; cases hrep; rw [h3]; rfl

/-- A result that the order of the text found is found in any order. -/
theorem Met.resv (M : Met ca P Γ ops anc os m T0 H0 s) (hr : Ready ops m S i o) (hh : (okind ca o).heap = false) {ρ : Operand → AV} {leaf : ARes} (h : Resv (aexec P (s.Hs.getD (heapsAhead ca anc os i) []) ρ o) leaf) :
    Resv (aexec P (heapM ca anc os s S) ρ o) leaf := by
  have hl : lateOp ca anc os (o, i) = false := by
    cases hl : lateOp ca anc os (o, i) with
    | false => rfl
    | true => have := isStore_kind (ca := ca) (late_store hl); rw [this] at hh; cases hh
  cases hk : okind ca o with
  | alloc => rw [hk] at hh; cases hh
  | write => rw [hk] at hh; cases hh
  | pure => rw [aexec_pure (H' := s.Hs.getD (heapsAhead ca anc os i) []) hk]; exact h
  | load =>
    obtain ⟨X, hX⟩ := M.heap_load hr hk
    rw [hX]; exact aexec_load hk h
  | strict =>
    rw [(M.heap_eq hr hl (by rw [hk]; simp) (by rw [hk]; simp)).1]; exact h

/-- One operation. -/
theorem Met.step (M : Met ca P Γ ops anc os m T0 H0 s) (hΓ : OracleOK P Γ) (hr : Ready ops m S i o) (hsame : rops[i]? = some o) (hgd : ∀ j want, o.guard = some (j, want) → (rops[j]?).bind (·.dst) = (ops[j]?).bind (·.dst)) (hm : F0.mode = .run) (hF : RepFrame g (frS F0 rops ops T0 s k S (i :: l)) fr) (hFs : RepFrames g Fs frs) (hst : St g (heapM ca anc os s S) w) :
    NextOK P g (frS F0 rops ops T0 s k S (i :: l) :: Fs) (heapM ca anc os s S) fr (frs ++ cs0) cs0 w (.next (.run (frS F0 rops ops T0 s k (addS S i) l :: Fs) (heapM ca anc os s (addS S i)))) := by
  have hmode := mode_run hF hm
  obtain ⟨it, its, hfr, h1, h2⟩ := items_cons hF (a := .inRegion rops (i :: l)) (k := k) rfl
  have h1 : it = .inRegion rops (i :: l) := h1
  subst h1
  obtain ⟨o', env, v, ho', hv, henv, ha, hrest⟩ := M.K.fact i (by rw [M.len]; exact hr.hi)
  rw [hr.ho] at ho'
  cases ho'
  have hfin : (frS F0 rops ops T0 s k S (i :: l)).finish v = some (frS F0 rops ops T0 s k (addS S i) l) := by
    unfold AFrame.finish frS
    simp only [hsame, Option.bind_some]
    rw [M.put hr hv]
  rcases hrest with ⟨hh, hvu, hg⟩ | ⟨hg, leaf, hres, hleaf⟩
  · have hw := M.guard_rep hr hF henv hg hgd
    subst hvu
    rw [M.heap_quiet hr hh]
    refine go1 hFs hst (step_lone_go ?_) (finish_ok hF (rep_un _) hfin) (finish_fn hfin)
    simp [stepG, hmode, stepG.exec, hfr, hsame, hw]
  · have hw := M.guard_rep hr hF henv hg hgd
    have hnd : ∀ c, o.op ≠ .defer c := by
      intro c hc
      unfold aexec at hres
      rw [hc] at hres
      simp only [deferA] at hres
      repeat' split at hres
      all_goals cases hres
    have hs : ∀ cs, stepG P true { frame := fr, callers := cs, status := .running, dying := none } w = stepG.apply P true fr cs none (execOp fr.eval o) w :=
      fun cs => applied hmode hfr hsame hw (.inr hnd)
    have hok := aexec_ok (P := P) hst (fun x => M.rho_rep hr hF henv x) o
    have done : ∀ {leaf : ARes} {N : ANext}, Resv (aexec P (heapM ca anc os s S) (rhoQ o (slotQ ops T0 (s.vs.take i) env)) o) leaf → doRes P noO (frS F0 rops ops T0 s k S (i :: l)) Fs (heapM ca anc os s S) leaf = N →
        NextOK P g (frS F0 rops ops T0 s k S (i :: l) :: Fs) (heapM ca anc os s S) fr (frs ++ cs0) cs0 w N := by
      intro leaf N h1 h2
      have := doRes_ok (noO_ok P) hF hFs hst hfr rfl hs leaf (hok.resv h1) (cs0 := cs0)
      rwa [h2] at this
    cases hleaf with
    | val hh hl =>
      subst hl
      refine done (M.resv hr hh hres) ?_
      simp only [doRes, hfin, M.heap_quiet hr hh]
    | call hk f args hl hgm =>
      subst hl
      have hh : (okind ca o).heap = false := by rw [hk]; rfl
      have hres' := M.resv hr hh hres
      have hro := hok.resv hres'
      obtain ⟨cargs, hc, harg⟩ := hro
      obtain ⟨X, hX⟩ := M.heap_load hr hk
      have hctr : CtrTo P f args (heapM ca anc os s S) v (heapM ca anc os s S) := by
        rw [hX]; exact hΓ f args _ _ hgm X
      have := doCall_ok hF hFs hst hfr rfl (cs0 := cs0) (fun h => step_lone_go (by rw [hs]; exact h)) hc harg v _ hctr
      rw [hfin] at this
      rw [M.heap_quiet hr hh]
      exact this
    | ext hk f args hl hb us hu x hx hvx =>
      subst hl
      have hh : (okind ca o).heap = false := by rw [hk]; rfl
      refine done (M.resv hr hh hres) ?_
      subst hvx
      simp only [doRes, enterCall, noO, hb, hu, hx, hfin, M.heap_quiet hr hh]
      rfl
    | callA hk f args hl X hg' hs' =>
      subst hl
      have hn : lateOp ca anc os (o, i) = false := by
        cases hl : lateOp ca anc os (o, i) with
        | false => rfl
        | true => have := isStore_kind (ca := ca) (late_store hl); simp only [] at this; rw [hk] at this; cases this
      have hE := (M.heap_eq hr hn (by rw [hk]; simp) (by rw [hk]; simp)).1
      have hH : heapM ca anc os s (addS S i) = heapM ca anc os s S ++ X := by
        rw [M.heap_fixed hr (by rw [hk]; rfl) hn, List.getD_eq_getElem?_getD, hs', hE]; rfl
      have hres' := hres
      rw [← hE] at hres' hg'
      have hro := hok.resv hres'
      obtain ⟨cargs, hc, harg⟩ := hro
      have hctr : CtrTo P f args (heapM ca anc os s S) v (heapM ca anc os s S ++ X) := by
        rcases hg' with h | ⟨h, rfl⟩
        · exact hΓ f args _ _ h
        · have := hΓ f args _ _ h []
          simpa using this
      have := doCall_ok hF hFs hst hfr rfl (cs0 := cs0) (fun h => step_lone_go (by rw [hs]; exact h)) hc harg v _ hctr
      rw [hfin] at this
      rw [hH]
      exact this
    | extA hk f args hl hb us hu x hx hvx hs' =>
      subst hl
      have hn : lateOp ca anc os (o, i) = false := by
        cases hl : lateOp ca anc os (o, i) with
        | false => rfl
        | true => have := isStore_kind (ca := ca) (late_store hl); simp only [] at this; rw [hk] at this; cases this
      have hE := (M.heap_eq hr hn (by rw [hk]; simp) (by rw [hk]; simp)).1
      have hH : heapM ca anc os s (addS S i) = heapM ca anc os s S := by
        rw [M.heap_fixed hr (by rw [hk]; rfl) hn, List.getD_eq_getElem?_getD, hs', hE]; rfl
      have hres' := hres
      rw [← hE] at hres'
      refine done hres' ?_
      subst hvx
      simp only [doRes, enterCall, noO, hb, hu, hx, hfin, hH]
      rfl
    | fixed hh hn H' hl hs' =>
      have hk : okind ca o ≠ .pure := by intro e; rw [e] at hh; cases hh
      have hk2 : okind ca o ≠ .load := by intro e; rw [e] at hh; cases hh
      have hH : heapM ca anc os s (addS S i) = H' := by
        rw [M.heap_fixed hr hh hn, List.getD_eq_getElem?_getD, hs']; rfl
      have hres' := hres
      rw [← (M.heap_eq hr hn hk hk2).1] at hres'
      refine done hres' ?_
      rcases hl with e | ⟨e, e2⟩
      · subst e; simp only [doRes, hfin, hH]
      · subst e; subst e2; simp only [doRes, hfin, hH]
    | late hn H' hl hvu id ob hid hob hlive hL hlen =>
      subst hl; subst hvu
      obtain ⟨h3, h4⟩ := M.heap_late hr hn hL
      obtain ⟨ob', h5, h6, h7⟩ := aexec_store (H2 := heapM ca anc os s S) (late_store hn) hres hid h3
      rw [hob] at h5
      cases h5
      refine done h7 ?_
      simp only [doRes, hfin, h4]

/-- Steps, one behind the other. -/
theorem NextOK.chain {fs : List AFrame} {H H1 H2 : AHeap} {F1 F2 : AFrame} {Fs1 Fs2 : List AFrame} {cs : List Frame} (h : NextOK P g fs H fr cs cs0 w (.next (.run (F1 :: Fs1) H1)))
    (h2 : ∀ g' fr' frs' w', RepFrame g' F1 fr' → RepFrames g' Fs1 frs' → St g' H1 w' → NextOK P g' (F1 :: Fs1) H1 fr' (frs' ++ cs0) cs0 w' (.next (.run (F2 :: Fs2) H2))) :
    NextOK P g fs H fr cs cs0 w (.next (.run (F2 :: Fs2) H2)) := by
  obtain ⟨fr1, frs1, w1, g1, e1, e2, e3, e4, e5, e6, e7⟩ := h
  obtain ⟨fr2, frs2, w2, g2, d1, d2, d3, d4, d5, d6, d7⟩ := h2 g1 fr1 frs1 w1 e2 e3 e4
  exact ⟨fr2, frs2, w2, g2, e1.trans d1, d2, d3, d4, e5.trans d5, d6.trans e6, e7.trans d7⟩

theorem tail_eq (R : Reg ca ops anc os m) (hq : ∀ i, m ≤ i → i < ops.size → ∀ j, j < i → (anc.getD i 0).testBit j = true) : ∀ (l : List Nat) (c : Nat), m ≤ c → c ≤ ops.size → Ord ops (fun j => decide (j < c) = true) l →
    (∀ j, j < ops.size → j < c ∨ j ∈ l) → l = List.range' c (ops.size - c)
  | [], c, h1, h2, ho, hc => by
    have : ops.size = c := by
      rcases Nat.lt_or_ge c ops.size with h | h
      · rcases hc c h with h3 | h3
        · omega
        · cases h3
      · omega
    rw [this, Nat.sub_self]; rfl
  | i :: l, c, h1, h2, ho, hc => by
    cases ho with
    | cons _ _ o _ hio hs hd hl =>
      have hin : i < ops.size := (Array.getElem?_eq_some_iff.1 hio).1
      have hic : i = c := by
        rcases Nat.lt_trichotomy i c with h | h | h
        · exact absurd (by simpa using h) hs
        · exact h
        · have := R.ready (S := fun j => decide (j < c)) (fun a oa hoa hSa e he hb => by have := edges_lt R.hedge hoa he hb; simp at hSa ⊢; omega) hio hd (hq i (by omega) hin c h) (by omega)
          simp at this
      subst hic
      have ih := tail_eq R hq l (i + 1) (by omega) (by omega) (hl.congr fun j => by simp; omega) (fun j hj => by
        rcases hc j hj with h | h
        · exact .inl (by omega)
        · rcases List.mem_cons.1 h with h | h
          · exact .inl (by omega)
          · exact .inr h)
      rw [ih, show ops.size - i = (ops.size - (i + 1)) + 1 by omega, List.range'_succ]

theorem Met.sim (M : Met ca P Γ ops anc os m T0 H0 s) (hΓ : OracleOK P Γ) (hm : F0.mode = .run) (hq : ∀ i, m ≤ i → i < ops.size → ∀ j, j < i → (anc.getD i 0).testBit j = true) :
    ∀ (l : List Nat) (S : Nat → Bool) (g : Gh) (fr : Frame) (frs : List Frame) (w : World), Ord ops (fun j => S j = true) l → Closed ops S → (∀ j, S j = true → j < m) → (∀ j, j < ops.size → S j = true ∨ j ∈ l) →
      RepFrame g (frS F0 ops ops T0 s k S l) fr → RepFrames g Fs frs → St g (heapM ca anc os s S) w →
      NextOK P g (frS F0 ops ops T0 s k S l :: Fs) (heapM ca anc os s S) fr (frs ++ cs0) cs0 w
        (.next (.run (frS F0 ops ops T0 s k (fun j => decide (j < m)) (List.range' m (ops.size - m)) :: Fs) (heapM ca anc os s fun j => decide (j < m)))) := by
  intro l
  induction l with
  | nil =>
    intro S g fr frs w ho hcl hsub hc hF hFs hst
    have hS : S = fun j => decide (j < m) := by
      funext j
      rcases Nat.lt_or_ge j m with h | h
      · rcases hc j (M.lt_size h) with h2 | h2
        · rw [h2]; simp [h]
        · cases h2
      · cases h2 : S j with
        | true => have := hsub j h2; omega
        | false => simp; omega
    have hn : ops.size - m = 0 := by
      rcases Nat.lt_or_ge m ops.size with h | h
      · rcases hc m h with h2 | h2
        · have := hsub m h2; omega
        · cases h2
      · omega
    subst hS
    rw [hn]
    exact ⟨fr, frs, w, g, .refl _ _, hF, hFs, hst, Ext.refl _ _ _, rfl, Gh.le.refl _⟩
  | cons i l ih =>
    intro S g fr frs w ho hcl hsub hc hF hFs hst
    by_cases hall : ∀ j, j < m → S j = true
    · have hS : S = fun j => decide (j < m) := by
        funext j
        rcases Nat.lt_or_ge j m with h | h
        · rw [hall j h]; simp [h]
        · cases h2 : S j with
          | true => have := hsub j h2; omega
          | false => simp; omega
      subst hS
      have := tail_eq M.R hq (i :: l) m (Nat.le_refl _) M.R.hm ho (fun j hj => by
        rcases hc j hj with h | h
        · exact .inl (by simpa using h)
        · exact .inr h)
      rw [this] at hF ⊢
      exact ⟨fr, frs, w, g, .refl _ _, hF, hFs, hst, Ext.refl _ _ _, rfl, Gh.le.refl _⟩
    · cases ho with
      | cons _ _ o _ hio hs hd hl =>
        have hin : i < ops.size := (Array.getElem?_eq_some_iff.1 hio).1
        have hiS : S i = false := by simpa using hs
        have him : i < m := by
          rcases Nat.lt_or_ge i m with h | h
          · exact h
          · exfalso
            apply hall
            intro j hj
            exact M.R.ready hcl hio hd (hq i h hin j (by omega)) (by omega)
        have hr : Ready ops m S i o := ⟨hcl, hsub, hio, him, hiS, hd⟩
        refine (M.step hΓ hr hio (fun _ _ _ => rfl) hm hF hFs hst).chain fun g' fr' frs' w' e1 e2 e3 => ?_
        refine ih (addS S i) g' fr' frs' w' (hl.congr fun j => by simp [addS]) ?_ ?_ ?_ e1 e2 e3
        · intro a oa hoa hSa e he hb
          simp only [addS, Bool.or_eq_true, beq_iff_eq] at hSa ⊢
          rcases hSa with h | h
          · exact .inl (hcl a oa hoa h e he hb)
          · subst h
            rw [hio] at hoa
            cases hoa
            exact .inl (hd e he hb)
        · intro j hj
          simp only [addS, Bool.or_eq_true, beq_iff_eq] at hj
          rcases hj with h | h
          · exact hsub j h
          · omega
        · intro j hj
          simp only [addS, Bool.or_eq_true, beq_iff_eq]
          rcases hc j hj with h | h
          · exact .inl (.inl h)
          · rcases List.mem_cons.1 h with h | h
            · exact .inl (.inr h)
            · exact .inr h

end
end Go.Eng

/- The engine, drawn regions, part 8: a region whose order is open. -/
set_option linter.unusedVariables false
set_option linter.unusedSimpArgs false
set_option linter.unnecessarySimpa false
namespace Go.Eng
open Go

theorem quiet_ok {anc : List Nat} : ∀ n i, quietLen anc n ≤ i → i < n → ∀ j, j < i → (anc.getD i 0).testBit j = true
  | 0, i, _, h, _, _ => by omega
  | n + 1, i, h1, h2, j, hj => by
    rw [quietLen] at h1
    split at h1
    · rename_i hq
      rcases Nat.lt_or_ge i n with h | h
      · exact quiet_ok n i h1 h j hj
      · have : i = n := by omega
        subst this
        have h3 : (2 ^ i - 1).testBit j = true := by rw [Nat.testBit_two_pow_sub_one]; simpa using hj
        rw [← hq, Nat.testBit_and] at h3
        exact (Bool.and_eq_true_iff.1 h3).1
    · omega

theorem quietLen_le (anc : List Nat) : ∀ n, quietLen anc n ≤ n
  | 0 => Nat.le_refl _
  | n + 1 => by
    rw [quietLen]
    split
    · have := quietLen_le anc n; omega
    · exact Nat.le_refl _

section
variable {P : Program} {Γ : Oracle} {g : Gh} {F : AFrame} {Fs : List AFrame} {H : AHeap} {fr : Frame} {frs cs0 : List Frame} {w : World}

theorem qConv_ok {Q : QS → Prop} {k : List AItem} {ops : Array Oper} {m nf : Nat}
    (h : ∀ s, Q s → NextOK P g (F :: Fs) H fr (frs ++ cs0) cs0 w (.next (.run ({ F with tmps := applyEnv s.env (finalT ops s.vs F.tmps), todo := .inRegion ops (List.range' m (ops.size - m)) :: k } :: Fs) (applyL (s.Hs.getD nf []) s.L)))) :
    ∀ r, QAll Q r → NextOK P g (F :: Fs) H fr (frs ++ cs0) cs0 w (qConv F Fs k ops m nf r) := by
  intro r
  induction r with
  | done s => intro hq; exact h s hq
  | br c a b iha ihb => intro hq; exact ⟨fun hc => iha (hq.1 hc), fun hc => ihb (hq.2 hc)⟩
  | need c a ih => intro hq hc; exact ih (hq hc)
  | fail => intro _; trivial

/-- What the tests came to. -/
theorem env_rep {ops : Array Oper} {vs : List AV} {env : QEnv} {T0 : List AV} {ts : Array Value} (henv : EnvOK ops vs env) (h : RepL g (finalT ops vs T0) ts) : RepL g (applyEnv env (finalT ops vs T0)) ts := by
  have hl : (applyEnv env (finalT ops vs T0)).length = (finalT ops vs T0).length := by
    have : ∀ (env : QEnv) (T : List AV), (applyEnv env T).length = T.length := by
      intro env
      induction env with
      | nil => intro T; rfl
      | cons x r ih => intro T; obtain ⟨u, b⟩ := x; rw [applyEnv, List.length_set]; exact ih T
    exact this env _
  refine ⟨by rw [hl]; exact h.1, ?_⟩
  intro t x v hx hv
  rw [applyEnv_get] at hx
  obtain ⟨y, hy, hyx⟩ := Option.map_eq_some_iff.1 hx
  have hr := h.2 t y v hy hv
  cases he : envGet env t with
  | none => rw [he] at hyx; simp only [] at hyx; subst hyx; exact hr
  | some b =>
    have hf := henv t b he
    have hy' : y = .d (.p (.bool b)) := by
      unfold finalT at hy
      rw [List.getElem?_map] at hy
      obtain ⟨t', ht', e⟩ := Option.map_eq_some_iff.1 hy
      have : t' = t := by
        have h1 := (List.getElem?_eq_some_iff.1 ht')
        obtain ⟨h2, h3⟩ := h1
        rw [← h3]; simp
      subst this
      rw [hf] at e
      exact e.symm
    rw [hy'] at hr
    have := p_inv hr
    subst this
    rw [he] at hyx
    cases b with
    | true => simp only [] at hyx; subst hyx; exact .tt
    | false => simp only [] at hyx; subst hyx; exact .ff

theorem drawStep_ok (hΓ : OracleOK P Γ) (hF : RepFrame g F fr) (hFs : RepFrames g Fs frs) (hst : St g H w) {id : Nat} {ops : Array Oper} {k : List AItem} (hm : F.mode = .run)
    (ht : F.todo = .code (.region id ops true) :: k) : NextOK P g (F :: Fs) H fr (frs ++ cs0) cs0 w (drawStep P Γ F Fs H k ops) := by
  unfold drawStep
  dsimp only
  split
  rotate_left
  · trivial
  rename_i hc
  simp only [Bool.and_eq_true] at hc
  obtain ⟨⟨⟨⟨⟨hmix, hedge⟩, hdraw⟩, hguard⟩, htrans⟩, hdst⟩ := hc
  generalize hanc : ancT [] ops.toList = anc at *
  generalize hqm : quietLen anc ops.size = m at *
  generalize hos : ops.toList.take m = os at *
  generalize hca : drawOk true anc os = ca at *
  have hmle : m ≤ ops.size := by rw [← hqm]; exact quietLen_le _ _
  have R : Reg ca ops anc os m := ⟨hmle, hos.symm, hanc.symm, hedge, hdraw⟩
  have hq : ∀ i, m ≤ i → i < ops.size → ∀ j, j < i → (anc.getD i 0).testBit j = true := fun i h1 h2 => quiet_ok ops.size i (by rw [hqm]; exact h1) h2
  have hd : ∀ (i : Nat) (o : Oper) (t : Tmp), ops[i]? = some o → i < m → o.dst = some t → t < F.tmps.length := by
    intro i o t ho hi hot
    rw [List.all_eq_true] at hdst
    have hmem : o ∈ os := List.mem_of_getElem? (i := i) (by rw [R.get hi]; exact ho)
    have := hdst o hmem
    rw [hot] at this
    simpa using this
  have hK0 : Known ca P Γ ops anc os F.tmps H { env := [], vs := [], Hs := [H], L := [] } :=
    ⟨fun i hi => (by simp at hi), rfl, (by simp), fun x hx => (by cases hx), (by simp), fun t b h => (by simp [envGet] at h)⟩
  have hall := qRun_known (P := P) (Γ := Γ) (List.range m) _ hK0 (by simp [List.range_eq_range'])
  refine qConv_ok ?_ _ hall
  rintro s ⟨hK, hlen⟩
  have hlen : s.vs.length = m := by simpa using hlen
  have M : Met ca P Γ ops anc os m F.tmps H s := ⟨R, hguard, htrans, hd, hK, hlen⟩
  -- the draw
  obtain ⟨it, its, hfr, h1, h2⟩ := items_cons hF ht
  have h1 : it = .code (.region id ops true) := h1
  subst h1
  have hmode := mode_run hF hm
  obtain ⟨hord, hcomp⟩ := schedule_ok hedge (w.tape w.drawn (.order fr.fn id))
  generalize hsch : Region.schedule true ops (w.tape w.drawn (.order fr.fn id)) = l at hord hcomp
  have hno : ∀ t, slotS ops (fun _ => false) t s.vs 0 = none := by
    intro t
    have hn : ∀ (vs : List AV) (j : Nat), slotS ops (fun _ => false) t vs j = none := by
      intro vs
      induction vs with
      | nil => intro j; rfl
      | cons v vs ih => intro j; rw [slotS]; simp [ih]
    exact hn _ _
  have hT0 : tmpsM ops F.tmps s.vs (fun _ => false) = F.tmps := by
    unfold tmpsM slotM
    refine List.ext_getElem? fun t => ?_
    rw [List.getElem?_map]
    rcases Nat.lt_or_ge t F.tmps.length with hlt | hge
    · rw [List.getElem?_range hlt]
      simp only [hno, Option.getD_none, Option.map_some]
      rw [List.getD_eq_getElem?_getD, List.getElem?_eq_getElem hlt]; rfl
    · rw [List.getElem?_eq_none (by simpa using hge), List.getElem?_eq_none hge]; rfl
  have hH0 : heapM ca anc os s (fun _ => false) = H := by
    unfold heapM
    have h1 : kS ca anc os (fun _ => false) = 0 := by
      unfold kS
      simp
    have h2 : (s.L.filter fun _ => false) = [] := by simp
    rw [h1, h2, applyL, List.getD_eq_getElem?_getD, hK.first]; rfl
  have hstep : step P (lone fr (frs ++ cs0) w) = .next (lone { fr with todo := .inRegion ops l :: its } (frs ++ cs0) (drewW w)) :=
    step_lone_go (by simp [stepG, hmode, stepG.exec, hfr, choose, Sem.run, Question.forced, Question.cut, hmix, hsch, drewW])
  have hF1 : RepFrame g (frS F ops ops F.tmps s k (fun _ => false) l) { fr with todo := .inRegion ops l :: its } := by
    unfold frS
    rw [hT0]
    exact hF.withTodo (k := .inRegion ops l :: k) (k' := .inRegion ops l :: its) ⟨rfl, h2⟩
  have hsim := M.sim (F0 := F) (k := k) (cs0 := cs0) hΓ hm hq l (fun _ => false) g { fr with todo := .inRegion ops l :: its } frs (drewW w) (hord.congr fun j => by simp)
    (fun i o ho h => by cases h) (fun j h => by cases h) (fun j hj => .inr (hcomp j hj)) hF1 hFs (by rw [hH0]; exact hst.drew)
  obtain ⟨fr', frs', w', g', e1, e2, e3, e4, e5, e6, e7⟩ := hsim
  rw [hH0] at e5
  -- the end
  have hfinT : tmpsM ops F.tmps s.vs (fun j => decide (j < m)) = finalT ops s.vs F.tmps := by
    unfold tmpsM finalT slotM
    refine List.map_congr_left fun t _ => ?_
    congr 1
    rw [slotFind_eq]
    refine slotS_congr fun i hi _ => ?_
    rw [hlen] at hi
    simp [hi]
  have hfinH : heapM ca anc os s (fun j => decide (j < m)) = applyL (s.Hs.getD (os.zipIdx.filter (fixedOp ca anc os)).length []) s.L := by
    unfold heapM
    have h1 : kS ca anc os (fun j => decide (j < m)) = (os.zipIdx.filter (fixedOp ca anc os)).length := by
      unfold kS
      refine filter_len_congr fun x hx => ?_
      have h3 := List.mem_zipIdx_iff_getElem?.1 hx
      have : x.2 < m := by rw [← R.len]; exact (List.getElem?_eq_some_iff.1 (by simpa using h3)).1
      simp [this]
    have h2 : (s.L.filter fun e => decide (e.1 < m)) = s.L := by
      rw [List.filter_eq_self]
      intro x hx
      have := (hK.late x hx).1
      rw [hlen] at this
      simpa using this
    rw [h1, h2]
  rw [hfinH] at e4 e5
  refine ⟨fr', frs', w', g', .head hstep e1, ?_, e3, e4, Ext.drew.trans e5, ?_, e7⟩
  · unfold frS at e2
    rw [hfinT] at e2
    exact ⟨e2.fn, env_rep hK.env e2.tmps, e2.todo, e2.defers, e2.mode, e2.kind, e2.round, e2.roundn⟩
  · exact botFn_top F _ Fs rfl

end
end Go.Eng
