/- The engine, part 21: contracts without memory: what a function made is data from then on. -/
import Derived.Test.YtgmbiahkameikaaGreatDoorEngE
import Derived.KernelRfl
import Derived.Deep.QuietTactic
import Derived.Lib.IndexMore
import Derived.Lib.SlTrimSet
import Derived.Below
set_option linter.unusedVariables false
set_option linter.unusedSimpArgs false
set_option linter.unnecessarySimpa false
namespace Go.Eng
open Go

mutual
def idFree : AV → Bool
  | .d _ | .tt | .ff | .un | .any => true
  | .mp .. | .mr .. | .ms .. | .mm _ | .yl _ => false
  | .fn _ first cap => idFrees first && idFrees cap
  | .ag cs => idFrees cs
  | .tu cs => idFrees cs
  | .ifc _ x => idFree x
def idFrees : List AV → Bool
  | [] => true
  | x :: xs => idFree x && idFrees xs
end

theorem idFrees_get : ∀ {cs : List AV}, idFrees cs = true → ∀ {i : Nat} {x : AV}, cs[i]? = some x → idFree x = true
  | [], _, i, x, h => by simp at h
  | c :: cs, hf, 0, x, h => by
    rw [idFrees] at hf
    simp only [List.getElem?_cons_zero, Option.some.injEq] at h
    subst h
    exact (Bool.and_eq_true_iff.1 hf).1
  | c :: cs, hf, i + 1, x, h => by
    rw [idFrees] at hf
    exact idFrees_get (Bool.and_eq_true_iff.1 hf).2 (by simpa using h)

/-- What names no block stands for the same, whatever blocks there are. -/
theorem ARep.free {g g' : Gh} (himm : ∀ b o v, g.imm b o = some v → g'.imm b o = some v) {x : AV} {c : Value} (h : ARep g x c) (hf : idFree x = true) : ARep g' x c := by
  induction h with
  | d x v h => exact .d x v (h.mono himm)
  | tt => exact .tt
  | ff => exact .ff
  | mp i off hi => cases hf
  | mr i k j esz hi => cases hf
  | ms i off len esz cap o hi hc hl ho => cases hf
  | yl i hi => cases hf
  | mm i hi => cases hf
  | fn f first cap vs ws hl1 hl2 h1 h2 ih1 ih2 =>
    rw [idFree] at hf
    obtain ⟨e1, e2⟩ := Bool.and_eq_true_iff.1 hf
    exact .fn f first cap vs ws hl1 hl2 (fun i x v hx hv => ih1 i x v hx hv (idFrees_get e1 hx)) (fun i x v hx hv => ih2 i x v hx hv (idFrees_get e2 hx))
  | ag cs vs hl h ih => rw [idFree] at hf; exact .ag cs vs hl fun i x v hx hv => ih i x v hx hv (idFrees_get hf hx)
  | tu cs vs hl h ih => rw [idFree] at hf; exact .tu cs vs hl fun i x v hx hv => ih i x v hx hv (idFrees_get hf hx)
  | ifc t x v h ih => rw [idFree] at hf; exact .ifc t x v (ih hf)
  | un => exact .un
  | any v => exact .any v

theorem RepL.free {g g' : Gh} (himm : ∀ b o v, g.imm b o = some v → g'.imm b o = some v) {cs : List AV} {vs : Array Value} (h : RepL g cs vs) (hf : idFrees cs = true) : RepL g' cs vs :=
  ⟨h.1, fun i x v hx hv => (h.2 i x v hx hv).free himm (idFrees_get hf hx)⟩

/-- What a value of the abstract machine holds, as data. -/
inductive Frz (H : AHeap) : AV → DV → Prop
  | d (x : DV) : Frz H (.d x) x
  | tt : Frz H .tt (.p (.bool true))
  | ff : Frz H .ff (.p (.bool false))
  | ag (cs : List AV) (ds : List DV) (hl : cs.length = ds.length) (h : ∀ (i : Nat) (x : AV) (d : DV), cs[i]? = some x → ds[i]? = some d → Frz H x d) : Frz H (.ag cs) (.ag ds)
  | ifc (t : TypeId) (x : AV) (d : DV) (h : Frz H x d) : Frz H (.ifc t x) (.ifc t d)
  | ms (id off len esz : Nat) (T : TypeId) (n : Nat) (f : Nat → Nat → AV) (d : Nat → Nat → DV) (hH : H[id]? = some (.row T esz n f)) (hn : off + len ≤ n)
      (h : ∀ i j, i < len → j < esz → Frz H (f (off + i) j) (d i j)) : Frz H (.ms id off len esz) (.sl len esz d)
  | mp (id off : Nat) (cs : List AV) (T : TypeId) (n : Nat) (d : Nat → DV) (hH : H[id]? = some (.cells cs T)) (hn : off + n ≤ cs.length)
      (h : ∀ (j : Nat) (x : AV), j < n → cs[off + j]? = some x → Frz H x (d j)) : Frz H (.mp id off) (.rf n d)

inductive FrzA (H : AHeap) : AV → AV → Prop
  | d (x : AV) (d : DV) (h : Frz H x d) : FrzA H x (.d d)
  | tt : FrzA H .tt .tt
  | ff : FrzA H .ff .ff
  | un : FrzA H .un .un
  | any (x : AV) : FrzA H x .any
  | tu (cs ds : List AV) (hl : cs.length = ds.length) (h : ∀ (i : Nat) (x d : AV), cs[i]? = some x → ds[i]? = some d → FrzA H x d) : FrzA H (.tu cs) (.tu ds)
  | ag (cs ds : List AV) (hl : cs.length = ds.length) (h : ∀ (i : Nat) (x d : AV), cs[i]? = some x → ds[i]? = some d → FrzA H x d) : FrzA H (.ag cs) (.ag ds)
  | ifc (t : TypeId) (x y : AV) (h : FrzA H x y) : FrzA H (.ifc t x) (.ifc t y)

open Classical in
/-- The cells that are data once a run is over. -/
noncomputable def immF (g : Gh) (H : AHeap) (w : World) (b o : Nat) : Option Value :=
  if foot g H b then
    (match w.cell? ⟨b, o, none⟩ with
     | some v => if v.oneCell' then some v else none
     | none => none)
  else g.imm b o

section
variable {g : Gh} {H : AHeap} {w : World}

theorem immF_foot {b : Nat} (hf : foot g H b) {arr : Array Value} {T : TypeId} {fr : Nat × Nat} (hob : w.heap[b]? = some (.cells arr T fr)) (hone : oneCells arr) {o : Nat} {v : Value} (hv : arr[o]? = some v) : immF g H w b o = some v := by
  unfold immF
  rw [if_pos hf, cell_of _ _ _ _ _ _ hob, hv]
  simp only []
  rw [if_pos (hone o v hv)]

theorem immF_le (hst : St g H w) : ∀ b o v, g.imm b o = some v → immF g H w b o = some v := by
  intro b o v h
  unfold immF
  split
  · rename_i hf
    obtain ⟨i, ob, hH, hl, e⟩ := hf
    have := hst.disj i ob hH hl o
    rw [e, h] at this
    cases this
  · exact h

theorem frz_ok (hst : St g H w) {x : AV} {d : DV} (hf : Frz H x d) : ∀ {c : Value}, ARep g x c → DRep (immF g H w) d c := by
  induction hf with
  | d x => intro c h; cases h with | d _ _ h => exact h.mono (immF_le hst)
  | tt => intro c h; cases h; exact .p _
  | ff => intro c h; cases h; exact .p _
  | ag cs ds hl h ih =>
    intro c hc
    cases hc with
    | ag _ vs hl2 h2 =>
      refine .ag ds vs (by rw [← hl]; exact hl2) fun i d v hd hv => ?_
      have hi : i < cs.length := by rw [hl]; exact (List.getElem?_eq_some_iff.1 hd).1
      exact ih i cs[i] d (List.getElem?_eq_getElem hi) hd (h2 i cs[i] v (List.getElem?_eq_getElem hi) hv)
  | ifc t x d h ih => intro c hc; cases hc with | ifc _ _ v h2 => exact .ifc t d v (ih h2)
  | ms id off len esz T n f d hH hn h ih =>
    intro c hc
    cases hc with
    | ms _ _ _ _ cap o hid hcap hlc ho =>
      obtain ⟨arr, fr, hob, hsz, hm, hpos, hcell, hfz, hone⟩ := hst.obj id _ hH
      have hfoot : foot g H (g.mu id) := ⟨id, _, hH, rfl, rfl⟩
      have key : ∀ i j, ∃ v, i < len → j < esz → arr[g.bs id + ((off + i) * esz + j)]? = some v ∧ ARep g (f (off + i) j) v := by
        intro i j
        by_cases hi : i < len
        · by_cases hj : j < esz
          · obtain ⟨v, hv, hr⟩ := hcell (off + i) j (by omega) hj
            exact ⟨v, fun _ _ => ⟨hv, hr⟩⟩
          · exact ⟨undef, fun _ h => absurd h hj⟩
        · exact ⟨undef, fun h => absurd h hi⟩
      refine .sl len esz d (g.mu id) o cap (fun i j => Classical.choose (key i j)) hlc ?_ ?_
      · intro i j hi hj
        obtain ⟨h1, h2⟩ := Classical.choose_spec (key i j) hi hj
        refine immF_foot hfoot hob hone ?_
        rw [ho (by omega), ← h1]
        congr 1
        rw [Nat.add_mul]; omega
      · intro i j hi hj
        obtain ⟨h1, h2⟩ := Classical.choose_spec (key i j) hi hj
        exact ih i j hi hj h2
  | mp id off cs T n d hH hn h ih =>
    intro c hc
    cases hc with
    | mp _ _ hid =>
      obtain ⟨arr, fr, hob, hr, hfz, hone⟩ := hst.obj id _ hH
      have hfoot : foot g H (g.mu id) := ⟨id, _, hH, rfl, rfl⟩
      have key : ∀ j, ∃ v, j < n → arr[off + j]? = some v ∧ ∃ x, cs[off + j]? = some x ∧ ARep g x v := by
        intro j
        by_cases hj : j < n
        · have h1 : off + j < cs.length := by omega
          have h2 : off + j < arr.size := by rw [← hr.1]; exact h1
          exact ⟨arr[off + j], fun _ => ⟨Array.getElem?_eq_getElem h2, cs[off + j], List.getElem?_eq_getElem h1, hr.2 _ _ _ (List.getElem?_eq_getElem h1) (Array.getElem?_eq_getElem h2)⟩⟩
        · exact ⟨undef, fun h => absurd h hj⟩
      refine .rf n d (g.mu id) off (fun j => Classical.choose (key j)) ?_ ?_
      · intro j hj
        obtain ⟨h1, _⟩ := Classical.choose_spec (key j) hj
        exact immF_foot hfoot hob hone h1
      · intro j hj
        obtain ⟨h1, x, hx, h2⟩ := Classical.choose_spec (key j) hj
        exact ih j x hj hx h2

theorem frzA_ok (hst : St g H w) {x y : AV} (hf : FrzA H x y) {g2 : Gh} (hg : g2.imm = immF g H w) : ∀ {c : Value}, ARep g x c → ARep g2 y c := by
  induction hf with
  | d x d h => intro c hc; exact .d _ _ (by rw [hg]; exact frz_ok hst h hc)
  | tt => intro c hc; cases hc; exact .tt
  | ff => intro c hc; cases hc; exact .ff
  | un => intro c hc; cases hc; exact .un
  | any x => intro c hc; exact .any _
  | tu cs ds hl h ih =>
    intro c hc
    cases hc with
    | tu _ vs hl2 h2 =>
      refine .tu ds vs (by rw [← hl]; exact hl2) fun i d v hd hv => ?_
      have hi : i < cs.length := by rw [hl]; exact (List.getElem?_eq_some_iff.1 hd).1
      exact ih i cs[i] d (List.getElem?_eq_getElem hi) hd (h2 i cs[i] v (List.getElem?_eq_getElem hi) hv)
  | ag cs ds hl h ih =>
    intro c hc
    cases hc with
    | ag _ vs hl2 h2 =>
      refine .ag ds vs (by rw [← hl]; exact hl2) fun i d v hd hv => ?_
      have hi : i < cs.length := by rw [hl]; exact (List.getElem?_eq_some_iff.1 hd).1
      exact ih i cs[i] d (List.getElem?_eq_getElem hi) hd (h2 i cs[i] v (List.getElem?_eq_getElem hi) hv)
  | ifc t x y h ih => intro c hc; cases hc with | ifc _ _ v h2 => exact .ifc t y v (ih h2)

end

/-- A function that is handed data and answers data: its contract, by a run without memory. -/
theorem pure_lift {P : Program} {f : FuncId} {args : List AV} {v : AV} (hb : hasBody P f = true) (hargs : idFrees args = true)
    (hwp : Wp P (fun a H' => ∃ r, a = .ret r ∧ FrzA H' r v) (.run [enterA P f args .normal] [])) (H : AHeap) : CtrTo P f args H v H := by
  intro g w cargs hst hrep
  left
  refine ⟨hb, ?_⟩
  let g0 : Gh := { g with n := 0 }
  have hst0 : St g0 [] w := ⟨rfl, hst.imm, fun i o h => by simp at h, fun i o h => by simp at h, fun i j oi oj h => by simp at h, fun i o h => by simp at h, hst.glob⟩
  have hrep0 : RepL g0 args cargs := RepL.free (g := g) (g' := g0) (fun _ _ _ h => h) hrep hargs
  have hno : ∀ b, ¬ foot g0 [] b := by rintro b ⟨i, o, h, _⟩; simp at h
  refine Calls.mono (calls_of_wp hb hwp g0 w cargs hst0 hrep0) ?_
  rintro e w' ⟨a, H', g', _, ⟨r, rfl, hfr⟩, hend, hst', hext⟩
  obtain ⟨c, rfl, hr⟩ := hend
  let g2 : Gh := { g with imm := immF g' H' w' }
  have hle : g.le g2 := ⟨fun b o v h => immF_le hst' b o v (hext.imm b o v h), Nat.le_refl _, fun _ _ => rfl, fun _ _ => rfl, fun _ _ => rfl⟩
  have hfresh : ∀ b, foot g' H' b → w.heap.size ≤ b := by
    intro b h
    rcases hext.ft b h with h1 | h1
    · exact absurd h1 (hno b)
    · exact h1
  refine ⟨c, g2, rfl, hle, ?_, frzA_ok hst' hfr rfl hr, ?_⟩
  · refine ⟨hst.n, ?_, ?_, ?_, hst.inj, ?_, hst.glob.mono hle.imm⟩
    · intro b o v h
      show w'.cell? _ = _ ∧ _
      have h : immF g' H' w' b o = some v := h
      unfold immF at h
      split at h
      · split at h
        · rename_i u hu
          split at h
          · rename_i h1; cases h; exact ⟨hu, h1⟩
          · cases h
        · cases h
      · exact hst'.imm b o v h
    · intro i o hH
      have hob := hst.obj i o hH
      have hi : i < g.n := by rw [hst.n]; exact (List.getElem?_eq_some_iff.1 hH).1
      cases hl : o.live with
      | false => cases o <;> first | trivial | cases hl
      | true =>
        have := hext.block (g.mu i) (hst.size i o hH hl) (hno _)
        show ObjRep g2 i o w'.heap[g.mu i]?
        rw [this]
        exact hob.mono hle hi
    · intro i o hH hl
      exact Nat.lt_of_lt_of_le (hst.size i o hH hl) hext.size
    · intro i o hH hl off
      have hsz := hst.size i o hH hl
      show immF g' H' w' (g.mu i) off = none
      unfold immF
      split
      · rename_i hf; have := hfresh _ hf; omega
      · cases h : g'.imm (g.mu i) off with
        | none => rfl
        | some v =>
          exfalso
          rcases hext.fresh _ _ v h (hst.disj i o hH hl off) with h1 | h1
          · exact hno _ h1
          · omega
  · refine ⟨hext.os, hext.tape, hext.output, hext.size, fun b hb _ => hext.block b hb (hno b), hle.imm, ?_, fun b h => .inl h⟩
    intro b o v h h0
    right
    have h : immF g' H' w' b o = some v := h
    unfold immF at h
    split at h
    · rename_i hf; exact hfresh b hf
    · rcases hext.fresh b o v h h0 with h1 | h1
      · exact absurd h1 (hno b)
      · exact h1

end Go.Eng

/- The engine, part 22: contracts by reckoning. -/
set_option linter.unusedVariables false
set_option linter.unusedSimpArgs false
set_option linter.unnecessarySimpa false
namespace Go.Eng
open Go

def optL {α β : Type} (f : α → Option β) : List α → Option (List β)
  | [] => some []
  | x :: xs => match f x with
    | some y => match optL f xs with
      | some ys => some (y :: ys)
      | none => none
    | none => none

theorem optL_ok {α β : Type} {f : α → Option β} : ∀ {xs : List α} {ys : List β}, optL f xs = some ys → xs.length = ys.length ∧ ∀ (i : Nat) (x : α) (y : β), xs[i]? = some x → ys[i]? = some y → f x = some y
  | [], ys, h => by
    simp only [optL, Option.some.injEq] at h
    subst h
    exact ⟨rfl, fun i x y h => by simp at h⟩
  | x :: xs, ys, h => by
    rw [optL] at h
    split at h
    · rename_i y hy
      split at h
      · rename_i zs hzs
        cases h
        obtain ⟨h1, h2⟩ := optL_ok hzs
        refine ⟨by simp [h1], fun i x' y' hx hy' => ?_⟩
        cases i with
        | zero => simp at hx hy'; subst hx; subst hy'; exact hy
        | succ i => exact h2 i x' y' (by simpa using hx) (by simpa using hy')
      · cases h
    · cases h

def tab2 (t : List (List DV)) (i j : Nat) : DV := (t.getD i []).getD j (.p undef)
def tab1 (t : List DV) (i : Nat) : DV := t.getD i (.p undef)

/-- What a value holds, as data. -/
def frzD (H : AHeap) : Nat → AV → Option DV
  | 0, _ => none
  | k + 1, x => match x with
    | .d x => some x
    | .tt => some (.p (.bool true))
    | .ff => some (.p (.bool false))
    | .ag cs => (optL (frzD H k) cs).map .ag
    | .ifc t x => (frzD H k x).map (.ifc t)
    | .ms id off len esz => match H[id]? with
      | some (.row _ esz' n f) =>
        if esz = esz' ∧ off + len ≤ n then (optL (fun i => optL (fun j => frzD H k (f (off + i) j)) (List.range esz)) (List.range len)).map fun t => .sl len esz (tab2 t) else none
      | _ => none
    | .mp id off => match H[id]? with
      | some (.cells cs _) => if off ≤ cs.length then (optL (frzD H k) (cs.drop off)).map fun t => .rf (cs.length - off) (tab1 t) else none
      | _ => none
    | _ => none

theorem frzD_ok {H : AHeap} : ∀ (k : Nat) {x : AV} {d : DV}, frzD H k x = some d → Frz H x d
  | 0, x, d, h => by simp [frzD] at h
  | k + 1, x, d, h => by
    cases x with
    | d x => simp only [frzD, Option.some.injEq] at h; subst h; exact .d _
    | tt => simp only [frzD, Option.some.injEq] at h; subst h; exact .tt
    | ff => simp only [frzD, Option.some.injEq] at h; subst h; exact .ff
    | ag cs =>
      simp only [frzD] at h
      obtain ⟨ds, h1, rfl⟩ := Option.map_eq_some_iff.1 h
      obtain ⟨h2, h3⟩ := optL_ok h1
      exact .ag cs ds h2 fun i x d hx hd => frzD_ok k (h3 i x d hx hd)
    | ifc t x =>
      simp only [frzD] at h
      obtain ⟨d', h1, rfl⟩ := Option.map_eq_some_iff.1 h
      exact .ifc t x d' (frzD_ok k h1)
    | ms id off len esz =>
      simp only [frzD] at h
      split at h
      · rename_i T esz' n f hH
        split at h
        · rename_i hc
          obtain ⟨rfl, hc⟩ := hc
          obtain ⟨t, h1, rfl⟩ := Option.map_eq_some_iff.1 h
          obtain ⟨h2, h3⟩ := optL_ok h1
          refine .ms id off len esz T n f _ hH hc fun i j hi hj => ?_
          have hi2 : i < t.length := by rw [← h2]; simpa using hi
          have h4 := h3 i i t[i] (by simp [hi]) (List.getElem?_eq_getElem hi2)
          obtain ⟨h5, h6⟩ := optL_ok h4
          have hj2 : j < t[i].length := by rw [← h5]; simpa using hj
          have h7 := h6 j j t[i][j] (by simp [hj]) (List.getElem?_eq_getElem hj2)
          have e : tab2 t i j = t[i][j] := by
            unfold tab2
            rw [List.getD_eq_getElem?_getD, List.getD_eq_getElem?_getD, List.getElem?_eq_getElem hi2]
            simp [List.getElem?_eq_getElem hj2]
          rw [e]
          exact frzD_ok k h7
        · cases h
      · cases h
    | mp id off =>
      simp only [frzD] at h
      split at h
      · rename_i cs T hH
        split at h
        · rename_i hc
          obtain ⟨t, h1, rfl⟩ := Option.map_eq_some_iff.1 h
          obtain ⟨h2, h3⟩ := optL_ok h1
          refine .mp id off cs T _ _ hH (by omega) fun j x hj hx => ?_
          have hj2 : j < t.length := by rw [← h2, List.length_drop]; exact hj
          have h4 := h3 j x t[j] (by rw [List.getElem?_drop]; exact hx) (List.getElem?_eq_getElem hj2)
          have e : tab1 t j = t[j] := by
            unfold tab1
            rw [List.getD_eq_getElem?_getD, List.getElem?_eq_getElem hj2]; rfl
          rw [e]
          exact frzD_ok k h4
        · cases h
      · cases h
    | mr _ _ _ _ => simp [frzD] at h
    | mm _ => simp [frzD] at h
    | fn _ _ _ => simp [frzD] at h
    | yl _ => simp [frzD] at h
    | tu _ => simp [frzD] at h
    | un => simp [frzD] at h
    | any => simp [frzD] at h

/-- An answer: what can be data is; tests stay tests. -/
def frzA (H : AHeap) : Nat → AV → Option AV
  | 0, _ => none
  | k + 1, x => match x with
    | .tt => some .tt
    | .ff => some .ff
    | .un => some .un
    | .any => some .any
    | .tu cs => (optL (frzA H k) cs).map .tu
    | .ag cs => (optL (frzA H k) cs).map .ag
    | .ifc t x => (frzA H k x).map (.ifc t)
    | x => (frzD H k x).map .d

theorem frzA_sound {H : AHeap} : ∀ (k : Nat) {x y : AV}, frzA H k x = some y → FrzA H x y
  | 0, x, d, h => by simp [frzA] at h
  | k + 1, x, d, h => by
    have hd : (frzD H k x).map .d = some d → FrzA H x d := by
      intro h
      obtain ⟨d', h1, rfl⟩ := Option.map_eq_some_iff.1 h
      exact .d _ _ (frzD_ok k h1)
    cases x with
    | tt => simp only [frzA, Option.some.injEq] at h; subst h; exact .tt
    | ff => simp only [frzA, Option.some.injEq] at h; subst h; exact .ff
    | un => simp only [frzA, Option.some.injEq] at h; subst h; exact .un
    | any => simp only [frzA, Option.some.injEq] at h; subst h; exact .any _
    | tu cs =>
      simp only [frzA] at h
      obtain ⟨ds, h1, rfl⟩ := Option.map_eq_some_iff.1 h
      obtain ⟨h2, h3⟩ := optL_ok h1
      exact .tu cs ds h2 fun i x d hx hd => frzA_sound k (h3 i x d hx hd)
    | ag cs =>
      simp only [frzA] at h
      obtain ⟨ds, h1, rfl⟩ := Option.map_eq_some_iff.1 h
      obtain ⟨h2, h3⟩ := optL_ok h1
      exact .ag cs ds h2 fun i x d hx hd => frzA_sound k (h3 i x d hx hd)
    | ifc t x =>
      simp only [frzA] at h
      obtain ⟨d', h1, rfl⟩ := Option.map_eq_some_iff.1 h
      exact .ifc t x d' (frzA_sound k h1)
    | _ => exact hd (by simpa only [frzA] using h)

/-- An answer reckoned. -/
def reckon (P : Program) (Γ : Oracle) (fuel k : Nat) (f : FuncId) (args : List AV) : Option AV :=
  match goC P Γ fuel (.run [enterA P f args .normal] []) with
  | .next (.ret r H') => frzA H' k r
  | _ => none

theorem reckon_ok {P : Program} {Γ : Oracle} (hΓ : OracleOK P Γ) {fuel k : Nat} {f : FuncId} {args : List AV} {v : AV} (hb : hasBody P f = true) (ha : idFrees args = true) (h : reckon P Γ fuel k f args = some v) (H : AHeap) :
    CtrTo P f args H v H := by
  refine pure_lift hb ha (wp_goC hΓ fuel _ ?_) H
  unfold reckon at h
  split at h
  · rename_i r H' e
    rw [e]
    exact ⟨r, rfl, frzA_sound k h⟩
  · cases h

/-- Some functions' answers, reckoned when they are called. -/
def runO (P : Program) (Γ : Oracle) (fuel k : Nat) (fs : List FuncId) : Oracle := fun f args _ =>
  if fs.contains f && hasBody P f && idFrees args then (reckon P Γ fuel k f args).map .pure else none

theorem runO_ok {P : Program} {Γ : Oracle} (hΓ : OracleOK P Γ) (fuel k : Nat) (fs : List FuncId) : OracleOK P (runO P Γ fuel k fs) := by
  intro f args H r h
  unfold runO at h
  split at h
  · rename_i hc
    simp only [Bool.and_eq_true] at hc
    obtain ⟨v, h1, rfl⟩ := Option.map_eq_some_iff.1 h
    intro X
    exact reckon_ok hΓ hc.1.2 hc.2 h1 _
  · cases h

def orO (Γ1 Γ2 : Oracle) : Oracle := fun f args H => match Γ1 f args H with
  | some r => some r
  | none => Γ2 f args H

theorem orO_ok {P : Program} {Γ1 Γ2 : Oracle} (h1 : OracleOK P Γ1) (h2 : OracleOK P Γ2) : OracleOK P (orO Γ1 Γ2) := by
  intro f args H r h
  unfold orO at h
  split at h
  · rename_i r' e; cases h; exact h1 f args H _ e
  · exact h2 f args H r h

/-- One answer that is known. -/
def oneO (f0 : FuncId) (v : AV) : Oracle := fun f args _ => if f = f0 ∧ args.isEmpty = true then some (.pure v) else none
theorem oneO_ok {P : Program} {f0 : FuncId} {v : AV} (h : ∀ H, CtrTo P f0 [] H v H) : OracleOK P (oneO f0 v) := by
  intro f args H r hr
  unfold oneO at hr
  split at hr
  · rename_i hc
    obtain ⟨rfl, hc⟩ := hc
    cases hr
    have : args = [] := by simpa using hc
    subst this
    exact fun X => h _
  · cases hr

end Go.Eng

/- The engine, part 23: contracts of functions that make memory and are handed data. -/
set_option linter.unusedVariables false
set_option linter.unusedSimpArgs false
set_option linter.unnecessarySimpa false
namespace Go.Eng
open Go

theorem allDead {L : AHeap} (h : L.all (fun o => !o.live) = true) {i : Nat} {o : AObj} (ho : L[i]? = some o) : o.live = false := by
  rw [List.all_eq_true] at h
  have := h o (List.mem_of_getElem? ho)
  simpa using this

theorem new_lift {P : Program} {f : FuncId} {args : List AV} {v : AV} {n : Nat} {H1 : AHeap} (hb : hasBody P f = true) (hargs : idFrees args = true)
    (hwp : Wp P (fun a H' => a = .ret v ∧ H' = H1) (.run [enterA P f args .normal] (List.replicate n .dead))) (hd : (H1.take n).all (fun o => !o.live) = true) (hn : n ≤ H1.length) (H : AHeap) (hH : H.length = n) :
    CtrTo P f args H v (H ++ H1.drop n) := by
  intro g w cargs hst hrep
  left
  refine ⟨hb, ?_⟩
  have hdead : ∀ {i : Nat} {o : AObj}, (List.replicate n AObj.dead)[i]? = some o → o = .dead := by
    intro i o h
    exact List.eq_of_mem_replicate (List.mem_of_getElem? h)
  have hst0 : St g (List.replicate n .dead) w := by
    refine ⟨by rw [hst.n, hH]; simp, hst.imm, ?_, ?_, ?_, ?_, hst.glob⟩
    · intro i o h; rw [hdead h]; trivial
    · intro i o h hl; rw [hdead h] at hl; cases hl
    · intro i j oi oj h _ hl; rw [hdead h] at hl; cases hl
    · intro i o h hl; rw [hdead h] at hl; cases hl
  have hno : ∀ b, ¬ foot g (List.replicate n .dead) b := by
    rintro b ⟨i, o, h, hl, _⟩
    rw [hdead h] at hl; cases hl
  refine Calls.mono (calls_of_wp hb hwp g w cargs hst0 hrep) ?_
  rintro e w' ⟨a, H', g', hle, ⟨rfl, rfl⟩, hend, hst', hext⟩
  obtain ⟨c, rfl, hr⟩ := hend
  have hsplit : H' = H'.take n ++ H'.drop n := (List.take_append_drop n H').symm
  have htl : (H'.take n).length = n := by rw [List.length_take]; omega
  have hfresh : ∀ b, foot g' H' b → w.heap.size ≤ b := by
    intro b h
    rcases hext.ft b h with h1 | h1
    · exact absurd h1 (hno b)
    · exact h1
  -- the blocks of the new memory
  have hcase : ∀ {i : Nat} {o : AObj}, (H ++ H'.drop n)[i]? = some o → (i < n ∧ H[i]? = some o) ∨ (n ≤ i ∧ H'[i]? = some o) := by
    intro i o h
    rcases Nat.lt_or_ge i n with h1 | h1
    · left; rw [List.getElem?_append_left (by omega)] at h; exact ⟨h1, h⟩
    · right
      rw [List.getElem?_append_right (by omega), List.getElem?_drop, hH, show n + (i - n) = i by omega] at h
      exact ⟨h1, h⟩
  have hnew : ∀ {i : Nat} {o : AObj}, H'[i]? = some o → o.live = true → n ≤ i := by
    intro i o h hl
    rcases Nat.lt_or_ge i n with h1 | h1
    · have : (H'.take n)[i]? = some o := by rw [List.getElem?_take, if_pos h1]; exact h
      rw [allDead hd this] at hl; cases hl
    · exact h1
  have hmu : ∀ i, i < n → g'.mu i = g.mu i := fun i hi => hle.mu i (by rw [hst.n, hH]; exact hi)
  have hfootN : ∀ b, foot g' (H ++ H'.drop n) b → foot g H b ∨ w.heap.size ≤ b := by
    rintro b ⟨i, o, h, hl, e⟩
    rcases hcase h with ⟨h1, h2⟩ | ⟨h1, h2⟩
    · left; exact ⟨i, o, h2, hl, by rw [← hmu i h1]; exact e⟩
    · right; exact hfresh b ⟨i, o, h2, hl, e⟩
  refine ⟨c, g', rfl, hle, ?_, hr, ?_⟩
  · refine ⟨?_, hst'.imm, ?_, ?_, ?_, ?_, hst'.glob⟩
    · rw [hst'.n, List.length_append, List.length_drop, hH]; omega
    · intro i o h
      rcases hcase h with ⟨h1, h2⟩ | ⟨h1, h2⟩
      · cases hl : o.live with
        | false => cases o <;> first | trivial | cases hl
        | true =>
          rw [hmu i h1, hext.block (g.mu i) (hst.size i o h2 hl) (hno _)]
          exact (hst.obj i o h2).mono hle (by rw [hst.n, hH]; exact h1)
      · exact hst'.obj i o h2
    · intro i o h hl
      rcases hcase h with ⟨h1, h2⟩ | ⟨h1, h2⟩
      · rw [hmu i h1]; exact Nat.lt_of_lt_of_le (hst.size i o h2 hl) hext.size
      · exact hst'.size i o h2 hl
    · intro i j oi oj hi hj hli hlj e
      rcases hcase hi with ⟨h1, h2⟩ | ⟨h1, h2⟩ <;> rcases hcase hj with ⟨h3, h4⟩ | ⟨h3, h4⟩
      · rw [hmu i h1, hmu j h3] at e; exact hst.inj i j oi oj h2 h4 hli hlj e
      · exfalso
        have h5 := hfresh (g'.mu j) ⟨j, oj, h4, hlj, rfl⟩
        have h6 := hst.size i oi h2 hli
        rw [hmu i h1] at e; omega
      · exfalso
        have h5 := hfresh (g'.mu i) ⟨i, oi, h2, hli, rfl⟩
        have h6 := hst.size j oj h4 hlj
        rw [hmu j h3] at e; omega
      · exact hst'.inj i j oi oj h2 h4 hli hlj e
    · intro i o h hl off
      rcases hcase h with ⟨h1, h2⟩ | ⟨h1, h2⟩
      · have hsz := hst.size i o h2 hl
        rw [hmu i h1]
        cases h5 : g'.imm (g.mu i) off with
        | none => rfl
        | some v =>
          exfalso
          rcases hext.fresh _ _ v h5 (hst.disj i o h2 hl off) with h6 | h6
          · exact hno _ h6
          · omega
      · exact hst'.disj i o h2 hl off
  · refine ⟨hext.os, hext.tape, hext.output, hext.size, fun b hb _ => hext.block b hb (hno b), hext.imm, ?_, hfootN⟩
    intro b o v h h0
    rcases hext.fresh b o v h h0 with h1 | h1
    · exact absurd h1 (hno b)
    · exact .inr h1

/-- Some functions that make memory: what they make, reckoned when they are called. -/
def newO (P : Program) (Γ : Oracle) (fuel : Nat) (fs : List FuncId) : Oracle := fun f args H =>
  if fs.contains f && hasBody P f && idFrees args then
    match goC P Γ fuel (.run [enterA P f args .normal] (List.replicate H.length .dead)) with
    | .next (.ret v H') => if (H'.take H.length).all (fun o => !o.live) && decide (H.length ≤ H'.length) then some (.new v (H'.drop H.length)) else none
    | _ => none
  else none

theorem newO_ok {P : Program} {Γ : Oracle} (hΓ : OracleOK P Γ) (fuel : Nat) (fs : List FuncId) : OracleOK P (newO P Γ fuel fs) := by
  intro f args H r h
  unfold newO at h
  split at h
  rotate_left
  · cases h
  rename_i hc
  simp only [Bool.and_eq_true] at hc
  split at h
  rotate_left
  · cases h
  rename_i v H' e
  split at h
  rotate_left
  · cases h
  rename_i hd
  simp only [Bool.and_eq_true, decide_eq_true_eq] at hd
  cases h
  refine new_lift hc.1.2 hc.2 (wp_goC hΓ fuel _ ?_) hd.1 hd.2 H rfl
  rw [e]
  exact ⟨rfl, rfl⟩

/-- Some functions' answers, reckoned in the memory that they find. -/
def retO (P : Program) (Γ : Oracle) (fuel : Nat) (fs : List FuncId) : Oracle := fun f args H =>
  if fs.contains f && hasBody P f then
    match goC P Γ fuel (.run [enterA P f args .normal] H) with
    | .next (.ret v H') => some (.ret v H')
    | _ => none
  else none

theorem retO_ok {P : Program} {Γ : Oracle} (hΓ : OracleOK P Γ) (fuel : Nat) (fs : List FuncId) : OracleOK P (retO P Γ fuel fs) := by
  intro f args H r h
  unfold retO at h
  split at h
  rotate_left
  · cases h
  rename_i hc
  simp only [Bool.and_eq_true] at hc
  split at h
  rotate_left
  · cases h
  rename_i v H1 e
  cases h
  intro g w cargs hst hrep
  have hwp : Wp P (fun a H' => a = .ret v ∧ H' = H1) (.run [enterA P f args .normal] H) := wp_goC hΓ fuel _ (by rw [e]; exact ⟨rfl, rfl⟩)
  refine .inl ⟨hc.2, Calls.mono (calls_of_wp hc.2 hwp g w cargs hst hrep) ?_⟩
  rintro e' w' ⟨a, H', g', hle, ⟨rfl, rfl⟩, ⟨c, rfl, hr⟩, hst', hext⟩
  exact ⟨c, g', rfl, hle, hst', hr, hext⟩

/-- A function that calls itself: so many times, one in another. -/
def deepO (P : Program) (Γ : Oracle) (fuel : Nat) (fs : List FuncId) : Nat → Oracle
  | 0 => Γ
  | k + 1 => orO (newO P (deepO P Γ fuel fs k) fuel fs) Γ

theorem deepO_ok {P : Program} {Γ : Oracle} (hΓ : OracleOK P Γ) (fuel : Nat) (fs : List FuncId) : ∀ k, OracleOK P (deepO P Γ fuel fs k)
  | 0 => hΓ
  | k + 1 => orO_ok (newO_ok (deepO_ok hΓ fuel fs k) fuel fs) hΓ

end Go.Eng

/- The engine, part 24: functions without a body in Go: atomic operations on variables of the run's own; an address as it is; bytes without a value. Functions by a contract of the library's. -/
set_option linter.unusedVariables false
set_option linter.unusedSimpArgs false
set_option linter.unnecessarySimpa false
namespace Go.Eng
open Go

def cellA (H : AHeap) (i o : Nat) : Option (List AV × TypeId × AV) :=
  match H[i]? with
  | some (.cells cs T) => match cs[o]? with
    | some x => some (cs, T, x)
    | none => none
  | _ => none

def externAns (P : Program) (fn : Func) (args : List AV) (H : AHeap) : Option (AV × AHeap) :=
  match args with
  | [.mp i o] =>
    if fn.name = "sync/atomic.LoadUint32" then
      match cellA H i o with
      | some (_, _, .d (.p (.int .u32 n))) => some (.d (.p (.int .u32 n)), H)
      | _ => none
    else if fn.name = "internal/abi.NoEscape" then some (.mp i o, H)
    else if fn.name = "internal/race.Acquire" then some (.un, H)
    else if fn.name = "internal/race.ReleaseMerge" then some (.un, H)
    else none
  | [.mp i o, .d (.p (.int .u32 n))] =>
    if fn.name = "sync/atomic.StoreUint32" then
      match cellA H i o with
      | some (cs, T, _) => some (.un, H.set i (.cells (cs.set o (.d (.p (.int .u32 n)))) T))
      | _ => none
    else none
  | [.mp i o, .d (.p (.int .i32 n))] =>
    if fn.name = "sync/atomic.AddInt32" then
      match cellA H i o with
      | some (cs, T, .d (.p (.int .i32 m))) => some (.d (.p (.int .i32 (IntKind.i32.wrap (m + n)))), H.set i (.cells (cs.set o (.d (.p (.int .i32 (IntKind.i32.wrap (m + n)))))) T))
      | _ => none
    else none
  | [.mp i o, .d (.p (.int .i32 a)), .d (.p (.int .i32 b))] =>
    if fn.name = "sync/atomic.CompareAndSwapInt32" then
      match cellA H i o with
      | some (cs, T, .d (.p (.int .i32 m))) => if m = a then some (.tt, H.set i (.cells (cs.set o (.d (.p (.int .i32 b)))) T)) else some (.ff, H)
      | _ => none
    else none
  | [.d (.p (.int .i64 n))] =>
    if fn.name = "internal/bytealg.MakeNoZero" then
      match fn.resultTypes[0]? with
      | some t => match P.underlying t with
        | some (.slice e) => if 0 ≤ n ∧ n ≤ 2 ^ 40 then some (.ms H.length 0 n.toNat 1, H ++ [.row e 1 n.toNat fun _ _ => .any]) else none
        | _ => none
      | none => none
    else none
  | _ => none

def atomO (P : Program) : Oracle := fun f args H =>
  match P.funcs[f]? with
  | none => none
  | some fn => if fn.body.isNone ∧ fn.origin = "" then (match externAns P fn args H with
    | some (v, H') => match args with
      | [.d _] => some (.new v (H'.drop H.length))
      | _ => some (.ret v H')
    | none => none) else none

theorem next_empty : Extern.allNextRows.lookup "" = none := by kernel_rfl

theorem ext_name {fn : Func} (ho : fn.origin = "") {n : String} (h : fn.name = n) (h1 : Extern.allNextRows.lookup n = none) (h2 : Extern.allGenericRows.lookup n = none) (h3 : Extern.allTypedRows.lookup n = none)
    {e : Array Value → Sem Value} (h4 : Extern.allRows.lookup n = some e) : Extern.findNext fn = none ∧ Extern.find fn = some e := by
  refine ⟨?_, ?_⟩
  · simp [Extern.findNext, h, ho, h1, next_empty]
  · simp [Extern.find, h, h2, h3, h4]

theorem ext_typed {fn : Func} (ho : fn.origin = "") {n : String} (h : fn.name = n) (h1 : Extern.allNextRows.lookup n = none) (h2 : Extern.allGenericRows.lookup n = none)
    {e : Extern.Typed} (h3 : Extern.allTypedRows.lookup n = some e) : Extern.findNext fn = none ∧ Extern.find fn = some (e fn.params fn.resultTypes) := by
  refine ⟨?_, ?_⟩
  · simp [Extern.findNext, h, ho, h1, next_empty]
  · simp [Extern.find, h, h2, h3]

section
variable {P : Program} {g : Gh} {H : AHeap} {w : World}

theorem run_extern {f : FuncId} {fn : Func} (hf : P.funcs[f]? = some fn) (hb : fn.body.isNone = true) (hn : (fn.name == "runtime.NumGoroutine") = false) {e : Array Value → Sem Value}
    (h1 : Extern.findNext fn = none) (h2 : Extern.find fn = some e) (args : Array Value) {c : Value} {w' : World} (h : (e args).run P w = .ok c w') : (callFunc f args).run P w = .ok (.value c) w' := by
  simp only [callFunc, Sem.run_bind, run_program, Result.andThen_ok, hf, hn, hb, Bool.false_eq_true, if_false, if_true, h1, h2]
  simp only [mark, Sem.run, Result.andThen_ok, Sem.run_bind, h, Sem.run_pure]

theorem atom_cell (hst : St g H w) {i o : Nat} {cs : List AV} {T : TypeId} {x : AV} (h : cellA H i o = some (cs, T, x)) :
    ∃ arr fr c, H[i]? = some (.cells cs T) ∧ w.heap[g.mu i]? = some (.cells arr T fr) ∧ RepL g cs arr ∧ notFrozen arr fr ∧ oneCells arr ∧ arr[o]? = some c ∧ ARep g x c ∧ w.cell? ⟨g.mu i, o, none⟩ = some c ∧ o < arr.size := by
  unfold cellA at h
  split at h
  · rename_i cs' T' hH
    split at h
    · rename_i y hy
      cases h
      obtain ⟨arr, fr, hob, hr, hf, ho⟩ := hst.obj i _ hH
      obtain ⟨c, hc, hrc⟩ := hr.get hy
      exact ⟨arr, fr, c, hH, hob, hr, hf, ho, hc, hrc, by rw [cell_of _ _ _ _ _ _ hob]; exact hc, (Array.getElem?_eq_some_iff.1 hc).1⟩
    · cases h
  · cases h

theorem run_aread {a : Addr} {k : IntKind} {n : Int} (h : w.cell? a = some (.int k n)) : (Extern.Atomic.read (.int k) a).run P w = .ok (.int k n) w := by
  unfold Extern.Atomic.read
  rw [Sem.run_bind, show (load a .atomic).run P w = .ok (.int k n) w by simp [load, Sem.run, h], Result.andThen_ok]
  simp [Sem.run_pure]

theorem run_astore {b o : Nat} {arr : Array Value} {T : TypeId} {fr : Nat × Nat} (hob : w.heap[b]? = some (.cells arr T fr)) (hf : notFrozen arr fr) (ho : o < arr.size) {v : Value} (h1 : v.oneCell' = true) :
    (store ⟨b, o, none⟩ v .atomic).run P w = .ok () (putB w b (.cells (arr.setIfInBounds o v) T fr)) := by
  have hc : w.cell? ⟨b, o, none⟩ = some arr[o] := by rw [cell_of _ _ _ _ _ _ hob]; simp [ho]
  have hfz : w.frozen? ⟨b, o, none⟩ = false := by
    rw [frozen_of _ _ _ _ _ _ hob, Bool.and_eq_false_iff]
    have := hf o ho
    by_cases hx : fr.1 ≤ o
    · right; simp; omega
    · left; simpa using hx
  have hs : w.setCell ⟨b, o, none⟩ v = putB w b (.cells (arr.setIfInBounds o v) T fr) := setCell_of _ _ _ _ _ _ _ hob
  cases v with
  | agg cs => cases h1
  | tuple cs => cases h1
  | _ => simp [store, Sem.run, hc, hfz, hs]

/-- A cell turned. -/
theorem put_cell (hst : St g H w) {i o : Nat} {cs : List AV} {T : TypeId} {arr : Array Value} {fr : Nat × Nat} (hH : H[i]? = some (.cells cs T)) (hob : w.heap[g.mu i]? = some (.cells arr T fr)) (hr : RepL g cs arr)
    (hf : notFrozen arr fr) (h1 : oneCells arr) {y : AV} {v : Value} (hy : ARep g y v) (hv : v.oneCell' = true) :
    St g (H.set i (.cells (cs.set o y) T)) (putB w (g.mu i) (.cells (arr.setIfInBounds o v) T fr)) ∧
      Ext g.imm (foot g H) w g.imm (foot g (H.set i (.cells (cs.set o y) T))) (putB w (g.mu i) (.cells (arr.setIfInBounds o v) T fr)) := by
  refine ⟨hst.put hH rfl _ rfl _ ⟨_, fr, rfl, ?_, fun k hk => hf k (by simpa using hk), ?_⟩, Ext.put hst hH rfl _ _⟩
  · refine ⟨by simp [hr.1], ?_⟩
    intro j z u hz hu
    rw [List.getElem?_set] at hz
    rw [Array.getElem?_setIfInBounds] at hu
    by_cases e : o = j
    · subst e
      simp only [if_true] at hz hu
      split at hz
      · split at hu
        · cases hz; cases hu; exact hy
        · cases hu
      · cases hz
    · simp only [if_neg e] at hz hu
      exact hr.2 j z u hz hu
  · intro k u hu
    rw [Array.getElem?_setIfInBounds] at hu
    split at hu
    · split at hu
      · cases hu; exact hv
      · cases hu
    · exact h1 k u hu

theorem RepL.one_inv {x : AV} {cs : Array Value} (h : RepL g [x] cs) : ∃ c, cs = #[c] ∧ ARep g x c := by
  obtain ⟨hl, hh⟩ := h
  obtain ⟨c, rfl⟩ : ∃ c, cs = #[c] := by
    rcases cs with ⟨l⟩
    match l, hl with
    | [c], _ => exact ⟨c, rfl⟩
  exact ⟨c, rfl, hh 0 x c rfl rfl⟩
theorem RepL.two_inv {x y : AV} {cs : Array Value} (h : RepL g [x, y] cs) : ∃ c d, cs = #[c, d] ∧ ARep g x c ∧ ARep g y d := by
  obtain ⟨hl, hh⟩ := h
  obtain ⟨c, d, rfl⟩ : ∃ c d, cs = #[c, d] := by
    rcases cs with ⟨l⟩
    match l, hl with
    | [c, d], _ => exact ⟨c, d, rfl⟩
  exact ⟨c, d, rfl, hh 0 x c rfl rfl, hh 1 y d rfl rfl⟩
theorem RepL.three_inv {x y z : AV} {cs : Array Value} (h : RepL g [x, y, z] cs) : ∃ c d e, cs = #[c, d, e] ∧ ARep g x c ∧ ARep g y d ∧ ARep g z e := by
  obtain ⟨hl, hh⟩ := h
  obtain ⟨c, d, e, rfl⟩ : ∃ c d e, cs = #[c, d, e] := by
    rcases cs with ⟨l⟩
    match l, hl with
    | [c, d, e], _ => exact ⟨c, d, e, rfl⟩
  exact ⟨c, d, e, rfl, hh 0 x c rfl rfl, hh 1 y d rfl rfl, hh 2 z e rfl rfl⟩

theorem digits_size : ∀ (n t : Nat) (acc : Array Value), (Extern.BytealgMakeNoZero.digits n t acc).size = acc.size + n
  | 0, _, acc => rfl
  | n + 1, t, acc => by rw [Extern.BytealgMakeNoZero.digits, digits_size n]; simp; omega
theorem digits_one : ∀ (n t : Nat) (acc : Array Value), oneCells acc → oneCells (Extern.BytealgMakeNoZero.digits n t acc)
  | 0, _, acc, h => h
  | n + 1, t, acc, h => by
    rw [Extern.BytealgMakeNoZero.digits]
    refine digits_one n _ _ ?_
    intro k v hv
    rw [Array.getElem?_push] at hv
    split at hv
    · cases hv; rfl
    · exact h k v hv

theorem makeNoZero_ok (hst : St g H w) {ps rs : Array TypeId} {t e : TypeId} (ht : rs[0]? = some t) (hu : P.underlying t = some (.slice e)) {n : Int} (h0 : 0 ≤ n) (h1 : n ≤ 2 ^ 40) :
    ∃ c w', (Extern.BytealgMakeNoZero.makeNoZero ps rs #[.int .i64 n]).run P w = .ok c w' ∧ RetOK g H w (.ms H.length 0 n.toNat 1) (H ++ [.row e 1 n.toNat fun _ _ => .any]) (.returned c) w' := by
  generalize hcap : (Question.appendCap n.toNat 0 e).cut (w.tape w.drawn (Question.appendCap n.toNat 0 e)) = cap
  have hcs : n.toNat ≤ cap := by rw [← hcap]; simp [Question.cut]
  generalize hby : (Question.extern "internal/bytealg.MakeNoZero.bytes" 0).cut ((drewW w).tape (drewW w).drawn (Question.extern "internal/bytealg.MakeNoZero.bytes" 0)) = by'
  let arr := Extern.BytealgMakeNoZero.digits cap by' #[]
  have hasz : arr.size = cap := by rw [digits_size]; simp
  have hone : oneCells arr := digits_one _ _ _ (fun k v hv => by simp at hv)
  have hst2 := hst.drew.drew
  refine ⟨.slice (some ⟨w.heap.size, 0, none⟩) n.toNat cap, pushW (drewW (drewW w)) (.cells arr e), ?_, ?_⟩
  · show ((do
      let some t := rs[0]? | stuck "bytealg.MakeNoZero: no result type"
      let .slice elem ← underlying t | stuck "bytealg.MakeNoZero: slice type expected"
      if n < 0 || n > 2 ^ 48 then runtimePanic (.error "makeslice: len out of range")
      let cap ← choose (.appendCap n.toNat 0 elem)
      askRoom cap
      let bytes ← choose (.extern "internal/bytealg.MakeNoZero.bytes" 0)
      let a ← newRow elem (Extern.BytealgMakeNoZero.digits cap bytes #[])
      pure (.slice (some a) n.toNat cap) : Sem Value)).run P w = _
    rw [ht]
    simp only [Sem.run_bind, run_underlying hu, Result.andThen_ok]
    rw [if_neg (by simp; omega)]
    simp only [Sem.run_bind, Sem.run_pure, Result.andThen_ok]
    rw [show (choose (.appendCap n.toNat 0 e)).run P w = .ok cap (drewW w) by
      have hnf : (Question.appendCap n.toNat 0 e).forced = false := rfl
      simp [choose, Sem.run, hnf, hcap, drewW]]
    rw [Result.andThen_ok]
    rw [show (askRoom cap).run P (drewW w) = .ok () (drewW w) by
      unfold askRoom; split <;> simp [mark, Sem.run, Sem.run_pure]]
    rw [Result.andThen_ok]
    rw [show (choose (.extern "internal/bytealg.MakeNoZero.bytes" 0)).run P (drewW w) = .ok by' (drewW (drewW w)) by
      have hnf : (Question.extern "internal/bytealg.MakeNoZero.bytes" 0).forced = false := rfl
      rw [show (choose (.extern "internal/bytealg.MakeNoZero.bytes" 0)).run P (drewW w) = .ok ((Question.extern "internal/bytealg.MakeNoZero.bytes" 0).cut ((drewW w).tape (drewW w).drawn (Question.extern "internal/bytealg.MakeNoZero.bytes" 0))) (drewW (drewW w)) from by simp only [choose, Sem.run, hnf]; rfl]
      rw [hby]]
    rw [Result.andThen_ok]
    simp [newRow, pushW, drewW, arr]
  · refine ⟨_, g.push w.heap.size cap, rfl, g.le_push _ _, ?_, ?_, (Ext.drew.trans Ext.drew).trans (Ext.push hst2 _ _ _)⟩
    · refine hst2.push _ _ _ ?_
      refine ⟨arr, (0, 0), rfl, by rw [Gh.push_bs, Gh.push_cap, hasz]; omega, by rw [Gh.push_cap]; exact hcs, by omega, ?_, fun k _ h => by omega, hone⟩
      intro a b ha hb
      have hlt : 0 + (a * 1 + b) < arr.size := by rw [hasz]; omega
      exact ⟨arr[0 + (a * 1 + b)], by rw [Gh.push_bs]; exact Array.getElem?_eq_getElem hlt, .any _⟩
    · have := ARep.ms (g := g.push w.heap.size cap) g.n 0 n.toNat 1 cap 0 (by simp [Gh.push_n]) (by rw [Gh.push_cap]; omega) hcs (fun _ => by rw [Gh.push_bs])
      rw [Gh.push_mu] at this
      rw [← hst.n]; exact this

theorem ne_goroutine {fn : Func} {n : String} (h : fn.name = n) (hn : (n == "runtime.NumGoroutine") = false) : (fn.name == "runtime.NumGoroutine") = false := by rw [h]; exact hn

theorem externAns_ok {f : FuncId} {fn : Func} (hf : P.funcs[f]? = some fn) (hb : fn.body.isNone = true) (ho : fn.origin = "") {args : List AV} {v : AV} {H' : AHeap} (h : externAns P fn args H = some (v, H')) :
    CtrTo P f args H v H' := by
  intro g w cargs hst hrep
  right
  unfold externAns at h
  split at h
  · -- one address
    rename_i i o
    obtain ⟨c, rfl, hc⟩ := hrep.one_inv
    obtain ⟨rfl⟩ : c = .pointer (some ⟨g.mu i, o, none⟩) := by cases hc; rfl
    split at h
    · rename_i hn
      obtain ⟨e1, e2⟩ := ext_name ho hn (by kernel_rfl) (by kernel_rfl) (by kernel_rfl) (e := Extern.Atomic.loadT (.int .u32)) (by kernel_rfl)
      split at h
      · rename_i cs T n hcell
        cases h
        obtain ⟨arr, fr, c, hH, hob, hr, hfz, h1, hac, hrc, hwc, hlt⟩ := atom_cell hst hcell
        have hce := p_inv hrc
        subst hce
        refine ⟨_, w, run_extern hf hb (ne_goroutine hn (by decide)) e1 e2 _ (c := .int .u32 n) ?_, _, g, rfl, Gh.le.refl g, hst, .d _ _ (.p _), Ext.refl _ _ _⟩
        exact run_aread hwc
      · cases h
    · split at h
      · rename_i hn
        cases h
        obtain ⟨e1, e2⟩ := ext_name ho hn (by kernel_rfl) (by kernel_rfl) (by kernel_rfl) (e := Extern.AbiNoEscape.same) (by kernel_rfl)
        exact ⟨_, w, run_extern hf hb (ne_goroutine hn (by decide)) e1 e2 _ (c := .pointer (some ⟨g.mu i, o, none⟩)) rfl, _, g, rfl, Gh.le.refl g, hst, hc, Ext.refl _ _ _⟩
      · split at h
        · rename_i hn
          cases h
          obtain ⟨e1, e2⟩ := ext_name ho hn (by kernel_rfl) (by kernel_rfl) (by kernel_rfl) (e := Extern.Race.marked .acquire) (by kernel_rfl)
          exact ⟨_, w, run_extern hf hb (ne_goroutine hn (by decide)) e1 e2 _ (c := .tuple #[]) rfl, _, g, rfl, Gh.le.refl g, hst, .un, Ext.refl _ _ _⟩
        · split at h
          · rename_i hn
            cases h
            obtain ⟨e1, e2⟩ := ext_name ho hn (by kernel_rfl) (by kernel_rfl) (by kernel_rfl) (e := Extern.Race.marked .releaseMerge) (by kernel_rfl)
            exact ⟨_, w, run_extern hf hb (ne_goroutine hn (by decide)) e1 e2 _ (c := .tuple #[]) rfl, _, g, rfl, Gh.le.refl g, hst, .un, Ext.refl _ _ _⟩
          · cases h
  · rename_i i o n
    obtain ⟨c, d, rfl, hc, hd⟩ := hrep.two_inv
    obtain ⟨rfl⟩ : c = .pointer (some ⟨g.mu i, o, none⟩) := by cases hc; rfl
    have hde := p_inv hd
    subst hde
    split at h
    · rename_i hn
      obtain ⟨e1, e2⟩ := ext_name ho hn (by kernel_rfl) (by kernel_rfl) (by kernel_rfl) (e := Extern.Atomic.storeT) (by kernel_rfl)
      split at h
      · rename_i cs T x hcell
        cases h
        obtain ⟨arr, fr, c, hH, hob, hr, hfz, h1, hac, hrc, hwc, hlt⟩ := atom_cell hst hcell
        obtain ⟨k1, k2⟩ := put_cell (o := o) hst hH hob hr hfz h1 (y := .d (.p (.int .u32 n))) (v := .int .u32 n) (.d _ _ (.p _)) rfl
        refine ⟨.tuple #[], _, run_extern hf hb (ne_goroutine hn (by decide)) e1 e2 _ ?_, _, g, rfl, Gh.le.refl g, k1, .un, k2⟩
        show ((do store ⟨g.mu i, o, none⟩ (.int .u32 n) .atomic; pure Extern.Atomic.none_ : Sem Value)).run P w = _
        rw [Sem.run_bind, run_astore (P := P) hob hfz hlt (v := .int .u32 n) rfl, Result.andThen_ok]
        rfl
      · cases h
    · cases h
  · rename_i i o n
    obtain ⟨c, d, rfl, hc, hd⟩ := hrep.two_inv
    obtain ⟨rfl⟩ : c = .pointer (some ⟨g.mu i, o, none⟩) := by cases hc; rfl
    have hde := p_inv hd
    subst hde
    split at h
    · rename_i hn
      obtain ⟨e1, e2⟩ := ext_name ho hn (by kernel_rfl) (by kernel_rfl) (by kernel_rfl) (e := Extern.Atomic.update (Op.intArith .add) .i32 true) (by kernel_rfl)
      split at h
      · rename_i cs T m hcell
        cases h
        obtain ⟨arr, fr, c, hH, hob, hr, hfz, h1, hac, hrc, hwc, hlt⟩ := atom_cell hst hcell
        have hce := p_inv hrc
        subst hce
        obtain ⟨k1, k2⟩ := put_cell (o := o) hst hH hob hr hfz h1 (y := .d (.p (.int .i32 (IntKind.i32.wrap (m + n))))) (v := .int .i32 (IntKind.i32.wrap (m + n))) (.d _ _ (.p _)) rfl
        refine ⟨.int .i32 (IntKind.i32.wrap (m + n)), _, run_extern hf hb (ne_goroutine hn (by decide)) e1 e2 _ ?_, _, g, rfl, Gh.le.refl g, k1, .d _ _ (.p _), k2⟩
        show ((do let old ← Extern.Atomic.read (.int .i32) ⟨g.mu i, o, none⟩
                  let new ← Op.intArith .add .i32 (← asInt old) (← asInt (.int .i32 n))
                  store ⟨g.mu i, o, none⟩ new .atomic
                  pure (if true then new else old) : Sem Value)).run P w = _
        rw [Sem.run_bind, run_aread hwc, Result.andThen_ok, Sem.run_bind]
        rw [show (asInt (.int .i32 m)).run P w = .ok m w from rfl, Result.andThen_ok, Sem.run_bind]
        rw [show (asInt (.int .i32 n)).run P w = .ok n w from rfl, Result.andThen_ok, Sem.run_bind]
        rw [show (Op.intArith .add .i32 m n).run P w = .ok (.int .i32 (IntKind.i32.wrap (m + n))) w from rfl, Result.andThen_ok, Sem.run_bind]
        rw [run_astore (P := P) hob hfz hlt (v := .int .i32 (IntKind.i32.wrap (m + n))) rfl, Result.andThen_ok]
        rfl
      · cases h
    · cases h
  · rename_i i o a b
    obtain ⟨c, d, e, rfl, hc, hd, he⟩ := hrep.three_inv
    obtain ⟨rfl⟩ : c = .pointer (some ⟨g.mu i, o, none⟩) := by cases hc; rfl
    have hde := p_inv hd
    subst hde
    have hee := p_inv he
    subst hee
    split at h
    · rename_i hn
      obtain ⟨e1, e2⟩ := ext_name ho hn (by kernel_rfl) (by kernel_rfl) (by kernel_rfl) (e := Extern.Atomic.casT (.int .i32)) (by kernel_rfl)
      split at h
      · rename_i cs T m hcell
        obtain ⟨arr, fr, c, hH, hob, hr, hfz, h1, hac, hrc, hwc, hlt⟩ := atom_cell hst hcell
        have hce := p_inv hrc
        subst hce
        have hfro : w.frozen? ⟨g.mu i, o, none⟩ = false := by
          rw [frozen_of _ _ _ _ _ _ hob, Bool.and_eq_false_iff]
          have := hfz o hlt
          by_cases hx : fr.1 ≤ o
          · right; simp; omega
          · left; simpa using hx
        have ht : (Extern.Atomic.touchesFrozen ⟨g.mu i, o, none⟩).run P w = .ok false w := by
          simp only [Extern.Atomic.touchesFrozen, Sem.run_bind, run_viewAt hob, Result.andThen_ok]
          simp [frozen, Sem.run, hfro]
        split at h
        · rename_i hma
          cases h
          subst hma
          obtain ⟨k1, k2⟩ := put_cell (o := o) hst hH hob hr hfz h1 (y := .d (.p (.int .i32 b))) (v := .int .i32 b) (.d _ _ (.p _)) rfl
          refine ⟨.bool true, _, run_extern hf hb (ne_goroutine hn (by decide)) e1 e2 _ ?_, _, g, rfl, Gh.le.refl g, k1, .tt, k2⟩
          show ((do if ← Extern.Atomic.touchesFrozen ⟨g.mu i, o, none⟩ then unsupported (.unsafePointer "a write to bytes that a string shares")
                    let eq ← match Extern.Atomic.T.int .i32, ← Extern.Atomic.read (.int .i32) ⟨g.mu i, o, none⟩, (Value.int .i32 m) with
                      | _, .int _ x, .int _ y => pure (x == y)
                      | .ptr, .pointer x, .pointer y => samePointer x y
                      | .int _, .pointer (some _), .int _ 0 | .int _, .int _ 0, .pointer (some _) => pure false
                      | .int _, .pointer (some _), _ | .int _, _, .pointer (some _) => unsupported .addressObserved
                      | _, _, _ => stuck "atomic.CompareAndSwap: old is no T"
                    if eq then store ⟨g.mu i, o, none⟩ (.int .i32 b) .atomic
                    pure (.bool eq) : Sem Value)).run P w = _
          rw [Sem.run_bind, ht, Result.andThen_ok]
          simp only [Bool.false_eq_true, if_false, Sem.run_bind, Sem.run_pure, Result.andThen_ok, run_aread hwc]
          rw [show (m == m) = true from by simp]
          simp only [if_true]
          rw [Sem.run_bind, run_astore (P := P) hob hfz hlt (v := .int .i32 b) rfl, Result.andThen_ok]
          rfl
        · rename_i hma
          cases h
          refine ⟨.bool false, w, run_extern hf hb (ne_goroutine hn (by decide)) e1 e2 _ ?_, _, g, rfl, Gh.le.refl g, hst, .ff, Ext.refl _ _ _⟩
          show ((do if ← Extern.Atomic.touchesFrozen ⟨g.mu i, o, none⟩ then unsupported (.unsafePointer "a write to bytes that a string shares")
                    let eq ← match Extern.Atomic.T.int .i32, ← Extern.Atomic.read (.int .i32) ⟨g.mu i, o, none⟩, (Value.int .i32 a) with
                      | _, .int _ x, .int _ y => pure (x == y)
                      | .ptr, .pointer x, .pointer y => samePointer x y
                      | .int _, .pointer (some _), .int _ 0 | .int _, .int _ 0, .pointer (some _) => pure false
                      | .int _, .pointer (some _), _ | .int _, _, .pointer (some _) => unsupported .addressObserved
                      | _, _, _ => stuck "atomic.CompareAndSwap: old is no T"
                    if eq then store ⟨g.mu i, o, none⟩ (.int .i32 b) .atomic
                    pure (.bool eq) : Sem Value)).run P w = _
          rw [Sem.run_bind, ht, Result.andThen_ok]
          simp only [Bool.false_eq_true, if_false, Sem.run_bind, Sem.run_pure, Result.andThen_ok, run_aread hwc]
          rw [show (m == a) = false from by simpa using hma]
          rfl
      · cases h
    · cases h
  · rename_i n
    obtain ⟨c, rfl, hc⟩ := hrep.one_inv
    have hce := p_inv hc
    subst hce
    split at h
    · rename_i hn
      obtain ⟨e1, e2⟩ := ext_typed ho hn (by kernel_rfl) (by kernel_rfl) (e := Extern.BytealgMakeNoZero.makeNoZero) (by kernel_rfl)
      split at h
      · rename_i t ht
        split at h
        · rename_i e hu
          split at h
          · rename_i hr
            cases h
            obtain ⟨c, w', hrun, hret⟩ := makeNoZero_ok (P := P) (ps := fn.params) hst ht hu hr.1 hr.2
            exact ⟨c, w', run_extern hf hb (ne_goroutine hn (by decide)) e1 e2 _ hrun, hret⟩
          · cases h
        · cases h
      · cases h
    · cases h
  · cases h

theorem externAns_new {fn : Func} {d : DV} {v : AV} {H' : AHeap} (e : externAns P fn [.d d] H = some (v, H')) : H ++ H'.drop H.length = H' := by
  cases d with
  | p x =>
    cases x with
    | int k n =>
      cases k with
      | i64 =>
        simp only [externAns] at e
        split at e
        · split at e
          · split at e
            · split at e
              · cases e; simp
              · cases e
            · cases e
          · cases e
        · cases e
      | _ => simp [externAns] at e
    | _ => simp [externAns] at e
  | _ => simp [externAns] at e

theorem atomO_ok (P : Program) : OracleOK P (atomO P) := by
  intro f args H r h
  unfold atomO at h
  split at h
  · cases h
  · rename_i fn hf
    split at h
    · rename_i hc
      split at h
      · rename_i v H' e
        split at h
        · cases h
          have hk := externAns_ok hf hc.1 hc.2 e
          have hH := externAns_new e
          show CtrTo P f _ H v (H ++ H'.drop H.length)
          rw [hH]
          exact hk
        · cases h
          exact externAns_ok hf hc.1 hc.2 e
      · cases h
    · cases h

end
end Go.Eng

/- The engine, part 25: functions of plain data by a contract of the library's. -/
set_option linter.unusedVariables false
set_option linter.unusedSimpArgs false
set_option linter.unnecessarySimpa false
namespace Go.Eng
open Go

def upB : Value → AV
  | .bool b => match b with
    | true => .tt
    | false => .ff
  | v => .d (.p v)

def upA : Value → AV
  | .tuple vs => match vs.toList with
    | [] => .un
    | l => .tu (l.map upB)
  | v => upB v

/-- What a function of plain data answers, in any memory. -/
def PlainCtr (P : Program) (f : FuncId) (vs : List Value) (c : Value) : Prop :=
  ∀ (w : World) (m : Int), w.cell? ⟨GB, 0, none⟩ = some (.int .i64 m) → Calls P f vs.toArray w fun e w' => e = .returned c ∧ ∃ n, w' = w.drewN n

def libO (f0 : FuncId) (ans : List Value → Option Value) : Oracle := fun f args _ =>
  if f = f0 then
    match unPs args with
    | some vs => match ans vs with
      | some c => some (.pure (upA c))
      | none => none
    | none => none
  else none

theorem upB_ok (g : Gh) (c : Value) : ARep g (upB c) c := by
  cases c with
  | bool b => cases b with
    | true => exact .tt
    | false => exact .ff
  | _ => exact .d _ _ (.p _)

theorem upA_ok (g : Gh) (c : Value) : ARep g (upA c) c := by
  cases c with
  | tuple vs =>
    unfold upA
    simp only []
    split
    · rename_i e
      have : vs = #[] := by apply Array.ext'; simpa using e
      subst this
      exact .un
    · rename_i l hl
      refine .tu _ _ (by simp) ?_
      intro i x v hx hv
      simp only [List.getElem?_map, Option.map_eq_some_iff] at hx
      obtain ⟨u, hu, rfl⟩ := hx
      have : u = v := by rw [Array.getElem?_toList, hv] at hu; exact (Option.some.inj hu).symm
      subst this
      exact upB_ok g _
  | _ => unfold upA; exact upB_ok g _

theorem plain_ctr {P : Program} {f : FuncId} {args : List AV} {vs : List Value} {c : Value} (hb : hasBody P f = true) (hu : unPs args = some vs) (h : PlainCtr P f vs c) (H : AHeap) : CtrTo P f args H (upA c) H := by
  intro g w cargs hst hrep
  left
  refine ⟨hb, ?_⟩
  obtain ⟨⟨m, hm⟩, _⟩ := hst.glob
  have hc := hst.imm _ _ _ hm
  have hvs : cargs = vs.toArray := by
    have := unPs_ok (g := g) args cargs.toList (by simpa using hrep.1) (fun i x v hx hv => hrep.2 i x v hx (by simpa using hv)) hu
    apply Array.ext'
    simpa using this
  subst hvs
  refine Calls.mono (h w m hc.1) ?_
  rintro e w' ⟨rfl, n, rfl⟩
  exact ⟨c, g, rfl, Gh.le.refl g, ⟨hst.n, hst.imm, hst.obj, hst.size, hst.inj, hst.disj, hst.glob⟩, upA_ok g c,
    ⟨rfl, rfl, rfl, Nat.le_refl _, fun _ _ _ => rfl, fun _ _ _ h => h, fun _ _ _ h h' => by (rw [h'] at h; cases h), fun _ h => Or.inl h⟩⟩

theorem libO_ok {P : Program} {f0 : FuncId} {ans : List Value → Option Value} (hb : hasBody P f0 = true) (h : ∀ vs c, ans vs = some c → PlainCtr P f0 vs c) : OracleOK P (libO f0 ans) := by
  intro f args H r hr
  unfold libO at hr
  split at hr
  · rename_i e
    subst e
    split at hr
    · rename_i vs hu
      split at hr
      · rename_i c hc
        cases hr
        exact fun X => plain_ctr hb hu (h vs c hc) (H ++ X)
      · cases hr
    · cases hr
  · cases hr

end Go.Eng

/- The engine, part 26: what functions of package strings answer, as the library's contracts say. -/
set_option linter.unusedVariables false
namespace Go.Eng
open Go

def ansContains : List Value → Option Value
  | [.string s, .string sub] => if s.size < 4294967281 then some (.bool (Lib.contains s.data.toList sub.data.toList)) else none
  | _ => none
def ansCut : List Value → Option Value
  | [.string s, .string sep] => if s.size < 4294967281 then
      some (.tuple #[.string ⟨(Lib.cut s.data.toList sep.data.toList).1.toArray⟩, .string ⟨(Lib.cut s.data.toList sep.data.toList).2.1.toArray⟩, .bool (Lib.cut s.data.toList sep.data.toList).2.2]) else none
  | _ => none
def ansIndexByte : List Value → Option Value
  | [.string s, .int .u8 c] => some (.int .i64 (Lib.indexByte s.data.toList c.toNat.toUInt8))
  | _ => none

end Go.Eng

/- The engine, part 27: functions that read memory which they are handed, and answer plain data. -/
set_option linter.unusedVariables false
set_option linter.unusedSimpArgs false
set_option linter.unnecessarySimpa false
namespace Go.Eng
open Go

theorem Frz.ext {H X : AHeap} {x : AV} {d : DV} (h : Frz H x d) : Frz (H ++ X) x d := by
  induction h with
  | d x => exact .d x
  | tt => exact .tt
  | ff => exact .ff
  | ag cs ds hl h ih => exact .ag cs ds hl ih
  | ifc t x d h ih => exact .ifc t x d ih
  | ms id off len esz T n f d hH hn h ih => exact .ms id off len esz T n f d (get_ext hH) hn ih
  | mp id off cs T n d hH hn h ih => exact .mp id off cs T n d (get_ext hH) hn ih

theorem FrzA.ext {H X : AHeap} {x y : AV} (h : FrzA H x y) : FrzA (H ++ X) x y := by
  induction h with
  | d x d h => exact .d x d h.ext
  | tt => exact .tt
  | ff => exact .ff
  | un => exact .un
  | any x => exact .any x
  | tu cs ds hl h ih => exact .tu cs ds hl ih
  | ag cs ds hl h ih => exact .ag cs ds hl ih
  | ifc t x y h ih => exact .ifc t x y ih

mutual
def flatA : AV → Bool
  | .tt | .ff | .un => true
  | .d (.p _) => true
  | .tu cs => flatAs cs
  | _ => false
def flatAs : List AV → Bool
  | [] => true
  | x :: xs => flatA x && flatAs xs
end

theorem flatAs_get : ∀ {cs : List AV}, flatAs cs = true → ∀ {i : Nat} {x : AV}, cs[i]? = some x → flatA x = true
  | [], _, i, x, h => by simp at h
  | c :: cs, hf, 0, x, h => by
    rw [flatAs] at hf
    simp only [List.getElem?_cons_zero, Option.some.injEq] at h
    subst h
    exact (Bool.and_eq_true_iff.1 hf).1
  | c :: cs, hf, i + 1, x, h => by
    rw [flatAs] at hf
    exact flatAs_get (Bool.and_eq_true_iff.1 hf).2 (by simpa using h)

theorem flat_rep {g g' : Gh} {x : AV} {c : Value} (hf : flatA x = true) (h : ARep g x c) : ARep g' x c := by
  induction h with
  | tt => exact .tt
  | ff => exact .ff
  | un => exact .un
  | d x v h => cases h <;> first | exact .d _ _ (.p _) | (simp [flatA] at hf)
  | tu cs vs hl hh ih => rw [flatA] at hf; exact .tu cs vs hl fun i x v hx hv => ih i x v hx hv (flatAs_get hf hx)
  | _ => simp [flatA] at hf

theorem read_lift {P : Program} {f : FuncId} {args dargs : List AV} {v : AV} {H : AHeap} (hb : hasBody P f = true) (hl : args.length = dargs.length)
    (hfr : ∀ (i : Nat) (x y : AV), args[i]? = some x → dargs[i]? = some y → FrzA H x y) (hv : flatA v = true)
    (hwp : Wp P (fun a H' => ∃ r, a = .ret r ∧ FrzA H' r v) (.run [enterA P f dargs .normal] [])) (X : AHeap) : CtrTo P f args (H ++ X) v (H ++ X) := by
  intro g w cargs hst hrep
  left
  refine ⟨hb, ?_⟩
  let g0 : Gh := { g with imm := immF g (H ++ X) w, n := 0 }
  have hst0 : St g0 [] w := by
    refine ⟨rfl, ?_, fun i o h => by simp at h, fun i o h => by simp at h, fun i j oi oj h => by simp at h, fun i o h => by simp at h, hst.glob.mono (immF_le hst)⟩
    intro b o v h
    have h : immF g (H ++ X) w b o = some v := h
    unfold immF at h
    split at h
    · split at h
      · rename_i u hu
        split at h
        · rename_i h1; cases h; exact ⟨hu, h1⟩
        · cases h
      · cases h
    · exact hst.imm b o v h
  have hrep0 : RepL g0 dargs cargs := by
    refine ⟨hl.symm.trans hrep.1, fun i y c hy hc => ?_⟩
    have hi : i < args.length := by rw [hl]; exact (List.getElem?_eq_some_iff.1 hy).1
    exact frzA_ok hst ((hfr i args[i] y (List.getElem?_eq_getElem hi) hy).ext) rfl (hrep.2 i args[i] c (List.getElem?_eq_getElem hi) hc)
  have hno : ∀ b, ¬ foot g0 [] b := by rintro b ⟨i, o, h, _⟩; simp at h
  refine Calls.mono (calls_of_wp hb hwp g0 w cargs hst0 hrep0) ?_
  rintro e w' ⟨a, H', g', _, ⟨r, rfl, hfr'⟩, hend, hst', hext⟩
  obtain ⟨c, rfl, hr⟩ := hend
  have hrc : ARep { g' with imm := immF g' H' w' } v c := frzA_ok hst' hfr' rfl hr
  have hblock : ∀ b, b < w.heap.size → w'.heap[b]? = w.heap[b]? := fun b hb => hext.block b hb (hno b)
  refine ⟨c, g, rfl, Gh.le.refl g, ?_, flat_rep hv hrc, ?_⟩
  · refine ⟨hst.n, ?_, ?_, ?_, hst.inj, hst.disj, hst.glob⟩
    · intro b o v h
      rw [cell_old (hblock b (imm_lt hst h))]
      exact hst.imm b o v h
    · intro i o hH
      have hob := hst.obj i o hH
      cases hl : o.live with
      | false => cases o <;> first | trivial | cases hl
      | true => rw [hblock _ (hst.size i o hH hl)]; exact hob
    · intro i o hH hl
      exact Nat.lt_of_lt_of_le (hst.size i o hH hl) hext.size
  · exact ⟨hext.os, hext.tape, hext.output, hext.size, fun b hb _ => hblock b hb, fun _ _ _ h => h, fun b o v h h0 => (by rw [h0] at h; cases h), fun b h => Or.inl h⟩

/-- Some functions' answers, of what their arguments hold when they are called. -/
def readO (P : Program) (Γ : Oracle) (fuel k : Nat) (fs : List FuncId) : Oracle := fun f args H =>
  if fs.contains f && hasBody P f then
    match optL (frzA H k) args with
    | some dargs => match reckon P Γ fuel k f dargs with
      | some v => if flatA v then some (.pure v) else none
      | none => none
    | none => none
  else none

theorem readO_ok {P : Program} {Γ : Oracle} (hΓ : OracleOK P Γ) (fuel k : Nat) (fs : List FuncId) : OracleOK P (readO P Γ fuel k fs) := by
  intro f args H r h
  unfold readO at h
  split at h
  rotate_left
  · cases h
  rename_i hc
  simp only [Bool.and_eq_true] at hc
  split at h
  rotate_left
  · cases h
  rename_i dargs hd
  split at h
  rotate_left
  · cases h
  rename_i v hv
  split at h
  rotate_left
  · cases h
  rename_i hfl
  cases h
  obtain ⟨h2, h3⟩ := optL_ok hd
  intro X
  refine read_lift hc.2 h2 (fun i x y hx hy => frzA_sound k (h3 i x y hx hy)) hfl (wp_goC hΓ fuel _ ?_) X
  unfold reckon at hv
  split at hv
  · rename_i r H' e
    rw [e]
    exact ⟨r, rfl, frzA_sound k hv⟩
  · cases hv

end Go.Eng

/- The engine, part 28: ways through a piece of code: which tests come out how, and where it ends; slots that are not read again are forgotten. -/
set_option linter.unusedVariables false
set_option linter.unusedSimpArgs false
set_option linter.unnecessarySimpa false
namespace Go.Eng
open Go

/-- The questions of one step, answered by a list. -/
def folP : ANext → List Bool → List (Bool × Bool) × Option (AM × List Bool)
  | .next m, p => ([], some (m, p))
  | .br c a b, q :: p => match q with
    | true => match folP a p with
      | (cs, r) => ((c, true) :: cs, r)
    | false => match folP b p with
      | (cs, r) => ((c, false) :: cs, r)
  | .need c a, p => match folP a p with
    | (cs, r) => ((c, true) :: cs, r)
  | _, _ => ([], none)

/-- Steps along a way, to the end or behind the next loop's head. -/
def goP (P : Program) (Γ : Oracle) : Nat → List Bool → AM → List (Bool × Bool) × ANext
  | 0, _, m => ([], .next m)
  | n + 1, p, m => match folP (astep P Γ m) p with
    | (cs, some (m', p')) => if isEnd m' then (cs, .next m') else if atLoop m' then (cs, astep P Γ m') else
      match goP P Γ n p' m' with
      | (ds, r) => (cs ++ ds, r)
    | (cs, none) => (cs, .stop)

def allOK : List (Bool × Bool) → Prop
  | [] => True
  | (c, b) :: cs => c = b ∧ allOK cs

theorem allOK_append : ∀ {cs ds : List (Bool × Bool)}, allOK (cs ++ ds) → allOK cs ∧ allOK ds
  | [], _, h => ⟨trivial, h⟩
  | (c, b) :: cs, ds, h => by
    obtain ⟨h1, h2⟩ := h
    obtain ⟨h3, h4⟩ := allOK_append h2
    exact ⟨⟨h1, h3⟩, h4⟩

section
variable {P : Program} {Γ : Oracle} (hΓ : OracleOK P Γ) {Q : AEnd → AHeap → Prop}

theorem wpn_folP : ∀ (x : ANext) (p : List Bool), allOK (folP x p).1 → (∀ m p', (folP x p).2 = some (m, p') → Wp P Q m) → (folP x p).2 ≠ none → WpN P Q x
  | .next m, p, _, h, _ => h m p rfl
  | .br c a b, [], _, _, hn => by simp [folP] at hn
  | .br c a b, true :: p, hc, h, hn => by
    simp only [folP] at hc h hn
    obtain ⟨h1, h2⟩ := hc
    subst h1
    exact ⟨fun _ => wpn_folP a p h2 h hn, fun e => by cases e⟩
  | .br c a b, false :: p, hc, h, hn => by
    simp only [folP] at hc h hn
    obtain ⟨h1, h2⟩ := hc
    subst h1
    exact ⟨fun e => (by cases e), fun _ => wpn_folP b p h2 h hn⟩
  | .need c a, p, hc, h, hn => by
    simp only [folP] at hc h hn
    obtain ⟨h1, h2⟩ := hc
    exact ⟨h1, wpn_folP a p h2 h hn⟩
  | .stop, p, _, _, hn => by simp [folP] at hn

include hΓ in
theorem wp_goP : ∀ (n : Nat) (p : List Bool) (m : AM), allOK (goP P Γ n p m).1 → WpN P Q (goP P Γ n p m).2 → Wp P Q m
  | 0, _, m, _, h => h
  | n + 1, p, m, hc, h => by
    refine wp_step hΓ ?_
    rw [goP] at hc h
    cases e : folP (astep P Γ m) p with
    | mk cs r =>
      rw [e] at hc h
      cases r with
      | none => exact h.elim
      | some mp =>
        obtain ⟨m', p'⟩ := mp
        simp only [] at hc h
        refine wpn_folP _ p ?_ ?_ (by rw [e]; simp)
        · rw [e]
          split at hc
          · exact hc
          · split at hc
            · exact hc
            · exact (allOK_append hc).1
        · intro m2 p2 e2
          rw [e] at e2
          simp only [Option.some.injEq, Prod.mk.injEq] at e2
          obtain ⟨rfl, rfl⟩ := e2
          split at h
          · exact h
          · rename_i hne
            rw [if_neg hne] at hc
            split at h
            · exact wp_step hΓ h
            · rename_i hnl
              rw [if_neg hnl] at hc
              exact wp_goP n p' m' (allOK_append hc).2 h

include hΓ in
/-- A WAY: the tests on it, and where it ends. -/
theorem way (n : Nat) (p : List Bool) {m m' : AM} {cs : List (Bool × Bool)} (e : goP P Γ n p m = (cs, .next m')) (hc : allOK cs) (h : Wp P Q m') : Wp P Q m :=
  wp_goP hΓ n p m (by rw [e]; exact hc) (by rw [e]; exact h)

end

/-- Slots that are forgotten. -/
def keepT (keep : List Nat) : Nat → List AV → List AV
  | _, [] => []
  | i, x :: xs => (if keep.contains i then x else .any) :: keepT keep (i + 1) xs

def forget (keep : List Nat) : AM → AM
  | .run (F :: Fs) H => .run ({ F with tmps := keepT keep 0 F.tmps } :: Fs) H
  | m => m

theorem keepT_length (keep : List Nat) : ∀ (i : Nat) (xs : List AV), (keepT keep i xs).length = xs.length
  | _, [] => rfl
  | i, x :: xs => by simp [keepT, keepT_length keep (i + 1) xs]

theorem keepT_get (keep : List Nat) : ∀ (i : Nat) (xs : List AV) (j : Nat) (y : AV), (keepT keep i xs)[j]? = some y → ∃ x, xs[j]? = some x ∧ (y = x ∨ y = .any)
  | _, [], j, y, h => by simp [keepT] at h
  | i, x :: xs, 0, y, h => by
    simp only [keepT, List.getElem?_cons_zero, Option.some.injEq] at h
    refine ⟨x, rfl, ?_⟩
    split at h
    · exact .inl h.symm
    · exact .inr h.symm
  | i, x :: xs, j + 1, y, h => by
    obtain ⟨z, hz, hy⟩ := keepT_get keep (i + 1) xs j y (by simpa [keepT] using h)
    exact ⟨z, by simpa using hz, hy⟩

theorem wp_forget {P : Program} {Q : AEnd → AHeap → Prop} (keep : List Nat) {m : AM} (h : Wp P Q (forget keep m)) : Wp P Q m := by
  cases m with
  | ret v H => exact h
  | pan ps H => exact h
  | run fs H =>
    cases fs with
    | nil => exact h
    | cons F Fs =>
      intro g fr frs cs0 w ⟨hF, hFs⟩ hst
      have hF' : RepFrame g { F with tmps := keepT keep 0 F.tmps } fr := by
        refine ⟨hF.fn, ⟨by rw [keepT_length]; exact hF.tmps.1, ?_⟩, hF.todo, hF.defers, hF.mode, hF.kind, hF.round, hF.roundn⟩
        intro i y v hy hv
        obtain ⟨x, hx, e⟩ := keepT_get keep 0 F.tmps i y hy
        rcases e with rfl | rfl
        · exact hF.tmps.2 i _ v hx hv
        · exact .any v
      obtain ⟨a, H', e, w', frb, g', h0, h1, h2, h3, h4, h5, h6, h7⟩ := h g fr frs cs0 w ⟨hF', hFs⟩ hst
      exact ⟨a, H', e, w', frb, g', h0, h1, h2, h3, by rw [h4]; exact botFn_top _ _ _ rfl, h5, h6, h7⟩

/-- A way, some slots forgotten at its end. -/
def goF (P : Program) (Γ : Oracle) (n : Nat) (p : List Bool) (keep : List Nat) (m : AM) : List (Bool × Bool) × Option AM :=
  match goP P Γ n p m with
  | (cs, .next m') => (cs, some (forget keep m'))
  | (cs, _) => (cs, none)

theorem wayF {P : Program} {Γ : Oracle} (hΓ : OracleOK P Γ) {Q : AEnd → AHeap → Prop} (n : Nat) (p : List Bool) (keep : List Nat) {m m' : AM} {cs : List (Bool × Bool)} (e : goF P Γ n p keep m = (cs, some m'))
    (hc : allOK cs) (h : Wp P Q m') : Wp P Q m := by
  unfold goF at e
  split at e
  · rename_i cs' m2 e2
    simp only [Prod.mk.injEq, Option.some.injEq] at e
    obtain ⟨rfl, rfl⟩ := e
    exact way hΓ n p e2 hc (wp_forget keep h)
  · simp at e

def todoOf : ANext → List AItem
  | .next (.run (F :: _) _) => F.todo
  | _ => []

end Go.Eng

/- The engine, part 29: contracts of functions, as oracles; answers by a way of the abstract machine; contracts of the library's that make memory. -/
set_option linter.unusedVariables false
set_option linter.unusedSimpArgs false
set_option linter.unnecessarySimpa false
namespace Go.Eng
open Go

/-- A function's contract, as an oracle. -/
def fnO (f0 : FuncId) (ans : List AV → Option CRes) : Oracle := fun f args _ => if f = f0 then ans args else none

theorem fnO_ok {P : Program} {f0 : FuncId} {ans : List AV → Option CRes} (h : ∀ args r, ans args = some r → ∀ H, CtrOK P f0 args H r) : OracleOK P (fnO f0 ans) := by
  intro f args H r hr
  unfold fnO at hr
  split at hr
  · rename_i e
    subst e
    exact h args r hr H
  · cases hr

/-- What a run that ends in data says. -/
def Ends (v : AV) (a : AEnd) (H : AHeap) : Prop := ∃ r, a = .ret r ∧ FrzA H r v

theorem pure_ctr {P : Program} {f : FuncId} {args : List AV} {v : AV} (hb : hasBody P f = true) (hargs : idFrees args = true) (hwp : Wp P (Ends v) (.run [enterA P f args .normal] [])) (H : AHeap) :
    CtrOK P f args H (.pure v) := fun X => pure_lift hb hargs hwp (H ++ X)

theorem ends_ret {P : Program} {v r : AV} {H : AHeap} (h : FrzA H r v) : Wp P (Ends v) (.ret r H) := ⟨r, rfl, h⟩

theorem frz_dp (H : AHeap) (x : DV) : FrzA H (.d x) (.d x) := .d _ _ (.d x)
theorem frz_ff (H : AHeap) : FrzA H .ff (.d (.p (.bool false))) := .d _ _ .ff
theorem frz_tt (H : AHeap) : FrzA H .tt (.d (.p (.bool true))) := .d _ _ .tt
theorem frz_tu2 {H : AHeap} {a b x y : AV} (h1 : FrzA H a x) (h2 : FrzA H b y) : FrzA H (.tu [a, b]) (.tu [x, y]) :=
  .tu _ _ rfl fun i u v hu hv => by
    match i, hu, hv with
    | 0, hu, hv => cases hu; cases hv; exact h1
    | 1, hu, hv => cases hu; cases hv; exact h2
    | i + 2, hu, hv => simp at hu
theorem frz_tu3 {H : AHeap} {a b c x y z : AV} (h1 : FrzA H a x) (h2 : FrzA H b y) (h3 : FrzA H c z) : FrzA H (.tu [a, b, c]) (.tu [x, y, z]) :=
  .tu _ _ rfl fun i u v hu hv => by
    match i, hu, hv with
    | 0, hu, hv => cases hu; cases hv; exact h1
    | 1, hu, hv => cases hu; cases hv; exact h2
    | 2, hu, hv => cases hu; cases hv; exact h3
    | i + 3, hu, hv => simp at hu

/-- What the library's variables hold. -/
def LibW (w : World) : Prop := (∃ m : Int, w.cell? ⟨GB, 0, none⟩ = some (.int .i64 m)) ∧ ∀ b ∈ GE, ∃ v, w.cell? ⟨b, 0, none⟩ = some v ∧ isErr v

theorem below_ctr {P : Program} {f : FuncId} {args : List AV} {vs : List Value} {v : AV} (hb : hasBody P f = true) (hu : unPs args = some vs)
    (h : ∀ w, LibW w → Calls P f vs.toArray w fun e w' => ∃ c, e = .returned c ∧ (∀ g, ARep g v c) ∧ RowKit.Below w.heap.size w w') (H : AHeap) : CtrOK P f args H (.pure v) := by
  intro X g w cargs hst hrep
  left
  refine ⟨hb, ?_⟩
  have hlib : LibW w := by
    obtain ⟨⟨m, hm⟩, he⟩ := hst.glob
    exact ⟨⟨m, (hst.imm _ _ _ hm).1⟩, fun b hb => let ⟨v, e, k⟩ := he b hb; ⟨v, (hst.imm _ _ _ e).1, k⟩⟩
  have hvs : cargs = vs.toArray := by
    have := unPs_ok (g := g) args cargs.toList (by simpa using hrep.1) (fun i x v hx hv => hrep.2 i x v hx (by simpa using hv)) hu
    apply Array.ext'
    simpa using this
  subst hvs
  refine Calls.mono (h w hlib) ?_
  rintro e w' ⟨c, rfl, hc, hbl⟩
  refine ⟨c, g, rfl, Gh.le.refl g, ?_, hc g, ?_⟩
  · refine ⟨hst.n, ?_, ?_, ?_, hst.inj, hst.disj, hst.glob⟩
    · intro b o v h
      rw [cell_old (hbl.block b (imm_lt hst h))]
      exact hst.imm b o v h
    · intro i o hH
      have hob := hst.obj i o hH
      cases hl : o.live with
      | false => cases o <;> first | trivial | cases hl
      | true => rw [hbl.block _ (hst.size i o hH hl)]; exact hob
    · intro i o hH hl
      exact Nat.lt_of_lt_of_le (hst.size i o hH hl) hbl.size
  · exact ⟨hbl.os, hbl.tape, hbl.output, hbl.size, fun b hb _ => hbl.block b hb, fun _ _ _ h => h, fun b o v h h0 => (by rw [h0] at h; cases h), fun b h => Or.inl h⟩

end Go.Eng
