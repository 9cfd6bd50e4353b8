/- Law 12: numbers as lists of bytes: plain facts. -/
import Derived.Test.YtgmbiahkameikaaGreatDoorEngF
import Derived.IntWalk
import Derived.Test.YtgmbiahkameikaaGreatDoorLivesA
import Derived.Lib.AtoiErrMem
import Derived.Laws.StructEq
import Derived.Test.YtgmbiahkameikaaGreatDoorLivesC
set_option linter.unusedVariables false
set_option linter.unusedSimpArgs false
set_option linter.unnecessarySimpa false
namespace Go.Eng
open Go

def isDig (b : UInt8) : Bool := decide (48 ≤ b.toNat) && decide (b.toNat ≤ 57)
def dl (l : List UInt8) : Nat := (l.takeWhile isDig).length
def dval (l : List UInt8) : Nat := l.foldl (fun n b => 10 * n + (b.toNat - 48)) 0

theorem dl_le (l : List UInt8) : dl l ≤ l.length := by
  unfold dl
  exact (List.takeWhile_sublist _).length_le

theorem takeWhile_take (p : UInt8 → Bool) (l : List UInt8) : l.takeWhile p = l.take (l.takeWhile p).length := by
  induction l with
  | nil => rfl
  | cons a l ih =>
    rw [List.takeWhile_cons]
    split
    · rw [List.length_cons, List.take_succ_cons, ← ih]
    · rfl

theorem dig_at {l : List UInt8} {i : Nat} (h : i < dl l) : ∃ b, l[i]? = some b ∧ isDig b = true := by
  have hi : i < l.length := Nat.lt_of_lt_of_le h (dl_le l)
  refine ⟨l[i], List.getElem?_eq_getElem hi, ?_⟩
  have h1 : (l.takeWhile isDig)[i]? = some l[i] := by
    rw [takeWhile_take, List.getElem?_take, if_pos (show i < (List.takeWhile isDig l).length from h), List.getElem?_eq_getElem hi]
  have hall : ∀ (l : List UInt8) (b : UInt8), b ∈ l.takeWhile isDig → isDig b = true := by
    intro l
    induction l with
    | nil => intro b hb; simp at hb
    | cons a l ih =>
      intro b hb
      rw [List.takeWhile_cons] at hb
      split at hb
      · rename_i ha
        rcases List.mem_cons.1 hb with e | e
        · rw [e]; exact ha
        · exact ih b e
      · simp at hb
  exact hall l _ (List.mem_of_getElem? h1)

theorem nodig_at {l : List UInt8} (h : dl l < l.length) : ∃ b, l[dl l]? = some b ∧ isDig b = false := by
  induction l with
  | nil => simp [dl] at h
  | cons a l ih =>
    unfold dl at h ⊢
    rw [List.takeWhile_cons] at h ⊢
    split
    · rename_i ha
      rw [if_pos ha] at h
      obtain ⟨b, h1, h2⟩ := ih (by simpa [dl] using h)
      exact ⟨b, by simpa [dl] using h1, h2⟩
    · rename_i ha
      exact ⟨a, rfl, by simpa using ha⟩

theorem take_succ {l : List UInt8} {i : Nat} {b : UInt8} (h : l[i]? = some b) : l.take (i + 1) = l.take i ++ [b] := by
  rw [List.take_add_one, h]; rfl

theorem dval_snoc (l : List UInt8) (b : UInt8) : dval (l ++ [b]) = 10 * dval l + (b.toNat - 48) := by
  simp [dval, List.foldl_append]

theorem dval_lt {l : List UInt8} : ∀ {i : Nat}, i ≤ dl l → dval (l.take i) < 10 ^ i
  | 0, _ => by simp [dval]
  | i + 1, h => by
    obtain ⟨b, hb, hd⟩ := dig_at (l := l) (i := i) (by omega)
    have ih := dval_lt (l := l) (i := i) (by omega)
    rw [take_succ hb, dval_snoc, Nat.pow_succ]
    simp only [isDig, Bool.and_eq_true, decide_eq_true_eq] at hd
    omega

theorem data_get {s : ByteArray} {i : Nat} {b : UInt8} (h : s.data.toList[i]? = some b) : (s.data[i]?).getD 0 = b := by
  rw [← Array.getElem?_toList, h]; rfl
theorem size_len (s : ByteArray) : s.size = s.data.toList.length := by
  rw [Array.length_toList]; rfl

def numN (s : ByteArray) : Int := if dl s.data.toList ≤ 9 then (dval (s.data.toList.take (dl s.data.toList)) : Int) else 0
def numR (s : ByteArray) : ByteArray := if dl s.data.toList ≤ 9 then s.extract (dl s.data.toList) s.size else ⟨#[]⟩
def numB (s : ByteArray) : Bool := decide (1 ≤ dl s.data.toList ∧ dl s.data.toList ≤ 9)
def numA (s : ByteArray) : AV := .tu [.d (.p (.int .u64 (numN s))), .d (.p (.string (numR s))), .d (.p (.bool (numB s)))]

theorem wrap64_small {x : Int} (h0 : 0 ≤ x) (h1 : x < 9223372036854775808) : IntKind.i64.wrap x = x := IntWalk.i64_in x ⟨by omega, by omega⟩
theorem wrapu64_small {x : Int} (h0 : 0 ≤ x) (h1 : x < 18446744073709551616) : IntKind.u64.wrap x = x := IntWalk.u64_in x ⟨h0, by omega⟩
theorem wrapu8_small {x : Int} (h0 : 0 ≤ x) (h1 : x < 256) : IntKind.u8.wrap x = x := IntWalk.u8_in x ⟨h0, by omega⟩

end Go.Eng

/- Law 12: the reference's numbers: 'number' of package penstockref12. -/
set_option linter.unusedVariables false
set_option linter.unusedSimpArgs false
set_option linter.unnecessarySimpa false
set_option maxRecDepth 100000
namespace Go.Eng
open Go Go.Proofs

noncomputable def numT : List AItem := todoOf (goP Tryz.prog LO 1000 [] (.run [enterA Tryz.prog 22 [.any] .normal] [])).2
noncomputable def numHead (s : ByteArray) (n k : Int) : AM :=
  .run [{ fn := 22, tmps := [.d (.p (.string s)), .any, .any, .any, .any, .d (.p (.int .u64 n)), .d (.p (.int .i64 k))] ++ List.replicate 28 .any, todo := numT, defers := [], mode := .run, kind := .normal, round := none }] []

abbrev byteAt (s : ByteArray) (k : Int) : UInt8 := Option.getD (s.data)[Int.toNat k]? 0
abbrev sliceOK (s : ByteArray) (k : Int) : Bool := decide (0 ≤ Option.getD (some k) 0 ∧ Option.getD (some k) 0 ≤ Option.getD none (s.size : Int) ∧ Option.getD none (s.size : Int) ≤ (s.size : Int))
abbrev sliceR (s : ByteArray) (k : Int) : ByteArray := ByteArray.extract s (Int.toNat (Option.getD (some k) 0)) (Int.toNat (Option.getD none (s.size : Int)))
abbrev numEnd (s : ByteArray) (n k : Int) : AM := .ret (.tu [.d (.p (.int .u64 n)), .d (.p (.string (sliceR s k))), .d (.p (.bool (decide (k > 0))))]) []
abbrev nextN (s : ByteArray) (n k : Int) : Int := IntKind.u64.wrap (IntKind.u64.wrap (10 * n) + IntKind.u64.wrap (IntKind.u8.wrap (((byteAt s k).toNat : Int) - 48)))

theorem num_start (s : ByteArray) : goF Tryz.prog LO 1000 [] [0, 5, 6] (.run [enterA Tryz.prog 22 [.d (.p (.string s))] .normal] []) = ([], some (numHead s 0 0)) := by kernel_rfl
theorem num_end (s : ByteArray) (n k : Int) : goF Tryz.prog LO 1000 [false] [0, 5, 6] (numHead s n k) = ([(decide (k < (s.size : Int)), false), (sliceOK s k, true)], some (numEnd s n k)) := by kernel_rfl
theorem num_lo (s : ByteArray) (n k : Int) : goF Tryz.prog LO 1000 [true, false] [0, 5, 6] (numHead s n k) =
    ([(decide (k < (s.size : Int)), true), (decide (0 ≤ k ∧ k < (s.size : Int)), true), (decide (((byteAt s k).toNat : Int) ≥ 48), false), (sliceOK s k, true)], some (numEnd s n k)) := by kernel_rfl
theorem num_hi (s : ByteArray) (n k : Int) : goF Tryz.prog LO 1000 [true, true, false] [0, 5, 6] (numHead s n k) =
    ([(decide (k < (s.size : Int)), true), (decide (0 ≤ k ∧ k < (s.size : Int)), true), (decide (((byteAt s k).toNat : Int) ≥ 48), true), (decide (((byteAt s k).toNat : Int) ≤ 57), false), (sliceOK s k, true)], some (numEnd s n k)) := by kernel_rfl
theorem num_many (s : ByteArray) (n k : Int) : goF Tryz.prog LO 1000 [true, true, true, true] [0, 5, 6] (numHead s n k) =
    ([(decide (k < (s.size : Int)), true), (decide (0 ≤ k ∧ k < (s.size : Int)), true), (decide (((byteAt s k).toNat : Int) ≥ 48), true), (decide (((byteAt s k).toNat : Int) ≤ 57), true), (k == 9, true)],
     some (.ret (.tu [.d (.p (.int .u64 0)), .d (.p (.string ⟨#[]⟩)), .ff]) [])) := by kernel_rfl
theorem num_next (s : ByteArray) (n k : Int) : goF Tryz.prog LO 1000 [true, true, true, false] [0, 5, 6] (numHead s n k) =
    ([(decide (k < (s.size : Int)), true), (decide (0 ≤ k ∧ k < (s.size : Int)), true), (decide (((byteAt s k).toNat : Int) ≥ 48), true), (decide (((byteAt s k).toNat : Int) ≤ 57), true), (k == 9, false), (decide (0 ≤ k ∧ k < (s.size : Int)), true)],
     some (numHead s (nextN s n k) (IntKind.i64.wrap (k + 1)))) := by kernel_rfl

theorem sliceOK_of (s : ByteArray) (i : Nat) (h : i ≤ s.size) : sliceOK s i = true := by simp [sliceOK]; omega
theorem sliceR_of (s : ByteArray) (i : Nat) : sliceR s i = s.extract i s.size := by simp [sliceR]

theorem num_loop (s : ByteArray) : ∀ (j i : Nat) (n k : Int), i + j = dl s.data.toList → i ≤ 9 → n = (dval (s.data.toList.take i) : Int) → k = i → Wp Tryz.prog (Ends (numA s)) (numHead s n k) := by
  have hsz := size_len s
  intro j
  induction j with
  | zero =>
    intro i n k hij h9 hn hk
    subst hn; subst hk
    have hi : i = dl s.data.toList := by omega
    have hle := dl_le s.data.toList
    have hfin : FrzA [] (.tu [.d (.p (.int .u64 (dval (s.data.toList.take i) : Int))), .d (.p (.string (sliceR s i))), .d (.p (.bool (decide ((i : Int) > 0))))]) (numA s) := by
      have e1 : numN s = (dval (s.data.toList.take i) : Int) := by unfold numN; rw [← hi, if_pos h9]
      have e2 : numR s = sliceR s i := by unfold numR; rw [← hi, if_pos h9, sliceR_of]
      have e3 : numB s = decide ((i : Int) > 0) := by unfold numB; rw [← hi]; congr 1; simp; omega
      unfold numA
      rw [e1, e2, e3]
      exact frz_tu3 (frz_dp _ _) (frz_dp _ _) (frz_dp _ _)
    by_cases hlt : i < s.size
    · obtain ⟨b, hb, hnd⟩ := nodig_at (l := s.data.toList) (by omega)
      rw [← hi] at hb
      have hbv : byteAt s i = b := data_get (i := i) (by simpa using hb)
      by_cases h48 : 48 ≤ b.toNat
      · have h57 : ¬ b.toNat ≤ 57 := by simp [isDig, h48] at hnd; omega
        refine wayF LO_ok 1000 _ _ (num_hi s _ _) ⟨?_, ?_, ?_, ?_, sliceOK_of s i (by omega), trivial⟩ (ends_ret hfin)
        · simp; omega
        · simp; omega
        · rw [hbv]; simp; omega
        · rw [hbv]; simp; omega
      · refine wayF LO_ok 1000 _ _ (num_lo s _ _) ⟨?_, ?_, ?_, sliceOK_of s i (by omega), trivial⟩ (ends_ret hfin)
        · simp; omega
        · simp; omega
        · rw [hbv]; simp; omega
    · refine wayF LO_ok 1000 _ _ (num_end s _ _) ⟨?_, sliceOK_of s i (by omega), trivial⟩ (ends_ret hfin)
      simp; omega
  | succ j ih =>
    intro i n k hij h9 hn hk
    subst hn; subst hk
    have hle := dl_le s.data.toList
    obtain ⟨b, hb, hd⟩ := dig_at (l := s.data.toList) (i := i) (by omega)
    have hbv : byteAt s i = b := data_get (i := i) (by simpa using hb)
    have hd' : 48 ≤ b.toNat ∧ b.toNat ≤ 57 := by simpa [isDig] using hd
    by_cases h : i = 9
    · refine wayF LO_ok 1000 _ _ (num_many s _ _) ⟨?_, ?_, ?_, ?_, ?_, trivial⟩ (ends_ret ?_)
      · simp; omega
      · simp; omega
      · rw [hbv]; simp; omega
      · rw [hbv]; simp; omega
      · simp; omega
      · have hgt : ¬ dl s.data.toList ≤ 9 := by omega
        have e3 : numB s = false := by unfold numB; simp; omega
        unfold numA numN numR
        rw [if_neg hgt, if_neg hgt, e3]
        exact frz_tu3 (frz_dp _ _) (frz_dp _ _) (frz_ff _)
    · refine wayF LO_ok 1000 _ _ (num_next s _ _) ⟨?_, ?_, ?_, ?_, ?_, ?_, trivial⟩ (ih (i + 1) _ _ (by omega) (by omega) ?_ ?_)
      · simp; omega
      · simp; omega
      · rw [hbv]; simp; omega
      · rw [hbv]; simp; omega
      · simp; omega
      · simp; omega
      · have hlt := dval_lt (l := s.data.toList) (i := i) (by omega)
        have hpow : 10 ^ i ≤ 10 ^ 9 := Nat.pow_le_pow_right (by omega) h9
        have h10 : (10 : Nat) ^ 9 = 1000000000 := by decide
        show nextN s _ _ = _
        unfold nextN
        rw [hbv, take_succ hb, dval_snoc, wrapu8_small (by omega) (by omega), wrapu64_small (x := 10 * (dval (s.data.toList.take i) : Int)) (by omega) (by omega), wrapu64_small (x := (b.toNat : Int) - 48) (by omega) (by omega), wrapu64_small (by omega) (by omega)]
        omega
      · rw [wrap64_small (by omega) (by omega)]; omega

theorem num_ctr (s : ByteArray) (H : AHeap) : CtrOK Tryz.prog 22 [.d (.p (.string s))] H (.pure (numA s)) :=
  pure_ctr (by kernel_rfl) rfl (wayF LO_ok 1000 _ _ (num_start s) trivial (num_loop s (dl s.data.toList) 0 0 0 (by omega) (by omega) rfl rfl)) H

def ans22 : List AV → Option CRes
  | [.d (.p (.string s))] => some (.pure (numA s))
  | _ => none
theorem ok22 : OracleOK Tryz.prog (fnO 22 ans22) := fnO_ok fun args r h H => by
  unfold ans22 at h
  split at h
  · cases h; exact num_ctr _ H
  · cases h

end Go.Eng

/- Law 12: strings.IndexFunc with the predicate of conf.unit, and strconv.ParseUint. -/
set_option linter.unusedVariables false
set_option linter.unusedSimpArgs false
set_option linter.unnecessarySimpa false
set_option maxRecDepth 100000
namespace Go.Eng
open Go Go.Proofs

theorem get_byte {s : ByteArray} {i : Nat} (h : i < s.size) : s.get! i = (s.data[i]?).getD 0 := by
  have h' : i < s.data.size := h
  show s.data[i]! = _
  rw [getElem!_pos _ i h', Array.getElem?_eq_getElem h']
  rfl

theorem decode_ascii {s : ByteArray} {i : Nat} {b : UInt8} (hi : i < s.size) (hb : (s.data[i]?).getD 0 = b) (h : b.toNat < 128) : Utf8.decode s i = (b.toNat, 1) := by
  unfold Utf8.decode
  simp only [Nat.add_zero, get_byte hi, hb]
  rw [if_pos h]

theorem decode_high {s : ByteArray} {i : Nat} {b : UInt8} (hi : i < s.size) (hb : (s.data[i]?).getD 0 = b) (h : ¬ b.toNat < 128) : 128 ≤ (Utf8.decode s i).1 := by
  unfold Utf8.decode
  simp only [Nat.add_zero, get_byte hi, hb]
  rw [if_neg h]
  have he : Utf8.runeError = 65533 := rfl
  repeat' split
  all_goals simp only [he, Bool.and_eq_true, decide_eq_true_eq] at *
  all_goals omega

def ndI (l : List UInt8) : Int := if dl l < l.length then (dl l : Int) else -1
def ixA (s : ByteArray) : AV := .d (.p (.int .i64 (ndI s.data.toList)))

noncomputable def ixT : List AItem := todoOf (goP Tryz.prog LO 1000 [] (.run [enterA Tryz.prog 58 [.d (.p (.string ⟨#[]⟩)), .d (.p (.func (.func 34) #[] #[])), .tt] .normal] [])).2
noncomputable def ixHead (s : ByteArray) (pos : Nat) : AM :=
  .run [{ fn := 58, tmps := [.d (.p (.string s)), .d (.p (.func (.func 34) #[] #[])), .tt, .any, .any, .any, .any, .any, .any, .any, .mp 0 0] ++ List.replicate 10 .any, todo := ixT, defers := [], mode := .run, kind := .normal, round := none }] [.siter s pos]
abbrev runeAt (s : ByteArray) (pos : Nat) : Int := ((Utf8.decode s pos).1 : Int)

theorem ix_start (s : ByteArray) : goF Tryz.prog LO 1000 [] [0, 1, 2, 10] (.run [enterA Tryz.prog 58 [.d (.p (.string s)), .d (.p (.func (.func 34) #[] #[])), .tt] .normal] []) = ([], some (ixHead s 0)) := by kernel_rfl
theorem ix_none (s : ByteArray) (pos : Nat) : goF Tryz.prog LO 1000 [false] [0, 1, 2, 10] (ixHead s pos) = ([(decide (pos < s.size), false)], some (.ret (.d (.p (.int .i64 (-1)))) [.siter s pos])) := by kernel_rfl
theorem ix_lo (s : ByteArray) (pos : Nat) : goF Tryz.prog LO 1000 [true, true, true] [0, 1, 2, 10] (ixHead s pos) =
    ([(decide (pos < s.size), true), (decide (runeAt s pos < 48), true), (true == true, true)], some (.ret (.d (.p (.int .i64 (pos : Int)))) [.siter s (pos + (Utf8.decode s pos).2)])) := by kernel_rfl
theorem ix_hi (s : ByteArray) (pos : Nat) : goF Tryz.prog LO 1000 [true, false, true] [0, 1, 2, 10] (ixHead s pos) =
    ([(decide (pos < s.size), true), (decide (runeAt s pos < 48), false), (decide (runeAt s pos > 57) == true, true)], some (.ret (.d (.p (.int .i64 (pos : Int)))) [.siter s (pos + (Utf8.decode s pos).2)])) := by kernel_rfl
theorem ix_next (s : ByteArray) (pos : Nat) : goF Tryz.prog LO 1000 [true, false, false] [0, 1, 2, 10] (ixHead s pos) =
    ([(decide (pos < s.size), true), (decide (runeAt s pos < 48), false), (decide (runeAt s pos > 57) == true, false)], some (ixHead s (pos + (Utf8.decode s pos).2))) := by kernel_rfl

theorem ix_loop (s : ByteArray) : ∀ (j i : Nat), i + j = dl s.data.toList → Wp Tryz.prog (Ends (ixA s)) (ixHead s i) := by
  have hsz := size_len s
  intro j
  induction j with
  | zero =>
    intro i hij
    have hi : i = dl s.data.toList := by omega
    have hle := dl_le s.data.toList
    by_cases hlt : i < s.size
    · obtain ⟨b, hb, hnd⟩ := nodig_at (l := s.data.toList) (by omega)
      rw [← hi] at hb
      have hbv := data_get hb
      have hans : ixA s = .d (.p (.int .i64 (i : Int))) := by unfold ixA ndI; rw [if_pos (by omega), ← hi]
      have hr : runeAt s i < 48 ∨ (¬ runeAt s i < 48 ∧ runeAt s i > 57) := by
        by_cases h : b.toNat < 128
        · have := decode_ascii hlt hbv h
          simp only [runeAt, this]
          simp [isDig] at hnd
          omega
        · have := decode_high hlt hbv h
          simp only [runeAt]
          omega
      rcases hr with h | ⟨h1, h2⟩
      · refine wayF LO_ok 1000 _ _ (ix_lo s i) ⟨?_, ?_, rfl, trivial⟩ (ends_ret (by rw [hans]; exact frz_dp _ _))
        · simpa using hlt
        · simpa using h
      · refine wayF LO_ok 1000 _ _ (ix_hi s i) ⟨?_, ?_, ?_, trivial⟩ (ends_ret (by rw [hans]; exact frz_dp _ _))
        · simpa using hlt
        · simpa using h1
        · simpa using h2
    · have hans : ixA s = .d (.p (.int .i64 (-1))) := by unfold ixA ndI; rw [if_neg (by omega)]
      refine wayF LO_ok 1000 _ _ (ix_none s i) ⟨?_, trivial⟩ (ends_ret (by rw [hans]; exact frz_dp _ _))
      simpa using hlt
  | succ j ih =>
    intro i hij
    have hle := dl_le s.data.toList
    obtain ⟨b, hb, hd⟩ := dig_at (l := s.data.toList) (i := i) (by omega)
    have hbv := data_get hb
    have hd' : 48 ≤ b.toNat ∧ b.toNat ≤ 57 := by simpa [isDig] using hd
    have hlt : i < s.size := by omega
    have hdec := decode_ascii hlt hbv (by omega)
    refine wayF LO_ok 1000 _ _ (ix_next s i) ⟨?_, ?_, ?_, trivial⟩ (by rw [hdec]; exact ih (i + 1) (by omega))
    · simpa using hlt
    · simp only [runeAt, hdec]; simp; omega
    · simp only [runeAt, hdec]; simp; omega

def ans58 : List AV → Option CRes
  | [.d (.p (.string s)), .d (.p (.func (.func 34) ⟨[]⟩ ⟨[]⟩)), .tt] => some (.pure (ixA s))
  | _ => none
theorem ok58 : OracleOK Tryz.prog (fnO 58 ans58) := fnO_ok fun args r h H => by
  unfold ans58 at h
  split at h
  · rename_i s
    cases h
    exact pure_ctr (by kernel_rfl) rfl (wayF LO_ok 1000 _ _ (ix_start s) trivial (ix_loop s (dl s.data.toList) 0 (by omega))) H
  · cases h

noncomputable def O58 : Oracle := orO (fnO 58 ans58) LO
theorem O58_ok : OracleOK Tryz.prog O58 := orO_ok ok58 LO_ok
theorem ix33_run (s : ByteArray) : goF Tryz.prog O58 1000 [] [] (.run [enterA Tryz.prog 33 [.d (.p (.string s)), .d (.p (.func (.func 34) #[] #[]))] .normal] []) = ([], some (.ret (ixA s) [])) := by kernel_rfl
def ans33 : List AV → Option CRes
  | [.d (.p (.string s)), .d (.p (.func (.func 34) ⟨[]⟩ ⟨[]⟩))] => some (.pure (ixA s))
  | _ => none
theorem ok33 : OracleOK Tryz.prog (fnO 33 ans33) := fnO_ok fun args r h H => by
  unfold ans33 at h
  split at h
  · rename_i s
    cases h
    exact pure_ctr (by kernel_rfl) rfl (wayF O58_ok 1000 _ _ (ix33_run s) trivial (ends_ret (frz_dp _ _))) H
  · cases h

end Go.Eng

/- Law 12: strconv.ParseUint, by the library's contract. -/
set_option linter.unusedVariables false
set_option linter.unusedSimpArgs false
set_option linter.unnecessarySimpa false
set_option maxRecDepth 100000
namespace Go.Eng
open Go Go.Proofs

def puOK (s : ByteArray) : Bool := match Lib.parseUintB 64 s.data.toList with
  | .ok _ => true
  | _ => false
def puV (s : ByteArray) : Int := match Lib.parseUintB 64 s.data.toList with
  | .ok u => (u : Int)
  | _ => 0
def ans35 : List AV → Option CRes
  | [.d (.p (.string s)), .d (.p (.int .i64 a)), .d (.p (.int .i64 b))] => if a = 10 ∧ b = 64 then
      some (.need (decide (s.size ≤ 281474976710656)) (.br (puOK s) (.pure (.tu [.d (.p (.int .u64 (puV s))), .d (.p .nilIface)])) (.pure (.tu [.any, .ifc 131 .any])))) else none
  | _ => none

theorem rep_tu2 {g : Gh} {a b : AV} {x y : Value} (h1 : ARep g a x) (h2 : ARep g b y) : ARep g (.tu [a, b]) (.tuple #[x, y]) := by
  have := RepL.cons h1 (RepL.one h2)
  exact .tu _ _ this.1 this.2

theorem ok35 : OracleOK Tryz.prog (fnO 35 ans35) := fnO_ok fun args r h H => by
  unfold ans35 at h
  split at h
  rotate_left
  · cases h
  rename_i s a b
  split at h
  rotate_left
  · cases h
  rename_i hab
  obtain ⟨rfl, rfl⟩ := hab
  cases h
  intro hsz
  have hsz : s.size ≤ 281474976710656 := by simpa using hsz
  refine ⟨fun hok => ?_, fun hok => ?_⟩
  · refine below_ctr (vs := [.string s, .int .i64 10, .int .i64 64]) (by kernel_rfl) rfl (fun w _ => ?_) H
    unfold puOK at hok
    split at hok
    · rename_i u hu
      have hv : puV s = (u : Int) := by unfold puV; rw [hu]
      refine (Tryz.strconv_ParseUint_10_at64_ok s (by omega) u hu w).mono ?_
      rintro e w' ⟨rfl, hw⟩
      refine ⟨_, rfl, fun g => rep_tu2 (by rw [hv]; exact .d _ _ (.p _)) (.d _ _ (.p _)), ?_⟩
      rcases hw with rfl | rfl
      · exact RowKit.Below.refl _ _
      · exact Lib.bytesWorld_below _ _ _
    · cases hok
  · refine below_ctr (vs := [.string s, .int .i64 10, .int .i64 64]) (by kernel_rfl) rfl (fun w hw => ?_) H
    unfold puOK at hok
    rcases hp : Lib.parseUintB 64 s.data.toList with u | _ | _
    · rw [hp] at hok; cases hok
    · obtain ⟨ev, hv, hev⟩ := hw.2 0 (by simp [GE])
      refine (Tryz.strconv_ParseUint_10_at64_syntax s hsz ⟨fun u e => by rw [hp] at e; (cases e), fun e => by rw [hp] at e; (cases e)⟩ ev w hv hev).mono ?_
      rintro e w' ⟨N, rfl, _, _, hb⟩
      exact ⟨_, rfl, fun g => rep_tu2 (.any _) (.ifc _ _ _ (.any _)), hb⟩
    · obtain ⟨ev, hv, hev⟩ := hw.2 1 (by simp [GE])
      refine (Tryz.strconv_ParseUint_10_at64_range s hsz hp ev w hv hev).mono ?_
      rintro e w' ⟨N, rfl, _, _, hb⟩
      exact ⟨_, rfl, fun g => rep_tu2 (.any _) (.ifc _ _ _ (.any _)), hb⟩

noncomputable def OU : Oracle := orO (fnO 33 ans33) (orO (fnO 35 ans35) LO)
theorem OU_ok : OracleOK Tryz.prog OU := orO_ok ok33 (orO_ok ok35 LO_ok)

theorem pu_digits : ∀ (l : List UInt8) (acc : Nat), (∀ b ∈ l, isDig b = true) → acc < 10 ^ (10 - l.length) → l.length ≤ 10 → Lib.parseUintM (2 ^ 64 - 1) acc l = .ok (l.foldl (fun n b => 10 * n + (b.toNat - 48)) acc)
  | [], acc, _, _, _ => rfl
  | c :: r, acc, h, ha, hl => by
    have hc : 48 ≤ c.toNat ∧ c.toNat ≤ 57 := by simpa [isDig] using h c (by simp)
    rw [List.length_cons] at ha hl
    have hp : (10 : Nat) ^ (10 - r.length) = 10 * 10 ^ (10 - (r.length + 1)) := by
      rw [show 10 - r.length = (10 - (r.length + 1)) + 1 by omega, Nat.pow_succ]; omega
    have hle : 10 ^ (10 - (r.length + 1)) ≤ 10 ^ 9 := Nat.pow_le_pow_right (by omega) (by omega)
    have h9 : (10 : Nat) ^ 9 = 1000000000 := by decide
    rw [Lib.parseUintM, if_pos hc, if_neg (by omega), if_neg (by have : (2 : Nat) ^ 64 - 1 = 18446744073709551615 := by decide
                                                                 omega)]
    rw [show acc * 10 + (c.toNat - 48) = 10 * acc + (c.toNat - 48) by omega]
    rw [pu_digits r (10 * acc + (c.toNat - 48)) (fun b hb => h b (by simp [hb])) (by omega) (by omega)]
    rfl

end Go.Eng

/- Law 12: numbers with units: both packages' answers. -/
set_option linter.unusedVariables false
set_option linter.unusedSimpArgs false
set_option linter.unnecessarySimpa false
set_option maxRecDepth 100000
namespace Go.Eng
open Go Go.Proofs

abbrev Tab := List (ByteArray × Int)
def unitN (tab : Tab) (s : ByteArray) : Int :=
  if 1 ≤ dl s.data.toList ∧ dl s.data.toList ≤ 9 then (dval (s.data.toList.take (dl s.data.toList)) : Int) * lookS (s.extract (dl s.data.toList) s.size) tab else 0
def unitE (tab : Tab) (s : ByteArray) : Int :=
  if 1 ≤ dl s.data.toList ∧ dl s.data.toList ≤ 9 ∧ lookS (s.extract (dl s.data.toList) s.size) tab ≠ 0 then 0 else 15
def unitA (tab : Tab) (s : ByteArray) : AV := .tu [.d (.p (.int .u64 (unitN tab s))), .d (.p (.int .i64 (unitE tab s)))]

def tabM : Tab := [(⟨#[109, 115]⟩, 1), (⟨#[115]⟩, 1000), (⟨#[109]⟩, 60000), (⟨#[104]⟩, 3600000)]
def tabB : Tab := [(⟨#[]⟩, 1), (⟨#[66]⟩, 1), (⟨#[75, 105, 66]⟩, 1024), (⟨#[77, 105, 66]⟩, 1048576), (⟨#[71, 105, 66]⟩, 1073741824)]
abbrev setM : Tab := setS ⟨#[104]⟩ 3600000 (setS ⟨#[109]⟩ 60000 (setS ⟨#[115]⟩ 1000 (setS ⟨#[109, 115]⟩ 1 [])))
abbrev setB : Tab := setS ⟨#[71, 105, 66]⟩ 1073741824 (setS ⟨#[77, 105, 66]⟩ 1048576 (setS ⟨#[75, 105, 66]⟩ 1024 (setS ⟨#[66]⟩ 1 (setS ⟨#[]⟩ 1 []))))
theorem setM_eq : setM = tabM := by kernel_rfl
theorem setB_eq : setB = tabB := by kernel_rfl

theorem look_bd {M : Int} (s : ByteArray) (hM : 0 ≤ M) : ∀ (tab : Tab), (∀ e ∈ tab, 0 ≤ e.2 ∧ e.2 ≤ M) → 0 ≤ lookS s tab ∧ lookS s tab ≤ M
  | [], _ => ⟨Int.le_refl _, hM⟩
  | (k, n) :: es, h => by
    rw [lookS]
    split
    · exact h (k, n) (by simp)
    · exact look_bd s hM es fun e he => h e (by simp [he])
theorem tabM_bd : ∀ e ∈ tabM, 0 ≤ e.2 ∧ e.2 ≤ 1073741824 := by simp [tabM]
theorem tabB_bd : ∀ e ∈ tabB, 0 ≤ e.2 ∧ e.2 ≤ 1073741824 := by simp [tabB]

/- what conf.unit reckons -/
abbrev tX (s : ByteArray) : ByteArray := s ++ ⟨#[120]⟩
abbrev uI (s : ByteArray) : Int := ndI (tX s).data.toList
abbrev sumOK (s : ByteArray) : Bool := decide (s.size + ByteArray.size ⟨#[120]⟩ ≤ 9223372036854775807)
abbrev preOK (s : ByteArray) (k : Int) : Bool := decide (0 ≤ Option.getD (none : Option Int) 0 ∧ Option.getD (none : Option Int) 0 ≤ Option.getD (some k) (s.size : Int) ∧ Option.getD (some k) (s.size : Int) ≤ (s.size : Int))
abbrev preR (s : ByteArray) (k : Int) : ByteArray := ByteArray.extract s (Int.toNat (Option.getD (none : Option Int) 0)) (Int.toNat (Option.getD (some k) (s.size : Int)))
abbrev bigOK (s : ByteArray) : Bool := decide (s.size ≤ 281474976710656)
noncomputable abbrev start (f : FuncId) (s : ByteArray) : AM := .run [enterA Tryz.prog f [.d (.p (.string s))] .normal] []
abbrev bad : AV := .tu [.d (.p (.int .u64 0)), .d (.p (.int .i64 15))]

theorem m_no (s : ByteArray) : goF Tryz.prog OU 1000 [false] [] (start 10 s) = ([(sumOK s, true), (sliceOK s (uI s), true), (preOK s (uI s), true), (bigOK (preR s (uI s)), true), (puOK (preR s (uI s)), false)], some (.ret bad [.mapS .u64 setM])) := by kernel_rfl
theorem m_many (s : ByteArray) : goF Tryz.prog OU 1000 [true, false, true] [] (start 10 s) = ([(sumOK s, true), (sliceOK s (uI s), true), (preOK s (uI s), true), (bigOK (preR s (uI s)), true), (puOK (preR s (uI s)), true), (!true, false), (decide (uI s > 9), true)],
  some (.ret bad [.mapS .u64 setM])) := by kernel_rfl
theorem m_unit (s : ByteArray) : goF Tryz.prog OU 1000 [true, false, false, true] [] (start 10 s) = ([(sumOK s, true), (sliceOK s (uI s), true), (preOK s (uI s), true), (bigOK (preR s (uI s)), true), (puOK (preR s (uI s)), true), (!true, false), (decide (uI s > 9), false), (lookS (sliceR s (uI s)) setM == 0, true)],
  some (.ret bad [.mapS .u64 setM])) := by kernel_rfl
theorem m_ok (s : ByteArray) : goF Tryz.prog OU 1000 [true, false, false, false] [] (start 10 s) = ([(sumOK s, true), (sliceOK s (uI s), true), (preOK s (uI s), true), (bigOK (preR s (uI s)), true), (puOK (preR s (uI s)), true), (!true, false), (decide (uI s > 9), false), (lookS (sliceR s (uI s)) setM == 0, false)],
  some (.ret (.tu [.d (.p (.int .u64 (IntKind.u64.wrap (puV (preR s (uI s)) * lookS (sliceR s (uI s)) setM)))), .d (.p (.int .i64 0))]) [.mapS .u64 setM])) := by kernel_rfl
theorem b_no (s : ByteArray) : goF Tryz.prog OU 1000 [false] [] (start 12 s) = ([(sumOK s, true), (sliceOK s (uI s), true), (preOK s (uI s), true), (bigOK (preR s (uI s)), true), (puOK (preR s (uI s)), false)], some (.ret bad [.mapS .u64 setB])) := by kernel_rfl
theorem b_many (s : ByteArray) : goF Tryz.prog OU 1000 [true, false, true] [] (start 12 s) = ([(sumOK s, true), (sliceOK s (uI s), true), (preOK s (uI s), true), (bigOK (preR s (uI s)), true), (puOK (preR s (uI s)), true), (!true, false), (decide (uI s > 9), true)],
  some (.ret bad [.mapS .u64 setB])) := by kernel_rfl
theorem b_unit (s : ByteArray) : goF Tryz.prog OU 1000 [true, false, false, true] [] (start 12 s) = ([(sumOK s, true), (sliceOK s (uI s), true), (preOK s (uI s), true), (bigOK (preR s (uI s)), true), (puOK (preR s (uI s)), true), (!true, false), (decide (uI s > 9), false), (lookS (sliceR s (uI s)) setB == 0, true)],
  some (.ret bad [.mapS .u64 setB])) := by kernel_rfl
theorem b_ok (s : ByteArray) : goF Tryz.prog OU 1000 [true, false, false, false] [] (start 12 s) = ([(sumOK s, true), (sliceOK s (uI s), true), (preOK s (uI s), true), (bigOK (preR s (uI s)), true), (puOK (preR s (uI s)), true), (!true, false), (decide (uI s > 9), false), (lookS (sliceR s (uI s)) setB == 0, false)],
  some (.ret (.tu [.d (.p (.int .u64 (IntKind.u64.wrap (puV (preR s (uI s)) * lookS (sliceR s (uI s)) setB)))), .d (.p (.int .i64 0))]) [.mapS .u64 setB])) := by kernel_rfl

theorem dl_x (l : List UInt8) : dl (l ++ [120]) = dl l ∧ dl (l ++ [120]) < (l ++ [120]).length := by
  have h : dl (l ++ [120]) = dl l := by
    unfold dl
    induction l with
    | nil => decide
    | cons a l ih =>
      rw [List.cons_append, List.takeWhile_cons, List.takeWhile_cons]
      split
      · simp [ih]
      · rfl
  refine ⟨h, ?_⟩
  have := dl_le l
  rw [h]; simp; omega

theorem uI_eq (s : ByteArray) : uI s = (dl s.data.toList : Int) := by
  have e : (tX s).data.toList = s.data.toList ++ [120] := by simp [tX, ByteArray.data_append]
  obtain ⟨h1, h2⟩ := dl_x s.data.toList
  unfold uI ndI
  rw [e, if_pos h2, h1]

theorem preR_eq (s : ByteArray) : (preR s (uI s)).data.toList = s.data.toList.take (dl s.data.toList) := by
  rw [uI_eq]
  simp [preR, ByteArray.data_extract]

theorem take_dig {l : List UInt8} : ∀ b ∈ l.take (dl l), isDig b = true := by
  intro b hb
  obtain ⟨i, hi⟩ := List.mem_iff_getElem?.1 hb
  rw [List.getElem?_take] at hi
  split at hi
  · rename_i h
    obtain ⟨c, hc, hd⟩ := dig_at h
    rw [hi] at hc; cases hc; exact hd
  · cases hi

theorem pu_take (s : ByteArray) (h1 : 1 ≤ dl s.data.toList) (h9 : dl s.data.toList ≤ 9) : Lib.parseUintB 64 (preR s (uI s)).data.toList = .ok (dval (s.data.toList.take (dl s.data.toList))) := by
  have hle := dl_le s.data.toList
  rw [preR_eq]
  have hne : s.data.toList.take (dl s.data.toList) ≠ [] := by
    intro e
    have := congrArg List.length e
    rw [List.length_take] at this
    simp only [List.length_nil] at this
    omega
  rw [Lib.parseUintB, if_neg hne, pu_digits _ _ take_dig (Nat.pow_pos (by omega)) (by rw [List.length_take]; omega)]
  rfl

theorem unit_ctr {f : FuncId} {tab set : Tab} (hset : set = tab) (hb : hasBody Tryz.prog f = true) (hbd : ∀ e ∈ tab, 0 ≤ e.2 ∧ e.2 ≤ 1073741824) (s : ByteArray) (hs : s.size ≤ 281474976710656)
    (hno : goF Tryz.prog OU 1000 [false] [] (start f s) = ([(sumOK s, true), (sliceOK s (uI s), true), (preOK s (uI s), true), (bigOK (preR s (uI s)), true), (puOK (preR s (uI s)), false)], some (.ret bad [.mapS .u64 set])))
    (hmany : goF Tryz.prog OU 1000 [true, false, true] [] (start f s) = ([(sumOK s, true), (sliceOK s (uI s), true), (preOK s (uI s), true), (bigOK (preR s (uI s)), true), (puOK (preR s (uI s)), true), (!true, false), (decide (uI s > 9), true)], some (.ret bad [.mapS .u64 set])))
    (hunit : goF Tryz.prog OU 1000 [true, false, false, true] [] (start f s) = ([(sumOK s, true), (sliceOK s (uI s), true), (preOK s (uI s), true), (bigOK (preR s (uI s)), true), (puOK (preR s (uI s)), true), (!true, false), (decide (uI s > 9), false), (lookS (sliceR s (uI s)) set == 0, true)],
      some (.ret bad [.mapS .u64 set])))
    (hok : goF Tryz.prog OU 1000 [true, false, false, false] [] (start f s) = ([(sumOK s, true), (sliceOK s (uI s), true), (preOK s (uI s), true), (bigOK (preR s (uI s)), true), (puOK (preR s (uI s)), true), (!true, false), (decide (uI s > 9), false), (lookS (sliceR s (uI s)) set == 0, false)],
      some (.ret (.tu [.d (.p (.int .u64 (IntKind.u64.wrap (puV (preR s (uI s)) * lookS (sliceR s (uI s)) set)))), .d (.p (.int .i64 0))]) [.mapS .u64 set])))
    (H : AHeap) : CtrOK Tryz.prog f [.d (.p (.string s))] H (.pure (unitA tab s)) := by
  subst hset
  refine pure_ctr hb rfl ?_ H
  have hle := dl_le s.data.toList
  have hsz := size_len s
  have h1 : sumOK s = true := by
    have : ByteArray.size ⟨#[120]⟩ = 1 := rfl
    simp [sumOK, this]; omega
  have h2 : sliceOK s (uI s) = true := by rw [uI_eq]; exact sliceOK_of s _ (by omega)
  have h3 : preOK s (uI s) = true := by rw [uI_eq]; simp [preOK]; omega
  have h4 : bigOK (preR s (uI s)) = true := by
    have := congrArg List.length (preR_eq s)
    rw [← size_len, List.length_take] at this
    simp [bigOK]; omega
  have h5 : sliceR s (uI s) = s.extract (dl s.data.toList) s.size := by rw [uI_eq, sliceR_of]
  have hbad : (¬ (1 ≤ dl s.data.toList ∧ dl s.data.toList ≤ 9) ∨ lookS (s.extract (dl s.data.toList) s.size) set = 0) → bad = unitA set s := by
    intro h
    unfold unitA unitN unitE
    rcases h with h | h
    · rw [if_neg h, if_neg (fun x => h ⟨x.1, x.2.1⟩)]
    · rw [h]; simp
  cases hp : puOK (preR s (uI s)) with
  | false =>
    refine wayF OU_ok 1000 _ _ hno ⟨h1, h2, h3, h4, hp, trivial⟩ (ends_ret ?_)
    rw [← hbad (.inl fun ⟨a, b⟩ => by
      unfold puOK at hp
      rw [pu_take s a b] at hp
      cases hp)]
    exact frz_tu2 (frz_dp _ _) (frz_dp _ _)
  | true =>
    by_cases h9 : dl s.data.toList ≤ 9
    · have hd1 : 1 ≤ dl s.data.toList := by
        rcases Nat.eq_zero_or_pos (dl s.data.toList) with e | e
        · exfalso
          unfold puOK at hp
          rw [preR_eq, e] at hp
          simp [Lib.parseUintB] at hp
        · exact e
      have hv : puV (preR s (uI s)) = (dval (s.data.toList.take (dl s.data.toList)) : Int) := by
        unfold puV; rw [pu_take s hd1 h9]
      by_cases hl : lookS (s.extract (dl s.data.toList) s.size) set = 0
      · refine wayF OU_ok 1000 _ _ hunit ⟨h1, h2, h3, h4, hp, rfl, ?_, ?_, trivial⟩ (ends_ret ?_)
        · rw [uI_eq]; simp; omega
        · rw [h5, hl]; rfl
        · rw [← hbad (.inr hl)]
          exact frz_tu2 (frz_dp _ _) (frz_dp _ _)
      · refine wayF OU_ok 1000 _ _ hok ⟨h1, h2, h3, h4, hp, rfl, ?_, ?_, trivial⟩ (ends_ret ?_)
        · rw [uI_eq]; simp; omega
        · rw [h5]; simpa using hl
        · have hlt := dval_lt (l := s.data.toList) (Nat.le_refl _)
          have hpow : 10 ^ (dl s.data.toList) ≤ 10 ^ 9 := Nat.pow_le_pow_right (by omega) h9
          have h10 : (10 : Nat) ^ 9 = 1000000000 := by decide
          obtain ⟨l0, l1⟩ := look_bd (s.extract (dl s.data.toList) s.size) (by omega) set hbd
          have hmul : (dval (s.data.toList.take (dl s.data.toList)) : Int) * lookS (s.extract (dl s.data.toList) s.size) set ≤ 1000000000 * 1073741824 :=
            Int.mul_le_mul (by omega) l1 l0 (by omega)
          have hmul0 : 0 ≤ (dval (s.data.toList.take (dl s.data.toList)) : Int) * lookS (s.extract (dl s.data.toList) s.size) set := Int.mul_nonneg (by omega) l0
          rw [h5, hv, wrapu64_small hmul0 (by omega)]
          unfold unitA unitN unitE
          rw [if_pos ⟨hd1, h9⟩, if_pos ⟨hd1, h9, hl⟩]
          exact frz_tu2 (frz_dp _ _) (frz_dp _ _)
    · refine wayF OU_ok 1000 _ _ hmany ⟨h1, h2, h3, h4, hp, rfl, ?_, trivial⟩ (ends_ret ?_)
      · rw [uI_eq]; simp; omega
      · rw [← hbad (.inl fun x => h9 x.2)]
        exact frz_tu2 (frz_dp _ _) (frz_dp _ _)

def ansU (tab : Tab) : List AV → Option CRes
  | [.d (.p (.string s))] => some (.need (decide (s.size ≤ 281474976710656)) (.pure (unitA tab s)))
  | _ => none
theorem ok10 : OracleOK Tryz.prog (fnO 10 (ansU tabM)) := fnO_ok fun args r h H => by
  unfold ansU at h
  split at h
  · rename_i s
    cases h
    intro hs
    exact unit_ctr setM_eq (by kernel_rfl) tabM_bd s (by simpa using hs) (m_no s) (m_many s) (m_unit s) (m_ok s) H
  · cases h
theorem ok12 : OracleOK Tryz.prog (fnO 12 (ansU tabB)) := fnO_ok fun args r h H => by
  unfold ansU at h
  split at h
  · rename_i s
    cases h
    intro hs
    exact unit_ctr setB_eq (by kernel_rfl) tabB_bd s (by simpa using hs) (b_no s) (b_many s) (b_unit s) (b_ok s) H
  · cases h

end Go.Eng

/- Law 12: the reference's Millis and Bytes; ConfNumbers' run. -/
set_option linter.unusedVariables false
set_option linter.unusedSimpArgs false
set_option linter.unnecessarySimpa false
set_option maxRecDepth 100000
namespace Go.Eng
open Go Go.Proofs

noncomputable def OR : Oracle := orO (fnO 22 ans22) LO
theorem OR_ok : OracleOK Tryz.prog OR := orO_ok ok22 LO_ok

abbrev isT (a b : ByteArray) : Bool := a.toList == b.toList
abbrev mulA (k n : Int) : AV := .tu [.d (.p (.int .u64 (IntKind.u64.wrap (k * n)))), .d (.p (.int .i64 0))]
abbrev oneA' (n : Int) : AV := .tu [.d (.p (.int .u64 n)), .d (.p (.int .i64 0))]

theorem rm0 (s : ByteArray) : goF Tryz.prog OR 1000 [false] [] (start 11 s) = ([(numB s, false)], some (.ret bad [])) := by kernel_rfl
theorem rm1 (s : ByteArray) : goF Tryz.prog OR 1000 [true, true] [] (start 11 s) = ([(numB s, true), (isT (numR s) ⟨#[109, 115]⟩, true)], some (.ret (oneA' (numN s)) [])) := by kernel_rfl
theorem rm2 (s : ByteArray) : goF Tryz.prog OR 1000 [true, false, true] [] (start 11 s) = ([(numB s, true), (isT (numR s) ⟨#[109, 115]⟩, false), (isT (numR s) ⟨#[115]⟩, true)], some (.ret (mulA 1000 (numN s)) [])) := by kernel_rfl
theorem rm3 (s : ByteArray) : goF Tryz.prog OR 1000 [true, false, false, true] [] (start 11 s) = ([(numB s, true), (isT (numR s) ⟨#[109, 115]⟩, false), (isT (numR s) ⟨#[115]⟩, false), (isT (numR s) ⟨#[109]⟩, true)], some (.ret (mulA 60000 (numN s)) [])) := by kernel_rfl
theorem rm4 (s : ByteArray) : goF Tryz.prog OR 1000 [true, false, false, false, true] [] (start 11 s) = ([(numB s, true), (isT (numR s) ⟨#[109, 115]⟩, false), (isT (numR s) ⟨#[115]⟩, false), (isT (numR s) ⟨#[109]⟩, false), (isT (numR s) ⟨#[104]⟩, true)], some (.ret (mulA 3600000 (numN s)) [])) := by kernel_rfl
theorem rm5 (s : ByteArray) : goF Tryz.prog OR 1000 [true, false, false, false, false] [] (start 11 s) = ([(numB s, true), (isT (numR s) ⟨#[109, 115]⟩, false), (isT (numR s) ⟨#[115]⟩, false), (isT (numR s) ⟨#[109]⟩, false), (isT (numR s) ⟨#[104]⟩, false)], some (.ret bad [])) := by kernel_rfl

theorem rb0 (s : ByteArray) : goF Tryz.prog OR 1000 [false] [] (start 13 s) = ([(numB s, false)], some (.ret bad [])) := by kernel_rfl
theorem rb1 (s : ByteArray) : goF Tryz.prog OR 1000 [true, true, true] [] (start 13 s) = ([(numB s, true), (isT (numR s) ⟨#[]⟩, true), (isT (numR s) ⟨#[]⟩, true)], some (.ret (oneA' (numN s)) [])) := by kernel_rfl
theorem rb2 (s : ByteArray) : goF Tryz.prog OR 1000 [true, false, true] [] (start 13 s) = ([(numB s, true), (isT (numR s) ⟨#[]⟩, false), (isT (numR s) ⟨#[66]⟩, true)], some (.ret (oneA' (numN s)) [])) := by kernel_rfl
theorem rb3 (s : ByteArray) : goF Tryz.prog OR 1000 [true, false, false, true] [] (start 13 s) = ([(numB s, true), (isT (numR s) ⟨#[]⟩, false), (isT (numR s) ⟨#[66]⟩, false), (isT (numR s) ⟨#[75, 105, 66]⟩, true)], some (.ret (mulA 1024 (numN s)) [])) := by kernel_rfl
theorem rb4 (s : ByteArray) : goF Tryz.prog OR 1000 [true, false, false, false, true] [] (start 13 s) = ([(numB s, true), (isT (numR s) ⟨#[]⟩, false), (isT (numR s) ⟨#[66]⟩, false), (isT (numR s) ⟨#[75, 105, 66]⟩, false), (isT (numR s) ⟨#[77, 105, 66]⟩, true)], some (.ret (mulA 1048576 (numN s)) [])) := by kernel_rfl
theorem rb5 (s : ByteArray) : goF Tryz.prog OR 1000 [true, false, false, false, false, true] [] (start 13 s) = ([(numB s, true), (isT (numR s) ⟨#[]⟩, false), (isT (numR s) ⟨#[66]⟩, false), (isT (numR s) ⟨#[75, 105, 66]⟩, false), (isT (numR s) ⟨#[77, 105, 66]⟩, false), (isT (numR s) ⟨#[71, 105, 66]⟩, true)], some (.ret (mulA 1073741824 (numN s)) [])) := by kernel_rfl
theorem rb6 (s : ByteArray) : goF Tryz.prog OR 1000 [true, false, false, false, false, false] [] (start 13 s) = ([(numB s, true), (isT (numR s) ⟨#[]⟩, false), (isT (numR s) ⟨#[66]⟩, false), (isT (numR s) ⟨#[75, 105, 66]⟩, false), (isT (numR s) ⟨#[77, 105, 66]⟩, false), (isT (numR s) ⟨#[71, 105, 66]⟩, false)], some (.ret bad [])) := by kernel_rfl

/-- The reference's answer, where the number is one and the unit comes to a factor. -/
theorem ref_ans (tab : Tab) (s : ByteArray) (hbd : ∀ e ∈ tab, 0 ≤ e.2 ∧ e.2 ≤ 1073741824) :
    (numB s = false → bad = unitA tab s) ∧
    (numB s = true → lookS (numR s) tab = 0 → bad = unitA tab s) ∧
    (numB s = true → ∀ k : Int, k ≠ 0 → lookS (numR s) tab = k → mulA k (numN s) = unitA tab s ∧ (k = 1 → oneA' (numN s) = unitA tab s)) := by
  refine ⟨fun h => ?_, fun h hl => ?_, fun h k hk hl => ?_⟩
  · have h' : ¬ (1 ≤ dl s.data.toList ∧ dl s.data.toList ≤ 9) := by simpa [numB] using h
    unfold unitA unitN unitE
    rw [if_neg h', if_neg (fun x => h' ⟨x.1, x.2.1⟩)]
  · have h' : 1 ≤ dl s.data.toList ∧ dl s.data.toList ≤ 9 := by simpa [numB] using h
    have e2 : numR s = s.extract (dl s.data.toList) s.size := by unfold numR; rw [if_pos h'.2]
    rw [e2] at hl
    unfold unitA unitN unitE
    rw [hl]; simp
  · have h' : 1 ≤ dl s.data.toList ∧ dl s.data.toList ≤ 9 := by simpa [numB] using h
    have e2 : numR s = s.extract (dl s.data.toList) s.size := by unfold numR; rw [if_pos h'.2]
    have e1 : numN s = (dval (s.data.toList.take (dl s.data.toList)) : Int) := by unfold numN; rw [if_pos h'.2]
    rw [e2] at hl
    have hlt := dval_lt (l := s.data.toList) (Nat.le_refl _)
    have hpow : 10 ^ (dl s.data.toList) ≤ 10 ^ 9 := Nat.pow_le_pow_right (by omega) h'.2
    have h10 : (10 : Nat) ^ 9 = 1000000000 := by decide
    obtain ⟨l0, l1⟩ := look_bd (s.extract (dl s.data.toList) s.size) (by omega) tab hbd
    rw [hl] at l0 l1
    have hmul : k * (dval (s.data.toList.take (dl s.data.toList)) : Int) ≤ 1073741824 * 1000000000 := Int.mul_le_mul l1 (by omega) (by omega) (by omega)
    have hmul0 : 0 ≤ k * (dval (s.data.toList.take (dl s.data.toList)) : Int) := Int.mul_nonneg l0 (by omega)
    have hu : unitA tab s = .tu [.d (.p (.int .u64 (k * (dval (s.data.toList.take (dl s.data.toList)) : Int)))), .d (.p (.int .i64 0))] := by
      unfold unitA unitN unitE
      rw [hl, if_pos h', if_pos ⟨h'.1, h'.2, hk⟩, Int.mul_comm]
    refine ⟨?_, fun h1 => ?_⟩
    · show mulA k (numN s) = _
      rw [hu, e1]
      unfold mulA
      rw [wrapu64_small hmul0 (by omega)]
    · rw [hu, e1, h1, Int.one_mul]

theorem look_cons (s k : ByteArray) (n : Int) (es : Tab) : lookS s ((k, n) :: es) = if isT s k = true then n else lookS s es := by
  rw [lookS]
  have : (s == k) = isT s k := Go.beq_toListBytes s k
  rw [this]

theorem ends2 {a b : DV} {v : AV} {H : AHeap} (h : (.tu [.d a, .d b]) = v) : Wp Tryz.prog (Ends v) (.ret (.tu [.d a, .d b]) H) := ends_ret (by rw [← h]; exact frz_tu2 (frz_dp _ _) (frz_dp _ _))

theorem refM (s : ByteArray) (H : AHeap) : CtrOK Tryz.prog 11 [.d (.p (.string s))] H (.pure (unitA tabM s)) := by
  refine pure_ctr (by kernel_rfl) rfl ?_ H
  obtain ⟨a1, a2, a3⟩ := ref_ans tabM s tabM_bd
  cases hb : numB s with
  | false => exact wayF OR_ok 1000 _ _ (rm0 s) ⟨hb, trivial⟩ (ends2 (a1 hb))
  | true =>
    have hl : lookS (numR s) tabM = if isT (numR s) ⟨#[109, 115]⟩ = true then 1 else if isT (numR s) ⟨#[115]⟩ = true then 1000 else if isT (numR s) ⟨#[109]⟩ = true then 60000 else if isT (numR s) ⟨#[104]⟩ = true then 3600000 else 0 := by
      unfold tabM
      simp only [look_cons]
      rfl
    cases e1 : isT (numR s) ⟨#[109, 115]⟩ with
    | true => rw [e1] at hl; exact wayF OR_ok 1000 _ _ (rm1 s) ⟨hb, e1, trivial⟩ (ends2 ((a3 hb 1 (by omega) hl).2 rfl))
    | false =>
      rw [e1] at hl
      cases e2 : isT (numR s) ⟨#[115]⟩ with
      | true => rw [e2] at hl; exact wayF OR_ok 1000 _ _ (rm2 s) ⟨hb, e1, e2, trivial⟩ (ends2 (a3 hb 1000 (by omega) hl).1)
      | false =>
        rw [e2] at hl
        cases e3 : isT (numR s) ⟨#[109]⟩ with
        | true => rw [e3] at hl; exact wayF OR_ok 1000 _ _ (rm3 s) ⟨hb, e1, e2, e3, trivial⟩ (ends2 (a3 hb 60000 (by omega) hl).1)
        | false =>
          rw [e3] at hl
          cases e4 : isT (numR s) ⟨#[104]⟩ with
          | true => rw [e4] at hl; exact wayF OR_ok 1000 _ _ (rm4 s) ⟨hb, e1, e2, e3, e4, trivial⟩ (ends2 (a3 hb 3600000 (by omega) hl).1)
          | false => rw [e4] at hl; exact wayF OR_ok 1000 _ _ (rm5 s) ⟨hb, e1, e2, e3, e4, trivial⟩ (ends2 (a2 hb hl))

theorem refB (s : ByteArray) (H : AHeap) : CtrOK Tryz.prog 13 [.d (.p (.string s))] H (.pure (unitA tabB s)) := by
  refine pure_ctr (by kernel_rfl) rfl ?_ H
  obtain ⟨a1, a2, a3⟩ := ref_ans tabB s tabB_bd
  cases hb : numB s with
  | false => exact wayF OR_ok 1000 _ _ (rb0 s) ⟨hb, trivial⟩ (ends2 (a1 hb))
  | true =>
    have hl : lookS (numR s) tabB = if isT (numR s) ⟨#[]⟩ = true then 1 else if isT (numR s) ⟨#[66]⟩ = true then 1 else if isT (numR s) ⟨#[75, 105, 66]⟩ = true then 1024 else if isT (numR s) ⟨#[77, 105, 66]⟩ = true then 1048576 else
        if isT (numR s) ⟨#[71, 105, 66]⟩ = true then 1073741824 else 0 := by
      unfold tabB
      simp only [look_cons]
      rfl
    cases e1 : isT (numR s) ⟨#[]⟩ with
    | true => rw [e1] at hl; exact wayF OR_ok 1000 _ _ (rb1 s) ⟨hb, e1, e1, trivial⟩ (ends2 ((a3 hb 1 (by omega) hl).2 rfl))
    | false =>
      rw [e1] at hl
      cases e2 : isT (numR s) ⟨#[66]⟩ with
      | true => rw [e2] at hl; exact wayF OR_ok 1000 _ _ (rb2 s) ⟨hb, e1, e2, trivial⟩ (ends2 ((a3 hb 1 (by omega) hl).2 rfl))
      | false =>
        rw [e2] at hl
        cases e3 : isT (numR s) ⟨#[75, 105, 66]⟩ with
        | true => rw [e3] at hl; exact wayF OR_ok 1000 _ _ (rb3 s) ⟨hb, e1, e2, e3, trivial⟩ (ends2 (a3 hb 1024 (by omega) hl).1)
        | false =>
          rw [e3] at hl
          cases e4 : isT (numR s) ⟨#[77, 105, 66]⟩ with
          | true => rw [e4] at hl; exact wayF OR_ok 1000 _ _ (rb4 s) ⟨hb, e1, e2, e3, e4, trivial⟩ (ends2 (a3 hb 1048576 (by omega) hl).1)
          | false =>
            rw [e4] at hl
            cases e5 : isT (numR s) ⟨#[71, 105, 66]⟩ with
            | true => rw [e5] at hl; exact wayF OR_ok 1000 _ _ (rb5 s) ⟨hb, e1, e2, e3, e4, e5, trivial⟩ (ends2 (a3 hb 1073741824 (by omega) hl).1)
            | false => rw [e5] at hl; exact wayF OR_ok 1000 _ _ (rb6 s) ⟨hb, e1, e2, e3, e4, e5, trivial⟩ (ends2 (a2 hb hl))

def ansR (tab : Tab) : List AV → Option CRes
  | [.d (.p (.string s))] => some (.pure (unitA tab s))
  | _ => none
theorem ok11 : OracleOK Tryz.prog (fnO 11 (ansR tabM)) := fnO_ok fun args r h H => by
  unfold ansR at h
  split at h
  · cases h; exact refM _ H
  · cases h
theorem ok13 : OracleOK Tryz.prog (fnO 13 (ansR tabB)) := fnO_ok fun args r h H => by
  unfold ansR at h
  split at h
  · cases h; exact refB _ H
  · cases h

def ans14 : List AV → Option CRes
  | [] => some (.pure .tt)
  | _ => none
theorem lives_tt (H : AHeap) : CtrTo Tryz.prog 14 [] H .tt H := by
  intro g w cargs hst hrep
  have up : ∀ {e : Ending} {w' : World}, RetOK g H w (.d (.p (.bool true))) H e w' → RetOK g H w .tt H e w' := by
    rintro e w' ⟨c, g', h1, h2, h3, h4, h5⟩
    have hc := p_inv h4
    subst hc
    exact ⟨_, g', h1, h2, h3, .tt, h5⟩
  rcases lives_ctr H g w cargs hst hrep with ⟨h1, h2⟩ | ⟨c, w', h1, h2⟩
  · exact .inl ⟨h1, h2.mono fun e w' h => up h⟩
  · exact .inr ⟨c, w', h1, up h2⟩
theorem ok14 : OracleOK Tryz.prog (fnO 14 ans14) := fnO_ok fun args r h H => by
  unfold ans14 at h
  split at h
  · cases h; exact fun X => lives_tt (H ++ X)
  · cases h

noncomputable def ON : Oracle := orO (fnO 10 (ansU tabM)) (orO (fnO 11 (ansR tabM)) (orO (fnO 12 (ansU tabB)) (orO (fnO 13 (ansR tabB)) (fnO 14 ans14))))
theorem ON_ok : OracleOK Tryz.prog ON := orO_ok ok10 (orO_ok ok11 (orO_ok ok12 (orO_ok ok13 ok14)))

end Go.Eng
