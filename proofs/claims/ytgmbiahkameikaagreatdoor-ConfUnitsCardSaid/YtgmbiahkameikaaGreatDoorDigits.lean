/- Law 12: a number is the same in a lesser unit: the run and the plain law. -/
import Derived.Test.YtgmbiahkameikaaGreatDoorNums
set_option linter.unusedVariables false
set_option linter.unusedSimpArgs false
set_option linter.unnecessarySimpa false
set_option maxRecDepth 100000
namespace Go.Eng
open Go Go.Proofs

noncomputable def uT : List AItem := todoOf (goP Tryz.prog ON 1000 [false] (.run [enterA Tryz.prog 8 [.d (.p (.int .u16 0)), .d (.p (.string ⟨#[]⟩))] .normal] [])).2
noncomputable def uHead (n x : Int) (s : ByteArray) (more : AV) : AM :=
  .run [{ fn := 8, tmps := [.d (.p (.int .u16 n)), .any, .any, .any, .any, .d (.p (.string s)), .d (.p (.int .u16 x)), more] ++ List.replicate 124 .any, todo := uT, defers := [], mode := .run, kind := .normal, round := none }] []

abbrev digs : ByteArray := ⟨#[48, 49, 50, 51, 52, 53, 54, 55, 56, 57]⟩
abbrev dg (x : Int) : ByteArray := Utf8.encode ((((digs.data)[Int.toNat (Int.tmod x 10)]?.getD 0).toNat : Nat) : Int)
abbrev dgIn (x : Int) : Bool := decide (0 ≤ Int.tmod x 10 ∧ Int.tmod x 10 < (digs.size : Int))
abbrev dgSz (x : Int) (s : ByteArray) : Bool := decide ((dg x).size + s.size ≤ 9223372036854775807)
abbrev tenth (x : Int) : Int := IntKind.u16.wrap (Int.tdiv x 10)
abbrev moreA (b : Bool) : AV := .d (.p (.bool b))
abbrev apOK (s u : ByteArray) : Bool := decide (s.size + u.size ≤ 9223372036854775807)
abbrev inOK (s : ByteArray) : Bool := decide (s.size ≤ 281474976710656)
abbrev uS : ByteArray := ⟨#[115]⟩
abbrev uMs : ByteArray := ⟨#[48, 48, 48, 109, 115]⟩
abbrev uM : ByteArray := ⟨#[109]⟩
abbrev uK : ByteArray := ⟨#[75, 105, 66]⟩
abbrev uTen : ByteArray := ⟨#[48, 48, 48, 48, 48, 48, 48, 48, 48, 48, 115]⟩
abbrev w64 (x : Int) : Int := IntKind.u64.wrap x

theorem u_start (n : Int) (s : ByteArray) : goF Tryz.prog ON 1000 [false] [0, 5, 6, 7] (.run [enterA Tryz.prog 8 [.d (.p (.int .u16 n)), .d (.p (.string s))] .normal] []) = ([(!true, false)], some (uHead n n ⟨#[]⟩ .tt)) := by kernel_rfl
theorem u_first (n x : Int) (s : ByteArray) : goF Tryz.prog ON 1000 [] [0, 5, 6, 7] (uHead n x s .tt) = ([(dgIn x, true), (dgSz x s, true)], some (uHead n (tenth x) (dg x ++ s) (moreA (decide (tenth x > 0))))) := by kernel_rfl
theorem u_next (n x : Int) (s : ByteArray) (q : Bool) : goF Tryz.prog ON 1000 [true] [0, 5, 6, 7] (uHead n x s (moreA q)) = ([(q, true), (dgIn x, true), (dgSz x s, true)], some (uHead n (tenth x) (dg x ++ s) (moreA (decide (tenth x > 0))))) := by kernel_rfl
theorem u_last (n x : Int) (s : ByteArray) (q : Bool) : goF Tryz.prog ON 1000 [false, true, true, true, true, true, true, true, true, true, true, true, true, true, true, true] [] (uHead n x s (moreA q)) =
    ([(q, false), (apOK s uS, true), (inOK (s ++ uS), true), (apOK s uMs, true), (inOK (s ++ uMs), true), (apOK s uM, true), (inOK (s ++ uM), true), (apOK s uK, true), (inOK (s ++ uK), true), (inOK s, true), (apOK s uTen, true), (inOK (s ++ uTen), true), (inOK uK, true),
      (unitE tabM (s ++ uS) == 0, true), (unitN tabM (s ++ uS) == w64 (1000 * w64 n), true), (unitE tabM (s ++ uMs) == 0, true), (unitN tabM (s ++ uS) == unitN tabM (s ++ uMs), true), (unitE tabM (s ++ uM) == 0, true),
      (unitN tabM (s ++ uM) == w64 (60 * unitN tabM (s ++ uS)), true), (unitE tabB (s ++ uK) == 0, true), (unitN tabB (s ++ uK) == w64 (1024 * w64 n), true), (unitE tabB s == 0, true), (unitN tabB s == w64 n, true), (unitE tabM (s ++ uTen) == 15, true)],
     some (.ret (.d (.p (.bool (unitE tabB uK == 15)))) [])) := by kernel_rfl

/- the plain law -/
theorem data_app (a b : ByteArray) : (a ++ b).data.toList = a.data.toList ++ b.data.toList := by simp [ByteArray.data_append]
theorem size_app (a b : ByteArray) : (a ++ b).size = a.size + b.size := by rw [size_len, size_len, size_len, data_app, List.length_append]

theorem dg_eq (x : Nat) : (dg x).data.toList = [UInt8.ofNat (48 + x % 10)] := by
  have h : Int.tmod (x : Int) 10 = ((x % 10 : Nat) : Int) := by rw [Int.tmod_eq_emod_of_nonneg (by omega)]; omega
  unfold dg
  rw [h, Int.toNat_natCast]
  have : x % 10 < 10 := Nat.mod_lt _ (by omega)
  generalize x % 10 = d at this ⊢
  revert d
  decide +kernel
theorem dg_in (x : Nat) : dgIn x = true := by
  have h : Int.tmod (x : Int) 10 = ((x % 10 : Nat) : Int) := by rw [Int.tmod_eq_emod_of_nonneg (by omega)]; omega
  have : digs.size = 10 := rfl
  unfold dgIn
  rw [h, this]
  simp
  omega
theorem tenth_eq (x : Nat) (h : x < 65536) : tenth x = ((x / 10 : Nat) : Int) := by
  unfold tenth
  rw [Int.tdiv_eq_ediv_of_nonneg (by omega), IntWalk.u16_in _ ⟨by omega, by omega⟩]
  omega

def allDig (l : List UInt8) : Prop := ∀ b ∈ l, isDig b = true
theorem dl_pre {l r : List UInt8} (h : allDig l) : dl (l ++ r) = l.length + dl r := by
  unfold dl
  induction l with
  | nil => simp
  | cons a l ih =>
    rw [List.cons_append, List.takeWhile_cons, if_pos (h a (by simp)), List.length_cons, ih (fun b hb => h b (by simp [hb])), List.length_cons]
    omega
theorem dl_all {l : List UInt8} (h : allDig l) : dl l = l.length := by
  have := dl_pre (r := []) h
  simpa [dl] using this
theorem dval_cons (b : UInt8) (l : List UInt8) : dval (b :: l) = (b.toNat - 48) * 10 ^ l.length + dval l := by
  have key : ∀ (l : List UInt8) (a : Nat), l.foldl (fun n b => 10 * n + (b.toNat - 48)) a = a * 10 ^ l.length + l.foldl (fun n b => 10 * n + (b.toNat - 48)) 0 := by
    intro l
    induction l with
    | nil => intro a; simp
    | cons c l ih =>
      intro a
      rw [List.foldl_cons, ih, List.foldl_cons, ih (10 * 0 + _), List.length_cons, Nat.pow_succ]
      rw [Nat.add_mul, Nat.add_mul]
      have : 10 * a * 10 ^ l.length = a * (10 ^ l.length * 10) := by rw [Nat.mul_comm 10 a, Nat.mul_assoc, Nat.mul_comm 10]
      omega
  unfold dval
  rw [List.foldl_cons, key]
  simp

/-- What a text of so many digits and a unit comes to. -/
theorem unit_of {tab : Tab} {s : ByteArray} {z u : List UInt8} {n : Nat} (t : ByteArray) (hs : allDig s.data.toList) (h1 : 1 ≤ s.data.toList.length) (hz : allDig z) (h9 : s.data.toList.length + z.length ≤ 9)
    (ht : t.data.toList = z ++ u) (hu : dl u = 0) (hv : dval (s.data.toList ++ z) = n) {k : Int} (hk : lookS ⟨u.toArray⟩ tab = k) (hk0 : k ≠ 0) : unitN tab (s ++ t) = (n : Int) * k ∧ unitE tab (s ++ t) = 0 := by
  have hd : (s ++ t).data.toList = (s.data.toList ++ z) ++ u := by rw [data_app, ht, List.append_assoc]
  have hall : allDig (s.data.toList ++ z) := by
    intro b hb
    rcases List.mem_append.1 hb with h | h
    · exact hs b h
    · exact hz b h
  have hdl : dl (s ++ t).data.toList = s.data.toList.length + z.length := by rw [hd, dl_pre hall, hu, List.length_append]; omega
  have hx : (s ++ t).extract (dl (s ++ t).data.toList) (s ++ t).size = ⟨u.toArray⟩ := by
    have e : ((s ++ t).extract (dl (s ++ t).data.toList) (s ++ t).size).data = u.toArray := by
      rw [ByteArray.data_extract]
      apply Array.toList_inj.1
      rw [Array.toList_extract, hdl, size_len, hd]
      rw [List.extract_eq_take_drop, List.drop_append_of_le_length (by rw [List.length_append]; omega)]
      rw [List.drop_of_length_le (by rw [List.length_append]; omega), List.nil_append]
      exact List.take_of_length_le (by rw [List.length_append, List.length_append]; omega)
    cases h : (s ++ t).extract (dl (s ++ t).data.toList) (s ++ t).size with
    | mk d => rw [h] at e; exact congrArg ByteArray.mk e
  have htk : (s ++ t).data.toList.take (dl (s ++ t).data.toList) = s.data.toList ++ z := by
    rw [hdl, hd, List.take_append_of_le_length (by rw [List.length_append]; omega), List.take_of_length_le (by rw [List.length_append]; omega)]
  unfold unitN unitE
  rw [hx, htk, hk, hv]
  constructor
  · rw [if_pos ⟨by omega, by omega⟩]
  · rw [if_pos ⟨by omega, by omega, hk0⟩]

theorem unit_many {tab : Tab} {s t : ByteArray} (h : 9 < dl (s ++ t).data.toList) : unitE tab (s ++ t) = 15 := by
  unfold unitE
  rw [if_neg (by omega)]

theorem dval_app (l z : List UInt8) (h : dval z = 0) : dval (l ++ z) = dval l * 10 ^ z.length := by
  induction l with
  | nil => rw [List.nil_append, h]; simp [dval]
  | cons a l ih => rw [List.cons_append, dval_cons, ih, dval_cons, List.length_append, Nat.pow_add, Nat.add_mul, Nat.mul_assoc]

theorem append_none (s : ByteArray) : s ++ (⟨#[]⟩ : ByteArray) = s := by
  have : (s ++ (⟨#[]⟩ : ByteArray)).data = s.data := by simp [ByteArray.data_append]
  cases s with
  | mk d => cases h : ((⟨d⟩ : ByteArray) ++ (⟨#[]⟩ : ByteArray)) with
    | mk e => rw [h] at this; exact congrArg ByteArray.mk this

theorem u_end {n : Nat} (hn : n < 65536) {x : Int} {s : ByteArray} (hs : allDig s.data.toList) (h1 : 1 ≤ s.data.toList.length) (h5 : s.data.toList.length ≤ 5) (hv : dval s.data.toList = n) :
    Wp Tryz.prog (Ends (.d (.p (.bool true)))) (uHead n x s (moreA false)) := by
  have hsz : s.size ≤ 5 := by rw [size_len]; exact h5
  have z1 : uS.size = 1 := rfl
  have z2 : uMs.size = 5 := rfl
  have z3 : uM.size = 1 := rfl
  have z4 : uK.size = 3 := rfl
  have z5 : uTen.size = 11 := rfl
  obtain ⟨a1, a2⟩ := unit_of (tab := tabM) (z := []) (u := [115]) uS hs h1 (by intro b hb; cases hb) (by simp; omega) rfl (by decide) (by simpa using hv) (k := 1000) (by decide) (by decide)
  obtain ⟨b1, b2⟩ := unit_of (tab := tabM) (z := [48, 48, 48]) (u := [109, 115]) uMs hs h1 (by intro b hb; simp at hb; subst hb; rfl) (by simp; omega) rfl (by decide) (n := n * 1000)
    (by rw [dval_app _ _ (by decide), hv]; rfl) (k := 1) (by decide) (by decide)
  obtain ⟨c1, c2⟩ := unit_of (tab := tabM) (z := []) (u := [109]) uM hs h1 (by intro b hb; cases hb) (by simp; omega) rfl (by decide) (by simpa using hv) (k := 60000) (by decide) (by decide)
  obtain ⟨d1, d2⟩ := unit_of (tab := tabB) (z := []) (u := [75, 105, 66]) uK hs h1 (by intro b hb; cases hb) (by simp; omega) rfl (by decide) (by simpa using hv) (k := 1024) (by decide) (by decide)
  obtain ⟨e1, e2⟩ := unit_of (tab := tabB) (z := []) (u := []) ⟨#[]⟩ hs h1 (by intro b hb; cases hb) (by simp; omega) rfl (by decide) (by simpa using hv) (k := 1) (by decide) (by decide)
  rw [append_none] at e1 e2
  have f1 : unitE tabM (s ++ uTen) = 15 := by
    refine unit_many ?_
    rw [data_app, dl_pre hs]
    have : dl uTen.data.toList = 10 := by decide
    omega
  have hw : w64 (n : Int) = n := wrapu64_small (by omega) (by omega)
  have hw1 : w64 (1000 * (n : Int)) = 1000 * n := wrapu64_small (by omega) (by omega)
  have hw2 : w64 (60 * ((n : Int) * 1000)) = 60 * (n * 1000) := wrapu64_small (by omega) (by omega)
  have hw3 : w64 (1024 * (n : Int)) = 1024 * n := wrapu64_small (by omega) (by omega)
  have g1 : unitE tabB uK = 15 := by decide
  have ha : ∀ u : ByteArray, u.size ≤ 11 → apOK s u = true := fun u hu => by simp; omega
  have hi : ∀ u : ByteArray, u.size ≤ 11 → inOK (s ++ u) = true := fun u hu => by simp only [inOK, size_app, decide_eq_true_eq]; omega
  refine wayF ON_ok 1000 _ _ (u_last n x s false) ⟨rfl, ha _ (by omega), hi _ (by omega), ha _ (by omega), hi _ (by omega), ha _ (by omega), hi _ (by omega), ha _ (by omega), hi _ (by omega), by simp; omega, ha _ (by omega), hi _ (by omega), by simp; omega,
    ?_, ?_, ?_, ?_, ?_, ?_, ?_, ?_, ?_, ?_, ?_, trivial⟩ (ends_ret ?_)
  · rw [a2]; rfl
  · rw [a1, hw, hw1]; simp; omega
  · rw [b2]; rfl
  · rw [a1, b1]; simp
  · rw [c2]; rfl
  · rw [c1, a1, hw2]; simp; omega
  · rw [d2]; rfl
  · rw [d1, hw, hw3]; simp; omega
  · rw [e2]; rfl
  · rw [e1, hw]; simp
  · rw [f1]; rfl
  · rw [g1]; exact frz_dp _ _

theorem u_inv {n : Nat} (hn : n < 65536) : ∀ (k j x : Nat) (s : ByteArray), j + k = 5 → 1 ≤ j → allDig s.data.toList → s.data.toList.length = j → x = n / 10 ^ j → n = x * 10 ^ j + dval s.data.toList →
    Wp Tryz.prog (Ends (.d (.p (.bool true)))) (uHead n (x : Int) s (moreA (decide ((x : Int) > 0)))) := by
  intro k
  induction k with
  | zero =>
    intro j x s hj h1 hs hl hx hv
    have : j = 5 := by omega
    subst this
    have hx0 : x = 0 := by rw [hx]; exact Nat.div_eq_of_lt (by omega)
    subst hx0
    have : decide (((0 : Nat) : Int) > 0) = false := by decide
    rw [this]
    exact u_end hn hs (by omega) (by omega) (by omega)
  | succ k ih =>
    intro j x s hj h1 hs hl hx hv
    rcases Nat.eq_zero_or_pos x with e | e
    · subst e
      have : decide (((0 : Nat) : Int) > 0) = false := by decide
      rw [this]
      exact u_end hn hs (by omega) (by omega) (by omega)
    · have ht : decide ((x : Int) > 0) = true := by simpa using e
      have hxn : x ≤ n := by rw [hx]; exact Nat.div_le_self _ _
      have hdig := dg_eq x
      have hdl : (dg (x : Int) ++ s).data.toList = UInt8.ofNat (48 + x % 10) :: s.data.toList := by rw [data_app, hdig]; rfl
      have hmod : x % 10 < 10 := Nat.mod_lt _ (by omega)
      have hnat : (UInt8.ofNat (48 + x % 10)).toNat = 48 + x % 10 := by rw [UInt8.toNat_ofNat']; exact Nat.mod_eq_of_lt (by omega)
      rw [ht]
      refine wayF ON_ok 1000 _ _ (u_next n x s true) ⟨rfl, dg_in x, ?_, trivial⟩ ?_
      · have h2 : s.size = j := by rw [size_len]; exact hl
        have h3 : (dg (x : Int)).size = 1 := by rw [size_len, hdig]; rfl
        simp only [dgSz, decide_eq_true_eq]; omega
      · rw [tenth_eq x (by omega)]
        refine ih (j + 1) (x / 10) (dg (x : Int) ++ s) (by omega) (by omega) ?_ ?_ ?_ ?_
        · rw [hdl]
          intro b hb
          rcases List.mem_cons.1 hb with h | h
          · subst h
            simp only [isDig, hnat, Bool.and_eq_true, decide_eq_true_eq]; omega
          · exact hs b h
        · rw [hdl, List.length_cons, hl]
        · rw [hx, Nat.div_div_eq_div_mul, Nat.pow_succ]
        · rw [hdl, dval_cons, hnat, hl, Nat.pow_succ]
          have h10 : x = 10 * (x / 10) + x % 10 := by omega
          have e1 : x / 10 * (10 ^ j * 10) = (10 * (x / 10)) * 10 ^ j := by rw [Nat.mul_comm (10 ^ j) 10, ← Nat.mul_assoc, Nat.mul_comm (x / 10) 10]
          have e2 : (48 + x % 10 - 48) = x % 10 := by omega
          rw [e1, e2, ← Nat.add_assoc, ← Nat.add_mul, ← h10]
          exact hv

theorem units_ctr (n : Nat) (hn : n < 65536) (s : ByteArray) (H : AHeap) : CtrOK Tryz.prog 8 [.d (.p (.int .u16 n)), .d (.p (.string s))] H (.pure (.d (.p (.bool true)))) := by
  refine pure_ctr (by kernel_rfl) rfl (wayF ON_ok 1000 _ _ (u_start n s) ⟨rfl, trivial⟩ ?_) H
  have hdig := dg_eq n
  have hmod : n % 10 < 10 := Nat.mod_lt _ (by omega)
  have hnat : (UInt8.ofNat (48 + n % 10)).toNat = 48 + n % 10 := by rw [UInt8.toNat_ofNat']; exact Nat.mod_eq_of_lt (by omega)
  refine wayF ON_ok 1000 _ _ (u_first n n ⟨#[]⟩) ⟨dg_in n, ?_, trivial⟩ ?_
  · have h3 : (dg (n : Int)).size = 1 := by rw [size_len, hdig]; rfl
    have h4 : ByteArray.size ⟨#[]⟩ = 0 := rfl
    simp only [dgSz, decide_eq_true_eq]; omega
  · rw [tenth_eq n hn, append_none]
    refine u_inv hn 4 1 (n / 10) (dg (n : Int)) rfl (by omega) ?_ ?_ (by rw [Nat.pow_one]) ?_
    · rw [hdig]
      intro b hb
      rcases List.mem_cons.1 hb with h | h
      · subst h
        simp only [isDig, hnat, Bool.and_eq_true, decide_eq_true_eq]; omega
      · cases h
    · rw [hdig]; rfl
    · rw [hdig, dval_cons, hnat]
      simp [dval]
      omega

end Go.Eng
