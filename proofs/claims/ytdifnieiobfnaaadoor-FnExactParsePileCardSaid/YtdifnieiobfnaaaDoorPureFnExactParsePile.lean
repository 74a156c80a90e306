/- The program's ParsePile answers as the reference's does. Conditions: the statement's. -/
import Derived.Test.YtdifnieiobfnaaaDoorPFnExactParsePilex3
namespace Go.Proofs.YtdifnieiobfnaaaDoor.Pure
open Go.RowKit Go.Proofs.YtdifnieiobfnaaaDoor.PFnExactParsePile Go.Proofs.YtdifnieiobfnaaaDoorW.PrintWords Go.Proofs.YtdifnieiobfnaaaDoorW.PrintLast
set_option linter.unusedVariables false
set_option linter.unusedSimpArgs false
/-! ### Plain words -/
theorem w1 {n : Nat} (h : n < 4611686018427387904) : wrap64 ((n : Int) + 1) = ((n + 1 : Nat) : Int) := by unfold wrap64; omega
theorem w0 {x : Int} (h1 : -9223372036854775808 ≤ x) (h2 : x ≤ 9223372036854775807) : wrap64 x = x := by unfold wrap64; omega
theorem wfi {x : Int} (h : (Lit.int .i64 x).wf = true) : -9223372036854775808 ≤ x ∧ x ≤ 9223372036854775807 := by
  simpa [Lit.wf, IntKind.min, IntKind.max, IntKind.signed, IntKind.bits] using h
theorem getD_nat {α : Type} (l : List α) (z : α) (n : Nat) (h : n < l.length) : l.getD ((n : Int)).toNat z = l[n] := by
  simp [List.getD_eq_getElem?_getD, h]
theorem fill_set {α β : Type} (f : α → β) (l : List α) (z : β) (n : Nat) (h : n < l.length) :
    ((l.take n).map f ++ List.replicate (l.length - n) z).set n (f l[n]) = (l.take (n + 1)).map f ++ List.replicate (l.length - (n + 1)) z := by
  obtain ⟨d, hd⟩ : ∃ d, l.length - n = d + 1 := ⟨l.length - n - 1, by omega⟩
  rw [List.set_append, if_neg (by simp; omega), List.take_succ_eq_append_getElem h]
  have h1 : n - ((l.take n).map f).length = 0 := by simp; omega
  have h2 : l.length - (n + 1) = d := by omega
  rw [h1, h2, hd, List.replicate_succ, List.set_cons_zero, List.map_append]
  simp
theorem getD_set {α : Type} (l : List α) (z : α) (i j : Nat) (v : α) (hi : i < l.length) : (l.set i v).getD j z = if j = i then v else l.getD j z := by
  by_cases h : j = i
  · subst h; simp [List.getD_eq_getElem?_getD, hi]
  · rw [if_neg h]; simp [List.getD_eq_getElem?_getD, Ne.symm h]
/-- A way that needs no rounds. -/
theorem ev_now {α : Type} {g : Nat → Option α} {r : α} (h : ∀ k, g k = some r) : Ev g r := ⟨0, fun k _ => h k⟩
theorem ev_late {α : Type} {g : Nat → Option α} {r : α} (n : Nat) (h : ∀ k, g (k + n) = some r) : Ev g r := ⟨n, fun k hk => by
  obtain ⟨m, rfl⟩ : ∃ m, k = m + n := ⟨k - n, by omega⟩
  exact h m⟩
theorem ev_eq {α : Type} {g : Nat → Option α} {r s : α} (h : Ev g r) (e : r = s) : Ev g s := e ▸ h
/-! ### Numbers read: canonical decimals -/
def rdw (l : List UInt8) : Option Nat := if 1 ≤ l.length ∧ (l.head? ≠ some 48 ∨ l.length ≤ 1) then Go.Lib.decFrom 0 l else none
def rdR (l : List UInt8) : Int := if l.length ≤ 6 then (match rdw l with | some n => (n : Int) | none => -1) else -1
def numR (l : List UInt8) (d : Nat) : Int × Bool := if l.length ≤ d then (match rdw l with | some n => ((n : Int), true) | none => (0, false)) else (0, false)
theorem bt_nat (s : ByteArray) (n : Nat) (c : UInt8) (h : s.data.toList[n]? = some c) : bt s (n : Int) = (c.toNat : Int) := by
  obtain ⟨hlt, rfl⟩ := List.getElem?_eq_some_iff.1 h
  have hs : n < s.size := by rw [Array.length_toList] at hlt; exact hlt
  have e : ((n : Int)).toNat = n := Int.toNat_natCast n
  unfold bt
  rw [dif_pos (by rw [e]; exact hs)]
  simp only [e]
  rfl
theorem list_size (s : ByteArray) : s.data.toList.length = s.size := by rw [Array.length_toList]; rfl
theorem dig_of (c : UInt8) : Go.Lib.digitVal c = if 48 ≤ c.toNat ∧ c.toNat ≤ 57 then some (c.toNat - 48) else none := rfl
theorem num_step (acc c : Nat) (ha : acc < 100000) (h1 : 48 ≤ c) (h2 : c ≤ 57) : wrap64 (wrap64 (10 * (acc : Int)) + ((c : Int) - 48) % 256) = ((acc * 10 + (c - 48) : Nat) : Int) := by unfold wrap64; omega
theorem pow_step (acc c n : Nat) (ha : acc < 10 ^ n) (h2 : c ≤ 57) : acc * 10 + (c - 48) < 10 ^ (n + 1) := by
  have hp : 10 ^ (n + 1) = 10 ^ n * 10 := Nat.pow_succ ..
  rw [hp]
  generalize 10 ^ n = X at *
  omega
theorem dropWhile_nil {α : Type} (p : α → Bool) (l : List α) : l.dropWhile p = [] ↔ ∀ c ∈ l, p c = true := by
  induction l with
  | nil => simp
  | cons x r ih =>
    rw [List.dropWhile_cons]
    by_cases hx : p x = true
    · rw [if_pos hx, ih]; simp [hx]
    · rw [if_neg hx]; simp [hx]
theorem l1Read_loop (s : ByteArray) (hs : s.size ≤ 6) (d : Nat) : ∀ (n acc k : Nat), n + d = s.size → d < k → acc < 10 ^ n →
    spec_l1Read.l0 k s acc n = some (match Go.Lib.decFrom acc (s.data.toList.drop n) with | some v => (v : Int) | none => -1) := by
  induction d with
  | zero =>
    intro n acc k hn hk ha
    obtain ⟨k, rfl⟩ : ∃ m, k = m + 1 := ⟨k - 1, by omega⟩
    have hd : s.data.toList.drop n = [] := List.drop_eq_nil_of_le (by rw [list_size]; omega)
    simp only [spec_l1Read.l0, hd, Go.Lib.decFrom]; rw [if_neg (by omega)]
  | succ d ih =>
    intro n acc k hn hk ha
    obtain ⟨k, rfl⟩ : ∃ m, k = m + 1 := ⟨k - 1, by omega⟩
    have hlt : n < s.data.toList.length := by rw [list_size]; omega
    have hd : s.data.toList.drop n = s.data.toList[n] :: s.data.toList.drop (n + 1) := List.drop_eq_getElem_cons hlt
    have hb : bt s (n : Int) = ((s.data.toList[n]).toNat : Int) := bt_nat s n _ (List.getElem?_eq_getElem hlt)
    generalize s.data.toList[n] = c at hd hb
    have h5 : acc < 100000 := Nat.lt_of_lt_of_le ha (Nat.le_trans (Nat.pow_le_pow_right (n := 10) (by omega) (show n ≤ 5 by omega)) (by decide))
    have hq := fun h => pow_step acc c.toNat n ha h
    clear ha
    simp only [spec_l1Read.l0, hd, Go.Lib.decFrom, hb, dig_of]
    rw [if_pos (by omega), if_pos (by omega)]
    by_cases h1 : (c.toNat : Int) < 48
    · rw [if_pos h1, if_neg (show ¬ (48 ≤ c.toNat ∧ c.toNat ≤ 57) by omega)]
    · rw [if_neg h1]
      by_cases h2 : (c.toNat : Int) > 57
      · rw [if_pos h2, if_neg (show ¬ (48 ≤ c.toNat ∧ c.toNat ≤ 57) by omega)]
      · rw [if_neg h2, if_pos (show 48 ≤ c.toNat ∧ c.toNat ≤ 57 by omega)]
        rw [num_step acc c.toNat h5 (by omega) (by omega), w1 (by omega)]
        exact ih (n + 1) (acc * 10 + (c.toNat - 48)) k (by omega) (by omega) (hq (by omega))
theorem head_nat (s : ByteArray) (h : 0 < s.size) : ∃ c, s.data.toList.head? = some c ∧ bt s 0 = (c.toNat : Int) := by
  have hlt : 0 < s.data.toList.length := by rw [list_size]; exact h
  refine ⟨s.data.toList[0], ?_, bt_nat s 0 _ (List.getElem?_eq_getElem hlt)⟩
  rw [List.head?_eq_getElem?, List.getElem?_eq_getElem hlt]
theorem head_is (c : UInt8) : ((c.toNat : Int) = 48) ↔ c = 48 := by
  constructor
  · intro h; apply UInt8.toNat_inj.1; show c.toNat = 48; omega
  · rintro rfl; rfl
theorem l1Read_ev (s : ByteArray) (hs : s.size ≤ 1048576) : Ev (fun k => spec_l1Read.f k s) (rdR s.data.toList) := by
  refine ev_late 9 fun k => ?_
  have hl := list_size s
  simp only [spec_l1Read.f, spec_l1In.f]
  by_cases h0 : s.size = 0
  · rw [if_neg (by omega)]
    simp only [Option.bind_some, Bool.false_eq_true, if_false]
    rw [show k + 9 = (k + 8) + 1 from rfl]
    simp only [spec_l1Read.j0, if_true]
    unfold rdR rdw
    rw [if_pos (by omega), if_neg (by omega)]
  rw [if_pos (by omega)]
  simp only [Option.bind_some]
  by_cases h6 : s.size ≤ 6
  · rw [if_pos (by simp; omega), if_pos (by omega)]
    obtain ⟨c, hc, hb⟩ := head_nat s (by omega)
    rw [hb]
    have hr : rdR s.data.toList = if s.data.toList.head? ≠ some 48 ∨ s.size ≤ 1 then (match Go.Lib.decFrom 0 s.data.toList with | some n => (n : Int) | none => -1) else -1 := by
      unfold rdR rdw
      rw [hl, if_pos h6]
      by_cases hz : s.data.toList.head? ≠ some 48 ∨ s.size ≤ 1
      · rw [if_pos ⟨by omega, hz⟩, if_pos hz]
      · rw [if_neg (fun x => hz x.2), if_neg hz]
    rw [hr, hc]
    have hloop := l1Read_loop s h6 s.size 0 0 (k + 8) (by omega) (by omega) (by omega)
    rw [List.drop_zero] at hloop
    rw [show k + 9 = (k + 8) + 1 from rfl]
    by_cases h48 : c = 48
    · rw [if_pos ((head_is c).2 h48)]
      by_cases h1 : s.size ≤ 1
      · rw [if_pos (Or.inr h1), show decide ((s.size : Int) > 1) = false from decide_eq_false (by omega)]
        simp only [spec_l1Read.j0, Bool.false_eq_true, if_false]
        exact hloop
      · rw [if_neg (by rw [h48]; simp; omega), show decide ((s.size : Int) > 1) = true from decide_eq_true (by omega)]
        simp only [spec_l1Read.j0, if_true]
    · rw [if_neg (fun x => h48 ((head_is c).1 x)), if_pos (Or.inl (fun x => h48 (Option.some.inj x)))]
      simp only [spec_l1Read.j0, Bool.false_eq_true, if_false]
      exact hloop
  · rw [if_neg (by simp; omega)]
    rw [show k + 9 = (k + 8) + 1 from rfl]
    simp only [spec_l1Read.j0, if_true]
    unfold rdR
    rw [if_neg (by omega)]
/-! #### the program's reading -/
theorem digs_has (c : UInt8) : ([48, 49, 50, 51, 52, 53, 54, 55, 56, 57] : List UInt8).contains c = decide (48 ≤ c.toNat ∧ c.toNat ≤ 57) := by
  rw [Bool.eq_iff_iff, List.contains_iff_mem]
  simp only [List.mem_cons, List.not_mem_nil, or_false, ← UInt8.toNat_inj, decide_eq_true_eq]
  simp only [UInt8.reduceToNat]
  omega
theorem trimS_nil (l cs : List UInt8) : Go.Lib.trimS l cs = [] ↔ ∀ c ∈ l, cs.contains c = true := by
  unfold Go.Lib.trimS Go.Lib.trimLeftS Go.Lib.trimRightS
  rw [dropWhile_nil]
  constructor
  · intro h
    have : l.reverse.dropWhile (cs.contains ·) = [] := by
      cases hx : l.reverse.dropWhile (cs.contains ·) with
      | nil => rfl
      | cons x xs =>
        have hm : x ∈ (l.reverse.dropWhile (cs.contains ·)).reverse := by rw [hx]; simp
        have hn := List.head?_dropWhile_not (cs.contains ·) l.reverse
        rw [hx] at hn
        simp only [List.head?_cons] at hn
        have := h x hm
        rw [hn] at this
        cases this
    rw [dropWhile_nil] at this
    intro c hc
    exact this c (by simpa using hc)
  · intro h c hc
    have : c ∈ l.reverse.dropWhile (cs.contains ·) := by simpa using hc
    exact h c (by simpa using (List.dropWhile_sublist _).mem this)
theorem dec_all : ∀ (l : List UInt8) (acc : Nat), (∀ c ∈ l, 48 ≤ c.toNat ∧ c.toNat ≤ 57) → ∃ v, Go.Lib.decFrom acc l = some v := by
  intro l
  induction l with
  | nil => intro acc _; exact ⟨acc, rfl⟩
  | cons c r ih =>
    intro acc h
    simp only [Go.Lib.decFrom, dig_of]
    rw [if_pos (h c (by simp))]
    exact ih _ fun x hx => h x (by simp [hx])
theorem dec_digs (l : List UInt8) (acc v : Nat) (h : Go.Lib.decFrom acc l = some v) : ∀ c ∈ l, 48 ≤ c.toNat ∧ c.toNat ≤ 57 := by
  intro c hc
  obtain ⟨j, hj⟩ := List.getElem?_of_mem hc
  obtain ⟨d, hd⟩ := Go.Lib.digit_of_decFrom l acc v h j c hj
  rw [dig_of] at hd
  split at hd
  · assumption
  · cases hd
theorem atoi_digs (l : List UInt8) (h1 : 1 ≤ l.length) (h18 : l.length ≤ 18) (v : Nat) (h : Go.Lib.decFrom 0 l = some v) : Go.Lib.atoiAll l = .ok (v : Int) := by
  rw [Go.Lib.atoiAll_short l h18]
  cases l with
  | nil => simp at h1
  | cons c r =>
    have hc := dec_digs (c :: r) 0 v h c (by simp)
    have n45 : (c == 45) = false := by
      rw [beq_eq_false_iff_ne]; rintro rfl; exact absurd hc.1 (by decide)
    have n43 : (c == 43) = false := by
      rw [beq_eq_false_iff_ne]; rintro rfl; exact absurd hc.1 (by decide)
    simp only [Go.Lib.atoi, n45, n43, Bool.false_eq_true, if_false, Go.Lib.decNat, List.isEmpty_cons, h, Option.map_some]
    rfl
theorem number_is (s : ByteArray) (d : Nat) (hd : 1 ≤ d) (h6 : d ≤ 6) (hs : s.size ≤ 1048576) : impl_number.f s (d : Int) = some (numR s.data.toList d) := by
  have hl := list_size s
  unfold impl_number.f impl_within.f
  by_cases h0 : s.size = 0
  · rw [if_neg (by omega)]
    simp only [Option.bind_some, Bool.false_eq_true, if_false]
    unfold numR rdw
    rw [if_pos (by omega), if_neg (by omega)]
  rw [if_pos (by omega)]
  simp only [Option.bind_some]
  by_cases hd2 : s.size ≤ d
  · rw [if_pos (by simp; omega)]
    have ht : strings_Trim.f s (⟨#[48, 49, 50, 51, 52, 53, 54, 55, 56, 57]⟩ : ByteArray) = some ⟨(Go.Lib.trimS s.data.toList [48, 49, 50, 51, 52, 53, 54, 55, 56, 57]).toArray⟩ := by
      unfold strings_Trim.f
      rw [if_pos ⟨by omega, by decide, by decide⟩]
    rw [ht]
    simp only [Option.bind_some, Go.ByteArray.toList_eq]
    obtain ⟨c, hc, hb⟩ := head_nat s (by omega)
    have hnr : numR s.data.toList d = (match (if s.data.toList.head? ≠ some 48 ∨ s.size ≤ 1 then Go.Lib.decFrom 0 s.data.toList else none) with | some n => ((n : Int), true) | none => (0, false)) := by
      unfold numR rdw
      rw [hl, if_pos hd2]
      by_cases hz : s.data.toList.head? ≠ some 48 ∨ s.size ≤ 1
      · rw [if_pos ⟨by omega, hz⟩, if_pos hz]
      · rw [if_neg (fun x => hz x.2), if_neg hz]
    rw [hnr, hc, hb]
    cases hv : Go.Lib.decFrom 0 s.data.toList with
    | none =>
      have hn : ¬ (Go.Lib.trimS s.data.toList [48, 49, 50, 51, 52, 53, 54, 55, 56, 57] = []) := by
        rw [trimS_nil]
        intro h
        obtain ⟨v, hv'⟩ := dec_all s.data.toList 0 (fun c hc => by have := h c hc; rw [digs_has] at this; exact of_decide_eq_true this)
        rw [hv] at hv'; cases hv'
      rw [if_neg (by simpa using hn)]
      rw [ite_self]
    | some v =>
      have hy : Go.Lib.trimS s.data.toList [48, 49, 50, 51, 52, 53, 54, 55, 56, 57] = [] := by
        rw [trimS_nil]
        intro c hc
        rw [digs_has]
        exact decide_eq_true (dec_digs _ _ _ hv c hc)
      have ha : strconv_Atoi.f s = some ((v : Int), none) := by
        unfold strconv_Atoi.f
        rw [if_pos (by omega), atoi_digs _ (by omega) (by omega) v hv]
      rw [if_pos (by simpa using hy), if_pos (by omega), ha]
      simp only [Option.bind_some, Option.isNone_none, if_true]
      by_cases h48 : c = 48
      · rw [if_pos ((head_is c).2 h48)]
        by_cases h1 : s.size ≤ 1
        · rw [if_neg (by omega), if_pos (Or.inr h1)]
        · rw [if_pos (by omega), if_neg (by rw [h48]; simp; omega)]
      · rw [if_neg (fun x => h48 ((head_is c).1 x)), if_pos (Or.inl (fun x => h48 (Option.some.inj x)))]
  · rw [if_neg (by simp; omega)]
    unfold numR
    rw [if_neg (by omega)]
theorem rdI (xs : List Int) (n : Nat) (h : n < xs.length) : rd xs (n : Int) = xs[n] := getD_nat xs 0 n h
theorem l1In_is (n a b : Int) : spec_l1In.f n a b = some (decide (a ≤ n ∧ n ≤ b)) := by
  unfold spec_l1In.f; by_cases h : n ≥ a <;> simp [h] <;> omega
theorem within_is (n a b : Int) : impl_within.f n a b = some (decide (a ≤ n ∧ n ≤ b)) := by
  unfold impl_within.f; by_cases h : a ≤ n <;> simp [h]
def allB (l : List Int) (a b : Int) : Bool := l.all fun x => decide (a ≤ x ∧ x ≤ b)
def wsum : Int → List Int → Int
  | s, [] => s
  | s, x :: l => wsum (wrap64 (s + x)) l
def timesR (p : Int) : List Int → List Int → List Int × Bool
  | [], acc => (acc, true)
  | x :: xs, acc => if 0 ≤ x ∧ x ≤ p - 1 then (if rd acc x = 2 then ([], false) else timesR p xs (acc.set x.toNat (wrap64 (rd acc x + 1)))) else ([], false)
theorem times_loop (p : Int) (hp0 : 0 ≤ p) (hp1 : p ≤ 1048576) (l : List Int) (hl : l.length ≤ 1048576) (d : Nat) : ∀ (n k : Nat) (acc : List Int), (acc.length : Int) = p → n + d = l.length → d < k →
    impl_times.l0 k p acc l (l.length : Int) n = some (timesR p (l.drop n) acc) := by
  induction d with
  | zero =>
    intro n k acc ha hn hk
    obtain ⟨k, rfl⟩ : ∃ m, k = m + 1 := ⟨k - 1, by omega⟩
    simp only [impl_times.l0]; rw [if_neg (by omega)]
    obtain rfl : n = l.length := by omega
    simp [timesR]
  | succ d ih =>
    intro n k acc ha hn hk
    obtain ⟨k, rfl⟩ : ∃ m, k = m + 1 := ⟨k - 1, by omega⟩
    have hlt : n < l.length := by omega
    simp only [impl_times.l0, within_is, Option.bind_some]
    rw [if_pos (by omega), if_pos (by omega), if_pos (by omega), rdI l n hlt, w1 (by omega), w0 (x := p - 1) (by omega) (by omega), List.drop_eq_getElem_cons hlt]
    simp only [timesR]
    by_cases hx : 0 ≤ l[n] ∧ l[n] ≤ p - 1
    · rw [if_pos (by simpa using hx), if_pos hx.1, if_pos (by omega), if_pos hx]
      by_cases h2 : rd acc l[n] = 2
      · rw [if_pos h2, if_pos h2]
      · rw [if_neg h2, if_neg h2]
        exact ih (n + 1) k _ (by simpa using ha) (by omega) (by omega)
    · rw [if_neg (by simpa using hx), if_neg hx]
theorem times_ev (p : Int) (hp0 : 0 ≤ p) (hp1 : p ≤ 1048576) (l : List Int) (hl : l.length ≤ 1048576) : Ev (fun k => impl_times.f k p l) (timesR p l (List.replicate p.toNat 0)) :=
  ⟨l.length + 1, fun k hk => by
    show impl_times.f k p l = _
    unfold impl_times.f
    rw [if_pos hp0, if_pos (by omega)]
    exact (times_loop p hp0 hp1 l hl l.length 0 k _ (by simp; omega) (by omega) (by omega)).trans (by simp)⟩
theorem timesR_two (p : Nat) : ∀ (l acc : List Int), acc.length = p → (∀ v, v < p → 0 ≤ acc.getD v 0 ∧ acc.getD v 0 ≤ 2) →
    ((timesR p l acc).2 = true ↔ (∀ x ∈ l, 0 ≤ x ∧ x ≤ (p : Int) - 1) ∧ ∀ v : Nat, v < p → acc.getD v 0 + (l.count (v : Int) : Int) ≤ 2) := by
  intro l
  induction l with
  | nil =>
    intro acc ha h
    simp only [timesR, List.count_nil, true_iff]
    exact ⟨(fun x hx => by cases hx), fun v hv => by have := h v hv; omega⟩
  | cons x xs ih =>
    intro acc ha h
    simp only [timesR]
    by_cases hx : 0 ≤ x ∧ x ≤ (p : Int) - 1
    · rw [if_pos hx]
      have hxp : x.toNat < p := by omega
      have hxe : ((x.toNat : Nat) : Int) = x := by omega
      have hb := h x.toNat hxp
      have hrd : rd acc x = acc.getD x.toNat 0 := rfl
      by_cases h2 : rd acc x = 2
      · rw [if_pos h2]
        simp only [Bool.false_eq_true, false_iff, not_and]
        intro _ hc
        have := hc x.toNat hxp
        rw [hxe, List.count_cons_self] at this
        omega
      · rw [if_neg h2, hrd, w0 (by omega) (by omega)]
        rw [hrd] at h2
        have hg : ∀ v, (acc.set x.toNat (acc.getD x.toNat 0 + 1)).getD v 0 = if v = x.toNat then acc.getD x.toNat 0 + 1 else acc.getD v 0 := fun v => getD_set acc 0 x.toNat v _ (by omega)
        rw [ih _ (by simpa using ha) (fun v hv => by rw [hg]; have := h v hv; split <;> omega)]
        refine and_congr ?_ (forall_congr' fun v => imp_congr_right fun hv => ?_)
        · simp [hx]
        · rw [hg, List.count_cons]
          by_cases hvx : v = x.toNat
          · subst hvx; simp only [if_true, hxe, beq_self_eq_true]; omega
          · rw [if_neg hvx]
            have : (x == (v : Int)) = false := by simp; omega
            rw [this]; simp
    · rw [if_neg hx]
      simp only [Bool.false_eq_true, false_iff, not_and]
      intro hc _
      exact hx (hc x (by simp))
theorem count_sum (p : Nat) (l : List Int) (h : ∀ x ∈ l, 0 ≤ x ∧ x ≤ (p : Int) - 1) : ((List.range p).map fun v : Nat => l.count (v : Int)).sum = l.length := by
  induction l with
  | nil => simp; induction p with
    | zero => rfl
    | succ p ih => simp [List.range_succ, ih (fun x hx => by cases hx)]
  | cons x xs ih =>
    have h1 := ih fun y hy => h y (by simp [hy])
    have hx := h x (by simp)
    have key : ∀ q : Nat, ((List.range q).map fun v : Nat => (x :: xs).count (v : Int)).sum = ((List.range q).map fun v : Nat => xs.count (v : Int)).sum + if x.toNat < q then 1 else 0 := by
      intro q
      induction q with
      | zero => simp
      | succ q ihq =>
        rw [List.range_succ, List.map_append, List.map_append, List.sum_append, List.sum_append, ihq]
        simp only [List.map_cons, List.map_nil, List.sum_cons, List.sum_nil, Nat.add_zero]
        rw [List.count_cons]
        by_cases e : x.toNat = q
        · have : (x == (q : Int)) = true := by simp; omega
          rw [if_neg (show ¬ x.toNat < q by omega), if_pos this, if_pos (show x.toNat < q + 1 by omega)]; omega
        · have : (x == (q : Int)) = false := by simp; omega
          rw [this]
          by_cases e2 : x.toNat < q
          · rw [if_pos e2, if_pos (show x.toNat < q + 1 by omega)]; simp; omega
          · rw [if_neg e2, if_neg (show ¬ x.toNat < q + 1 by omega)]; simp
    rw [key p, h1, if_pos (by omega), List.length_cons]
theorem sum_le_two (f : Nat → Nat) (p : Nat) (h : ∀ v, v < p → f v ≤ 2) : ((List.range p).map f).sum ≤ 2 * p ∧ (((List.range p).map f).sum = 2 * p → ∀ v, v < p → f v = 2) := by
  induction p with
  | zero => exact ⟨by simp, fun _ v hv => by omega⟩
  | succ p ih =>
    obtain ⟨h1, h2⟩ := ih fun v hv => h v (by omega)
    have hp := h p (by omega)
    simp only [List.range_succ, List.map_append, List.sum_append, List.map_cons, List.map_nil, List.sum_cons, List.sum_nil, Nat.add_zero]
    refine ⟨by omega, fun e v hv => ?_⟩
    by_cases hvp : v = p
    · subst hvp; omega
    · exact h2 (by omega) v (by omega)
theorem twice_iff (p : Nat) (l : List Int) (hl : l.length = 2 * p) (h : ∀ x ∈ l, 0 ≤ x ∧ x ≤ (p : Int) - 1) :
    (∀ v : Nat, v < p → (l.count (v : Int) : Int) ≤ 2) ↔ ∀ x ∈ l, l.count x = 2 := by
  constructor
  · intro hc x hx
    have hs := count_sum p l h
    have h2 := (sum_le_two (fun v : Nat => l.count (v : Int)) p (fun v hv => by have := hc v hv; omega)).2 (by omega) x.toNat (by have := h x hx; omega)
    have hxe : ((x.toNat : Nat) : Int) = x := by have := h x hx; omega
    rw [hxe] at h2; exact h2
  · intro hc v hv
    by_cases hm : (v : Int) ∈ l
    · have := hc _ hm; omega
    · rw [List.count_eq_zero_of_not_mem hm]; omega
def pileB (l : List Int) : Bool := decide (l.length % 2 = 0 ∧ 1 ≤ l.length / 2 ∧ l.length / 2 ≤ 8) && (timesR ((l.length / 2 : Nat) : Int) l (List.replicate (l.length / 2) 0)).2
theorem IsPile_ev (l : List Int) (hl : l.length ≤ 1048576) : Ev (fun k => impl_IsPile.f k l) (pileB l) := by
  unfold impl_IsPile.f
  refine (show Ev (fun k => impl_isTwice.f k l 8) (pileB l) from ?_).bind (Ev.now _)
  unfold pileB impl_isTwice.f
  have e : wrap64 ((l.length : Int) / 2) = ((l.length / 2 : Nat) : Int) := by unfold wrap64; omega
  simp only [within_is, Option.bind_some, e]
  by_cases h0 : l.length % 2 = 0
  · simp only [if_neg (show ¬ ((l.length : Int) % 2 = 1) by omega)]
    by_cases h1 : 1 ≤ l.length / 2 ∧ l.length / 2 ≤ 8
    · have h1' : (1 : Int) ≤ ((l.length / 2 : Nat) : Int) ∧ ((l.length / 2 : Nat) : Int) ≤ 8 := by omega
      simp only [h0, h1, h1', and_self, decide_true, if_true, Bool.true_and]
      exact ev_eq ((times_ev ((l.length / 2 : Nat) : Int) (by omega) (by omega) l hl).bind (Ev.now _)) (by rw [Int.toNat_natCast])
    · have h1' : ¬ ((1 : Int) ≤ ((l.length / 2 : Nat) : Int) ∧ ((l.length / 2 : Nat) : Int) ≤ 8) := by omega
      simp only [h0, h1, h1', and_false, decide_false, Bool.false_eq_true, if_false, Bool.false_and]; exact Ev.now _
  · simp only [if_pos (show ((l.length : Int) % 2 = 1) by omega), h0, false_and, decide_false, Bool.false_and]; exact Ev.now _
theorem l1All_loop (a b : Int) (l : List Int) (hl : l.length ≤ 1048576) (d : Nat) : ∀ (n k : Nat), n + d = l.length → d < k → spec_l1All.l0 k a b l (l.length : Int) n = some (allB (l.drop n) a b) := by
  induction d with
  | zero =>
    intro n k hn hk
    obtain ⟨k, rfl⟩ : ∃ m, k = m + 1 := ⟨k - 1, by omega⟩
    simp only [spec_l1All.l0]; rw [if_neg (by omega)]
    obtain rfl : n = l.length := by omega
    simp [allB]
  | succ d ih =>
    intro n k hn hk
    obtain ⟨k, rfl⟩ : ∃ m, k = m + 1 := ⟨k - 1, by omega⟩
    have hlt : n < l.length := by omega
    simp only [spec_l1All.l0, l1In_is, Option.bind_some]
    rw [if_pos (by omega), if_pos (by omega), if_pos (by omega), rdI l n hlt, w1 (by omega), ih (n + 1) k (by omega) (by omega), List.drop_eq_getElem_cons hlt]
    unfold allB; rw [List.all_cons]
    cases decide (a ≤ l[n] ∧ l[n] ≤ b) <;> simp
theorem l1All_ev (l : List Int) (hl : l.length ≤ 1048576) (a b : Int) : Ev (fun k => spec_l1All.f k l a b) (allB l a b) :=
  ⟨l.length + 1, fun k hk => by
    show spec_l1All.f k l a b = _
    unfold spec_l1All.f
    exact (l1All_loop a b l hl l.length 0 k (by omega) (by omega)).trans (by simp)⟩
theorem piGood_in (x : Int) (l : List Int) (l31 : List Int) (x32 x33 : Int) (hl : l.length ≤ 16) (d : Nat) : ∀ (n : Nat) (c : Nat) (r : Bool), c ≤ n → n + d = l.length →
    Ev (fun k => if ((c : Int) + ((l.drop n).count x : Int)) = 2 then spec_piGood.l0 k l l31 x32 (wrap64 (x33 + 1)) else some false) r → Ev (fun k => spec_piGood.l1 k l x c l31 x32 x33 l (l.length : Int) n) r := by
  induction d with
  | zero =>
    intro n c r hc hn h
    obtain rfl : n = l.length := by omega
    refine Ev.step (f := fun k => if ((c : Int) + ((l.drop l.length).count x : Int)) = 2 then spec_piGood.l0 k l l31 x32 (wrap64 (x33 + 1)) else some false) (fun k => ?_) h
    simp only [spec_piGood.l1]; rw [if_neg (by omega)]; simp
  | succ d ih =>
    intro n c r hc hn h
    have hlt : n < l.length := by omega
    refine Ev.step (f := fun k => spec_piGood.l1 k l x (if l[n] = x then ((c + 1 : Nat) : Int) else (c : Int)) l31 x32 x33 l (l.length : Int) ((n + 1 : Nat) : Int)) (fun k => ?_) ?_
    · simp only [spec_piGood.l1]
      rw [if_pos (by omega), if_pos (by omega), if_pos (by omega), rdI l n hlt, w1 (n := n) (by omega), w1 (n := c) (by omega)]
      split <;> rfl
    · rw [List.drop_eq_getElem_cons hlt, List.count_cons] at h
      by_cases e : l[n] = x
      · simp only [if_pos e]
        refine ih (n + 1) (c + 1) r (by omega) (by omega) ?_
        rw [if_pos (by simpa using e)] at h
        refine Ev.congr (fun k => ?_) h
        have e2 : ((c + 1 : Nat) : Int) + ((l.drop (n + 1)).count x : Int) = (c : Int) + (((l.drop (n + 1)).count x + 1 : Nat) : Int) := by omega
        rw [e2]
      · simp only [if_neg e]
        refine ih (n + 1) c r (by omega) (by omega) ?_
        rw [if_neg (by simpa using e)] at h
        exact h
theorem piGood_loop (l : List Int) (hl : l.length ≤ 16) (d : Nat) : ∀ (n : Nat), n + d = l.length → Ev (fun k => spec_piGood.l0 k l l (l.length : Int) n) ((l.drop n).all fun x => decide (l.count x = 2)) := by
  induction d with
  | zero =>
    intro n hn
    refine ev_late 1 fun k => ?_
    obtain rfl : n = l.length := by omega
    simp only [spec_piGood.l0]; rw [if_neg (by omega)]; simp
  | succ d ih =>
    intro n hn
    have hlt : n < l.length := by omega
    refine Ev.step (f := fun k => spec_piGood.l1 k l l[n] ((0 : Nat) : Int) l (l.length : Int) n l (l.length : Int) ((0 : Nat) : Int)) (fun k => ?_) ?_
    · simp only [spec_piGood.l0]
      rw [if_pos (by omega), if_pos (by omega), if_pos (by omega), rdI l n hlt]; rfl
    · refine piGood_in l[n] l l (l.length : Int) n hl l.length 0 0 _ (Nat.le_refl _) (by omega) ?_
      rw [List.drop_zero, w1 (by omega), List.drop_eq_getElem_cons hlt, List.all_cons]
      by_cases e : l.count l[n] = 2
      · simp only [if_pos (show ((0 : Nat) : Int) + (l.count l[n] : Int) = 2 by omega), e, decide_true, Bool.true_and]
        exact ih (n + 1) (by omega)
      · simp only [if_neg (show ¬ ((0 : Nat) : Int) + (l.count l[n] : Int) = 2 by omega), e, decide_false, Bool.false_and]
        exact Ev.now _
theorem piGood_ev (l : List Int) (hl : l.length ≤ 1048576) : Ev (fun k => spec_piGood.f k l) (pileB l) := by
  unfold spec_piGood.f
  have stop : ∀ r, pileB l = false → Ev (fun k => spec_piGood.j0 k l true) r → r = false → Ev (fun k => spec_piGood.j0 k l true) (pileB l) := fun r h1 h2 h3 => by rw [h1, ← h3]; exact h2
  have no : Ev (fun k => spec_piGood.j0 k l true) false := ev_late 1 fun k => by simp [spec_piGood.j0]
  by_cases h0 : l.length = 0
  · simp only [if_pos (show (l.length : Int) = 0 by omega)]
    refine ev_eq no ?_; unfold pileB; simp [h0]
  · simp only [if_neg (show ¬ (l.length : Int) = 0 by omega)]
    by_cases h1 : l.length % 2 = 1
    · simp only [if_pos (show (l.length : Int) % 2 = 1 by omega)]
      refine ev_eq no ?_; unfold pileB; simp [h1]
    · simp only [if_neg (show ¬ (l.length : Int) % 2 = 1 by omega)]
      by_cases h2 : l.length > 16
      · simp only [if_pos (show (l.length : Int) > 16 by omega)]
        refine ev_eq no ?_; unfold pileB
        have : ¬ (l.length / 2 ≤ 8) := by omega
        simp [this]
      · simp only [if_neg (show ¬ (l.length : Int) > 16 by omega)]
        have e : wrap64 (wrap64 ((l.length : Int) / 2) - 1) = ((l.length / 2 : Nat) : Int) - 1 := by unfold wrap64; omega
        simp only [e]
        refine (l1All_ev l hl 0 _).bind ?_
        have hpb : pileB l = (timesR ((l.length / 2 : Nat) : Int) l (List.replicate (l.length / 2) 0)).2 := by
          unfold pileB
          have : (l.length % 2 = 0 ∧ 1 ≤ l.length / 2 ∧ l.length / 2 ≤ 8) := by omega
          simp [this]
        have ht := timesR_two (l.length / 2) l (List.replicate (l.length / 2) 0) (by simp) (fun v hv => by simp [List.getD_eq_getElem?_getD, hv])
        have hz : ∀ v, v < l.length / 2 → (List.replicate (l.length / 2) (0 : Int)).getD v 0 = 0 := fun v hv => by simp [List.getD_eq_getElem?_getD, hv]
        by_cases ha : allB l 0 (((l.length / 2 : Nat) : Int) - 1) = true
        · rw [ha]
          have ha' : ∀ x ∈ l, 0 ≤ x ∧ x ≤ ((l.length / 2 : Nat) : Int) - 1 := by simpa [allB] using ha
          refine Ev.step (f := fun k => spec_piGood.l0 k l l (l.length : Int) 0) (fun k => by simp [spec_piGood.j0]) ?_
          refine ev_eq (piGood_loop l (by omega) l.length 0 (by omega)) ?_
          rw [hpb, List.drop_zero, Bool.eq_iff_iff, ht]
          have h3 := twice_iff (l.length / 2) l (by omega) ha'
          simp only [List.all_eq_true, decide_eq_true_eq]
          rw [← h3]
          constructor
          · intro h; exact ⟨ha', fun v hv => by rw [hz v hv]; have := h v hv; omega⟩
          · intro h v hv; have := h.2 v hv; rw [hz v hv] at this; omega
        · have ha2 : allB l 0 (((l.length / 2 : Nat) : Int) - 1) = false := by simpa using ha
          rw [ha2]
          refine ev_eq no ?_
          rw [hpb]; symm
          rw [Bool.eq_false_iff]
          intro hc
          exact ha (by have := (ht.1 hc).1; simpa [allB] using this)
theorem eqIntS_loop (l : List Int) (hl : l.length ≤ 1048576) (d : Nat) : ∀ (n k : Nat), n + d = l.length → d < k → laws_eqIntS.l0 k l l n = some true := by
  induction d with
  | zero =>
    intro n k hn hk
    obtain ⟨k, rfl⟩ : ∃ m, k = m + 1 := ⟨k - 1, by omega⟩
    simp only [laws_eqIntS.l0]; rw [if_neg (by omega)]
  | succ d ih =>
    intro n k hn hk
    obtain ⟨k, rfl⟩ : ∃ m, k = m + 1 := ⟨k - 1, by omega⟩
    simp only [laws_eqIntS.l0, if_true]
    rw [if_pos (by omega), if_pos (by omega), if_pos (by omega), w1 (by omega)]
    exact ih (n + 1) k (by omega) (by omega)
theorem eqIntS_ev (l : List Int) (hl : l.length ≤ 1048576) : Ev (fun k => laws_eqIntS.f k l l) true :=
  ⟨l.length + 1, fun k hk => by
    show laws_eqIntS.f k l l = _
    unfold laws_eqIntS.f
    rw [if_pos rfl]
    exact eqIntS_loop l hl l.length 0 k (by omega) (by omega)⟩
theorem set_mid {α : Type} (p q : List α) (x v : α) : (p ++ x :: q).set p.length v = p ++ v :: q := by
  induction p with
  | nil => rfl
  | cons a p ih => simp [ih]
theorem getD_mid {α : Type} (p q : List α) (x z : α) : (p ++ x :: q).getD p.length z = x := by
  simp [List.getD_eq_getElem?_getD]
/-! ### Lists of whole numbers: marks -/
def markI (a : Int) (n : Nat) : List Int := (List.range n).map fun i : Nat => a + (i : Int)
theorem markI_len (a : Int) (n : Nat) : (markI a n).length = n := by simp [markI]
theorem markI_succ (a : Int) (n : Nat) : markI a (n + 1) = markI a n ++ [a + (n : Int)] := by simp [markI, List.range_succ]
theorem markIntS_loop (a : Int) (h0 : 0 ≤ a) (h1 : a ≤ 1048576) (l : List Int) (hl : l.length ≤ 1048577) (d : Nat) : ∀ (n k : Nat), n + d = l.length → d < k →
    laws_markIntS.l0 k (markI a n ++ l.drop n) (a + (n : Int)) n = some (a + (l.length : Int), markI a l.length) := by
  induction d with
  | zero =>
    intro n k hn hk
    obtain ⟨k, rfl⟩ : ∃ m, k = m + 1 := ⟨k - 1, by omega⟩
    obtain rfl : n = l.length := by omega
    simp only [laws_markIntS.l0]; rw [if_neg (by simp [markI_len])]; simp
  | succ d ih =>
    intro n k hn hk
    obtain ⟨k, rfl⟩ : ∃ m, k = m + 1 := ⟨k - 1, by omega⟩
    have hlt : n < l.length := by omega
    have hd : l.drop n = l[n] :: l.drop (n + 1) := List.drop_eq_getElem_cons hlt
    have s : ∀ (x v : Int), (markI a n ++ x :: l.drop (n + 1)).set ((n : Int)).toNat v = markI a n ++ v :: l.drop (n + 1) := fun x v => by
      have := set_mid (markI a n) (l.drop (n + 1)) x v; rw [markI_len] at this; simpa using this
    simp only [laws_markIntS.l0, hd]
    rw [if_pos (by simp [markI_len]; omega), if_pos (by omega), s, w0 (x := a + (n : Int) + 1) (by omega) (by omega), w1 (by omega)]
    have := ih (n + 1) k (by omega) (by omega)
    rw [markI_succ, List.append_assoc] at this
    rw [show a + (n : Int) + 1 = a + ((n + 1 : Nat) : Int) by omega]; exact this
theorem markIntS_ev (a : Int) (h0 : 0 ≤ a) (h1 : a ≤ 1048576) (l : List Int) (hl : l.length ≤ 1048577) : Ev (fun k => laws_markIntS.f k l a) (a + (l.length : Int), markI a l.length) :=
  ⟨l.length + 1, fun k hk => by
    have := markIntS_loop a h0 h1 l hl l.length 0 k (by omega) (by omega)
    show laws_markIntS.f k l a = _
    unfold laws_markIntS.f
    simpa [markI] using this⟩
theorem heldIntS_loop (a : Int) (h0 : 0 ≤ a) (h1 : a ≤ 1048576) (m : Nat) (hl : m ≤ 1048577) (d : Nat) : ∀ (n k : Nat), n + d = m → d < k →
    laws_heldIntS.l0 k (markI a m) (a + (n : Int)) n = some (a + (m : Int)) := by
  induction d with
  | zero =>
    intro n k hn hk
    obtain ⟨k, rfl⟩ : ∃ m, k = m + 1 := ⟨k - 1, by omega⟩
    obtain rfl : n = m := by omega
    simp only [laws_heldIntS.l0]; rw [if_neg (by simp [markI_len])]
  | succ d ih =>
    intro n k hn hk
    obtain ⟨k, rfl⟩ : ∃ m, k = m + 1 := ⟨k - 1, by omega⟩
    have hlt : n < (markI a m).length := by rw [markI_len]; omega
    have g : rd (markI a m) (n : Int) = a + (n : Int) := by rw [rdI _ n hlt]; simp [markI]
    simp only [laws_heldIntS.l0, g]
    rw [if_pos (by rw [markI_len]; omega), if_pos (by omega)]
    try rw [if_pos trivial]
    rw [w0 (x := a + (n : Int) + 1) (by omega) (by omega), w1 (by omega), show a + (n : Int) + 1 = a + ((n + 1 : Nat) : Int) by omega]
    exact ih (n + 1) k (by omega) (by omega)
theorem heldIntS_ev (a : Int) (h0 : 0 ≤ a) (h1 : a ≤ 1048576) (m : Nat) (hl : m ≤ 1048577) : Ev (fun k => laws_heldIntS.f k (markI a m) a) (a + (m : Int)) :=
  ⟨m + 1, fun k hk => by
    have := heldIntS_loop a h0 h1 m hl m 0 k (by omega) (by omega)
    show laws_heldIntS.f k (markI a m) a = _
    unfold laws_heldIntS.f
    simpa using this⟩
/-- The law, where both answer alike. -/
theorem parse_tail (s : ByteArray) (hb : s.size ≤ 1048576) (r : List Int × Bool) (hr : r.1.length ≤ 1048576) (h1 : Ev (fun k => spec_ParsePile.f k s) r) (h3 : Ev (fun k => impl_ParsePile.f k s) r) : ∃ k, laws_FnExactParsePile.f k s = some true := by
  refine Ev.rounds (r := true) ?_
  unfold laws_FnExactParsePile.f
  simp only [if_neg (show ¬ (s.size : Int) > 1048576 by omega)]
  refine h1.bind ?_
  refine h3.bind ?_
  refine (eqIntS_ev _ hr).bind ?_
  simp only [if_true, bne_self_eq_false, Bool.false_eq_true, if_false]
  refine (markIntS_ev 1 (by omega) (by omega) _ (by omega)).bind ?_
  refine (heldIntS_ev 1 (by omega) (by omega) _ (by omega)).bind ?_
  simp only [if_neg (show ¬ (1 + (r.1.length : Int) < 0) by omega), if_true]
  refine h3.bind ?_
  refine (eqIntS_ev _ hr).bind ?_
  simp only [if_true, bne_self_eq_false, Bool.false_eq_true, if_false]
  refine (heldIntS_ev 1 (by omega) (by omega) _ (by omega)).bind ?_
  simp only [if_neg (show ¬ (1 + (r.1.length : Int) < 0) by omega), if_true]
  exact Ev.now _
theorem parse_big (s : ByteArray) (hb : ¬ s.size ≤ 1048576) : ∃ k, laws_FnExactParsePile.f k s = some true := ⟨0, by unfold laws_FnExactParsePile.f; rw [if_pos (by omega)]⟩
def rd1 (c : UInt8) : Int := match Go.Lib.digitVal c with | some v => (v : Int) | none => -1
theorem rdw_one (c : UInt8) : rdw [c] = Go.Lib.digitVal c := by
  unfold rdw
  rw [if_pos ⟨by simp, Or.inr (by simp)⟩]
  simp only [Go.Lib.decFrom]
  cases Go.Lib.digitVal c <;> simp
theorem rdR_one (c : UInt8) : rdR [c] = rd1 c := by unfold rdR rd1; rw [if_pos (by simp), rdw_one]
theorem numR_one (c : UInt8) : numR [c] 1 = if (Go.Lib.digitVal c).isSome = true then (rd1 c, true) else (0, false) := by
  unfold numR rd1; rw [if_pos (by simp), rdw_one]
  cases Go.Lib.digitVal c <;> rfl
theorem ext_one (s : ByteArray) (n : Nat) (h : n < s.data.toList.length) : (s.extract n (n + 1)).data.toList = [s.data.toList[n]] := by
  rw [Go.Lib.extract_data, List.drop_eq_getElem_cons h]
  simp [show n + 1 - n = 1 by omega]
def pileOf (l : List UInt8) : List Int × Bool := if pileB (l.map rd1) = true then (l.map rd1, true) else ([], false)
theorem piParse_loop (s : ByteArray) (hs : s.size ≤ 16) (d : Nat) : ∀ (n : Nat), n + d = s.size → Ev (fun k => spec_piParse.l0 k s ((s.data.toList.take n).map rd1) n) (pileOf s.data.toList) := by
  have hl := list_size s
  induction d with
  | zero =>
    intro n hn
    refine Ev.step (f := fun k => (spec_piGood.f k ((s.data.toList.take n).map rd1)).bind fun t => if t = true then some ((s.data.toList.take n).map rd1, true) else some (([] : List Int), false)) (fun k => by simp only [spec_piParse.l0]; rw [if_neg (by omega)]) ?_
    rw [List.take_of_length_le (by omega)]
    refine (piGood_ev _ (by simp; omega)).bind ?_
    unfold pileOf
    cases pileB (s.data.toList.map rd1) <;> exact Ev.now _
  | succ d ih =>
    intro n hn
    have hlt : n < s.data.toList.length := by omega
    refine Ev.step (f := fun k => (spec_l1Read.f k (s.extract n (n + 1))).bind fun t => if ((s.data.toList.take n).map rd1).length < 17592186044416 then spec_piParse.l0 k s ((s.data.toList.take n).map rd1 ++ [t]) ((n + 1 : Nat) : Int) else none) (fun k => by
      simp only [spec_piParse.l0]
      rw [if_pos (by omega), if_pos (by omega), w1 (by omega), if_pos (by omega), if_pos (by omega), Int.toNat_natCast, Int.toNat_natCast]) ?_
    refine (l1Read_ev _ (by rw [ByteArray.size_extract]; omega)).bind ?_
    have hsm : ((s.data.toList.take n).map rd1).length < 17592186044416 := by simp; omega
    simp only [if_pos hsm, ext_one s n hlt, rdR_one]
    have := ih (n + 1) (by omega)
    rw [List.take_succ_eq_append_getElem hlt, List.map_append] at this
    exact this
theorem implPile_loop (s : ByteArray) (hs : s.size ≤ 16) (d : Nat) : ∀ (n : Nat), n + d = s.size → Ev (fun k => impl_ParsePile.l0 k s ((s.data.toList.take n).map rd1) (s.size : Int) n)
    (if ((s.data.toList.drop n).all fun c => (Go.Lib.digitVal c).isSome) = true then pileOf s.data.toList else ([], false)) := by
  have hl := list_size s
  induction d with
  | zero =>
    intro n hn
    refine Ev.step (f := fun k => (impl_IsPile.f k ((s.data.toList.take n).map rd1)).bind fun t => if t = true then some ((s.data.toList.take n).map rd1, true) else some (([] : List Int), false)) (fun k => by simp only [impl_ParsePile.l0]; rw [if_neg (by omega)]) ?_
    rw [List.take_of_length_le (by omega), List.drop_eq_nil_of_le (by omega)]
    refine (IsPile_ev _ (by simp; omega)).bind ?_
    unfold pileOf
    cases pileB (s.data.toList.map rd1) <;> exact Ev.now _
  | succ d ih =>
    intro n hn
    have hlt : n < s.data.toList.length := by omega
    refine Ev.step (f := fun k => (impl_number.f (s.extract n (n + 1)) 1).bind fun t => if t.2 = true then (if ((s.data.toList.take n).map rd1).length < 17592186044416 then impl_ParsePile.l0 k s ((s.data.toList.take n).map rd1 ++ [t.1]) (s.size : Int) ((n + 1 : Nat) : Int) else none) else some (([] : List Int), false)) (fun k => by
      simp only [impl_ParsePile.l0]
      rw [if_pos (by omega), if_pos (by omega), w1 (by omega), if_pos (by omega), if_pos (by omega), Int.toNat_natCast, Int.toNat_natCast]) ?_
    have e := number_is (s.extract n (n + 1)) 1 (by omega) (by omega) (by rw [ByteArray.size_extract]; omega)
    rw [ext_one s n hlt, numR_one] at e
    simp only [show ((1 : Nat) : Int) = 1 from rfl] at e
    simp only [e, Option.bind_some]
    rw [List.drop_eq_getElem_cons hlt, List.all_cons]
    by_cases hd : (Go.Lib.digitVal s.data.toList[n]).isSome = true
    · simp only [hd, if_true, Bool.true_and]
      have hsm : ((s.data.toList.take n).map rd1).length < 17592186044416 := by simp; omega
      simp only [if_pos hsm]
      have := ih (n + 1) (by omega)
      rw [List.take_succ_eq_append_getElem hlt, List.map_append] at this
      exact this
    · simp only [hd, Bool.false_eq_true, if_false, Bool.false_and]
      exact Ev.now _
theorem times_nonneg (p : Int) : ∀ (l acc : List Int), (timesR p l acc).2 = true → ∀ x ∈ l, 0 ≤ x := by
  intro l
  induction l with
  | nil => intro acc _ x hx; cases hx
  | cons y r ih =>
    intro acc h x hx
    unfold timesR at h
    by_cases hc : 0 ≤ y ∧ y ≤ p - 1
    · rw [if_pos hc] at h
      by_cases h2 : rd acc y = 2
      · rw [if_pos h2] at h; cases h
      · rw [if_neg h2] at h
        rcases List.mem_cons.1 hx with rfl | hx
        · exact hc.1
        · exact ih _ h x hx
    · rw [if_neg hc] at h; cases h
theorem pile_digits (l : List UInt8) (h : (l.all fun c => (Go.Lib.digitVal c).isSome) = false) : pileOf l = ([], false) := by
  unfold pileOf
  rw [if_neg]
  intro hp
  unfold pileB at hp
  rw [Bool.and_eq_true] at hp
  have hn := times_nonneg _ _ _ hp.2
  have : (l.all fun c => (Go.Lib.digitVal c).isSome) = true := by
    rw [List.all_eq_true]
    intro c hc
    have := hn (rd1 c) (List.mem_map_of_mem hc)
    unfold rd1 at this
    cases hv : Go.Lib.digitVal c with
    | some v => rfl
    | none => rw [hv] at this; simp at this
  rw [h] at this; cases this
theorem FnExactParsePile : laws_FnExactParsePile.Pure := by
  intro s _
  by_cases hb : s.size ≤ 1048576
  · by_cases h16 : s.size ≤ 16
    · refine parse_tail s hb (pileOf s.data.toList) ?_ ?_ ?_
      · unfold pileOf; have := list_size s; split <;> simp; omega
      · unfold spec_ParsePile.f spec_piParse.f
        simp only [if_neg (show ¬ (s.size : Int) > 16 by omega)]
        exact (piParse_loop s h16 s.size 0 (by omega)).bind (Ev.now _)
      · unfold impl_ParsePile.f
        simp only [if_neg (show ¬ (s.size : Int) > 16 by omega)]
        have := implPile_loop s h16 s.size 0 (by omega)
        rw [List.drop_zero] at this
        cases hd : s.data.toList.all fun c => (Go.Lib.digitVal c).isSome with
        | true => rw [hd] at this; exact this
        | false => rw [hd, ← pile_digits _ hd] at this; simpa using this
    · refine parse_tail s hb ([], false) (by simp) ?_ ?_
      · unfold spec_ParsePile.f spec_piParse.f
        simp only [if_pos (show (s.size : Int) > 16 by omega)]
        exact (Ev.now _).bind (Ev.now _)
      · unfold impl_ParsePile.f
        simp only [if_pos (show (s.size : Int) > 16 by omega)]
        exact Ev.now _
  · exact parse_big s hb
end Go.Proofs.YtdifnieiobfnaaaDoor.Pure
