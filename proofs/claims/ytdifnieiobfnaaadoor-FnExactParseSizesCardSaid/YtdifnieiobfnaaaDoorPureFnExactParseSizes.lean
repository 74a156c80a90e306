/- The program's ParseSizes answers as the reference's does. Conditions: the statement's. -/
import Derived.Test.YtdifnieiobfnaaaDoorPFnExactParseSizesx4
import Derived.Lib.ItoaNum
namespace Go.Proofs.YtdifnieiobfnaaaDoor.Pure
open Go.RowKit Go.Proofs.YtdifnieiobfnaaaDoor.PFnExactParseSizes Go.Proofs.YtdifnieiobfnaaaDoorW.PrintWords Go.Proofs.YtdifnieiobfnaaaDoorW.PrintLast
set_option linter.unusedVariables false
set_option linter.unusedSimpArgs false
/-! ### Plain words -/
theorem w1 {n : Nat} (h : n < 4611686018427387904) : wrap64 ((n : Int) + 1) = ((n + 1 : Nat) : Int) := by unfold wrap64; omega
theorem w0 {x : Int} (h1 : -9223372036854775808 ≤ x) (h2 : x ≤ 9223372036854775807) : wrap64 x = x := by unfold wrap64; omega
theorem wfi {x : Int} (h : (Lit.int .i64 x).wf = true) : -9223372036854775808 ≤ x ∧ x ≤ 9223372036854775807 := by
  simpa [Lit.wf, IntKind.min, IntKind.max, IntKind.signed, IntKind.bits] using h
theorem getD_nat {α : Type} (l : List α) (z : α) (n : Nat) (h : n < l.length) : l.getD ((n : Int)).toNat z = l[n] := by
  simp [List.getD_eq_getElem?_getD, h]
theorem fill_set {α β : Type} (f : α → β) (l : List α) (z : β) (n : Nat) (h : n < l.length) :
    ((l.take n).map f ++ List.replicate (l.length - n) z).set n (f l[n]) = (l.take (n + 1)).map f ++ List.replicate (l.length - (n + 1)) z := by
  obtain ⟨d, hd⟩ : ∃ d, l.length - n = d + 1 := ⟨l.length - n - 1, by omega⟩
  rw [List.set_append, if_neg (by simp; omega), List.take_succ_eq_append_getElem h]
  have h1 : n - ((l.take n).map f).length = 0 := by simp; omega
  have h2 : l.length - (n + 1) = d := by omega
  rw [h1, h2, hd, List.replicate_succ, List.set_cons_zero, List.map_append]
  simp
theorem getD_set {α : Type} (l : List α) (z : α) (i j : Nat) (v : α) (hi : i < l.length) : (l.set i v).getD j z = if j = i then v else l.getD j z := by
  by_cases h : j = i
  · subst h; simp [List.getD_eq_getElem?_getD, hi]
  · rw [if_neg h]; simp [List.getD_eq_getElem?_getD, Ne.symm h]
/-- A way that needs no rounds. -/
theorem ev_now {α : Type} {g : Nat → Option α} {r : α} (h : ∀ k, g k = some r) : Ev g r := ⟨0, fun k _ => h k⟩
theorem ev_late {α : Type} {g : Nat → Option α} {r : α} (n : Nat) (h : ∀ k, g (k + n) = some r) : Ev g r := ⟨n, fun k hk => by
  obtain ⟨m, rfl⟩ : ∃ m, k = m + n := ⟨k - n, by omega⟩
  exact h m⟩
theorem ev_eq {α : Type} {g : Nat → Option α} {r s : α} (h : Ev g r) (e : r = s) : Ev g s := e ▸ h
/-! ### Numbers read: canonical decimals -/
def rdw (l : List UInt8) : Option Nat := if 1 ≤ l.length ∧ (l.head? ≠ some 48 ∨ l.length ≤ 1) then Go.Lib.decFrom 0 l else none
def rdR (l : List UInt8) : Int := if l.length ≤ 6 then (match rdw l with | some n => (n : Int) | none => -1) else -1
def numR (l : List UInt8) (d : Nat) : Int × Bool := if l.length ≤ d then (match rdw l with | some n => ((n : Int), true) | none => (0, false)) else (0, false)
theorem bt_nat (s : ByteArray) (n : Nat) (c : UInt8) (h : s.data.toList[n]? = some c) : bt s (n : Int) = (c.toNat : Int) := by
  obtain ⟨hlt, rfl⟩ := List.getElem?_eq_some_iff.1 h
  have hs : n < s.size := by rw [Array.length_toList] at hlt; exact hlt
  have e : ((n : Int)).toNat = n := Int.toNat_natCast n
  unfold bt
  rw [dif_pos (by rw [e]; exact hs)]
  simp only [e]
  rfl
theorem list_size (s : ByteArray) : s.data.toList.length = s.size := by rw [Array.length_toList]; rfl
theorem dig_of (c : UInt8) : Go.Lib.digitVal c = if 48 ≤ c.toNat ∧ c.toNat ≤ 57 then some (c.toNat - 48) else none := rfl
theorem num_step (acc c : Nat) (ha : acc < 100000) (h1 : 48 ≤ c) (h2 : c ≤ 57) : wrap64 (wrap64 (10 * (acc : Int)) + ((c : Int) - 48) % 256) = ((acc * 10 + (c - 48) : Nat) : Int) := by unfold wrap64; omega
theorem pow_step (acc c n : Nat) (ha : acc < 10 ^ n) (h2 : c ≤ 57) : acc * 10 + (c - 48) < 10 ^ (n + 1) := by
  have hp : 10 ^ (n + 1) = 10 ^ n * 10 := Nat.pow_succ ..
  rw [hp]
  generalize 10 ^ n = X at *
  omega
theorem dropWhile_nil {α : Type} (p : α → Bool) (l : List α) : l.dropWhile p = [] ↔ ∀ c ∈ l, p c = true := by
  induction l with
  | nil => simp
  | cons x r ih =>
    rw [List.dropWhile_cons]
    by_cases hx : p x = true
    · rw [if_pos hx, ih]; simp [hx]
    · rw [if_neg hx]; simp [hx]
theorem l1Read_loop (s : ByteArray) (hs : s.size ≤ 6) (d : Nat) : ∀ (n acc k : Nat), n + d = s.size → d < k → acc < 10 ^ n →
    spec_l1Read.l0 k s acc n = some (match Go.Lib.decFrom acc (s.data.toList.drop n) with | some v => (v : Int) | none => -1) := by
  induction d with
  | zero =>
    intro n acc k hn hk ha
    obtain ⟨k, rfl⟩ : ∃ m, k = m + 1 := ⟨k - 1, by omega⟩
    have hd : s.data.toList.drop n = [] := List.drop_eq_nil_of_le (by rw [list_size]; omega)
    simp only [spec_l1Read.l0, hd, Go.Lib.decFrom]; rw [if_neg (by omega)]
  | succ d ih =>
    intro n acc k hn hk ha
    obtain ⟨k, rfl⟩ : ∃ m, k = m + 1 := ⟨k - 1, by omega⟩
    have hlt : n < s.data.toList.length := by rw [list_size]; omega
    have hd : s.data.toList.drop n = s.data.toList[n] :: s.data.toList.drop (n + 1) := List.drop_eq_getElem_cons hlt
    have hb : bt s (n : Int) = ((s.data.toList[n]).toNat : Int) := bt_nat s n _ (List.getElem?_eq_getElem hlt)
    generalize s.data.toList[n] = c at hd hb
    have h5 : acc < 100000 := Nat.lt_of_lt_of_le ha (Nat.le_trans (Nat.pow_le_pow_right (n := 10) (by omega) (show n ≤ 5 by omega)) (by decide))
    have hq := fun h => pow_step acc c.toNat n ha h
    clear ha
    simp only [spec_l1Read.l0, hd, Go.Lib.decFrom, hb, dig_of]
    rw [if_pos (by omega), if_pos (by omega)]
    by_cases h1 : (c.toNat : Int) < 48
    · rw [if_pos h1, if_neg (show ¬ (48 ≤ c.toNat ∧ c.toNat ≤ 57) by omega)]
    · rw [if_neg h1]
      by_cases h2 : (c.toNat : Int) > 57
      · rw [if_pos h2, if_neg (show ¬ (48 ≤ c.toNat ∧ c.toNat ≤ 57) by omega)]
      · rw [if_neg h2, if_pos (show 48 ≤ c.toNat ∧ c.toNat ≤ 57 by omega)]
        rw [num_step acc c.toNat h5 (by omega) (by omega), w1 (by omega)]
        exact ih (n + 1) (acc * 10 + (c.toNat - 48)) k (by omega) (by omega) (hq (by omega))
theorem head_nat (s : ByteArray) (h : 0 < s.size) : ∃ c, s.data.toList.head? = some c ∧ bt s 0 = (c.toNat : Int) := by
  have hlt : 0 < s.data.toList.length := by rw [list_size]; exact h
  refine ⟨s.data.toList[0], ?_, bt_nat s 0 _ (List.getElem?_eq_getElem hlt)⟩
  rw [List.head?_eq_getElem?, List.getElem?_eq_getElem hlt]
theorem head_is (c : UInt8) : ((c.toNat : Int) = 48) ↔ c = 48 := by
  constructor
  · intro h; apply UInt8.toNat_inj.1; show c.toNat = 48; omega
  · rintro rfl; rfl
theorem l1Read_ev (s : ByteArray) (hs : s.size ≤ 1048576) : Ev (fun k => spec_l1Read.f k s) (rdR s.data.toList) := by
  refine ev_late 9 fun k => ?_
  have hl := list_size s
  simp only [spec_l1Read.f, spec_l1In.f]
  by_cases h0 : s.size = 0
  · rw [if_neg (by omega)]
    simp only [Option.bind_some, Bool.false_eq_true, if_false]
    rw [show k + 9 = (k + 8) + 1 from rfl]
    simp only [spec_l1Read.j0, if_true]
    unfold rdR rdw
    rw [if_pos (by omega), if_neg (by omega)]
  rw [if_pos (by omega)]
  simp only [Option.bind_some]
  by_cases h6 : s.size ≤ 6
  · rw [if_pos (by simp; omega), if_pos (by omega)]
    obtain ⟨c, hc, hb⟩ := head_nat s (by omega)
    rw [hb]
    have hr : rdR s.data.toList = if s.data.toList.head? ≠ some 48 ∨ s.size ≤ 1 then (match Go.Lib.decFrom 0 s.data.toList with | some n => (n : Int) | none => -1) else -1 := by
      unfold rdR rdw
      rw [hl, if_pos h6]
      by_cases hz : s.data.toList.head? ≠ some 48 ∨ s.size ≤ 1
      · rw [if_pos ⟨by omega, hz⟩, if_pos hz]
      · rw [if_neg (fun x => hz x.2), if_neg hz]
    rw [hr, hc]
    have hloop := l1Read_loop s h6 s.size 0 0 (k + 8) (by omega) (by omega) (by omega)
    rw [List.drop_zero] at hloop
    rw [show k + 9 = (k + 8) + 1 from rfl]
    by_cases h48 : c = 48
    · rw [if_pos ((head_is c).2 h48)]
      by_cases h1 : s.size ≤ 1
      · rw [if_pos (Or.inr h1), show decide ((s.size : Int) > 1) = false from decide_eq_false (by omega)]
        simp only [spec_l1Read.j0, Bool.false_eq_true, if_false]
        exact hloop
      · rw [if_neg (by rw [h48]; simp; omega), show decide ((s.size : Int) > 1) = true from decide_eq_true (by omega)]
        simp only [spec_l1Read.j0, if_true]
    · rw [if_neg (fun x => h48 ((head_is c).1 x)), if_pos (Or.inl (fun x => h48 (Option.some.inj x)))]
      simp only [spec_l1Read.j0, Bool.false_eq_true, if_false]
      exact hloop
  · rw [if_neg (by simp; omega)]
    rw [show k + 9 = (k + 8) + 1 from rfl]
    simp only [spec_l1Read.j0, if_true]
    unfold rdR
    rw [if_neg (by omega)]
/-! #### the program's reading -/
theorem digs_has (c : UInt8) : ([48, 49, 50, 51, 52, 53, 54, 55, 56, 57] : List UInt8).contains c = decide (48 ≤ c.toNat ∧ c.toNat ≤ 57) := by
  rw [Bool.eq_iff_iff, List.contains_iff_mem]
  simp only [List.mem_cons, List.not_mem_nil, or_false, ← UInt8.toNat_inj, decide_eq_true_eq]
  simp only [UInt8.reduceToNat]
  omega
theorem trimS_nil (l cs : List UInt8) : Go.Lib.trimS l cs = [] ↔ ∀ c ∈ l, cs.contains c = true := by
  unfold Go.Lib.trimS Go.Lib.trimLeftS Go.Lib.trimRightS
  rw [dropWhile_nil]
  constructor
  · intro h
    have : l.reverse.dropWhile (cs.contains ·) = [] := by
      cases hx : l.reverse.dropWhile (cs.contains ·) with
      | nil => rfl
      | cons x xs =>
        have hm : x ∈ (l.reverse.dropWhile (cs.contains ·)).reverse := by rw [hx]; simp
        have hn := List.head?_dropWhile_not (cs.contains ·) l.reverse
        rw [hx] at hn
        simp only [List.head?_cons] at hn
        have := h x hm
        rw [hn] at this
        cases this
    rw [dropWhile_nil] at this
    intro c hc
    exact this c (by simpa using hc)
  · intro h c hc
    have : c ∈ l.reverse.dropWhile (cs.contains ·) := by simpa using hc
    exact h c (by simpa using (List.dropWhile_sublist _).mem this)
theorem dec_all : ∀ (l : List UInt8) (acc : Nat), (∀ c ∈ l, 48 ≤ c.toNat ∧ c.toNat ≤ 57) → ∃ v, Go.Lib.decFrom acc l = some v := by
  intro l
  induction l with
  | nil => intro acc _; exact ⟨acc, rfl⟩
  | cons c r ih =>
    intro acc h
    simp only [Go.Lib.decFrom, dig_of]
    rw [if_pos (h c (by simp))]
    exact ih _ fun x hx => h x (by simp [hx])
theorem dec_digs (l : List UInt8) (acc v : Nat) (h : Go.Lib.decFrom acc l = some v) : ∀ c ∈ l, 48 ≤ c.toNat ∧ c.toNat ≤ 57 := by
  intro c hc
  obtain ⟨j, hj⟩ := List.getElem?_of_mem hc
  obtain ⟨d, hd⟩ := Go.Lib.digit_of_decFrom l acc v h j c hj
  rw [dig_of] at hd
  split at hd
  · assumption
  · cases hd
theorem atoi_digs (l : List UInt8) (h1 : 1 ≤ l.length) (h18 : l.length ≤ 18) (v : Nat) (h : Go.Lib.decFrom 0 l = some v) : Go.Lib.atoiAll l = .ok (v : Int) := by
  rw [Go.Lib.atoiAll_short l h18]
  cases l with
  | nil => simp at h1
  | cons c r =>
    have hc := dec_digs (c :: r) 0 v h c (by simp)
    have n45 : (c == 45) = false := by
      rw [beq_eq_false_iff_ne]; rintro rfl; exact absurd hc.1 (by decide)
    have n43 : (c == 43) = false := by
      rw [beq_eq_false_iff_ne]; rintro rfl; exact absurd hc.1 (by decide)
    simp only [Go.Lib.atoi, n45, n43, Bool.false_eq_true, if_false, Go.Lib.decNat, List.isEmpty_cons, h, Option.map_some]
    rfl
theorem number_is (s : ByteArray) (d : Nat) (hd : 1 ≤ d) (h6 : d ≤ 6) (hs : s.size ≤ 1048576) : impl_number.f s (d : Int) = some (numR s.data.toList d) := by
  have hl := list_size s
  unfold impl_number.f impl_within.f
  by_cases h0 : s.size = 0
  · rw [if_neg (by omega)]
    simp only [Option.bind_some, Bool.false_eq_true, if_false]
    unfold numR rdw
    rw [if_pos (by omega), if_neg (by omega)]
  rw [if_pos (by omega)]
  simp only [Option.bind_some]
  by_cases hd2 : s.size ≤ d
  · rw [if_pos (by simp; omega)]
    have ht : strings_Trim.f s (⟨#[48, 49, 50, 51, 52, 53, 54, 55, 56, 57]⟩ : ByteArray) = some ⟨(Go.Lib.trimS s.data.toList [48, 49, 50, 51, 52, 53, 54, 55, 56, 57]).toArray⟩ := by
      unfold strings_Trim.f
      rw [if_pos ⟨by omega, by decide, by decide⟩]
    rw [ht]
    simp only [Option.bind_some, Go.ByteArray.toList_eq]
    obtain ⟨c, hc, hb⟩ := head_nat s (by omega)
    have hnr : numR s.data.toList d = (match (if s.data.toList.head? ≠ some 48 ∨ s.size ≤ 1 then Go.Lib.decFrom 0 s.data.toList else none) with | some n => ((n : Int), true) | none => (0, false)) := by
      unfold numR rdw
      rw [hl, if_pos hd2]
      by_cases hz : s.data.toList.head? ≠ some 48 ∨ s.size ≤ 1
      · rw [if_pos ⟨by omega, hz⟩, if_pos hz]
      · rw [if_neg (fun x => hz x.2), if_neg hz]
    rw [hnr, hc, hb]
    cases hv : Go.Lib.decFrom 0 s.data.toList with
    | none =>
      have hn : ¬ (Go.Lib.trimS s.data.toList [48, 49, 50, 51, 52, 53, 54, 55, 56, 57] = []) := by
        rw [trimS_nil]
        intro h
        obtain ⟨v, hv'⟩ := dec_all s.data.toList 0 (fun c hc => by have := h c hc; rw [digs_has] at this; exact of_decide_eq_true this)
        rw [hv] at hv'; cases hv'
      rw [if_neg (by simpa using hn)]
      rw [ite_self]
    | some v =>
      have hy : Go.Lib.trimS s.data.toList [48, 49, 50, 51, 52, 53, 54, 55, 56, 57] = [] := by
        rw [trimS_nil]
        intro c hc
        rw [digs_has]
        exact decide_eq_true (dec_digs _ _ _ hv c hc)
      have ha : strconv_Atoi.f s = some ((v : Int), none) := by
        unfold strconv_Atoi.f
        rw [if_pos (by omega), atoi_digs _ (by omega) (by omega) v hv]
      rw [if_pos (by simpa using hy), if_pos (by omega), ha]
      simp only [Option.bind_some, Option.isNone_none, if_true]
      by_cases h48 : c = 48
      · rw [if_pos ((head_is c).2 h48)]
        by_cases h1 : s.size ≤ 1
        · rw [if_neg (by omega), if_pos (Or.inr h1)]
        · rw [if_pos (by omega), if_neg (by rw [h48]; simp; omega)]
      · rw [if_neg (fun x => h48 ((head_is c).1 x)), if_pos (Or.inl (fun x => h48 (Option.some.inj x)))]
  · rw [if_neg (by simp; omega)]
    unfold numR
    rw [if_neg (by omega)]
/-! ### A text's pieces between a byte -/
def headApp (p : List UInt8) : List (List UInt8) → List (List UInt8)
  | [] => [p]
  | w :: r => (p ++ w) :: r
def splL (c : UInt8) : List UInt8 → List (List UInt8)
  | [] => [[]]
  | b :: l => if b = c then [] :: splL c l else headApp [b] (splL c l)
def toBA (w : List UInt8) : ByteArray := ⟨w.toArray⟩
theorem toBA_data (w : List UInt8) : (toBA w).data.toList = w := rfl
theorem toBA_of (s : ByteArray) : toBA s.data.toList = s := rfl
theorem headApp_nil {ws : List (List UInt8)} (h : ws ≠ []) : headApp [] ws = ws := by
  cases ws with
  | nil => exact absurd rfl h
  | cons w r => rfl
theorem headApp_app (p q : List UInt8) (ws : List (List UInt8)) : headApp p (headApp q ws) = headApp (p ++ q) ws := by
  cases ws <;> simp [headApp]
theorem headApp_len (p : List UInt8) {ws : List (List UInt8)} (h : ws ≠ []) : (headApp p ws).length = ws.length := by
  cases ws with
  | nil => exact absurd rfl h
  | cons w r => rfl
theorem splL_ne (c : UInt8) (l : List UInt8) : splL c l ≠ [] := by
  cases l with
  | nil => simp [splL]
  | cons b l =>
    unfold splL
    split
    · simp
    · cases splL c l <;> simp [headApp]
theorem splL_len (c : UInt8) (l : List UInt8) : (splL c l).length = l.count c + 1 := by
  induction l with
  | nil => rfl
  | cons b l ih =>
    unfold splL
    by_cases h : b = c
    · subst h; simp [ih]
    · rw [if_neg h, headApp_len _ (splL_ne c l), ih, List.count_cons_of_ne (by simpa using h)]
theorem splL_none (c : UInt8) (l : List UInt8) (h : l.count c = 0) : splL c l = [l] := by
  induction l with
  | nil => rfl
  | cons b l ih =>
    by_cases hb : b = c
    · subst hb; simp at h
    · rw [List.count_cons_of_ne (by simpa using hb)] at h
      unfold splL; rw [if_neg hb, ih h]; rfl
theorem index_cons (b c : UInt8) (l : List UInt8) : Go.Lib.index (b :: l) [c] = if b = c then 0 else if Go.Lib.index l [c] == -1 then -1 else Go.Lib.index l [c] + 1 := by
  by_cases h : b = c
  · subst h; rw [Go.Lib.index]; simp [List.isPrefixOf]
  · have hp : ([c] : List UInt8).isPrefixOf (b :: l) = false := by simp [List.isPrefixOf, Ne.symm h]
    rw [Go.Lib.index, hp]; simp [h]
theorem splitK_cons (b c : UInt8) (l : List UInt8) (k : Nat) : Go.Lib.splitK [c] 0 (k + 1) (b :: l) = if b = c then [] :: Go.Lib.splitK [c] 0 k l else headApp [b] (Go.Lib.splitK [c] 0 (k + 1) l) := by
  have hge := Go.Lib.index_ge l [c]
  rw [Go.Lib.splitK, index_cons]
  by_cases h : b = c
  · subst h; simp
  · rw [if_neg h, if_neg h]
    conv => rhs; rw [Go.Lib.splitK]
    by_cases hm : Go.Lib.index l [c] = -1
    · simp [hm, headApp]
    · obtain ⟨j, hj⟩ : ∃ j : Nat, Go.Lib.index l [c] = j := ⟨(Go.Lib.index l [c]).toNat, by omega⟩
      have e1 : ((j : Int) + 1).toNat = j + 1 := by omega
      have n1 : ¬ ((j : Int) = -1) := by omega
      have n2 : ¬ ((j : Int) + 1 = -1) := by omega
      simp [hj, n1, n2, e1, headApp]
theorem splitK_nil (c : UInt8) (k : Nat) : Go.Lib.splitK [c] 0 k [] = [[]] := by cases k <;> simp [Go.Lib.splitK, Go.Lib.index]
theorem splitK_ne (c : UInt8) (k : Nat) (l : List UInt8) : Go.Lib.splitK [c] 0 k l ≠ [] := by
  cases k with
  | zero => simp [Go.Lib.splitK]
  | succ k => rw [Go.Lib.splitK]; split <;> simp
theorem splitK_is (c : UInt8) (l : List UInt8) : ∀ k : Nat, l.count c ≤ k → Go.Lib.splitK [c] 0 k l = splL c l := by
  induction l with
  | nil => intro k _; rw [splitK_nil]; rfl
  | cons b l ih =>
    intro k hk
    cases k with
    | zero => rw [splL_none c _ (by omega)]; rfl
    | succ k =>
      rw [splitK_cons]
      unfold splL
      by_cases h : b = c
      · subst h; simp at hk; rw [if_pos rfl, if_pos rfl, ih k hk]
      · rw [List.count_cons_of_ne (by simpa using h)] at hk
        rw [if_neg h, if_neg h, ih (k + 1) hk]
theorem splitK_len (c : UInt8) (l : List UInt8) : ∀ k : Nat, (Go.Lib.splitK [c] 0 k l).length = min k (l.count c) + 1 := by
  induction l with
  | nil => intro k; rw [splitK_nil]; simp
  | cons b l ih =>
    intro k
    cases k with
    | zero => simp [Go.Lib.splitK]
    | succ k =>
      rw [splitK_cons]
      by_cases h : b = c
      · subst h; simp [ih k]
      · rw [if_neg h, headApp_len _ (splitK_ne c _ l), ih (k + 1), List.count_cons_of_ne (by simpa using h)]
theorem splitB_is (c : UInt8) (k : Nat) (s : ByteArray) : Go.Lib.splitB (⟨#[c]⟩ : ByteArray) 0 k s = (Go.Lib.splitK [c] 0 k s.data.toList).map toBA := by
  have := Go.Lib.splitB_data (⟨#[c]⟩ : ByteArray) 0 k s
  rw [show (⟨#[c]⟩ : ByteArray).data.toList = [c] from rfl] at this
  rw [← this, List.map_map]
  rw [show (toBA ∘ fun x : ByteArray => x.data.toList) = id from rfl, List.map_id]
/-- The reference's split. -/
theorem l1Split_loop (c : UInt8) (s : ByteArray) (hs : s.size ≤ 1048576) (d : Nat) : ∀ (n fr : Nat) (out : List ByteArray), n + d = s.size → fr ≤ n → out.length ≤ n →
    Ev (fun k => spec_l1Split.l0 k s (c.toNat : Int) out fr n) (out ++ (headApp ((s.data.toList.take n).drop fr) (splL c (s.data.toList.drop n))).map toBA) := by
  have hl := list_size s
  have hx : ∀ a b : Nat, s.extract a b = toBA ((s.data.toList.take b).drop a) := fun a b => by
    rw [← toBA_of (s.extract a b), Go.Lib.extract_data, ← List.drop_take]
  induction d with
  | zero =>
    intro n fr out hn hf ho
    refine ev_late 1 fun k => ?_
    simp only [spec_l1Split.l0]
    rw [if_neg (by omega), if_pos (by omega), if_pos (by omega), if_pos (by omega), Int.toNat_natCast, hx]
    have hz : s.data.toList.drop n = [] := List.drop_eq_nil_of_le (by omega)
    have ht : s.data.toList.take n = s.data.toList.take s.size := by rw [show n = s.size by omega]
    rw [hz, ht]
    simp [splL, headApp]
  | succ d ih =>
    intro n fr out hn hf ho
    have hlt : n < s.data.toList.length := by omega
    have hb : bt s (n : Int) = ((s.data.toList[n]).toNat : Int) := bt_nat s n _ (List.getElem?_eq_getElem hlt)
    have hd : s.data.toList.drop n = s.data.toList[n] :: s.data.toList.drop (n + 1) := List.drop_eq_getElem_cons hlt
    by_cases hc : s.data.toList[n] = c
    · refine Ev.step (f := fun k => spec_l1Split.l0 k s (c.toNat : Int) (out ++ [s.extract fr n]) ((n + 1 : Nat) : Int) ((n + 1 : Nat) : Int)) (fun k => by
        simp only [spec_l1Split.l0]
        rw [if_pos (by omega), if_pos (by omega), if_pos (by rw [hb, hc]), if_pos (by omega), if_pos (by omega), if_pos (by omega), if_pos (by omega), w1 (by omega), Int.toNat_natCast, Int.toNat_natCast]) ?_
      have := ih (n + 1) (n + 1) (out ++ [s.extract fr n]) (by omega) (by omega) (by simp; omega)
      rw [hd]
      unfold splL
      rw [if_pos hc]
      rw [List.drop_eq_nil_of_le (by simp; omega), headApp_nil (splL_ne c _), hx] at this
      simpa [headApp, hx] using this
    · refine Ev.step (f := fun k => spec_l1Split.l0 k s (c.toNat : Int) out fr ((n + 1 : Nat) : Int)) (fun k => by
        simp only [spec_l1Split.l0]
        rw [if_pos (by omega), if_pos (by omega), if_neg (by rw [hb]; intro e; exact hc (UInt8.toNat_inj.1 (by omega))), w1 (by omega)]) ?_
      have := ih (n + 1) fr out (by omega) (by omega) (by omega)
      rw [hd]
      unfold splL
      rw [if_neg hc, headApp_app]
      rw [List.take_succ_eq_append_getElem hlt, List.drop_append_of_le_length (by simp; omega)] at this
      exact this
theorem l1Split_ev (c : UInt8) (s : ByteArray) (hs : s.size ≤ 1048576) : Ev (fun k => spec_l1Split.f k s (c.toNat : Int)) ((splL c s.data.toList).map toBA) := by
  have := l1Split_loop c s hs s.size 0 0 [] (by omega) (by omega) (by simp)
  simp only [List.take_zero, List.drop_zero, List.drop_nil, List.nil_append] at this
  rw [headApp_nil (splL_ne c _)] at this
  exact this
/-- The pieces tell the text. -/
def joinL (c : UInt8) : List (List UInt8) → List UInt8
  | [] => []
  | [w] => w
  | w :: v :: r => w ++ c :: joinL c (v :: r)
theorem joinL_head (c b : UInt8) {ws : List (List UInt8)} (h : ws ≠ []) : joinL c (headApp [b] ws) = b :: joinL c ws := by
  match ws with
  | [] => exact absurd rfl h
  | [w] => rfl
  | w :: v :: r => rfl
theorem joinL_spl (c : UInt8) (l : List UInt8) : joinL c (splL c l) = l := by
  induction l with
  | nil => rfl
  | cons b l ih =>
    unfold splL
    by_cases h : b = c
    · rw [if_pos h]
      cases hw : splL c l with
      | nil => exact absurd hw (splL_ne c l)
      | cons w r => rw [hw] at ih; show [] ++ c :: joinL c (w :: r) = _; rw [ih, h]; rfl
    · rw [if_neg h, joinL_head c b (splL_ne c l), ih]
theorem joinL_len (c : UInt8) (m : Nat) : ∀ ws : List (List UInt8), (∀ w ∈ ws, w.length ≤ m) → ws ≠ [] → (joinL c ws).length + 1 ≤ ws.length * (m + 1)
  | [], _, h => absurd rfl h
  | [w], hm, _ => by have := hm w (by simp); simp [joinL]; omega
  | w :: v :: r, hm, _ => by
    have h1 := hm w (by simp)
    have h2 := joinL_len c m (v :: r) (fun x hx => hm x (by simp [hx])) (by simp)
    rw [joinL, List.length_append, List.length_cons, List.length_cons (a := w), Nat.succ_mul]
    omega
/-! ### Numbers between a byte -/
theorem dec_ge : ∀ (l : List UInt8) (acc n : Nat), Go.Lib.decFrom acc l = some n → acc * 10 ^ l.length ≤ n := by
  intro l
  induction l with
  | nil => intro acc n h; simp only [Go.Lib.decFrom, Option.some.injEq] at h; subst h; simp
  | cons c r ih =>
    intro acc n h
    simp only [Go.Lib.decFrom, dig_of] at h
    split at h
    · rename_i v hv
      have := ih _ _ h
      rw [List.length_cons, Nat.pow_succ]
      refine Nat.le_trans ?_ this
      rw [Nat.mul_comm (10 ^ r.length) 10, ← Nat.mul_assoc]
      exact Nat.mul_le_mul_right _ (by omega)
    · cases h
/-- A canonical number below 100 has at most two digits. -/
theorem rdw_two (w : List UInt8) (n : Nat) (h : rdw w = some n) (hn : n ≤ 99) : w.length ≤ 2 := by
  unfold rdw at h
  split at h
  · rename_i hc
    cases w with
    | nil => simp
    | cons c r =>
      rcases Nat.lt_or_ge 1 r.length with h1 | h1
      · have h48 : c ≠ 48 := by
          rcases hc.2 with h | h
          · exact fun e => h (by rw [e]; rfl)
          · rw [List.length_cons] at h; omega
        have hd := dec_digs _ _ _ h c (by simp)
        have hc49 : 49 ≤ c.toNat := by
          rcases Nat.lt_or_ge c.toNat 49 with hlt | hge
          · exact absurd (UInt8.toNat_inj.1 (show c.toNat = (48 : UInt8).toNat from by have : (48 : UInt8).toNat = 48 := rfl; omega)) h48
          · exact hge
        simp only [Go.Lib.decFrom, dig_of] at h
        rw [if_pos hd] at h
        have := dec_ge r _ n h
        have h10 : 10 ^ 2 ≤ 10 ^ r.length := Nat.pow_le_pow_right (by omega) (by omega)
        have : 1 * 10 ^ 2 ≤ n := Nat.le_trans (Nat.mul_le_mul (by omega) h10) this
        omega
      · simp; omega
  · cases h
theorem rdw_lt (w : List UInt8) (n : Nat) (h : rdw w = some n) (hl : w.length ≤ 2) : n ≤ 99 := by
  unfold rdw at h
  split at h
  · have := Go.Lib.decFrom_lt w 0 n h
    have h10 : 10 ^ w.length ≤ 10 ^ 2 := Nat.pow_le_pow_right (by omega) hl
    omega
  · cases h
theorem numR_ok (w : List UInt8) (h : (numR w 2).2 = true) : (numR w 2).1 = rdR w ∧ w.length ≤ 2 := by
  unfold numR at h ⊢
  split at h
  · rename_i hl
    rw [if_pos hl]
    unfold rdR; rw [if_pos (by omega)]
    cases hw : rdw w with
    | none => rw [hw] at h; cases h
    | some n => exact ⟨rfl, hl⟩
  · cases h
theorem numR_of (w : List UInt8) (h0 : 0 ≤ rdR w) (h1 : rdR w ≤ 99) : (numR w 2).2 = true := by
  unfold rdR at h0 h1
  split at h0
  · rename_i h6
    rw [if_pos h6] at h1
    cases hw : rdw w with
    | none => rw [hw] at h0; simp at h0
    | some n =>
      rw [hw] at h1
      have := rdw_two w n hw (by simp at h1; omega)
      unfold numR; rw [if_pos this, hw]
  · simp at h0
def okAll (ws : List (List UInt8)) : Bool := ws.all fun w => (numR w 2).2
def partR (ws : List (List UInt8)) (most : Nat) : List Int × Bool := if ws.length ≤ most ∧ okAll ws = true then (ws.map rdR, true) else ([], false)
theorem rdOf_map (ws : List (List UInt8)) (n : Nat) (h : n < ws.length) : rdOf ByteArray.empty (ws.map toBA) (n : Int) = toBA ws[n] := by
  show (ws.map toBA).getD ((n : Int)).toNat ByteArray.empty = _
  rw [Int.toNat_natCast, List.getD_eq_getElem?_getD, List.getElem?_map, List.getElem?_eq_getElem h]; rfl
theorem parted_loop (ws : List (List UInt8)) (hw : ws.length ≤ 1048576) (hs : ∀ w ∈ ws, w.length ≤ 1048576) (d : Nat) : ∀ (n k : Nat), n + d = ws.length → d < k →
    impl_parted.l0 k ((ws.take n).map rdR) (ws.map toBA) (ws.length : Int) n = some (if okAll (ws.drop n) = true then (ws.map rdR, true) else ([], false)) := by
  induction d with
  | zero =>
    intro n k hn hk
    obtain ⟨k, rfl⟩ : ∃ m, k = m + 1 := ⟨k - 1, by omega⟩
    simp only [impl_parted.l0]
    rw [if_neg (by omega), List.take_of_length_le (by omega), List.drop_eq_nil_of_le (by omega)]
    simp [okAll]
  | succ d ih =>
    intro n k hn hk
    obtain ⟨k, rfl⟩ : ∃ m, k = m + 1 := ⟨k - 1, by omega⟩
    have hlt : n < ws.length := by omega
    have e := number_is (toBA ws[n]) 2 (by omega) (by omega) (by have := hs ws[n] (List.getElem_mem hlt); have h2 := list_size (toBA ws[n]); rw [toBA_data] at h2; omega)
    rw [toBA_data] at e
    simp only [impl_parted.l0]
    rw [if_pos (by omega), if_pos (by omega), if_pos (by rw [List.length_map]; omega), rdOf_map ws n hlt, show (2 : Int) = ((2 : Nat) : Int) from rfl, e]
    simp only [Option.bind_some]
    rw [List.drop_eq_getElem_cons hlt]
    by_cases ho : (numR ws[n] 2).2 = true
    · have h1 := (numR_ok ws[n] ho).1
      rw [if_pos ho, if_pos (by simp; omega), w1 (by omega), h1]
      have := ih (n + 1) k (by omega) (by omega)
      rw [List.take_succ_eq_append_getElem hlt, List.map_append] at this
      rw [show okAll (ws[n] :: ws.drop (n + 1)) = okAll (ws.drop (n + 1)) by unfold okAll; rw [List.all_cons, ho, Bool.true_and]]
      exact this
    · rw [if_neg ho]
      rw [show okAll (ws[n] :: ws.drop (n + 1)) = false by unfold okAll; rw [List.all_cons, eq_false_of_ne_true ho, Bool.false_and]]
      rfl
theorem splL_small (c : UInt8) (l : List UInt8) : ∀ w ∈ splL c l, w.length ≤ l.length := by
  induction l with
  | nil => intro w hw; simp [splL] at hw; subst hw; simp
  | cons b l ih =>
    intro w hw
    unfold splL at hw
    by_cases h : b = c
    · rw [if_pos h] at hw
      rcases List.mem_cons.1 hw with rfl | hw
      · simp
      · have := ih w hw; simp; omega
    · rw [if_neg h] at hw
      cases hv : splL c l with
      | nil => exact absurd hv (splL_ne c l)
      | cons v r =>
        rw [hv] at hw ih
        rcases List.mem_cons.1 hw with rfl | hw
        · have := ih v (by simp); simp; omega
        · have := ih w (by simp [hw]); simp; omega
theorem count_le_size (c : UInt8) (s : ByteArray) : s.data.toList.count c ≤ s.size := by rw [← list_size]; exact List.count_le_length
theorem parted_ev (c : UInt8) (s : ByteArray) (hs : s.size ≤ 1048576) (most : Nat) (hm : most ≤ 900) : Ev (fun k => impl_parted.f k s (⟨#[c]⟩ : ByteArray) (most : Int)) (partR (splL c s.data.toList) most) := by
  have hl := list_size s
  have hlen := splitK_len c s.data.toList (min (most + 1) (s.size + 1) - 1)
  have hcl := count_le_size c s
  have hspl : strings_SplitN.f s (⟨#[c]⟩ : ByteArray) (wrap64 ((most : Int) + 1)) = some ((Go.Lib.splitK [c] 0 (min (most + 1) (s.size + 1) - 1) s.data.toList).map toBA) := by
    unfold strings_SplitN.f
    rw [w1 (by omega), if_pos ⟨by omega, by exact (by decide : 1 ≤ 1), by omega, by omega⟩, Int.toNat_natCast, splitB_is]
  refine ⟨most + 2, fun k hk => ?_⟩
  simp only [impl_parted.f, hspl, Option.bind_some, List.length_map]
  unfold partR
  by_cases hle : (splL c s.data.toList).length ≤ most
  · have hc := splL_len c s.data.toList
    have he := splitK_is c s.data.toList (min (most + 1) (s.size + 1) - 1) (by omega)
    rw [he, if_neg (by omega)]
    have := parted_loop (splL c s.data.toList) (by omega) (fun w hw => by have := splL_small c s.data.toList w hw; omega) (splL c s.data.toList).length 0 k (by omega) (by omega)
    simp only [List.take_zero, List.map_nil, List.drop_zero] at this
    rw [show ((0 : Nat) : Int) = 0 from rfl] at this
    rw [this]
    by_cases ho : okAll (splL c s.data.toList) = true
    · rw [if_pos ho, if_pos ⟨hle, ho⟩]
    · rw [if_neg ho, if_neg (fun x => ho x.2)]
  · have hc := splL_len c s.data.toList
    rw [if_pos (by rw [hlen]; omega), if_neg (fun x => hle x.1)]
theorem okAll_iff (ws : List (List UInt8)) : okAll ws = true ↔ ∀ w ∈ ws, (numR w 2).2 = true := by unfold okAll; rw [List.all_eq_true]
/-- Where all numbers lie between 0 and 99 the program reads them, too. -/
theorem partR_good (ws : List (List UInt8)) (most : Nat) (h : ws.length ≤ most) (hv : ∀ x ∈ ws.map rdR, 0 ≤ x ∧ x ≤ 99) : partR ws most = (ws.map rdR, true) := by
  unfold partR
  rw [if_pos ⟨h, (okAll_iff ws).2 fun w hw => numR_of w (hv _ (List.mem_map_of_mem hw)).1 (hv _ (List.mem_map_of_mem hw)).2⟩]
theorem partR_else (ws : List (List UInt8)) (most : Nat) : partR ws most = (ws.map rdR, true) ∧ ws.length ≤ most ∨ partR ws most = ([], false) := by
  unfold partR
  split
  · exact .inl ⟨rfl, by rename_i h; exact h.1⟩
  · exact .inr rfl
/-- .. and the text is short. -/
theorem good_short (c : UInt8) (l : List UInt8) (most : Nat) (h : (splL c l).length ≤ most) (hv : ∀ x ∈ (splL c l).map rdR, 0 ≤ x ∧ x ≤ 99) : l.length + 1 ≤ most * 3 := by
  have hw : ∀ w ∈ splL c l, w.length ≤ 2 := fun w hw => (numR_ok w (numR_of w (hv _ (List.mem_map_of_mem hw)).1 (hv _ (List.mem_map_of_mem hw)).2)).2
  have := joinL_len c 2 (splL c l) hw (splL_ne c l)
  rw [joinL_spl] at this
  have : (splL c l).length * 3 ≤ most * 3 := Nat.mul_le_mul_right _ h
  omega
/-! ### The decimal text of a small number -/
def numB (n : Nat) : ByteArray := ⟨(Go.Lib.decDigits n).toArray⟩
theorem digit_is : ∀ d : Nat, d < 10 → strOfNums [(wrap64 (48 + (d : Int))) % 256] = (⟨#[UInt8.ofNat (48 + d)]⟩ : ByteArray) := by decide +kernel
theorem numB_one (n : Nat) (h : n < 10) : numB n = (⟨#[UInt8.ofNat (48 + n)]⟩ : ByteArray) := by
  unfold numB; rw [Go.Lib.decDigits, dif_pos h]
theorem numB_two (n : Nat) (h : ¬ n < 10) (h2 : n < 100) : numB n = (⟨#[UInt8.ofNat (48 + n / 10)]⟩ : ByteArray) ++ (⟨#[UInt8.ofNat (48 + n % 10)]⟩ : ByteArray) := by
  unfold numB; rw [Go.Lib.decDigits, dif_neg h, Go.Lib.decDigits, dif_pos (by omega)]
  apply ByteArray.ext
  rw [ByteArray.data_append]
  simp
theorem numB_size (n : Nat) (h : n < 100) : (numB n).size ≤ 2 := by
  by_cases h1 : n < 10
  · rw [numB_one n h1]; exact (by decide : (1 : Nat) ≤ 2)
  · rw [numB_two n h1 h, ByteArray.size_append]; exact (by decide : (1 : Nat) + 1 ≤ 2)
theorem l1Num_one (n : Nat) (h : n < 10) (k : Nat) : spec_l1Num.f (k + 1) (n : Int) = some (numB n) := by
  simp only [spec_l1Num.f]
  rw [if_pos (by omega), digit_is n h, numB_one n h]
theorem l1Num_ev (n : Nat) (h : n < 100) : Ev (fun k => spec_l1Num.f k (n : Int)) (numB n) := by
  by_cases h1 : n < 10
  · exact ev_late 1 fun k => l1Num_one n h1 k
  · refine ev_late 2 fun k => ?_
    rw [show spec_l1Num.f (k + 2) (n : Int) = spec_l1Num.f (k + 1 + 1) (n : Int) from rfl, spec_l1Num.f]
    have hd : Int.tdiv (n : Int) 10 = ((n / 10 : Nat) : Int) := by rw [Int.tdiv_eq_ediv_of_nonneg (by omega)]; omega
    have hm : Int.tmod (n : Int) 10 = ((n % 10 : Nat) : Int) := by rw [Int.tmod_eq_emod_of_nonneg (by omega)]; omega
    rw [if_neg (by omega), hd, hm, w0 (by omega) (by omega), l1Num_one (n / 10) (by omega) k]
    simp only [Option.bind_some]
    rw [digit_is (n % 10) (by omega), numB_one (n / 10) (by omega), if_pos (by exact (by decide : (1 : Nat) + 1 ≤ 9223372036854775807)), numB_two n h1 h]
/-! ### The text of numbers -/
theorem rdw_text (w : List UInt8) (n : Nat) (h : rdw w = some n) (hn : n ≤ 99) : numB n = toBA w := by
  have h2 := rdw_two w n h hn
  have hh := h
  unfold rdw at hh
  split at hh
  · rename_i hc
    match w, h2, hc, hh with
    | [c], _, _, hh =>
      simp only [Go.Lib.decFrom, dig_of] at hh
      by_cases hd : 48 ≤ c.toNat ∧ c.toNat ≤ 57
      · rw [if_pos hd] at hh
        simp only [Go.Lib.decFrom, Option.some.injEq] at hh
        subst hh
        rw [numB_one _ (by omega)]
        have : UInt8.ofNat (48 + (0 * 10 + (c.toNat - 48))) = c := by
          rw [show 48 + (0 * 10 + (c.toNat - 48)) = c.toNat by omega]; exact UInt8.ofNat_toNat
        rw [this]; rfl
      · rw [if_neg hd] at hh; cases hh
    | [c, e], _, hc, hh =>
      simp only [Go.Lib.decFrom, dig_of] at hh
      by_cases hd : 48 ≤ c.toNat ∧ c.toNat ≤ 57
      · rw [if_pos hd] at hh
        by_cases he : 48 ≤ e.toNat ∧ e.toNat ≤ 57
        · simp only [if_pos he, Go.Lib.decFrom, Option.some.injEq] at hh
          have hc48 : c ≠ 48 := by
            rcases hc.2 with h | h
            · exact fun x => h (by rw [x]; rfl)
            · simp at h
          have h49 : 49 ≤ c.toNat := by
            rcases Nat.lt_or_ge c.toNat 49 with hlt | hge
            · exact absurd (UInt8.toNat_inj.1 (show c.toNat = (48 : UInt8).toNat from by have : (48 : UInt8).toNat = 48 := rfl; omega)) hc48
            · exact hge
          subst hh
          rw [numB_two _ (by omega) (by omega)]
          have e1 : UInt8.ofNat (48 + ((0 * 10 + (c.toNat - 48)) * 10 + (e.toNat - 48)) / 10) = c := by
            rw [show 48 + ((0 * 10 + (c.toNat - 48)) * 10 + (e.toNat - 48)) / 10 = c.toNat by omega]; exact UInt8.ofNat_toNat
          have e2 : UInt8.ofNat (48 + ((0 * 10 + (c.toNat - 48)) * 10 + (e.toNat - 48)) % 10) = e := by
            rw [show 48 + ((0 * 10 + (c.toNat - 48)) * 10 + (e.toNat - 48)) % 10 = e.toNat by omega]; exact UInt8.ofNat_toNat
          rw [e1, e2]; rfl
        · rw [if_neg he] at hh; cases hh
      · rw [if_neg hd] at hh; cases hh
    | [], _, hc, _ => exact absurd hc.1 (by simp)
    | _ :: _ :: _ :: _, h2, _, _ => simp at h2
  · cases hh
theorem toBA_app (a b : List UInt8) : toBA a ++ toBA b = toBA (a ++ b) := by
  apply ByteArray.ext; rw [ByteArray.data_append]; simp [toBA]
theorem rdR_some (w : List UInt8) (h0 : 0 ≤ rdR w) (h1 : rdR w ≤ 99) : ∃ n : Nat, rdR w = (n : Int) ∧ n ≤ 99 ∧ numB n = toBA w := by
  unfold rdR at h0 h1 ⊢
  split at h0
  · rename_i h6
    rw [if_pos h6] at h1
    cases hw : rdw w with
    | none => rw [hw] at h0; simp at h0
    | some n =>
      rw [hw] at h1
      have hn : n ≤ 99 := by simp at h1; omega
      exact ⟨n, by rw [if_pos h6], hn, rdw_text w n hw hn⟩
  · simp at h0
theorem l1Num_rd (w : List UInt8) (h0 : 0 ≤ rdR w) (h1 : rdR w ≤ 99) : Ev (fun k => spec_l1Num.f k (rdR w)) (toBA w) := by
  obtain ⟨n, e, hn, ht⟩ := rdR_some w h0 h1
  rw [e, ← ht]
  exact l1Num_ev n (by omega)
theorem rdI (xs : List Int) (n : Nat) (h : n < xs.length) : rd xs (n : Int) = xs[n] := getD_nat xs 0 n h
theorem joinL_snoc (c : UInt8) (w : List UInt8) : ∀ ws : List (List UInt8), ws ≠ [] → joinL c (ws ++ [w]) = joinL c ws ++ c :: w
  | [], h => absurd rfl h
  | [v], _ => rfl
  | v :: u :: r, _ => by
    have := joinL_snoc c w (u :: r) (by simp)
    show v ++ c :: joinL c ((u :: r) ++ [w]) = (v ++ c :: joinL c (u :: r)) ++ c :: w
    rw [this]; simp
theorem soText_loop (ws : List (List UInt8)) (hw : ws.length ≤ 1000) (hv : ∀ x ∈ ws.map rdR, 0 ≤ x ∧ x ≤ 99) (h2 : ∀ w ∈ ws, w.length ≤ 2) (d : Nat) : ∀ (n : Nat), n + d = ws.length →
    Ev (fun k => spec_soText.l0 k (toBA (joinL 45 (ws.take n))) (ws.map rdR) (ws.length : Int) n) (toBA (joinL 45 ws)) := by
  induction d with
  | zero =>
    intro n hn
    refine ev_late 1 fun k => ?_
    simp only [spec_soText.l0]
    rw [if_neg (by omega), List.take_of_length_le (by omega)]
  | succ d ih =>
    intro n hn
    have hlt : n < ws.length := by omega
    have hr : rd (ws.map rdR) (n : Int) = rdR ws[n] := by rw [rdI _ n (by simpa using hlt)]; simp
    have hx := hv (rdR ws[n]) (List.mem_map_of_mem (List.getElem_mem hlt))
    have hsz : ∀ l : List UInt8, (toBA l).size = l.length := fun l => by rw [← list_size]; rfl
    have hlen : (joinL 45 (ws.take n)).length ≤ 3000 := by
      by_cases h0 : n = 0
      · subst h0; simp [joinL]
      · have := joinL_len 45 2 (ws.take n) (fun w hw => h2 w (List.mem_of_mem_take hw)) (by intro e; have := congrArg List.length e; rw [List.length_take, List.length_nil] at this; omega)
        have h3 : (ws.take n).length ≤ 1000 := by simp; omega
        have : (ws.take n).length * (2 + 1) ≤ 1000 * 3 := Nat.mul_le_mul_right _ h3
        omega
    have hlw := h2 ws[n] (List.getElem_mem hlt)
    have := ih (n + 1) (by omega)
    rw [List.take_succ_eq_append_getElem hlt] at this
    by_cases h0 : n = 0
    · subst h0
      refine Ev.step (f := fun k => (spec_l1Num.f k (rdR ws[0])).bind fun t => if (toBA (joinL 45 (ws.take 0))).size + t.size ≤ 9223372036854775807 then spec_soText.l0 k (toBA (joinL 45 (ws.take 0)) ++ t) (ws.map rdR) (ws.length : Int) ((0 + 1 : Nat) : Int) else none) (fun k => by
        simp only [spec_soText.l0]
        rw [if_pos (by omega), if_pos (by omega), if_pos (by rw [List.length_map]; omega), if_neg (by omega), hr, w1 (by omega)]) ?_
      refine (l1Num_rd _ hx.1 hx.2).bind ?_
      simp only [if_pos (show (toBA (joinL 45 (ws.take 0))).size + (toBA ws[0]).size ≤ 9223372036854775807 by rw [hsz, hsz]; omega), toBA_app]
      simpa [joinL] using this
    · refine Ev.step (f := fun k => (spec_l1Num.f k (rdR ws[n])).bind fun t => if (toBA (joinL 45 (ws.take n)) ++ (⟨#[45]⟩ : ByteArray)).size + t.size ≤ 9223372036854775807 then spec_soText.l0 k ((toBA (joinL 45 (ws.take n)) ++ (⟨#[45]⟩ : ByteArray)) ++ t) (ws.map rdR) (ws.length : Int) ((n + 1 : Nat) : Int) else none) (fun k => by
        simp only [spec_soText.l0]
        rw [if_pos (by omega), if_pos (by omega), if_pos (by rw [List.length_map]; omega), if_pos (by omega), if_pos (by rw [hsz]; omega), hr, w1 (by omega)]) ?_
      refine (l1Num_rd _ hx.1 hx.2).bind ?_
      have hs1 : (toBA (joinL 45 (ws.take n)) ++ (⟨#[45]⟩ : ByteArray)) = toBA (joinL 45 (ws.take n) ++ [45]) := toBA_app _ [45]
      simp only [hs1, if_pos (show (toBA (joinL 45 (ws.take n) ++ [45])).size + (toBA ws[n]).size ≤ 9223372036854775807 by rw [hsz, hsz, List.length_append]; simp; omega), toBA_app]
      rw [joinL_snoc _ _ _ (by intro e; have := congrArg List.length e; rw [List.length_take, List.length_nil] at this; omega)] at this
      simpa using this
theorem soText_ev (ws : List (List UInt8)) (hw : ws.length ≤ 1000) (hv : ∀ x ∈ ws.map rdR, 0 ≤ x ∧ x ≤ 99) : Ev (fun k => spec_soText.f k (ws.map rdR)) (toBA (joinL 45 ws)) := by
  have h2 : ∀ w ∈ ws, w.length ≤ 2 := fun w hw => (numR_ok w (numR_of w (hv _ (List.mem_map_of_mem hw)).1 (hv _ (List.mem_map_of_mem hw)).2)).2
  have := soText_loop ws hw hv h2 ws.length 0 (by omega)
  simp only [List.take_zero] at this
  unfold spec_soText.f
  simp only [List.length_map]
  exact this
theorem l1In_is (n a b : Int) : spec_l1In.f n a b = some (decide (a ≤ n ∧ n ≤ b)) := by
  unfold spec_l1In.f; by_cases h : n ≥ a <;> simp [h] <;> omega
theorem within_is (n a b : Int) : impl_within.f n a b = some (decide (a ≤ n ∧ n ≤ b)) := by
  unfold impl_within.f; by_cases h : a ≤ n <;> simp [h]
def allB (l : List Int) (a b : Int) : Bool := l.all fun x => decide (a ≤ x ∧ x ≤ b)
def wsum : Int → List Int → Int
  | s, [] => s
  | s, x :: l => wsum (wrap64 (s + x)) l
theorem l1All_loop (a b : Int) (l : List Int) (hl : l.length ≤ 1048576) (d : Nat) : ∀ (n k : Nat), n + d = l.length → d < k → spec_l1All.l0 k a b l (l.length : Int) n = some (allB (l.drop n) a b) := by
  induction d with
  | zero =>
    intro n k hn hk
    obtain ⟨k, rfl⟩ : ∃ m, k = m + 1 := ⟨k - 1, by omega⟩
    simp only [spec_l1All.l0]; rw [if_neg (by omega)]
    obtain rfl : n = l.length := by omega
    simp [allB]
  | succ d ih =>
    intro n k hn hk
    obtain ⟨k, rfl⟩ : ∃ m, k = m + 1 := ⟨k - 1, by omega⟩
    have hlt : n < l.length := by omega
    simp only [spec_l1All.l0, l1In_is, Option.bind_some]
    rw [if_pos (by omega), if_pos (by omega), if_pos (by omega), rdI l n hlt, w1 (by omega), ih (n + 1) k (by omega) (by omega), List.drop_eq_getElem_cons hlt]
    unfold allB; rw [List.all_cons]
    cases decide (a ≤ l[n] ∧ l[n] ≤ b) <;> simp
theorem l1All_ev (l : List Int) (hl : l.length ≤ 1048576) (a b : Int) : Ev (fun k => spec_l1All.f k l a b) (allB l a b) :=
  ⟨l.length + 1, fun k hk => by
    show spec_l1All.f k l a b = _
    unfold spec_l1All.f
    exact (l1All_loop a b l hl l.length 0 k (by omega) (by omega)).trans (by simp)⟩
theorem index_int_loop (l : List Int) (hl : l.length ≤ 1048576) (φ : Int → Option Bool) (q : Int → Bool) (hφ : ∀ x ∈ l, φ x = some (q x)) (d : Nat) : ∀ (n k : Nat), n + d = l.length → d < k →
    ∃ r, slices_IndexFunc_sint_int.l0 k l φ (l.length : Int) n = some r ∧ (decide (r ≥ 0) = (l.drop n).any q) := by
  induction d with
  | zero =>
    intro n k hn hk
    obtain ⟨k, rfl⟩ : ∃ m, k = m + 1 := ⟨k - 1, by omega⟩
    obtain rfl : n = l.length := by omega
    exact ⟨-1, by simp only [slices_IndexFunc_sint_int.l0]; rw [if_neg (by omega)], by simp⟩
  | succ d ih =>
    intro n k hn hk
    obtain ⟨k, rfl⟩ : ∃ m, k = m + 1 := ⟨k - 1, by omega⟩
    have hlt : n < l.length := by omega
    have hx := hφ l[n] (List.getElem_mem hlt)
    obtain ⟨r, hr, hq⟩ := ih (n + 1) k (by omega) (by omega)
    rw [List.drop_eq_getElem_cons hlt, List.any_cons]
    cases h : q l[n]
    · refine ⟨r, ?_, by simpa [h] using hq⟩
      simp only [slices_IndexFunc_sint_int.l0]
      rw [if_pos (by omega), if_pos (by omega), if_pos (by omega), rdI l n hlt, hx, h, w1 (by omega)]
      simpa using hr
    · refine ⟨n, ?_, by simp⟩
      simp only [slices_IndexFunc_sint_int.l0]
      rw [if_pos (by omega), if_pos (by omega), if_pos (by omega), rdI l n hlt, hx, h]
      rfl
theorem contains_int_ev (l : List Int) (hl : l.length ≤ 1048576) (φ : Int → Option Bool) (q : Int → Bool) (hφ : ∀ x ∈ l, φ x = some (q x)) : Ev (fun k => slices_ContainsFunc_sint_int.f k l φ) (l.any q) :=
  ⟨l.length + 1, fun k hk => by
    show slices_ContainsFunc_sint_int.f k l φ = _
    obtain ⟨r, hr, hq⟩ := index_int_loop l hl φ q hφ l.length 0 k (by omega) (by omega)
    simp only [slices_ContainsFunc_sint_int.f, slices_IndexFunc_sint_int.f]
    have hr' : slices_IndexFunc_sint_int.l0 k l φ (l.length : Int) 0 = some r := by simpa using hr
    rw [hr']; simp only [Option.bind_some, hq]; simp⟩
theorem areWithin_ev (l : List Int) (hl : l.length ≤ 1048576) (a b : Int) : Ev (fun k => impl_areWithin.f k l a b) (allB l a b) := by
  refine ev_eq ((contains_int_ev l hl (fun x => impl_areWithin_1.f x a b) (fun x => !decide (a ≤ x ∧ x ≤ b)) (fun x _ => by simp only [impl_areWithin_1.f, within_is, Option.bind_some])).bind (Ev.now (!_))) ?_
  unfold allB; rw [List.all_eq_not_any_not]
theorem eqIntS_loop (l : List Int) (hl : l.length ≤ 1048576) (d : Nat) : ∀ (n k : Nat), n + d = l.length → d < k → laws_eqIntS.l0 k l l n = some true := by
  induction d with
  | zero =>
    intro n k hn hk
    obtain ⟨k, rfl⟩ : ∃ m, k = m + 1 := ⟨k - 1, by omega⟩
    simp only [laws_eqIntS.l0]; rw [if_neg (by omega)]
  | succ d ih =>
    intro n k hn hk
    obtain ⟨k, rfl⟩ : ∃ m, k = m + 1 := ⟨k - 1, by omega⟩
    simp only [laws_eqIntS.l0, if_true]
    rw [if_pos (by omega), if_pos (by omega), if_pos (by omega), w1 (by omega)]
    exact ih (n + 1) k (by omega) (by omega)
theorem eqIntS_ev (l : List Int) (hl : l.length ≤ 1048576) : Ev (fun k => laws_eqIntS.f k l l) true :=
  ⟨l.length + 1, fun k hk => by
    show laws_eqIntS.f k l l = _
    unfold laws_eqIntS.f
    rw [if_pos rfl]
    exact eqIntS_loop l hl l.length 0 k (by omega) (by omega)⟩
theorem set_mid {α : Type} (p q : List α) (x v : α) : (p ++ x :: q).set p.length v = p ++ v :: q := by
  induction p with
  | nil => rfl
  | cons a p ih => simp [ih]
theorem getD_mid {α : Type} (p q : List α) (x z : α) : (p ++ x :: q).getD p.length z = x := by
  simp [List.getD_eq_getElem?_getD]
/-! ### Lists of whole numbers: marks -/
def markI (a : Int) (n : Nat) : List Int := (List.range n).map fun i : Nat => a + (i : Int)
theorem markI_len (a : Int) (n : Nat) : (markI a n).length = n := by simp [markI]
theorem markI_succ (a : Int) (n : Nat) : markI a (n + 1) = markI a n ++ [a + (n : Int)] := by simp [markI, List.range_succ]
theorem markIntS_loop (a : Int) (h0 : 0 ≤ a) (h1 : a ≤ 1048576) (l : List Int) (hl : l.length ≤ 1048577) (d : Nat) : ∀ (n k : Nat), n + d = l.length → d < k →
    laws_markIntS.l0 k (markI a n ++ l.drop n) (a + (n : Int)) n = some (a + (l.length : Int), markI a l.length) := by
  induction d with
  | zero =>
    intro n k hn hk
    obtain ⟨k, rfl⟩ : ∃ m, k = m + 1 := ⟨k - 1, by omega⟩
    obtain rfl : n = l.length := by omega
    simp only [laws_markIntS.l0]; rw [if_neg (by simp [markI_len])]; simp
  | succ d ih =>
    intro n k hn hk
    obtain ⟨k, rfl⟩ : ∃ m, k = m + 1 := ⟨k - 1, by omega⟩
    have hlt : n < l.length := by omega
    have hd : l.drop n = l[n] :: l.drop (n + 1) := List.drop_eq_getElem_cons hlt
    have s : ∀ (x v : Int), (markI a n ++ x :: l.drop (n + 1)).set ((n : Int)).toNat v = markI a n ++ v :: l.drop (n + 1) := fun x v => by
      have := set_mid (markI a n) (l.drop (n + 1)) x v; rw [markI_len] at this; simpa using this
    simp only [laws_markIntS.l0, hd]
    rw [if_pos (by simp [markI_len]; omega), if_pos (by omega), s, w0 (x := a + (n : Int) + 1) (by omega) (by omega), w1 (by omega)]
    have := ih (n + 1) k (by omega) (by omega)
    rw [markI_succ, List.append_assoc] at this
    rw [show a + (n : Int) + 1 = a + ((n + 1 : Nat) : Int) by omega]; exact this
theorem markIntS_ev (a : Int) (h0 : 0 ≤ a) (h1 : a ≤ 1048576) (l : List Int) (hl : l.length ≤ 1048577) : Ev (fun k => laws_markIntS.f k l a) (a + (l.length : Int), markI a l.length) :=
  ⟨l.length + 1, fun k hk => by
    have := markIntS_loop a h0 h1 l hl l.length 0 k (by omega) (by omega)
    show laws_markIntS.f k l a = _
    unfold laws_markIntS.f
    simpa [markI] using this⟩
theorem heldIntS_loop (a : Int) (h0 : 0 ≤ a) (h1 : a ≤ 1048576) (m : Nat) (hl : m ≤ 1048577) (d : Nat) : ∀ (n k : Nat), n + d = m → d < k →
    laws_heldIntS.l0 k (markI a m) (a + (n : Int)) n = some (a + (m : Int)) := by
  induction d with
  | zero =>
    intro n k hn hk
    obtain ⟨k, rfl⟩ : ∃ m, k = m + 1 := ⟨k - 1, by omega⟩
    obtain rfl : n = m := by omega
    simp only [laws_heldIntS.l0]; rw [if_neg (by simp [markI_len])]
  | succ d ih =>
    intro n k hn hk
    obtain ⟨k, rfl⟩ : ∃ m, k = m + 1 := ⟨k - 1, by omega⟩
    have hlt : n < (markI a m).length := by rw [markI_len]; omega
    have g : rd (markI a m) (n : Int) = a + (n : Int) := by rw [rdI _ n hlt]; simp [markI]
    simp only [laws_heldIntS.l0, g]
    rw [if_pos (by rw [markI_len]; omega), if_pos (by omega)]
    try rw [if_pos trivial]
    rw [w0 (x := a + (n : Int) + 1) (by omega) (by omega), w1 (by omega), show a + (n : Int) + 1 = a + ((n + 1 : Nat) : Int) by omega]
    exact ih (n + 1) k (by omega) (by omega)
theorem heldIntS_ev (a : Int) (h0 : 0 ≤ a) (h1 : a ≤ 1048576) (m : Nat) (hl : m ≤ 1048577) : Ev (fun k => laws_heldIntS.f k (markI a m) a) (a + (m : Int)) :=
  ⟨m + 1, fun k hk => by
    have := heldIntS_loop a h0 h1 m hl m 0 k (by omega) (by omega)
    show laws_heldIntS.f k (markI a m) a = _
    unfold laws_heldIntS.f
    simpa using this⟩
/-- The law, where both answer alike. -/
theorem parse_tail (s : ByteArray) (hb : s.size ≤ 1048576) (r : List Int × Bool) (hr : r.1.length ≤ 1048576) (h1 : Ev (fun k => spec_ParseSizes.f k s) r) (h3 : Ev (fun k => impl_ParseSizes.f k s) r) : ∃ k, laws_FnExactParseSizes.f k s = some true := by
  refine Ev.rounds (r := true) ?_
  unfold laws_FnExactParseSizes.f
  simp only [if_neg (show ¬ (s.size : Int) > 1048576 by omega)]
  refine h1.bind ?_
  refine h3.bind ?_
  refine (eqIntS_ev _ hr).bind ?_
  simp only [if_true, bne_self_eq_false, Bool.false_eq_true, if_false]
  refine (markIntS_ev 1 (by omega) (by omega) _ (by omega)).bind ?_
  refine (heldIntS_ev 1 (by omega) (by omega) _ (by omega)).bind ?_
  simp only [if_neg (show ¬ (1 + (r.1.length : Int) < 0) by omega), if_true]
  refine h3.bind ?_
  refine (eqIntS_ev _ hr).bind ?_
  simp only [if_true, bne_self_eq_false, Bool.false_eq_true, if_false]
  refine (heldIntS_ev 1 (by omega) (by omega) _ (by omega)).bind ?_
  simp only [if_neg (show ¬ (1 + (r.1.length : Int) < 0) by omega), if_true]
  exact Ev.now _
theorem parse_big (s : ByteArray) (hb : ¬ s.size ≤ 1048576) : ∃ k, laws_FnExactParseSizes.f k s = some true := ⟨0, by unfold laws_FnExactParseSizes.f; rw [if_pos (by omega)]⟩
theorem all_in {l : List Int} {a b : Int} (h : allB l a b = true) : ∀ x ∈ l, a ≤ x ∧ x ≤ b := fun x hx => by
  have := List.all_eq_true.1 h x hx
  exact of_decide_eq_true this
def sizesB (l : List Int) : Bool := decide (1 ≤ l.length ∧ l.length ≤ 7) && allB l 1 60
theorem shGood_ev (l : List Int) (hl : l.length ≤ 1048576) : Ev (fun k => spec_shGood.f k l) (sizesB l) := by
  unfold spec_shGood.f spec_l1In.f sizesB
  by_cases h1 : 1 ≤ l.length
  · simp only [if_pos (show (l.length : Int) ≥ 1 by omega), Option.bind_some]
    by_cases h7 : l.length ≤ 7
    · simp only [show decide ((l.length : Int) ≤ 7) = true from decide_eq_true (by omega), if_true]
      rw [show decide (1 ≤ l.length ∧ l.length ≤ 7) = true from decide_eq_true ⟨h1, h7⟩, Bool.true_and]
      exact (l1All_ev l hl 1 60).bind (Ev.now _)
    · simp only [show decide ((l.length : Int) ≤ 7) = false from decide_eq_false (by omega), Bool.false_eq_true, if_false]
      rw [show decide (1 ≤ l.length ∧ l.length ≤ 7) = false from decide_eq_false (by omega), Bool.false_and]
      exact Ev.now _
  · simp only [if_neg (show ¬ (l.length : Int) ≥ 1 by omega), Option.bind_some, Bool.false_eq_true, if_false]
    rw [show decide (1 ≤ l.length ∧ l.length ≤ 7) = false from decide_eq_false (by omega), Bool.false_and]
    exact Ev.now _
theorem AreSizes_ev (l : List Int) (hl : l.length ≤ 1048576) : Ev (fun k => impl_AreSizes.f k l) (sizesB l) := by
  unfold impl_AreSizes.f impl_within.f sizesB
  by_cases h1 : 1 ≤ l.length
  · simp only [if_pos (show (1 : Int) ≤ (l.length : Int) by omega), Option.bind_some]
    by_cases h7 : l.length ≤ 7
    · simp only [show decide ((l.length : Int) ≤ 7) = true from decide_eq_true (by omega), if_true]
      rw [show decide (1 ≤ l.length ∧ l.length ≤ 7) = true from decide_eq_true ⟨h1, h7⟩, Bool.true_and]
      exact (areWithin_ev l hl 1 60).bind (Ev.now _)
    · simp only [show decide ((l.length : Int) ≤ 7) = false from decide_eq_false (by omega), Bool.false_eq_true, if_false]
      rw [show decide (1 ≤ l.length ∧ l.length ≤ 7) = false from decide_eq_false (by omega), Bool.false_and]
      exact Ev.now _
  · simp only [if_neg (show ¬ (1 : Int) ≤ (l.length : Int) by omega), Option.bind_some, Bool.false_eq_true, if_false]
    rw [show decide (1 ≤ l.length ∧ l.length ≤ 7) = false from decide_eq_false (by omega), Bool.false_and]
    exact Ev.now _
def outOf (ws : List (List UInt8)) : List Int × Bool := if sizesB (ws.map rdR) = true then (ws.map rdR, true) else ([], false)
theorem sizes_small {l : List Int} (h : sizesB l = true) : l.length ≤ 7 ∧ ∀ x ∈ l, 0 ≤ x ∧ x ≤ 99 := by
  unfold sizesB at h
  rw [Bool.and_eq_true] at h
  exact ⟨(of_decide_eq_true h.1).2, fun x hx => by have := all_in h.2 x hx; omega⟩
theorem specSizes_loop (s : ByteArray) (ws : List (List UInt8)) (hj : toBA (joinL 45 ws) = s) (hw : ws.length ≤ 1000000) (hs : ∀ w ∈ ws, w.length ≤ 1048576) (d : Nat) : ∀ (n : Nat), n + d = ws.length →
    Ev (fun k => spec_ParseSizes.l0 k s ((ws.take n).map rdR) (ws.map toBA) (ws.length : Int) n) (outOf ws) := by
  induction d with
  | zero =>
    intro n hn
    refine Ev.step (f := fun k => (spec_shGood.f k (ws.map rdR)).bind fun t => if t = true then ((spec_soText.f k (ws.map rdR)).bind fun u => if u.toList = s.toList then some (ws.map rdR, true) else some (([] : List Int), false)) else some (([] : List Int), false)) (fun k => by
      simp only [spec_ParseSizes.l0]; rw [if_neg (by omega), List.take_of_length_le (by omega)]) ?_
    refine (shGood_ev _ (by simp; omega)).bind ?_
    unfold outOf
    by_cases h : sizesB (ws.map rdR) = true
    · simp only [h, if_true]
      have := sizes_small h
      refine (soText_ev ws (by have := this.1; simp at this; omega) this.2).bind ?_
      simp only [hj, if_true]
      exact Ev.now _
    · simp only [eq_false_of_ne_true h, Bool.false_eq_true, if_false]
      exact Ev.now _
  | succ d ih =>
    intro n hn
    have hlt : n < ws.length := by omega
    have hsm : ((ws.take n).map rdR).length < 17592186044416 := by simp; omega
    refine Ev.step (f := fun k => (spec_l1Read.f k (toBA ws[n])).bind fun t => if ((ws.take n).map rdR).length < 17592186044416 then spec_ParseSizes.l0 k s ((ws.take n).map rdR ++ [t]) (ws.map toBA) (ws.length : Int) ((n + 1 : Nat) : Int) else none) (fun k => by
      simp only [spec_ParseSizes.l0]
      rw [if_pos (by omega), if_pos (by omega), if_pos (by rw [List.length_map]; omega), rdOf_map ws n hlt, w1 (by omega)]) ?_
    refine (l1Read_ev _ (by have := hs ws[n] (List.getElem_mem hlt); have h2 := list_size (toBA ws[n]); rw [toBA_data] at h2; omega)).bind ?_
    simp only [if_pos hsm, toBA_data]
    have := ih (n + 1) (by omega)
    rw [List.take_succ_eq_append_getElem hlt, List.map_append] at this
    exact this
theorem FnExactParseSizes : laws_FnExactParseSizes.Pure := by
  intro s _
  by_cases hb : s.size ≤ 1048576
  · have hl := list_size s
    have hcl := count_le_size 45 s
    have hlen := splL_len 45 s.data.toList
    refine parse_tail s hb (outOf (splL 45 s.data.toList)) ?_ ?_ ?_
    · unfold outOf
      by_cases hz : sizesB ((splL 45 s.data.toList).map rdR) = true
      · rw [if_pos hz]; have := (sizes_small hz).1; exact Nat.le_trans this (by decide)
      · rw [if_neg hz]; exact Nat.zero_le _
    · unfold spec_ParseSizes.f
      by_cases h21 : s.size ≤ 21
      · simp only [if_neg (show ¬ (s.size : Int) > 21 by omega)]
        refine (l1Split_ev 45 s hb).bind ?_
        simp only [List.length_map]
        exact specSizes_loop s (splL 45 s.data.toList) (by rw [joinL_spl]; rfl) (by omega) (fun w hw => by have := splL_small 45 _ w hw; omega) (splL 45 s.data.toList).length 0 (by omega)
      · simp only [if_pos (show (s.size : Int) > 21 by omega)]
        rw [show outOf (splL 45 s.data.toList) = ([], false) from by
          unfold outOf; rw [if_neg]; intro h
          have hs := sizes_small h
          have := good_short 45 s.data.toList 7 (by simpa using hs.1) hs.2
          omega]
        exact Ev.now _
    · unfold impl_ParseSizes.f
      refine (parted_ev 45 s hb 7 (by omega)).bind ?_
      rcases partR_else (splL 45 s.data.toList) 7 with ⟨h, h7⟩ | h
      · simp only [h, if_true]
        refine (AreSizes_ev _ (by simp; omega)).bind ?_
        unfold outOf
        by_cases hz : sizesB ((splL 45 s.data.toList).map rdR) = true
        · simp only [hz, if_true]; exact Ev.now _
        · simp only [eq_false_of_ne_true hz, Bool.false_eq_true, if_false]; exact Ev.now _
      · simp only [h, Bool.false_eq_true, if_false]
        rw [show outOf (splL 45 s.data.toList) = ([], false) from by
          unfold outOf; rw [if_neg]; intro hz
          have hs := sizes_small hz
          rw [partR_good _ 7 (by simpa using hs.1) hs.2] at h
          exact absurd (congrArg Prod.snd h) (by simp)]
        exact Ev.now _
  · exact parse_big s hb
end Go.Proofs.YtdifnieiobfnaaaDoor.Pure
