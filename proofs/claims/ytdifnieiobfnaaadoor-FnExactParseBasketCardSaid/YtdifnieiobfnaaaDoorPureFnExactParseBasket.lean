/- The program's ParseBasket answers as the reference's does. Conditions: the statement's. -/
import Derived.Test.YtdifnieiobfnaaaDoorPFnExactParseBasketx4
namespace Go.Proofs.YtdifnieiobfnaaaDoor.Pure
open Go.RowKit Go.Proofs.YtdifnieiobfnaaaDoor.PFnExactParseBasket Go.Proofs.YtdifnieiobfnaaaDoorW.PrintWords Go.Proofs.YtdifnieiobfnaaaDoorW.PrintLast
set_option linter.unusedVariables false
set_option linter.unusedSimpArgs false
/-! ### Plain words -/
theorem w1 {n : Nat} (h : n < 4611686018427387904) : wrap64 ((n : Int) + 1) = ((n + 1 : Nat) : Int) := by unfold wrap64; omega
theorem w0 {x : Int} (h1 : -9223372036854775808 ≤ x) (h2 : x ≤ 9223372036854775807) : wrap64 x = x := by unfold wrap64; omega
theorem wfi {x : Int} (h : (Lit.int .i64 x).wf = true) : -9223372036854775808 ≤ x ∧ x ≤ 9223372036854775807 := by
  simpa [Lit.wf, IntKind.min, IntKind.max, IntKind.signed, IntKind.bits] using h
theorem getD_nat {α : Type} (l : List α) (z : α) (n : Nat) (h : n < l.length) : l.getD ((n : Int)).toNat z = l[n] := by
  simp [List.getD_eq_getElem?_getD, h]
theorem fill_set {α β : Type} (f : α → β) (l : List α) (z : β) (n : Nat) (h : n < l.length) :
    ((l.take n).map f ++ List.replicate (l.length - n) z).set n (f l[n]) = (l.take (n + 1)).map f ++ List.replicate (l.length - (n + 1)) z := by
  obtain ⟨d, hd⟩ : ∃ d, l.length - n = d + 1 := ⟨l.length - n - 1, by omega⟩
  rw [List.set_append, if_neg (by simp; omega), List.take_succ_eq_append_getElem h]
  have h1 : n - ((l.take n).map f).length = 0 := by simp; omega
  have h2 : l.length - (n + 1) = d := by omega
  rw [h1, h2, hd, List.replicate_succ, List.set_cons_zero, List.map_append]
  simp
theorem getD_set {α : Type} (l : List α) (z : α) (i j : Nat) (v : α) (hi : i < l.length) : (l.set i v).getD j z = if j = i then v else l.getD j z := by
  by_cases h : j = i
  · subst h; simp [List.getD_eq_getElem?_getD, hi]
  · rw [if_neg h]; simp [List.getD_eq_getElem?_getD, Ne.symm h]
/-- A way that needs no rounds. -/
theorem ev_now {α : Type} {g : Nat → Option α} {r : α} (h : ∀ k, g k = some r) : Ev g r := ⟨0, fun k _ => h k⟩
theorem ev_late {α : Type} {g : Nat → Option α} {r : α} (n : Nat) (h : ∀ k, g (k + n) = some r) : Ev g r := ⟨n, fun k hk => by
  obtain ⟨m, rfl⟩ : ∃ m, k = m + n := ⟨k - n, by omega⟩
  exact h m⟩
theorem ev_eq {α : Type} {g : Nat → Option α} {r s : α} (h : Ev g r) (e : r = s) : Ev g s := e ▸ h
/-! ### Numbers read: canonical decimals -/
def rdw (l : List UInt8) : Option Nat := if 1 ≤ l.length ∧ (l.head? ≠ some 48 ∨ l.length ≤ 1) then Go.Lib.decFrom 0 l else none
def rdR (l : List UInt8) : Int := if l.length ≤ 6 then (match rdw l with | some n => (n : Int) | none => -1) else -1
def numR (l : List UInt8) (d : Nat) : Int × Bool := if l.length ≤ d then (match rdw l with | some n => ((n : Int), true) | none => (0, false)) else (0, false)
theorem bt_nat (s : ByteArray) (n : Nat) (c : UInt8) (h : s.data.toList[n]? = some c) : bt s (n : Int) = (c.toNat : Int) := by
  obtain ⟨hlt, rfl⟩ := List.getElem?_eq_some_iff.1 h
  have hs : n < s.size := by rw [Array.length_toList] at hlt; exact hlt
  have e : ((n : Int)).toNat = n := Int.toNat_natCast n
  unfold bt
  rw [dif_pos (by rw [e]; exact hs)]
  simp only [e]
  rfl
theorem list_size (s : ByteArray) : s.data.toList.length = s.size := by rw [Array.length_toList]; rfl
theorem dig_of (c : UInt8) : Go.Lib.digitVal c = if 48 ≤ c.toNat ∧ c.toNat ≤ 57 then some (c.toNat - 48) else none := rfl
theorem num_step (acc c : Nat) (ha : acc < 100000) (h1 : 48 ≤ c) (h2 : c ≤ 57) : wrap64 (wrap64 (10 * (acc : Int)) + ((c : Int) - 48) % 256) = ((acc * 10 + (c - 48) : Nat) : Int) := by unfold wrap64; omega
theorem pow_step (acc c n : Nat) (ha : acc < 10 ^ n) (h2 : c ≤ 57) : acc * 10 + (c - 48) < 10 ^ (n + 1) := by
  have hp : 10 ^ (n + 1) = 10 ^ n * 10 := Nat.pow_succ ..
  rw [hp]
  generalize 10 ^ n = X at *
  omega
theorem dropWhile_nil {α : Type} (p : α → Bool) (l : List α) : l.dropWhile p = [] ↔ ∀ c ∈ l, p c = true := by
  induction l with
  | nil => simp
  | cons x r ih =>
    rw [List.dropWhile_cons]
    by_cases hx : p x = true
    · rw [if_pos hx, ih]; simp [hx]
    · rw [if_neg hx]; simp [hx]
theorem l1Read_loop (s : ByteArray) (hs : s.size ≤ 6) (d : Nat) : ∀ (n acc k : Nat), n + d = s.size → d < k → acc < 10 ^ n →
    spec_l1Read.l0 k s acc n = some (match Go.Lib.decFrom acc (s.data.toList.drop n) with | some v => (v : Int) | none => -1) := by
  induction d with
  | zero =>
    intro n acc k hn hk ha
    obtain ⟨k, rfl⟩ : ∃ m, k = m + 1 := ⟨k - 1, by omega⟩
    have hd : s.data.toList.drop n = [] := List.drop_eq_nil_of_le (by rw [list_size]; omega)
    simp only [spec_l1Read.l0, hd, Go.Lib.decFrom]; rw [if_neg (by omega)]
  | succ d ih =>
    intro n acc k hn hk ha
    obtain ⟨k, rfl⟩ : ∃ m, k = m + 1 := ⟨k - 1, by omega⟩
    have hlt : n < s.data.toList.length := by rw [list_size]; omega
    have hd : s.data.toList.drop n = s.data.toList[n] :: s.data.toList.drop (n + 1) := List.drop_eq_getElem_cons hlt
    have hb : bt s (n : Int) = ((s.data.toList[n]).toNat : Int) := bt_nat s n _ (List.getElem?_eq_getElem hlt)
    generalize s.data.toList[n] = c at hd hb
    have h5 : acc < 100000 := Nat.lt_of_lt_of_le ha (Nat.le_trans (Nat.pow_le_pow_right (n := 10) (by omega) (show n ≤ 5 by omega)) (by decide))
    have hq := fun h => pow_step acc c.toNat n ha h
    clear ha
    simp only [spec_l1Read.l0, hd, Go.Lib.decFrom, hb, dig_of]
    rw [if_pos (by omega), if_pos (by omega)]
    by_cases h1 : (c.toNat : Int) < 48
    · rw [if_pos h1, if_neg (show ¬ (48 ≤ c.toNat ∧ c.toNat ≤ 57) by omega)]
    · rw [if_neg h1]
      by_cases h2 : (c.toNat : Int) > 57
      · rw [if_pos h2, if_neg (show ¬ (48 ≤ c.toNat ∧ c.toNat ≤ 57) by omega)]
      · rw [if_neg h2, if_pos (show 48 ≤ c.toNat ∧ c.toNat ≤ 57 by omega)]
        rw [num_step acc c.toNat h5 (by omega) (by omega), w1 (by omega)]
        exact ih (n + 1) (acc * 10 + (c.toNat - 48)) k (by omega) (by omega) (hq (by omega))
theorem head_nat (s : ByteArray) (h : 0 < s.size) : ∃ c, s.data.toList.head? = some c ∧ bt s 0 = (c.toNat : Int) := by
  have hlt : 0 < s.data.toList.length := by rw [list_size]; exact h
  refine ⟨s.data.toList[0], ?_, bt_nat s 0 _ (List.getElem?_eq_getElem hlt)⟩
  rw [List.head?_eq_getElem?, List.getElem?_eq_getElem hlt]
theorem head_is (c : UInt8) : ((c.toNat : Int) = 48) ↔ c = 48 := by
  constructor
  · intro h; apply UInt8.toNat_inj.1; show c.toNat = 48; omega
  · rintro rfl; rfl
theorem l1Read_ev (s : ByteArray) (hs : s.size ≤ 1048576) : Ev (fun k => spec_l1Read.f k s) (rdR s.data.toList) := by
  refine ev_late 9 fun k => ?_
  have hl := list_size s
  simp only [spec_l1Read.f, spec_l1In.f]
  by_cases h0 : s.size = 0
  · rw [if_neg (by omega)]
    simp only [Option.bind_some, Bool.false_eq_true, if_false]
    rw [show k + 9 = (k + 8) + 1 from rfl]
    simp only [spec_l1Read.j0, if_true]
    unfold rdR rdw
    rw [if_pos (by omega), if_neg (by omega)]
  rw [if_pos (by omega)]
  simp only [Option.bind_some]
  by_cases h6 : s.size ≤ 6
  · rw [if_pos (by simp; omega), if_pos (by omega)]
    obtain ⟨c, hc, hb⟩ := head_nat s (by omega)
    rw [hb]
    have hr : rdR s.data.toList = if s.data.toList.head? ≠ some 48 ∨ s.size ≤ 1 then (match Go.Lib.decFrom 0 s.data.toList with | some n => (n : Int) | none => -1) else -1 := by
      unfold rdR rdw
      rw [hl, if_pos h6]
      by_cases hz : s.data.toList.head? ≠ some 48 ∨ s.size ≤ 1
      · rw [if_pos ⟨by omega, hz⟩, if_pos hz]
      · rw [if_neg (fun x => hz x.2), if_neg hz]
    rw [hr, hc]
    have hloop := l1Read_loop s h6 s.size 0 0 (k + 8) (by omega) (by omega) (by omega)
    rw [List.drop_zero] at hloop
    rw [show k + 9 = (k + 8) + 1 from rfl]
    by_cases h48 : c = 48
    · rw [if_pos ((head_is c).2 h48)]
      by_cases h1 : s.size ≤ 1
      · rw [if_pos (Or.inr h1), show decide ((s.size : Int) > 1) = false from decide_eq_false (by omega)]
        simp only [spec_l1Read.j0, Bool.false_eq_true, if_false]
        exact hloop
      · rw [if_neg (by rw [h48]; simp; omega), show decide ((s.size : Int) > 1) = true from decide_eq_true (by omega)]
        simp only [spec_l1Read.j0, if_true]
    · rw [if_neg (fun x => h48 ((head_is c).1 x)), if_pos (Or.inl (fun x => h48 (Option.some.inj x)))]
      simp only [spec_l1Read.j0, Bool.false_eq_true, if_false]
      exact hloop
  · rw [if_neg (by simp; omega)]
    rw [show k + 9 = (k + 8) + 1 from rfl]
    simp only [spec_l1Read.j0, if_true]
    unfold rdR
    rw [if_neg (by omega)]
/-! #### the program's reading -/
theorem digs_has (c : UInt8) : ([48, 49, 50, 51, 52, 53, 54, 55, 56, 57] : List UInt8).contains c = decide (48 ≤ c.toNat ∧ c.toNat ≤ 57) := by
  rw [Bool.eq_iff_iff, List.contains_iff_mem]
  simp only [List.mem_cons, List.not_mem_nil, or_false, ← UInt8.toNat_inj, decide_eq_true_eq]
  simp only [UInt8.reduceToNat]
  omega
theorem trimS_nil (l cs : List UInt8) : Go.Lib.trimS l cs = [] ↔ ∀ c ∈ l, cs.contains c = true := by
  unfold Go.Lib.trimS Go.Lib.trimLeftS Go.Lib.trimRightS
  rw [dropWhile_nil]
  constructor
  · intro h
    have : l.reverse.dropWhile (cs.contains ·) = [] := by
      cases hx : l.reverse.dropWhile (cs.contains ·) with
      | nil => rfl
      | cons x xs =>
        have hm : x ∈ (l.reverse.dropWhile (cs.contains ·)).reverse := by rw [hx]; simp
        have hn := List.head?_dropWhile_not (cs.contains ·) l.reverse
        rw [hx] at hn
        simp only [List.head?_cons] at hn
        have := h x hm
        rw [hn] at this
        cases this
    rw [dropWhile_nil] at this
    intro c hc
    exact this c (by simpa using hc)
  · intro h c hc
    have : c ∈ l.reverse.dropWhile (cs.contains ·) := by simpa using hc
    exact h c (by simpa using (List.dropWhile_sublist _).mem this)
theorem dec_all : ∀ (l : List UInt8) (acc : Nat), (∀ c ∈ l, 48 ≤ c.toNat ∧ c.toNat ≤ 57) → ∃ v, Go.Lib.decFrom acc l = some v := by
  intro l
  induction l with
  | nil => intro acc _; exact ⟨acc, rfl⟩
  | cons c r ih =>
    intro acc h
    simp only [Go.Lib.decFrom, dig_of]
    rw [if_pos (h c (by simp))]
    exact ih _ fun x hx => h x (by simp [hx])
theorem dec_digs (l : List UInt8) (acc v : Nat) (h : Go.Lib.decFrom acc l = some v) : ∀ c ∈ l, 48 ≤ c.toNat ∧ c.toNat ≤ 57 := by
  intro c hc
  obtain ⟨j, hj⟩ := List.getElem?_of_mem hc
  obtain ⟨d, hd⟩ := Go.Lib.digit_of_decFrom l acc v h j c hj
  rw [dig_of] at hd
  split at hd
  · assumption
  · cases hd
theorem atoi_digs (l : List UInt8) (h1 : 1 ≤ l.length) (h18 : l.length ≤ 18) (v : Nat) (h : Go.Lib.decFrom 0 l = some v) : Go.Lib.atoiAll l = .ok (v : Int) := by
  rw [Go.Lib.atoiAll_short l h18]
  cases l with
  | nil => simp at h1
  | cons c r =>
    have hc := dec_digs (c :: r) 0 v h c (by simp)
    have n45 : (c == 45) = false := by
      rw [beq_eq_false_iff_ne]; rintro rfl; exact absurd hc.1 (by decide)
    have n43 : (c == 43) = false := by
      rw [beq_eq_false_iff_ne]; rintro rfl; exact absurd hc.1 (by decide)
    simp only [Go.Lib.atoi, n45, n43, Bool.false_eq_true, if_false, Go.Lib.decNat, List.isEmpty_cons, h, Option.map_some]
    rfl
theorem number_is (s : ByteArray) (d : Nat) (hd : 1 ≤ d) (h6 : d ≤ 6) (hs : s.size ≤ 1048576) : impl_number.f s (d : Int) = some (numR s.data.toList d) := by
  have hl := list_size s
  unfold impl_number.f impl_within.f
  by_cases h0 : s.size = 0
  · rw [if_neg (by omega)]
    simp only [Option.bind_some, Bool.false_eq_true, if_false]
    unfold numR rdw
    rw [if_pos (by omega), if_neg (by omega)]
  rw [if_pos (by omega)]
  simp only [Option.bind_some]
  by_cases hd2 : s.size ≤ d
  · rw [if_pos (by simp; omega)]
    have ht : strings_Trim.f s (⟨#[48, 49, 50, 51, 52, 53, 54, 55, 56, 57]⟩ : ByteArray) = some ⟨(Go.Lib.trimS s.data.toList [48, 49, 50, 51, 52, 53, 54, 55, 56, 57]).toArray⟩ := by
      unfold strings_Trim.f
      rw [if_pos ⟨by omega, by decide, by decide⟩]
    rw [ht]
    simp only [Option.bind_some, Go.ByteArray.toList_eq]
    obtain ⟨c, hc, hb⟩ := head_nat s (by omega)
    have hnr : numR s.data.toList d = (match (if s.data.toList.head? ≠ some 48 ∨ s.size ≤ 1 then Go.Lib.decFrom 0 s.data.toList else none) with | some n => ((n : Int), true) | none => (0, false)) := by
      unfold numR rdw
      rw [hl, if_pos hd2]
      by_cases hz : s.data.toList.head? ≠ some 48 ∨ s.size ≤ 1
      · rw [if_pos ⟨by omega, hz⟩, if_pos hz]
      · rw [if_neg (fun x => hz x.2), if_neg hz]
    rw [hnr, hc, hb]
    cases hv : Go.Lib.decFrom 0 s.data.toList with
    | none =>
      have hn : ¬ (Go.Lib.trimS s.data.toList [48, 49, 50, 51, 52, 53, 54, 55, 56, 57] = []) := by
        rw [trimS_nil]
        intro h
        obtain ⟨v, hv'⟩ := dec_all s.data.toList 0 (fun c hc => by have := h c hc; rw [digs_has] at this; exact of_decide_eq_true this)
        rw [hv] at hv'; cases hv'
      rw [if_neg (by simpa using hn)]
      rw [ite_self]
    | some v =>
      have hy : Go.Lib.trimS s.data.toList [48, 49, 50, 51, 52, 53, 54, 55, 56, 57] = [] := by
        rw [trimS_nil]
        intro c hc
        rw [digs_has]
        exact decide_eq_true (dec_digs _ _ _ hv c hc)
      have ha : strconv_Atoi.f s = some ((v : Int), none) := by
        unfold strconv_Atoi.f
        rw [if_pos (by omega), atoi_digs _ (by omega) (by omega) v hv]
      rw [if_pos (by simpa using hy), if_pos (by omega), ha]
      simp only [Option.bind_some, Option.isNone_none, if_true]
      by_cases h48 : c = 48
      · rw [if_pos ((head_is c).2 h48)]
        by_cases h1 : s.size ≤ 1
        · rw [if_neg (by omega), if_pos (Or.inr h1)]
        · rw [if_pos (by omega), if_neg (by rw [h48]; simp; omega)]
      · rw [if_neg (fun x => h48 ((head_is c).1 x)), if_pos (Or.inl (fun x => h48 (Option.some.inj x)))]
  · rw [if_neg (by simp; omega)]
    unfold numR
    rw [if_neg (by omega)]
/-! ### A text's pieces between a byte -/
def headApp (p : List UInt8) : List (List UInt8) → List (List UInt8)
  | [] => [p]
  | w :: r => (p ++ w) :: r
def splL (c : UInt8) : List UInt8 → List (List UInt8)
  | [] => [[]]
  | b :: l => if b = c then [] :: splL c l else headApp [b] (splL c l)
def toBA (w : List UInt8) : ByteArray := ⟨w.toArray⟩
theorem toBA_data (w : List UInt8) : (toBA w).data.toList = w := rfl
theorem toBA_of (s : ByteArray) : toBA s.data.toList = s := rfl
theorem headApp_nil {ws : List (List UInt8)} (h : ws ≠ []) : headApp [] ws = ws := by
  cases ws with
  | nil => exact absurd rfl h
  | cons w r => rfl
theorem headApp_app (p q : List UInt8) (ws : List (List UInt8)) : headApp p (headApp q ws) = headApp (p ++ q) ws := by
  cases ws <;> simp [headApp]
theorem headApp_len (p : List UInt8) {ws : List (List UInt8)} (h : ws ≠ []) : (headApp p ws).length = ws.length := by
  cases ws with
  | nil => exact absurd rfl h
  | cons w r => rfl
theorem splL_ne (c : UInt8) (l : List UInt8) : splL c l ≠ [] := by
  cases l with
  | nil => simp [splL]
  | cons b l =>
    unfold splL
    split
    · simp
    · cases splL c l <;> simp [headApp]
theorem splL_len (c : UInt8) (l : List UInt8) : (splL c l).length = l.count c + 1 := by
  induction l with
  | nil => rfl
  | cons b l ih =>
    unfold splL
    by_cases h : b = c
    · subst h; simp [ih]
    · rw [if_neg h, headApp_len _ (splL_ne c l), ih, List.count_cons_of_ne (by simpa using h)]
theorem splL_none (c : UInt8) (l : List UInt8) (h : l.count c = 0) : splL c l = [l] := by
  induction l with
  | nil => rfl
  | cons b l ih =>
    by_cases hb : b = c
    · subst hb; simp at h
    · rw [List.count_cons_of_ne (by simpa using hb)] at h
      unfold splL; rw [if_neg hb, ih h]; rfl
theorem index_cons (b c : UInt8) (l : List UInt8) : Go.Lib.index (b :: l) [c] = if b = c then 0 else if Go.Lib.index l [c] == -1 then -1 else Go.Lib.index l [c] + 1 := by
  by_cases h : b = c
  · subst h; rw [Go.Lib.index]; simp [List.isPrefixOf]
  · have hp : ([c] : List UInt8).isPrefixOf (b :: l) = false := by simp [List.isPrefixOf, Ne.symm h]
    rw [Go.Lib.index, hp]; simp [h]
theorem splitK_cons (b c : UInt8) (l : List UInt8) (k : Nat) : Go.Lib.splitK [c] 0 (k + 1) (b :: l) = if b = c then [] :: Go.Lib.splitK [c] 0 k l else headApp [b] (Go.Lib.splitK [c] 0 (k + 1) l) := by
  have hge := Go.Lib.index_ge l [c]
  rw [Go.Lib.splitK, index_cons]
  by_cases h : b = c
  · subst h; simp
  · rw [if_neg h, if_neg h]
    conv => rhs; rw [Go.Lib.splitK]
    by_cases hm : Go.Lib.index l [c] = -1
    · simp [hm, headApp]
    · obtain ⟨j, hj⟩ : ∃ j : Nat, Go.Lib.index l [c] = j := ⟨(Go.Lib.index l [c]).toNat, by omega⟩
      have e1 : ((j : Int) + 1).toNat = j + 1 := by omega
      have n1 : ¬ ((j : Int) = -1) := by omega
      have n2 : ¬ ((j : Int) + 1 = -1) := by omega
      simp [hj, n1, n2, e1, headApp]
theorem splitK_nil (c : UInt8) (k : Nat) : Go.Lib.splitK [c] 0 k [] = [[]] := by cases k <;> simp [Go.Lib.splitK, Go.Lib.index]
theorem splitK_ne (c : UInt8) (k : Nat) (l : List UInt8) : Go.Lib.splitK [c] 0 k l ≠ [] := by
  cases k with
  | zero => simp [Go.Lib.splitK]
  | succ k => rw [Go.Lib.splitK]; split <;> simp
theorem splitK_is (c : UInt8) (l : List UInt8) : ∀ k : Nat, l.count c ≤ k → Go.Lib.splitK [c] 0 k l = splL c l := by
  induction l with
  | nil => intro k _; rw [splitK_nil]; rfl
  | cons b l ih =>
    intro k hk
    cases k with
    | zero => rw [splL_none c _ (by omega)]; rfl
    | succ k =>
      rw [splitK_cons]
      unfold splL
      by_cases h : b = c
      · subst h; simp at hk; rw [if_pos rfl, if_pos rfl, ih k hk]
      · rw [List.count_cons_of_ne (by simpa using h)] at hk
        rw [if_neg h, if_neg h, ih (k + 1) hk]
theorem splitK_len (c : UInt8) (l : List UInt8) : ∀ k : Nat, (Go.Lib.splitK [c] 0 k l).length = min k (l.count c) + 1 := by
  induction l with
  | nil => intro k; rw [splitK_nil]; simp
  | cons b l ih =>
    intro k
    cases k with
    | zero => simp [Go.Lib.splitK]
    | succ k =>
      rw [splitK_cons]
      by_cases h : b = c
      · subst h; simp [ih k]
      · rw [if_neg h, headApp_len _ (splitK_ne c _ l), ih (k + 1), List.count_cons_of_ne (by simpa using h)]
theorem splitB_is (c : UInt8) (k : Nat) (s : ByteArray) : Go.Lib.splitB (⟨#[c]⟩ : ByteArray) 0 k s = (Go.Lib.splitK [c] 0 k s.data.toList).map toBA := by
  have := Go.Lib.splitB_data (⟨#[c]⟩ : ByteArray) 0 k s
  rw [show (⟨#[c]⟩ : ByteArray).data.toList = [c] from rfl] at this
  rw [← this, List.map_map]
  rw [show (toBA ∘ fun x : ByteArray => x.data.toList) = id from rfl, List.map_id]
/-- The reference's split. -/
theorem l1Split_loop (c : UInt8) (s : ByteArray) (hs : s.size ≤ 1048576) (d : Nat) : ∀ (n fr : Nat) (out : List ByteArray), n + d = s.size → fr ≤ n → out.length ≤ n →
    Ev (fun k => spec_l1Split.l0 k s (c.toNat : Int) out fr n) (out ++ (headApp ((s.data.toList.take n).drop fr) (splL c (s.data.toList.drop n))).map toBA) := by
  have hl := list_size s
  have hx : ∀ a b : Nat, s.extract a b = toBA ((s.data.toList.take b).drop a) := fun a b => by
    rw [← toBA_of (s.extract a b), Go.Lib.extract_data, ← List.drop_take]
  induction d with
  | zero =>
    intro n fr out hn hf ho
    refine ev_late 1 fun k => ?_
    simp only [spec_l1Split.l0]
    rw [if_neg (by omega), if_pos (by omega), if_pos (by omega), if_pos (by omega), Int.toNat_natCast, hx]
    have hz : s.data.toList.drop n = [] := List.drop_eq_nil_of_le (by omega)
    have ht : s.data.toList.take n = s.data.toList.take s.size := by rw [show n = s.size by omega]
    rw [hz, ht]
    simp [splL, headApp]
  | succ d ih =>
    intro n fr out hn hf ho
    have hlt : n < s.data.toList.length := by omega
    have hb : bt s (n : Int) = ((s.data.toList[n]).toNat : Int) := bt_nat s n _ (List.getElem?_eq_getElem hlt)
    have hd : s.data.toList.drop n = s.data.toList[n] :: s.data.toList.drop (n + 1) := List.drop_eq_getElem_cons hlt
    by_cases hc : s.data.toList[n] = c
    · refine Ev.step (f := fun k => spec_l1Split.l0 k s (c.toNat : Int) (out ++ [s.extract fr n]) ((n + 1 : Nat) : Int) ((n + 1 : Nat) : Int)) (fun k => by
        simp only [spec_l1Split.l0]
        rw [if_pos (by omega), if_pos (by omega), if_pos (by rw [hb, hc]), if_pos (by omega), if_pos (by omega), if_pos (by omega), if_pos (by omega), w1 (by omega), Int.toNat_natCast, Int.toNat_natCast]) ?_
      have := ih (n + 1) (n + 1) (out ++ [s.extract fr n]) (by omega) (by omega) (by simp; omega)
      rw [hd]
      unfold splL
      rw [if_pos hc]
      rw [List.drop_eq_nil_of_le (by simp; omega), headApp_nil (splL_ne c _), hx] at this
      simpa [headApp, hx] using this
    · refine Ev.step (f := fun k => spec_l1Split.l0 k s (c.toNat : Int) out fr ((n + 1 : Nat) : Int)) (fun k => by
        simp only [spec_l1Split.l0]
        rw [if_pos (by omega), if_pos (by omega), if_neg (by rw [hb]; intro e; exact hc (UInt8.toNat_inj.1 (by omega))), w1 (by omega)]) ?_
      have := ih (n + 1) fr out (by omega) (by omega) (by omega)
      rw [hd]
      unfold splL
      rw [if_neg hc, headApp_app]
      rw [List.take_succ_eq_append_getElem hlt, List.drop_append_of_le_length (by simp; omega)] at this
      exact this
theorem l1Split_ev (c : UInt8) (s : ByteArray) (hs : s.size ≤ 1048576) : Ev (fun k => spec_l1Split.f k s (c.toNat : Int)) ((splL c s.data.toList).map toBA) := by
  have := l1Split_loop c s hs s.size 0 0 [] (by omega) (by omega) (by simp)
  simp only [List.take_zero, List.drop_zero, List.drop_nil, List.nil_append] at this
  rw [headApp_nil (splL_ne c _)] at this
  exact this
/-- The pieces tell the text. -/
def joinL (c : UInt8) : List (List UInt8) → List UInt8
  | [] => []
  | [w] => w
  | w :: v :: r => w ++ c :: joinL c (v :: r)
theorem joinL_head (c b : UInt8) {ws : List (List UInt8)} (h : ws ≠ []) : joinL c (headApp [b] ws) = b :: joinL c ws := by
  match ws with
  | [] => exact absurd rfl h
  | [w] => rfl
  | w :: v :: r => rfl
theorem joinL_spl (c : UInt8) (l : List UInt8) : joinL c (splL c l) = l := by
  induction l with
  | nil => rfl
  | cons b l ih =>
    unfold splL
    by_cases h : b = c
    · rw [if_pos h]
      cases hw : splL c l with
      | nil => exact absurd hw (splL_ne c l)
      | cons w r => rw [hw] at ih; show [] ++ c :: joinL c (w :: r) = _; rw [ih, h]; rfl
    · rw [if_neg h, joinL_head c b (splL_ne c l), ih]
theorem joinL_len (c : UInt8) (m : Nat) : ∀ ws : List (List UInt8), (∀ w ∈ ws, w.length ≤ m) → ws ≠ [] → (joinL c ws).length + 1 ≤ ws.length * (m + 1)
  | [], _, h => absurd rfl h
  | [w], hm, _ => by have := hm w (by simp); simp [joinL]; omega
  | w :: v :: r, hm, _ => by
    have h1 := hm w (by simp)
    have h2 := joinL_len c m (v :: r) (fun x hx => hm x (by simp [hx])) (by simp)
    rw [joinL, List.length_append, List.length_cons, List.length_cons (a := w), Nat.succ_mul]
    omega
/-! ### Numbers between a byte -/
theorem dec_ge : ∀ (l : List UInt8) (acc n : Nat), Go.Lib.decFrom acc l = some n → acc * 10 ^ l.length ≤ n := by
  intro l
  induction l with
  | nil => intro acc n h; simp only [Go.Lib.decFrom, Option.some.injEq] at h; subst h; simp
  | cons c r ih =>
    intro acc n h
    simp only [Go.Lib.decFrom, dig_of] at h
    split at h
    · rename_i v hv
      have := ih _ _ h
      rw [List.length_cons, Nat.pow_succ]
      refine Nat.le_trans ?_ this
      rw [Nat.mul_comm (10 ^ r.length) 10, ← Nat.mul_assoc]
      exact Nat.mul_le_mul_right _ (by omega)
    · cases h
/-- A canonical number below 100 has at most two digits. -/
theorem rdw_two (w : List UInt8) (n : Nat) (h : rdw w = some n) (hn : n ≤ 99) : w.length ≤ 2 := by
  unfold rdw at h
  split at h
  · rename_i hc
    cases w with
    | nil => simp
    | cons c r =>
      rcases Nat.lt_or_ge 1 r.length with h1 | h1
      · have h48 : c ≠ 48 := by
          rcases hc.2 with h | h
          · exact fun e => h (by rw [e]; rfl)
          · rw [List.length_cons] at h; omega
        have hd := dec_digs _ _ _ h c (by simp)
        have hc49 : 49 ≤ c.toNat := by
          rcases Nat.lt_or_ge c.toNat 49 with hlt | hge
          · exact absurd (UInt8.toNat_inj.1 (show c.toNat = (48 : UInt8).toNat from by have : (48 : UInt8).toNat = 48 := rfl; omega)) h48
          · exact hge
        simp only [Go.Lib.decFrom, dig_of] at h
        rw [if_pos hd] at h
        have := dec_ge r _ n h
        have h10 : 10 ^ 2 ≤ 10 ^ r.length := Nat.pow_le_pow_right (by omega) (by omega)
        have : 1 * 10 ^ 2 ≤ n := Nat.le_trans (Nat.mul_le_mul (by omega) h10) this
        omega
      · simp; omega
  · cases h
theorem rdw_lt (w : List UInt8) (n : Nat) (h : rdw w = some n) (hl : w.length ≤ 2) : n ≤ 99 := by
  unfold rdw at h
  split at h
  · have := Go.Lib.decFrom_lt w 0 n h
    have h10 : 10 ^ w.length ≤ 10 ^ 2 := Nat.pow_le_pow_right (by omega) hl
    omega
  · cases h
theorem numR_ok (w : List UInt8) (h : (numR w 2).2 = true) : (numR w 2).1 = rdR w ∧ w.length ≤ 2 := by
  unfold numR at h ⊢
  split at h
  · rename_i hl
    rw [if_pos hl]
    unfold rdR; rw [if_pos (by omega)]
    cases hw : rdw w with
    | none => rw [hw] at h; cases h
    | some n => exact ⟨rfl, hl⟩
  · cases h
theorem numR_of (w : List UInt8) (h0 : 0 ≤ rdR w) (h1 : rdR w ≤ 99) : (numR w 2).2 = true := by
  unfold rdR at h0 h1
  split at h0
  · rename_i h6
    rw [if_pos h6] at h1
    cases hw : rdw w with
    | none => rw [hw] at h0; simp at h0
    | some n =>
      rw [hw] at h1
      have := rdw_two w n hw (by simp at h1; omega)
      unfold numR; rw [if_pos this, hw]
  · simp at h0
def okAll (ws : List (List UInt8)) : Bool := ws.all fun w => (numR w 2).2
def partR (ws : List (List UInt8)) (most : Nat) : List Int × Bool := if ws.length ≤ most ∧ okAll ws = true then (ws.map rdR, true) else ([], false)
theorem rdOf_map (ws : List (List UInt8)) (n : Nat) (h : n < ws.length) : rdOf ByteArray.empty (ws.map toBA) (n : Int) = toBA ws[n] := by
  show (ws.map toBA).getD ((n : Int)).toNat ByteArray.empty = _
  rw [Int.toNat_natCast, List.getD_eq_getElem?_getD, List.getElem?_map, List.getElem?_eq_getElem h]; rfl
theorem parted_loop (ws : List (List UInt8)) (hw : ws.length ≤ 1048576) (hs : ∀ w ∈ ws, w.length ≤ 1048576) (d : Nat) : ∀ (n k : Nat), n + d = ws.length → d < k →
    impl_parted.l0 k ((ws.take n).map rdR) (ws.map toBA) (ws.length : Int) n = some (if okAll (ws.drop n) = true then (ws.map rdR, true) else ([], false)) := by
  induction d with
  | zero =>
    intro n k hn hk
    obtain ⟨k, rfl⟩ : ∃ m, k = m + 1 := ⟨k - 1, by omega⟩
    simp only [impl_parted.l0]
    rw [if_neg (by omega), List.take_of_length_le (by omega), List.drop_eq_nil_of_le (by omega)]
    simp [okAll]
  | succ d ih =>
    intro n k hn hk
    obtain ⟨k, rfl⟩ : ∃ m, k = m + 1 := ⟨k - 1, by omega⟩
    have hlt : n < ws.length := by omega
    have e := number_is (toBA ws[n]) 2 (by omega) (by omega) (by have := hs ws[n] (List.getElem_mem hlt); have h2 := list_size (toBA ws[n]); rw [toBA_data] at h2; omega)
    rw [toBA_data] at e
    simp only [impl_parted.l0]
    rw [if_pos (by omega), if_pos (by omega), if_pos (by rw [List.length_map]; omega), rdOf_map ws n hlt, show (2 : Int) = ((2 : Nat) : Int) from rfl, e]
    simp only [Option.bind_some]
    rw [List.drop_eq_getElem_cons hlt]
    by_cases ho : (numR ws[n] 2).2 = true
    · have h1 := (numR_ok ws[n] ho).1
      rw [if_pos ho, if_pos (by simp; omega), w1 (by omega), h1]
      have := ih (n + 1) k (by omega) (by omega)
      rw [List.take_succ_eq_append_getElem hlt, List.map_append] at this
      rw [show okAll (ws[n] :: ws.drop (n + 1)) = okAll (ws.drop (n + 1)) by unfold okAll; rw [List.all_cons, ho, Bool.true_and]]
      exact this
    · rw [if_neg ho]
      rw [show okAll (ws[n] :: ws.drop (n + 1)) = false by unfold okAll; rw [List.all_cons, eq_false_of_ne_true ho, Bool.false_and]]
      rfl
theorem splL_small (c : UInt8) (l : List UInt8) : ∀ w ∈ splL c l, w.length ≤ l.length := by
  induction l with
  | nil => intro w hw; simp [splL] at hw; subst hw; simp
  | cons b l ih =>
    intro w hw
    unfold splL at hw
    by_cases h : b = c
    · rw [if_pos h] at hw
      rcases List.mem_cons.1 hw with rfl | hw
      · simp
      · have := ih w hw; simp; omega
    · rw [if_neg h] at hw
      cases hv : splL c l with
      | nil => exact absurd hv (splL_ne c l)
      | cons v r =>
        rw [hv] at hw ih
        rcases List.mem_cons.1 hw with rfl | hw
        · have := ih v (by simp); simp; omega
        · have := ih w (by simp [hw]); simp; omega
theorem count_le_size (c : UInt8) (s : ByteArray) : s.data.toList.count c ≤ s.size := by rw [← list_size]; exact List.count_le_length
theorem parted_ev (c : UInt8) (s : ByteArray) (hs : s.size ≤ 1048576) (most : Nat) (hm : most ≤ 900) : Ev (fun k => impl_parted.f k s (⟨#[c]⟩ : ByteArray) (most : Int)) (partR (splL c s.data.toList) most) := by
  have hl := list_size s
  have hlen := splitK_len c s.data.toList (min (most + 1) (s.size + 1) - 1)
  have hcl := count_le_size c s
  have hspl : strings_SplitN.f s (⟨#[c]⟩ : ByteArray) (wrap64 ((most : Int) + 1)) = some ((Go.Lib.splitK [c] 0 (min (most + 1) (s.size + 1) - 1) s.data.toList).map toBA) := by
    unfold strings_SplitN.f
    rw [w1 (by omega), if_pos ⟨by omega, by exact (by decide : 1 ≤ 1), by omega, by omega⟩, Int.toNat_natCast, splitB_is]
  refine ⟨most + 2, fun k hk => ?_⟩
  simp only [impl_parted.f, hspl, Option.bind_some, List.length_map]
  unfold partR
  by_cases hle : (splL c s.data.toList).length ≤ most
  · have hc := splL_len c s.data.toList
    have he := splitK_is c s.data.toList (min (most + 1) (s.size + 1) - 1) (by omega)
    rw [he, if_neg (by omega)]
    have := parted_loop (splL c s.data.toList) (by omega) (fun w hw => by have := splL_small c s.data.toList w hw; omega) (splL c s.data.toList).length 0 k (by omega) (by omega)
    simp only [List.take_zero, List.map_nil, List.drop_zero] at this
    rw [show ((0 : Nat) : Int) = 0 from rfl] at this
    rw [this]
    by_cases ho : okAll (splL c s.data.toList) = true
    · rw [if_pos ho, if_pos ⟨hle, ho⟩]
    · rw [if_neg ho, if_neg (fun x => ho x.2)]
  · have hc := splL_len c s.data.toList
    rw [if_pos (by rw [hlen]; omega), if_neg (fun x => hle x.1)]
theorem okAll_iff (ws : List (List UInt8)) : okAll ws = true ↔ ∀ w ∈ ws, (numR w 2).2 = true := by unfold okAll; rw [List.all_eq_true]
/-- Where all numbers lie between 0 and 99 the program reads them, too. -/
theorem partR_good (ws : List (List UInt8)) (most : Nat) (h : ws.length ≤ most) (hv : ∀ x ∈ ws.map rdR, 0 ≤ x ∧ x ≤ 99) : partR ws most = (ws.map rdR, true) := by
  unfold partR
  rw [if_pos ⟨h, (okAll_iff ws).2 fun w hw => numR_of w (hv _ (List.mem_map_of_mem hw)).1 (hv _ (List.mem_map_of_mem hw)).2⟩]
theorem partR_else (ws : List (List UInt8)) (most : Nat) : partR ws most = (ws.map rdR, true) ∧ ws.length ≤ most ∨ partR ws most = ([], false) := by
  unfold partR
  split
  · exact .inl ⟨rfl, by rename_i h; exact h.1⟩
  · exact .inr rfl
/-- .. and the text is short. -/
theorem good_short (c : UInt8) (l : List UInt8) (most : Nat) (h : (splL c l).length ≤ most) (hv : ∀ x ∈ (splL c l).map rdR, 0 ≤ x ∧ x ≤ 99) : l.length + 1 ≤ most * 3 := by
  have hw : ∀ w ∈ splL c l, w.length ≤ 2 := fun w hw => (numR_ok w (numR_of w (hv _ (List.mem_map_of_mem hw)).1 (hv _ (List.mem_map_of_mem hw)).2)).2
  have := joinL_len c 2 (splL c l) hw (splL_ne c l)
  rw [joinL_spl] at this
  have : (splL c l).length * 3 ≤ most * 3 := Nat.mul_le_mul_right _ h
  omega
theorem rdI (xs : List Int) (n : Nat) (h : n < xs.length) : rd xs (n : Int) = xs[n] := getD_nat xs 0 n h
theorem l1In_is (n a b : Int) : spec_l1In.f n a b = some (decide (a ≤ n ∧ n ≤ b)) := by
  unfold spec_l1In.f; by_cases h : n ≥ a <;> simp [h] <;> omega
theorem within_is (n a b : Int) : impl_within.f n a b = some (decide (a ≤ n ∧ n ≤ b)) := by
  unfold impl_within.f; by_cases h : a ≤ n <;> simp [h]
def allB (l : List Int) (a b : Int) : Bool := l.all fun x => decide (a ≤ x ∧ x ≤ b)
def wsum : Int → List Int → Int
  | s, [] => s
  | s, x :: l => wsum (wrap64 (s + x)) l
def timesR (p : Int) : List Int → List Int → List Int × Bool
  | [], acc => (acc, true)
  | x :: xs, acc => if 0 ≤ x ∧ x ≤ p - 1 then (if rd acc x = 2 then ([], false) else timesR p xs (acc.set x.toNat (wrap64 (rd acc x + 1)))) else ([], false)
theorem times_loop (p : Int) (hp0 : 0 ≤ p) (hp1 : p ≤ 1048576) (l : List Int) (hl : l.length ≤ 1048576) (d : Nat) : ∀ (n k : Nat) (acc : List Int), (acc.length : Int) = p → n + d = l.length → d < k →
    impl_times.l0 k p acc l (l.length : Int) n = some (timesR p (l.drop n) acc) := by
  induction d with
  | zero =>
    intro n k acc ha hn hk
    obtain ⟨k, rfl⟩ : ∃ m, k = m + 1 := ⟨k - 1, by omega⟩
    simp only [impl_times.l0]; rw [if_neg (by omega)]
    obtain rfl : n = l.length := by omega
    simp [timesR]
  | succ d ih =>
    intro n k acc ha hn hk
    obtain ⟨k, rfl⟩ : ∃ m, k = m + 1 := ⟨k - 1, by omega⟩
    have hlt : n < l.length := by omega
    simp only [impl_times.l0, within_is, Option.bind_some]
    rw [if_pos (by omega), if_pos (by omega), if_pos (by omega), rdI l n hlt, w1 (by omega), w0 (x := p - 1) (by omega) (by omega), List.drop_eq_getElem_cons hlt]
    simp only [timesR]
    by_cases hx : 0 ≤ l[n] ∧ l[n] ≤ p - 1
    · rw [if_pos (by simpa using hx), if_pos hx.1, if_pos (by omega), if_pos hx]
      by_cases h2 : rd acc l[n] = 2
      · rw [if_pos h2, if_pos h2]
      · rw [if_neg h2, if_neg h2]
        exact ih (n + 1) k _ (by simpa using ha) (by omega) (by omega)
    · rw [if_neg (by simpa using hx), if_neg hx]
theorem times_ev (p : Int) (hp0 : 0 ≤ p) (hp1 : p ≤ 1048576) (l : List Int) (hl : l.length ≤ 1048576) : Ev (fun k => impl_times.f k p l) (timesR p l (List.replicate p.toNat 0)) :=
  ⟨l.length + 1, fun k hk => by
    show impl_times.f k p l = _
    unfold impl_times.f
    rw [if_pos hp0, if_pos (by omega)]
    exact (times_loop p hp0 hp1 l hl l.length 0 k _ (by simp; omega) (by omega) (by omega)).trans (by simp)⟩
theorem laCounts_loop (p : Int) (hp0 : 0 ≤ p) (hp1 : p ≤ 1048576) (l : List Int) (hl : l.length ≤ 1048576) (d : Nat) : ∀ (n k : Nat) (acc : List Int), (acc.length : Int) = p → n + d = l.length → d < k →
    spec_laCounts.l0 k p acc l (l.length : Int) n = some (timesR p (l.drop n) acc) := by
  induction d with
  | zero =>
    intro n k acc ha hn hk
    obtain ⟨k, rfl⟩ : ∃ m, k = m + 1 := ⟨k - 1, by omega⟩
    simp only [spec_laCounts.l0]; rw [if_neg (by omega)]
    obtain rfl : n = l.length := by omega
    simp [timesR]
  | succ d ih =>
    intro n k acc ha hn hk
    obtain ⟨k, rfl⟩ : ∃ m, k = m + 1 := ⟨k - 1, by omega⟩
    have hlt : n < l.length := by omega
    simp only [spec_laCounts.l0, l1In_is, Option.bind_some]
    rw [if_pos (by omega), if_pos (by omega), if_pos (by omega), rdI l n hlt, w1 (by omega), w0 (x := p - 1) (by omega) (by omega), List.drop_eq_getElem_cons hlt]
    simp only [timesR]
    by_cases hx : 0 ≤ l[n] ∧ l[n] ≤ p - 1
    · rw [if_pos (by simpa using hx), if_pos hx.1, if_pos (by omega), if_pos hx]
      by_cases h2 : rd acc l[n] = 2
      · rw [if_pos h2, if_pos h2]
      · rw [if_neg h2, if_neg h2]
        exact ih (n + 1) k _ (by simpa using ha) (by omega) (by omega)
    · rw [if_neg (by simpa using hx), if_neg hx]
theorem laCounts_ev (p : Int) (hp0 : 0 ≤ p) (hp1 : p ≤ 1048576) (l : List Int) (hl : l.length ≤ 1048576) : Ev (fun k => spec_laCounts.f k p l) (timesR p l (List.replicate p.toNat 0)) :=
  ⟨l.length + 1, fun k hk => by
    show spec_laCounts.f k p l = _
    unfold spec_laCounts.f
    rw [if_pos hp0, if_pos (by omega)]
    exact (laCounts_loop p hp0 hp1 l hl l.length 0 k _ (by simp; omega) (by omega) (by omega)).trans (by simp)⟩
def risesB (l : List Int) (n : Nat) : Bool := (List.range (l.length - n)).all fun i => decide (l.getD (n + i - 1) 0 ≤ l.getD (n + i) 0)
theorem rises_step (l : List Int) (n : Nat) (h : n < l.length) : risesB l n = (decide (l.getD (n - 1) 0 ≤ l.getD n 0) && risesB l (n + 1)) := by
  unfold risesB
  rw [show l.length - n = (l.length - (n + 1)) + 1 by omega, List.range_succ_eq_map, List.all_cons, List.all_map]
  congr 1
  refine congrArg (fun f => List.all _ f) (funext fun i => ?_)
  simp only [Function.comp]
  rw [show n + (i + 1) - 1 = n + 1 + i - 1 by omega, show n + (i + 1) = n + 1 + i by omega]
theorem rises_last (l : List Int) (n : Nat) (h : l.length ≤ n) : risesB l n = true := by
  unfold risesB; rw [show l.length - n = 0 by omega]; rfl
/-- Does it rise up to place n? -/
def risesTo (l : List Int) (n : Nat) : Bool := (List.range n).all fun i => decide (l.getD i 0 ≤ l.getD (i + 1) 0)
theorem rises_to (l : List Int) : risesB l 1 = risesTo l (l.length - 1) := by
  unfold risesB risesTo
  refine congrArg (fun f => List.all _ f) (funext fun i => ?_)
  rw [show 1 + i - 1 = i by omega, show 1 + i = i + 1 by omega]
theorem laIs_loop (p : Int) (hp0 : 0 ≤ p) (hp1 : p ≤ 1048576) (l : List Int) (hl : l.length ≤ 1048576) (d : Nat) : ∀ (n : Nat), 1 ≤ n → n + d = max l.length n →
    Ev (fun k => spec_laIs.l0 k p l n) (risesB l n && (timesR p l (List.replicate p.toNat 0)).2) := by
  induction d with
  | zero =>
    intro n h1 hn
    refine Ev.step (f := fun k => (spec_laCounts.f k p l).bind fun b => some b.2) (fun k => ?_) (ev_eq ((laCounts_ev p hp0 hp1 l hl).bind (Ev.now _)) (by rw [rises_last l n (by omega)]; rfl))
    simp only [spec_laIs.l0]; rw [if_neg (by omega)]
  | succ d ih =>
    intro n h1 hn
    have hlt : n < l.length := by omega
    have e : wrap64 ((n : Int) - 1) = ((n - 1 : Nat) : Int) := by unfold wrap64; omega
    refine Ev.step (f := fun k => if l[n - 1] > l[n] then some false else spec_laIs.l0 k p l ((n + 1 : Nat) : Int)) (fun k => ?_) ?_
    · simp only [spec_laIs.l0, e]
      rw [if_pos (by omega), if_pos (by omega), if_pos (by omega), if_pos (by omega), rdI l (n - 1) (by omega), rdI l n hlt, w1 (by omega)]
    · have g1 : l.getD (n - 1) 0 = l[n - 1] := by simp [List.getD_eq_getElem?_getD, show n - 1 < l.length by omega]
      have g2 : l.getD n 0 = l[n] := by simp [List.getD_eq_getElem?_getD, hlt]
      rw [rises_step l n hlt, g1, g2]
      by_cases h : l[n - 1] > l[n]
      · simp only [if_pos h]; refine ev_eq (Ev.now _) ?_; simp [show ¬ l[n - 1] ≤ l[n] by omega]
      · simp only [if_neg h]; refine ev_eq (ih (n + 1) (by omega) (by omega)) ?_; simp [show l[n - 1] ≤ l[n] by omega]
def basketB (p : Int) (l : List Int) : Bool := decide (1 ≤ p ∧ p ≤ 20) && (risesB l 1 && (timesR p l (List.replicate p.toNat 0)).2)
theorem sorted_loop (l : List Int) (hl : l.length ≤ 1048576) (n : Nat) : ∀ (k : Nat), n < l.length → n < k → slices_IsSorted_sint_int.l0 k l n = some (risesTo l n) := by
  induction n with
  | zero =>
    intro k hn hk
    obtain ⟨k, rfl⟩ : ∃ m, k = m + 1 := ⟨k - 1, by omega⟩
    simp only [slices_IsSorted_sint_int.l0]; rw [if_neg (by omega)]; rfl
  | succ n ih =>
    intro k hn hk
    obtain ⟨k, rfl⟩ : ∃ m, k = m + 1 := ⟨k - 1, by omega⟩
    have e : wrap64 (((n + 1 : Nat) : Int) - 1) = (n : Int) := by unfold wrap64; omega
    simp only [slices_IsSorted_sint_int.l0, cmp_Less_int.f, cmp_isNaN_int.f, Option.bind_some, e]
    rw [if_pos (by omega), if_pos (by omega), if_pos (by omega), if_pos (by omega), if_pos (by omega), rdI l (n + 1) hn, rdI l n (by omega)]
    simp only [bne_self_eq_false, Bool.false_eq_true, if_false, Option.bind_some]
    unfold risesTo
    rw [List.range_succ, List.all_append, ih k (by omega) (by omega)]
    have g1 : l.getD n 0 = l[n] := by simp [List.getD_eq_getElem?_getD, show n < l.length by omega]
    have g2 : l.getD (n + 1) 0 = l[n + 1] := by simp [List.getD_eq_getElem?_getD, hn]
    simp only [List.all_cons, List.all_nil, Bool.and_true, g1, g2, decide_eq_true_eq]
    by_cases h : l[n + 1] < l[n]
    · rw [if_pos h]; simp [show ¬ l[n] ≤ l[n + 1] by omega]
    · rw [if_neg h]; simp [show l[n] ≤ l[n + 1] by omega, risesTo]
theorem sorted_ev (l : List Int) (hl : l.length ≤ 1048576) : Ev (fun k => slices_IsSorted_sint_int.f k l) (risesB l 1) :=
  ⟨l.length + 1, fun k hk => by
    show slices_IsSorted_sint_int.f k l = _
    unfold slices_IsSorted_sint_int.f
    rcases Nat.eq_zero_or_pos l.length with h0 | h0
    · obtain ⟨k, rfl⟩ : ∃ m, k = m + 1 := ⟨k - 1, by omega⟩
      have e : wrap64 ((l.length : Int) - 1) = -1 := by unfold wrap64; omega
      rw [e]; simp only [slices_IsSorted_sint_int.l0]; rw [if_neg (by omega), rises_last l 1 (by omega)]
    · have e : wrap64 ((l.length : Int) - 1) = ((l.length - 1 : Nat) : Int) := by unfold wrap64; omega
      rw [e, sorted_loop l hl (l.length - 1) k (by omega) (by omega), rises_to]⟩
theorem isBasket_ev (p : Int) (l : List Int) (hl : l.length ≤ 1048576) : Ev (fun k => impl_isBasket.f k p l) (basketB p l) := by
  unfold basketB impl_isBasket.f impl_IsBasket.f impl_arePairs.f
  simp only [within_is, Option.bind_some]
  by_cases h : 1 ≤ p ∧ p ≤ 20
  · simp only [h, and_self, decide_true, if_true, Bool.true_and]
    have ht := times_ev p (by omega) (by omega) l hl
    refine Ev.bind (a := ((risesB l 1 && (timesR p l (List.replicate p.toNat 0)).2), true)) ?_ (Ev.now _)
    refine ht.bind ?_
    cases h2 : (timesR p l (List.replicate p.toNat 0)).2
    · simp only [Bool.false_eq_true, if_false, Bool.and_false]; exact Ev.now _
    · simp only [if_true, Bool.and_true]; exact (sorted_ev l hl).bind (Ev.now _)
  · simp only [h, decide_false, Bool.false_eq_true, if_false, Bool.false_and, Option.bind_some]; exact Ev.now _
theorem timesR_two (p : Nat) : ∀ (l acc : List Int), acc.length = p → (∀ v, v < p → 0 ≤ acc.getD v 0 ∧ acc.getD v 0 ≤ 2) →
    ((timesR p l acc).2 = true ↔ (∀ x ∈ l, 0 ≤ x ∧ x ≤ (p : Int) - 1) ∧ ∀ v : Nat, v < p → acc.getD v 0 + (l.count (v : Int) : Int) ≤ 2) := by
  intro l
  induction l with
  | nil =>
    intro acc ha h
    simp only [timesR, List.count_nil, true_iff]
    exact ⟨(fun x hx => by cases hx), fun v hv => by have := h v hv; omega⟩
  | cons x xs ih =>
    intro acc ha h
    simp only [timesR]
    by_cases hx : 0 ≤ x ∧ x ≤ (p : Int) - 1
    · rw [if_pos hx]
      have hxp : x.toNat < p := by omega
      have hxe : ((x.toNat : Nat) : Int) = x := by omega
      have hb := h x.toNat hxp
      have hrd : rd acc x = acc.getD x.toNat 0 := rfl
      by_cases h2 : rd acc x = 2
      · rw [if_pos h2]
        simp only [Bool.false_eq_true, false_iff, not_and]
        intro _ hc
        have := hc x.toNat hxp
        rw [hxe, List.count_cons_self] at this
        omega
      · rw [if_neg h2, hrd, w0 (by omega) (by omega)]
        rw [hrd] at h2
        have hg : ∀ v, (acc.set x.toNat (acc.getD x.toNat 0 + 1)).getD v 0 = if v = x.toNat then acc.getD x.toNat 0 + 1 else acc.getD v 0 := fun v => getD_set acc 0 x.toNat v _ (by omega)
        rw [ih _ (by simpa using ha) (fun v hv => by rw [hg]; have := h v hv; split <;> omega)]
        refine and_congr ?_ (forall_congr' fun v => imp_congr_right fun hv => ?_)
        · simp [hx]
        · rw [hg, List.count_cons]
          by_cases hvx : v = x.toNat
          · subst hvx; simp only [if_true, hxe, beq_self_eq_true]; omega
          · rw [if_neg hvx]
            have : (x == (v : Int)) = false := by simp; omega
            rw [this]; simp
    · rw [if_neg hx]
      simp only [Bool.false_eq_true, false_iff, not_and]
      intro hc _
      exact hx (hc x (by simp))
theorem count_sum (p : Nat) (l : List Int) (h : ∀ x ∈ l, 0 ≤ x ∧ x ≤ (p : Int) - 1) : ((List.range p).map fun v : Nat => l.count (v : Int)).sum = l.length := by
  induction l with
  | nil => simp; induction p with
    | zero => rfl
    | succ p ih => simp [List.range_succ, ih (fun x hx => by cases hx)]
  | cons x xs ih =>
    have h1 := ih fun y hy => h y (by simp [hy])
    have hx := h x (by simp)
    have key : ∀ q : Nat, ((List.range q).map fun v : Nat => (x :: xs).count (v : Int)).sum = ((List.range q).map fun v : Nat => xs.count (v : Int)).sum + if x.toNat < q then 1 else 0 := by
      intro q
      induction q with
      | zero => simp
      | succ q ihq =>
        rw [List.range_succ, List.map_append, List.map_append, List.sum_append, List.sum_append, ihq]
        simp only [List.map_cons, List.map_nil, List.sum_cons, List.sum_nil, Nat.add_zero]
        rw [List.count_cons]
        by_cases e : x.toNat = q
        · have : (x == (q : Int)) = true := by simp; omega
          rw [if_neg (show ¬ x.toNat < q by omega), if_pos this, if_pos (show x.toNat < q + 1 by omega)]; omega
        · have : (x == (q : Int)) = false := by simp; omega
          rw [this]
          by_cases e2 : x.toNat < q
          · rw [if_pos e2, if_pos (show x.toNat < q + 1 by omega)]; simp; omega
          · rw [if_neg e2, if_neg (show ¬ x.toNat < q + 1 by omega)]; simp
    rw [key p, h1, if_pos (by omega), List.length_cons]
theorem sum_le_two (f : Nat → Nat) (p : Nat) (h : ∀ v, v < p → f v ≤ 2) : ((List.range p).map f).sum ≤ 2 * p ∧ (((List.range p).map f).sum = 2 * p → ∀ v, v < p → f v = 2) := by
  induction p with
  | zero => exact ⟨by simp, fun _ v hv => by omega⟩
  | succ p ih =>
    obtain ⟨h1, h2⟩ := ih fun v hv => h v (by omega)
    have hp := h p (by omega)
    simp only [List.range_succ, List.map_append, List.sum_append, List.map_cons, List.map_nil, List.sum_cons, List.sum_nil, Nat.add_zero]
    refine ⟨by omega, fun e v hv => ?_⟩
    by_cases hvp : v = p
    · subst hvp; omega
    · exact h2 (by omega) v (by omega)
theorem twice_iff (p : Nat) (l : List Int) (hl : l.length = 2 * p) (h : ∀ x ∈ l, 0 ≤ x ∧ x ≤ (p : Int) - 1) :
    (∀ v : Nat, v < p → (l.count (v : Int) : Int) ≤ 2) ↔ ∀ x ∈ l, l.count x = 2 := by
  constructor
  · intro hc x hx
    have hs := count_sum p l h
    have h2 := (sum_le_two (fun v : Nat => l.count (v : Int)) p (fun v hv => by have := hc v hv; omega)).2 (by omega) x.toNat (by have := h x hx; omega)
    have hxe : ((x.toNat : Nat) : Int) = x := by have := h x hx; omega
    rw [hxe] at h2; exact h2
  · intro hc v hv
    by_cases hm : (v : Int) ∈ l
    · have := hc _ hm; omega
    · rw [List.count_eq_zero_of_not_mem hm]; omega
def pileB (l : List Int) : Bool := decide (l.length % 2 = 0 ∧ 1 ≤ l.length / 2 ∧ l.length / 2 ≤ 8) && (timesR ((l.length / 2 : Nat) : Int) l (List.replicate (l.length / 2) 0)).2
theorem eqIntS_loop (l : List Int) (hl : l.length ≤ 1048576) (d : Nat) : ∀ (n k : Nat), n + d = l.length → d < k → laws_eqIntS.l0 k l l n = some true := by
  induction d with
  | zero =>
    intro n k hn hk
    obtain ⟨k, rfl⟩ : ∃ m, k = m + 1 := ⟨k - 1, by omega⟩
    simp only [laws_eqIntS.l0]; rw [if_neg (by omega)]
  | succ d ih =>
    intro n k hn hk
    obtain ⟨k, rfl⟩ : ∃ m, k = m + 1 := ⟨k - 1, by omega⟩
    simp only [laws_eqIntS.l0, if_true]
    rw [if_pos (by omega), if_pos (by omega), if_pos (by omega), w1 (by omega)]
    exact ih (n + 1) k (by omega) (by omega)
theorem eqIntS_ev (l : List Int) (hl : l.length ≤ 1048576) : Ev (fun k => laws_eqIntS.f k l l) true :=
  ⟨l.length + 1, fun k hk => by
    show laws_eqIntS.f k l l = _
    unfold laws_eqIntS.f
    rw [if_pos rfl]
    exact eqIntS_loop l hl l.length 0 k (by omega) (by omega)⟩
theorem set_mid {α : Type} (p q : List α) (x v : α) : (p ++ x :: q).set p.length v = p ++ v :: q := by
  induction p with
  | nil => rfl
  | cons a p ih => simp [ih]
theorem getD_mid {α : Type} (p q : List α) (x z : α) : (p ++ x :: q).getD p.length z = x := by
  simp [List.getD_eq_getElem?_getD]
/-! ### Lists of whole numbers: marks -/
def markI (a : Int) (n : Nat) : List Int := (List.range n).map fun i : Nat => a + (i : Int)
theorem markI_len (a : Int) (n : Nat) : (markI a n).length = n := by simp [markI]
theorem markI_succ (a : Int) (n : Nat) : markI a (n + 1) = markI a n ++ [a + (n : Int)] := by simp [markI, List.range_succ]
theorem markIntS_loop (a : Int) (h0 : 0 ≤ a) (h1 : a ≤ 1048576) (l : List Int) (hl : l.length ≤ 1048577) (d : Nat) : ∀ (n k : Nat), n + d = l.length → d < k →
    laws_markIntS.l0 k (markI a n ++ l.drop n) (a + (n : Int)) n = some (a + (l.length : Int), markI a l.length) := by
  induction d with
  | zero =>
    intro n k hn hk
    obtain ⟨k, rfl⟩ : ∃ m, k = m + 1 := ⟨k - 1, by omega⟩
    obtain rfl : n = l.length := by omega
    simp only [laws_markIntS.l0]; rw [if_neg (by simp [markI_len])]; simp
  | succ d ih =>
    intro n k hn hk
    obtain ⟨k, rfl⟩ : ∃ m, k = m + 1 := ⟨k - 1, by omega⟩
    have hlt : n < l.length := by omega
    have hd : l.drop n = l[n] :: l.drop (n + 1) := List.drop_eq_getElem_cons hlt
    have s : ∀ (x v : Int), (markI a n ++ x :: l.drop (n + 1)).set ((n : Int)).toNat v = markI a n ++ v :: l.drop (n + 1) := fun x v => by
      have := set_mid (markI a n) (l.drop (n + 1)) x v; rw [markI_len] at this; simpa using this
    simp only [laws_markIntS.l0, hd]
    rw [if_pos (by simp [markI_len]; omega), if_pos (by omega), s, w0 (x := a + (n : Int) + 1) (by omega) (by omega), w1 (by omega)]
    have := ih (n + 1) k (by omega) (by omega)
    rw [markI_succ, List.append_assoc] at this
    rw [show a + (n : Int) + 1 = a + ((n + 1 : Nat) : Int) by omega]; exact this
theorem markIntS_ev (a : Int) (h0 : 0 ≤ a) (h1 : a ≤ 1048576) (l : List Int) (hl : l.length ≤ 1048577) : Ev (fun k => laws_markIntS.f k l a) (a + (l.length : Int), markI a l.length) :=
  ⟨l.length + 1, fun k hk => by
    have := markIntS_loop a h0 h1 l hl l.length 0 k (by omega) (by omega)
    show laws_markIntS.f k l a = _
    unfold laws_markIntS.f
    simpa [markI] using this⟩
theorem heldIntS_loop (a : Int) (h0 : 0 ≤ a) (h1 : a ≤ 1048576) (m : Nat) (hl : m ≤ 1048577) (d : Nat) : ∀ (n k : Nat), n + d = m → d < k →
    laws_heldIntS.l0 k (markI a m) (a + (n : Int)) n = some (a + (m : Int)) := by
  induction d with
  | zero =>
    intro n k hn hk
    obtain ⟨k, rfl⟩ : ∃ m, k = m + 1 := ⟨k - 1, by omega⟩
    obtain rfl : n = m := by omega
    simp only [laws_heldIntS.l0]; rw [if_neg (by simp [markI_len])]
  | succ d ih =>
    intro n k hn hk
    obtain ⟨k, rfl⟩ : ∃ m, k = m + 1 := ⟨k - 1, by omega⟩
    have hlt : n < (markI a m).length := by rw [markI_len]; omega
    have g : rd (markI a m) (n : Int) = a + (n : Int) := by rw [rdI _ n hlt]; simp [markI]
    simp only [laws_heldIntS.l0, g]
    rw [if_pos (by rw [markI_len]; omega), if_pos (by omega)]
    try rw [if_pos trivial]
    rw [w0 (x := a + (n : Int) + 1) (by omega) (by omega), w1 (by omega), show a + (n : Int) + 1 = a + ((n + 1 : Nat) : Int) by omega]
    exact ih (n + 1) k (by omega) (by omega)
theorem heldIntS_ev (a : Int) (h0 : 0 ≤ a) (h1 : a ≤ 1048576) (m : Nat) (hl : m ≤ 1048577) : Ev (fun k => laws_heldIntS.f k (markI a m) a) (a + (m : Int)) :=
  ⟨m + 1, fun k hk => by
    have := heldIntS_loop a h0 h1 m hl m 0 k (by omega) (by omega)
    show laws_heldIntS.f k (markI a m) a = _
    unfold laws_heldIntS.f
    simpa using this⟩
/-- The law, where both answer alike. -/
theorem parse_tail (s : ByteArray) (hb : s.size ≤ 1048576) (r : List Int × Bool) (hr : r.1.length ≤ 1048576) (h1 : Ev (fun k => spec_ParseBasket.f k s) r) (h3 : Ev (fun k => impl_ParseBasket.f k s) r) : ∃ k, laws_FnExactParseBasket.f k s = some true := by
  refine Ev.rounds (r := true) ?_
  unfold laws_FnExactParseBasket.f
  simp only [if_neg (show ¬ (s.size : Int) > 1048576 by omega)]
  refine h1.bind ?_
  refine h3.bind ?_
  refine (eqIntS_ev _ hr).bind ?_
  simp only [if_true, bne_self_eq_false, Bool.false_eq_true, if_false]
  refine (markIntS_ev 1 (by omega) (by omega) _ (by omega)).bind ?_
  refine (heldIntS_ev 1 (by omega) (by omega) _ (by omega)).bind ?_
  simp only [if_neg (show ¬ (1 + (r.1.length : Int) < 0) by omega), if_true]
  refine h3.bind ?_
  refine (eqIntS_ev _ hr).bind ?_
  simp only [if_true, bne_self_eq_false, Bool.false_eq_true, if_false]
  refine (heldIntS_ev 1 (by omega) (by omega) _ (by omega)).bind ?_
  simp only [if_neg (show ¬ (1 + (r.1.length : Int) < 0) by omega), if_true]
  exact Ev.now _
theorem parse_big (s : ByteArray) (hb : ¬ s.size ≤ 1048576) : ∃ k, laws_FnExactParseBasket.f k s = some true := ⟨0, by unfold laws_FnExactParseBasket.f; rw [if_pos (by omega)]⟩
def outOf (ws : List (List UInt8)) : List Int × Bool := if basketB 20 (ws.map rdR) = true then (ws.map rdR, true) else ([], false)
theorem basket_small {l : List Int} (h : basketB 20 l = true) : l.length ≤ 40 ∧ ∀ x ∈ l, 0 ≤ x ∧ x ≤ 99 := by
  unfold basketB at h
  rw [Bool.and_eq_true, Bool.and_eq_true] at h
  have ht : (timesR ((20 : Nat) : Int) l (List.replicate 20 0)).2 = true := h.2.2
  have hg : ∀ v, (List.replicate 20 (0 : Int)).getD v 0 = 0 := fun v => by
    rw [List.getD_eq_getElem?_getD, List.getElem?_replicate]; split <;> rfl
  obtain ⟨h1, h2⟩ := (timesR_two 20 l (List.replicate 20 0) (by simp) (fun v _ => by rw [hg v]; omega)).1 ht
  refine ⟨?_, fun x hx => by have := h1 x hx; omega⟩
  rw [← count_sum 20 l h1]
  exact (sum_le_two (fun v => l.count (v : Int)) 20 (fun v hv => by have := h2 v hv; rw [hg v] at this; omega)).1
theorem laIs_ev (l : List Int) (hl : l.length ≤ 1048576) : Ev (fun k => spec_laIs.f k 20 l) (basketB 20 l) := by
  unfold basketB
  rw [show decide ((1 : Int) ≤ 20 ∧ (20 : Int) ≤ 20) = true from rfl, Bool.true_and]
  by_cases h1 : 1 ≤ l.length
  · exact laIs_loop 20 (by omega) (by omega) l hl (l.length - 1) 1 (by omega) (by omega)
  · exact laIs_loop 20 (by omega) (by omega) l hl 0 1 (by omega) (by omega)
theorem specBasket_loop (ws : List (List UInt8)) (hw : ws.length ≤ 1000000) (hs : ∀ w ∈ ws, w.length ≤ 1048576) (d : Nat) : ∀ (n : Nat), n + d = ws.length →
    Ev (fun k => spec_laParse.l0 k ((ws.take n).map rdR) (ws.map toBA) (ws.length : Int) n) (outOf ws) := by
  induction d with
  | zero =>
    intro n hn
    refine Ev.step (f := fun k => (spec_laIs.f k 20 (ws.map rdR)).bind fun t => if t = true then some (ws.map rdR, true) else some (([] : List Int), false)) (fun k => by
      simp only [spec_laParse.l0]; rw [if_neg (by omega), List.take_of_length_le (by omega)]) ?_
    refine (laIs_ev _ (by simp; omega)).bind ?_
    unfold outOf
    by_cases h : basketB 20 (ws.map rdR) = true
    · simp only [h, if_true]; exact Ev.now _
    · simp only [eq_false_of_ne_true h, Bool.false_eq_true, if_false]; exact Ev.now _
  | succ d ih =>
    intro n hn
    have hlt : n < ws.length := by omega
    have hsm : ((ws.take n).map rdR).length < 17592186044416 := by simp; omega
    refine Ev.step (f := fun k => (spec_l1Read.f k (toBA ws[n])).bind fun t => if ((ws.take n).map rdR).length < 17592186044416 then spec_laParse.l0 k ((ws.take n).map rdR ++ [t]) (ws.map toBA) (ws.length : Int) ((n + 1 : Nat) : Int) else none) (fun k => by
      simp only [spec_laParse.l0]
      rw [if_pos (by omega), if_pos (by omega), if_pos (by rw [List.length_map]; omega), rdOf_map ws n hlt, w1 (by omega)]) ?_
    refine (l1Read_ev _ (by have := hs ws[n] (List.getElem_mem hlt); have h2 := list_size (toBA ws[n]); rw [toBA_data] at h2; omega)).bind ?_
    simp only [if_pos hsm, toBA_data]
    have := ih (n + 1) (by omega)
    rw [List.take_succ_eq_append_getElem hlt, List.map_append] at this
    exact this
theorem FnExactParseBasket : laws_FnExactParseBasket.Pure := by
  intro s _
  by_cases hb : s.size ≤ 1048576
  · have hl := list_size s
    have hcl := count_le_size 46 s
    have hlen := splL_len 46 s.data.toList
    by_cases hm : s.toList = ([45] : List UInt8)
    · refine parse_tail s hb ([], true) (by simp) ?_ ?_
      · unfold spec_ParseBasket.f spec_laParse.f
        simp only [if_pos hm]
        exact (Ev.now _).bind (Ev.now _)
      · unfold impl_ParseBasket.f
        simp only [if_pos hm]
        exact Ev.now _
    refine parse_tail s hb (outOf (splL 46 s.data.toList)) ?_ ?_ ?_
    · unfold outOf
      by_cases hz : basketB 20 ((splL 46 s.data.toList).map rdR) = true
      · rw [if_pos hz]; have := (basket_small hz).1; exact Nat.le_trans this (by decide)
      · rw [if_neg hz]; exact Nat.zero_le _
    · unfold spec_ParseBasket.f spec_laParse.f
      simp only [if_neg hm]
      refine Ev.bind (a := outOf (splL 46 s.data.toList)) ?_ (Ev.now _)
      by_cases h23 : s.size ≤ 120
      · simp only [if_neg (show ¬ (s.size : Int) > 120 by omega)]
        refine (l1Split_ev 46 s hb).bind ?_
        simp only [List.length_map]
        exact specBasket_loop (splL 46 s.data.toList) (by omega) (fun w hw => by have := splL_small 46 _ w hw; omega) (splL 46 s.data.toList).length 0 (by omega)
      · simp only [if_pos (show (s.size : Int) > 120 by omega)]
        rw [show outOf (splL 46 s.data.toList) = ([], false) from by
          unfold outOf; rw [if_neg]; intro h
          have hs := basket_small h
          have := good_short 46 s.data.toList 40 (by simpa using hs.1) hs.2
          omega]
        exact Ev.now _
    · unfold impl_ParseBasket.f
      simp only [if_neg hm]
      refine (parted_ev 46 s hb 40 (by omega)).bind ?_
      rcases partR_else (splL 46 s.data.toList) 40 with ⟨h, h7⟩ | h
      · simp only [h, if_true]
        refine (isBasket_ev 20 _ (by simp; omega)).bind ?_
        unfold outOf
        by_cases hz : basketB 20 ((splL 46 s.data.toList).map rdR) = true
        · simp only [hz, if_true]; exact Ev.now _
        · simp only [eq_false_of_ne_true hz, Bool.false_eq_true, if_false]; exact Ev.now _
      · simp only [h, Bool.false_eq_true, if_false]
        rw [show outOf (splL 46 s.data.toList) = ([], false) from by
          unfold outOf; rw [if_neg]; intro hz
          have hs := basket_small hz
          rw [partR_good _ 40 (by simpa using hs.1) hs.2] at h
          exact absurd (congrArg Prod.snd h) (by simp)]
        exact Ev.now _
  · exact parse_big s hb
end Go.Proofs.YtdifnieiobfnaaaDoor.Pure
