/- The program's ParseGloves answers as the reference's does. Conditions: the statement's. -/
import Derived.Test.YtdifnieiobfnaaaDoorPFnExactParseGlovesx8
import Derived.Lib.CutLaws
import Derived.Lib.ItoaNum
namespace Go.Proofs.YtdifnieiobfnaaaDoor.Pure
open Go.RowKit Go.Proofs.YtdifnieiobfnaaaDoor.PFnExactParseGloves Go.Proofs.YtdifnieiobfnaaaDoorW.PrintWords Go.Proofs.YtdifnieiobfnaaaDoorW.PrintLast
set_option linter.unusedVariables false
set_option linter.unusedSimpArgs false
/-! ### Plain words -/
theorem w1 {n : Nat} (h : n < 4611686018427387904) : wrap64 ((n : Int) + 1) = ((n + 1 : Nat) : Int) := by unfold wrap64; omega
theorem w0 {x : Int} (h1 : -9223372036854775808 ≤ x) (h2 : x ≤ 9223372036854775807) : wrap64 x = x := by unfold wrap64; omega
theorem wfi {x : Int} (h : (Lit.int .i64 x).wf = true) : -9223372036854775808 ≤ x ∧ x ≤ 9223372036854775807 := by
  simpa [Lit.wf, IntKind.min, IntKind.max, IntKind.signed, IntKind.bits] using h
theorem getD_nat {α : Type} (l : List α) (z : α) (n : Nat) (h : n < l.length) : l.getD ((n : Int)).toNat z = l[n] := by
  simp [List.getD_eq_getElem?_getD, h]
theorem fill_set {α β : Type} (f : α → β) (l : List α) (z : β) (n : Nat) (h : n < l.length) :
    ((l.take n).map f ++ List.replicate (l.length - n) z).set n (f l[n]) = (l.take (n + 1)).map f ++ List.replicate (l.length - (n + 1)) z := by
  obtain ⟨d, hd⟩ : ∃ d, l.length - n = d + 1 := ⟨l.length - n - 1, by omega⟩
  rw [List.set_append, if_neg (by simp; omega), List.take_succ_eq_append_getElem h]
  have h1 : n - ((l.take n).map f).length = 0 := by simp; omega
  have h2 : l.length - (n + 1) = d := by omega
  rw [h1, h2, hd, List.replicate_succ, List.set_cons_zero, List.map_append]
  simp
theorem getD_set {α : Type} (l : List α) (z : α) (i j : Nat) (v : α) (hi : i < l.length) : (l.set i v).getD j z = if j = i then v else l.getD j z := by
  by_cases h : j = i
  · subst h; simp [List.getD_eq_getElem?_getD, hi]
  · rw [if_neg h]; simp [List.getD_eq_getElem?_getD, Ne.symm h]
/-- A way that needs no rounds. -/
theorem ev_now {α : Type} {g : Nat → Option α} {r : α} (h : ∀ k, g k = some r) : Ev g r := ⟨0, fun k _ => h k⟩
theorem ev_late {α : Type} {g : Nat → Option α} {r : α} (n : Nat) (h : ∀ k, g (k + n) = some r) : Ev g r := ⟨n, fun k hk => by
  obtain ⟨m, rfl⟩ : ∃ m, k = m + n := ⟨k - n, by omega⟩
  exact h m⟩
theorem ev_eq {α : Type} {g : Nat → Option α} {r s : α} (h : Ev g r) (e : r = s) : Ev g s := e ▸ h
/-! ### Numbers read: canonical decimals -/
def rdw (l : List UInt8) : Option Nat := if 1 ≤ l.length ∧ (l.head? ≠ some 48 ∨ l.length ≤ 1) then Go.Lib.decFrom 0 l else none
def rdR (l : List UInt8) : Int := if l.length ≤ 6 then (match rdw l with | some n => (n : Int) | none => -1) else -1
def numR (l : List UInt8) (d : Nat) : Int × Bool := if l.length ≤ d then (match rdw l with | some n => ((n : Int), true) | none => (0, false)) else (0, false)
theorem bt_nat (s : ByteArray) (n : Nat) (c : UInt8) (h : s.data.toList[n]? = some c) : bt s (n : Int) = (c.toNat : Int) := by
  obtain ⟨hlt, rfl⟩ := List.getElem?_eq_some_iff.1 h
  have hs : n < s.size := by rw [Array.length_toList] at hlt; exact hlt
  have e : ((n : Int)).toNat = n := Int.toNat_natCast n
  unfold bt
  rw [dif_pos (by rw [e]; exact hs)]
  simp only [e]
  rfl
theorem list_size (s : ByteArray) : s.data.toList.length = s.size := by rw [Array.length_toList]; rfl
theorem dig_of (c : UInt8) : Go.Lib.digitVal c = if 48 ≤ c.toNat ∧ c.toNat ≤ 57 then some (c.toNat - 48) else none := rfl
theorem num_step (acc c : Nat) (ha : acc < 100000) (h1 : 48 ≤ c) (h2 : c ≤ 57) : wrap64 (wrap64 (10 * (acc : Int)) + ((c : Int) - 48) % 256) = ((acc * 10 + (c - 48) : Nat) : Int) := by unfold wrap64; omega
theorem pow_step (acc c n : Nat) (ha : acc < 10 ^ n) (h2 : c ≤ 57) : acc * 10 + (c - 48) < 10 ^ (n + 1) := by
  have hp : 10 ^ (n + 1) = 10 ^ n * 10 := Nat.pow_succ ..
  rw [hp]
  generalize 10 ^ n = X at *
  omega
theorem dropWhile_nil {α : Type} (p : α → Bool) (l : List α) : l.dropWhile p = [] ↔ ∀ c ∈ l, p c = true := by
  induction l with
  | nil => simp
  | cons x r ih =>
    rw [List.dropWhile_cons]
    by_cases hx : p x = true
    · rw [if_pos hx, ih]; simp [hx]
    · rw [if_neg hx]; simp [hx]
theorem l1Read_loop (s : ByteArray) (hs : s.size ≤ 6) (d : Nat) : ∀ (n acc k : Nat), n + d = s.size → d < k → acc < 10 ^ n →
    spec_l1Read.l0 k s acc n = some (match Go.Lib.decFrom acc (s.data.toList.drop n) with | some v => (v : Int) | none => -1) := by
  induction d with
  | zero =>
    intro n acc k hn hk ha
    obtain ⟨k, rfl⟩ : ∃ m, k = m + 1 := ⟨k - 1, by omega⟩
    have hd : s.data.toList.drop n = [] := List.drop_eq_nil_of_le (by rw [list_size]; omega)
    simp only [spec_l1Read.l0, hd, Go.Lib.decFrom]; rw [if_neg (by omega)]
  | succ d ih =>
    intro n acc k hn hk ha
    obtain ⟨k, rfl⟩ : ∃ m, k = m + 1 := ⟨k - 1, by omega⟩
    have hlt : n < s.data.toList.length := by rw [list_size]; omega
    have hd : s.data.toList.drop n = s.data.toList[n] :: s.data.toList.drop (n + 1) := List.drop_eq_getElem_cons hlt
    have hb : bt s (n : Int) = ((s.data.toList[n]).toNat : Int) := bt_nat s n _ (List.getElem?_eq_getElem hlt)
    generalize s.data.toList[n] = c at hd hb
    have h5 : acc < 100000 := Nat.lt_of_lt_of_le ha (Nat.le_trans (Nat.pow_le_pow_right (n := 10) (by omega) (show n ≤ 5 by omega)) (by decide))
    have hq := fun h => pow_step acc c.toNat n ha h
    clear ha
    simp only [spec_l1Read.l0, hd, Go.Lib.decFrom, hb, dig_of]
    rw [if_pos (by omega), if_pos (by omega)]
    by_cases h1 : (c.toNat : Int) < 48
    · rw [if_pos h1, if_neg (show ¬ (48 ≤ c.toNat ∧ c.toNat ≤ 57) by omega)]
    · rw [if_neg h1]
      by_cases h2 : (c.toNat : Int) > 57
      · rw [if_pos h2, if_neg (show ¬ (48 ≤ c.toNat ∧ c.toNat ≤ 57) by omega)]
      · rw [if_neg h2, if_pos (show 48 ≤ c.toNat ∧ c.toNat ≤ 57 by omega)]
        rw [num_step acc c.toNat h5 (by omega) (by omega), w1 (by omega)]
        exact ih (n + 1) (acc * 10 + (c.toNat - 48)) k (by omega) (by omega) (hq (by omega))
theorem head_nat (s : ByteArray) (h : 0 < s.size) : ∃ c, s.data.toList.head? = some c ∧ bt s 0 = (c.toNat : Int) := by
  have hlt : 0 < s.data.toList.length := by rw [list_size]; exact h
  refine ⟨s.data.toList[0], ?_, bt_nat s 0 _ (List.getElem?_eq_getElem hlt)⟩
  rw [List.head?_eq_getElem?, List.getElem?_eq_getElem hlt]
theorem head_is (c : UInt8) : ((c.toNat : Int) = 48) ↔ c = 48 := by
  constructor
  · intro h; apply UInt8.toNat_inj.1; show c.toNat = 48; omega
  · rintro rfl; rfl
theorem l1Read_ev (s : ByteArray) (hs : s.size ≤ 1048576) : Ev (fun k => spec_l1Read.f k s) (rdR s.data.toList) := by
  refine ev_late 9 fun k => ?_
  have hl := list_size s
  simp only [spec_l1Read.f, spec_l1In.f]
  by_cases h0 : s.size = 0
  · rw [if_neg (by omega)]
    simp only [Option.bind_some, Bool.false_eq_true, if_false]
    rw [show k + 9 = (k + 8) + 1 from rfl]
    simp only [spec_l1Read.j0, if_true]
    unfold rdR rdw
    rw [if_pos (by omega), if_neg (by omega)]
  rw [if_pos (by omega)]
  simp only [Option.bind_some]
  by_cases h6 : s.size ≤ 6
  · rw [if_pos (by simp; omega), if_pos (by omega)]
    obtain ⟨c, hc, hb⟩ := head_nat s (by omega)
    rw [hb]
    have hr : rdR s.data.toList = if s.data.toList.head? ≠ some 48 ∨ s.size ≤ 1 then (match Go.Lib.decFrom 0 s.data.toList with | some n => (n : Int) | none => -1) else -1 := by
      unfold rdR rdw
      rw [hl, if_pos h6]
      by_cases hz : s.data.toList.head? ≠ some 48 ∨ s.size ≤ 1
      · rw [if_pos ⟨by omega, hz⟩, if_pos hz]
      · rw [if_neg (fun x => hz x.2), if_neg hz]
    rw [hr, hc]
    have hloop := l1Read_loop s h6 s.size 0 0 (k + 8) (by omega) (by omega) (by omega)
    rw [List.drop_zero] at hloop
    rw [show k + 9 = (k + 8) + 1 from rfl]
    by_cases h48 : c = 48
    · rw [if_pos ((head_is c).2 h48)]
      by_cases h1 : s.size ≤ 1
      · rw [if_pos (Or.inr h1), show decide ((s.size : Int) > 1) = false from decide_eq_false (by omega)]
        simp only [spec_l1Read.j0, Bool.false_eq_true, if_false]
        exact hloop
      · rw [if_neg (by rw [h48]; simp; omega), show decide ((s.size : Int) > 1) = true from decide_eq_true (by omega)]
        simp only [spec_l1Read.j0, if_true]
    · rw [if_neg (fun x => h48 ((head_is c).1 x)), if_pos (Or.inl (fun x => h48 (Option.some.inj x)))]
      simp only [spec_l1Read.j0, Bool.false_eq_true, if_false]
      exact hloop
  · rw [if_neg (by simp; omega)]
    rw [show k + 9 = (k + 8) + 1 from rfl]
    simp only [spec_l1Read.j0, if_true]
    unfold rdR
    rw [if_neg (by omega)]
/-! #### the program's reading -/
theorem digs_has (c : UInt8) : ([48, 49, 50, 51, 52, 53, 54, 55, 56, 57] : List UInt8).contains c = decide (48 ≤ c.toNat ∧ c.toNat ≤ 57) := by
  rw [Bool.eq_iff_iff, List.contains_iff_mem]
  simp only [List.mem_cons, List.not_mem_nil, or_false, ← UInt8.toNat_inj, decide_eq_true_eq]
  simp only [UInt8.reduceToNat]
  omega
theorem trimS_nil (l cs : List UInt8) : Go.Lib.trimS l cs = [] ↔ ∀ c ∈ l, cs.contains c = true := by
  unfold Go.Lib.trimS Go.Lib.trimLeftS Go.Lib.trimRightS
  rw [dropWhile_nil]
  constructor
  · intro h
    have : l.reverse.dropWhile (cs.contains ·) = [] := by
      cases hx : l.reverse.dropWhile (cs.contains ·) with
      | nil => rfl
      | cons x xs =>
        have hm : x ∈ (l.reverse.dropWhile (cs.contains ·)).reverse := by rw [hx]; simp
        have hn := List.head?_dropWhile_not (cs.contains ·) l.reverse
        rw [hx] at hn
        simp only [List.head?_cons] at hn
        have := h x hm
        rw [hn] at this
        cases this
    rw [dropWhile_nil] at this
    intro c hc
    exact this c (by simpa using hc)
  · intro h c hc
    have : c ∈ l.reverse.dropWhile (cs.contains ·) := by simpa using hc
    exact h c (by simpa using (List.dropWhile_sublist _).mem this)
theorem dec_all : ∀ (l : List UInt8) (acc : Nat), (∀ c ∈ l, 48 ≤ c.toNat ∧ c.toNat ≤ 57) → ∃ v, Go.Lib.decFrom acc l = some v := by
  intro l
  induction l with
  | nil => intro acc _; exact ⟨acc, rfl⟩
  | cons c r ih =>
    intro acc h
    simp only [Go.Lib.decFrom, dig_of]
    rw [if_pos (h c (by simp))]
    exact ih _ fun x hx => h x (by simp [hx])
theorem dec_digs (l : List UInt8) (acc v : Nat) (h : Go.Lib.decFrom acc l = some v) : ∀ c ∈ l, 48 ≤ c.toNat ∧ c.toNat ≤ 57 := by
  intro c hc
  obtain ⟨j, hj⟩ := List.getElem?_of_mem hc
  obtain ⟨d, hd⟩ := Go.Lib.digit_of_decFrom l acc v h j c hj
  rw [dig_of] at hd
  split at hd
  · assumption
  · cases hd
theorem atoi_digs (l : List UInt8) (h1 : 1 ≤ l.length) (h18 : l.length ≤ 18) (v : Nat) (h : Go.Lib.decFrom 0 l = some v) : Go.Lib.atoiAll l = .ok (v : Int) := by
  rw [Go.Lib.atoiAll_short l h18]
  cases l with
  | nil => simp at h1
  | cons c r =>
    have hc := dec_digs (c :: r) 0 v h c (by simp)
    have n45 : (c == 45) = false := by
      rw [beq_eq_false_iff_ne]; rintro rfl; exact absurd hc.1 (by decide)
    have n43 : (c == 43) = false := by
      rw [beq_eq_false_iff_ne]; rintro rfl; exact absurd hc.1 (by decide)
    simp only [Go.Lib.atoi, n45, n43, Bool.false_eq_true, if_false, Go.Lib.decNat, List.isEmpty_cons, h, Option.map_some]
    rfl
theorem number_is (s : ByteArray) (d : Nat) (hd : 1 ≤ d) (h6 : d ≤ 6) (hs : s.size ≤ 1048576) : impl_number.f s (d : Int) = some (numR s.data.toList d) := by
  have hl := list_size s
  unfold impl_number.f impl_within.f
  by_cases h0 : s.size = 0
  · rw [if_neg (by omega)]
    simp only [Option.bind_some, Bool.false_eq_true, if_false]
    unfold numR rdw
    rw [if_pos (by omega), if_neg (by omega)]
  rw [if_pos (by omega)]
  simp only [Option.bind_some]
  by_cases hd2 : s.size ≤ d
  · rw [if_pos (by simp; omega)]
    have ht : strings_Trim.f s (⟨#[48, 49, 50, 51, 52, 53, 54, 55, 56, 57]⟩ : ByteArray) = some ⟨(Go.Lib.trimS s.data.toList [48, 49, 50, 51, 52, 53, 54, 55, 56, 57]).toArray⟩ := by
      unfold strings_Trim.f
      rw [if_pos ⟨by omega, by decide, by decide⟩]
    rw [ht]
    simp only [Option.bind_some, Go.ByteArray.toList_eq]
    obtain ⟨c, hc, hb⟩ := head_nat s (by omega)
    have hnr : numR s.data.toList d = (match (if s.data.toList.head? ≠ some 48 ∨ s.size ≤ 1 then Go.Lib.decFrom 0 s.data.toList else none) with | some n => ((n : Int), true) | none => (0, false)) := by
      unfold numR rdw
      rw [hl, if_pos hd2]
      by_cases hz : s.data.toList.head? ≠ some 48 ∨ s.size ≤ 1
      · rw [if_pos ⟨by omega, hz⟩, if_pos hz]
      · rw [if_neg (fun x => hz x.2), if_neg hz]
    rw [hnr, hc, hb]
    cases hv : Go.Lib.decFrom 0 s.data.toList with
    | none =>
      have hn : ¬ (Go.Lib.trimS s.data.toList [48, 49, 50, 51, 52, 53, 54, 55, 56, 57] = []) := by
        rw [trimS_nil]
        intro h
        obtain ⟨v, hv'⟩ := dec_all s.data.toList 0 (fun c hc => by have := h c hc; rw [digs_has] at this; exact of_decide_eq_true this)
        rw [hv] at hv'; cases hv'
      rw [if_neg (by simpa using hn)]
      rw [ite_self]
    | some v =>
      have hy : Go.Lib.trimS s.data.toList [48, 49, 50, 51, 52, 53, 54, 55, 56, 57] = [] := by
        rw [trimS_nil]
        intro c hc
        rw [digs_has]
        exact decide_eq_true (dec_digs _ _ _ hv c hc)
      have ha : strconv_Atoi.f s = some ((v : Int), none) := by
        unfold strconv_Atoi.f
        rw [if_pos (by omega), atoi_digs _ (by omega) (by omega) v hv]
      rw [if_pos (by simpa using hy), if_pos (by omega), ha]
      simp only [Option.bind_some, Option.isNone_none, if_true]
      by_cases h48 : c = 48
      · rw [if_pos ((head_is c).2 h48)]
        by_cases h1 : s.size ≤ 1
        · rw [if_neg (by omega), if_pos (Or.inr h1)]
        · rw [if_pos (by omega), if_neg (by rw [h48]; simp; omega)]
      · rw [if_neg (fun x => h48 ((head_is c).1 x)), if_pos (Or.inl (fun x => h48 (Option.some.inj x)))]
  · rw [if_neg (by simp; omega)]
    unfold numR
    rw [if_neg (by omega)]
/-! ### A text's pieces between a byte -/
def headApp (p : List UInt8) : List (List UInt8) → List (List UInt8)
  | [] => [p]
  | w :: r => (p ++ w) :: r
def splL (c : UInt8) : List UInt8 → List (List UInt8)
  | [] => [[]]
  | b :: l => if b = c then [] :: splL c l else headApp [b] (splL c l)
def toBA (w : List UInt8) : ByteArray := ⟨w.toArray⟩
theorem toBA_data (w : List UInt8) : (toBA w).data.toList = w := rfl
theorem toBA_of (s : ByteArray) : toBA s.data.toList = s := rfl
theorem headApp_nil {ws : List (List UInt8)} (h : ws ≠ []) : headApp [] ws = ws := by
  cases ws with
  | nil => exact absurd rfl h
  | cons w r => rfl
theorem headApp_app (p q : List UInt8) (ws : List (List UInt8)) : headApp p (headApp q ws) = headApp (p ++ q) ws := by
  cases ws <;> simp [headApp]
theorem headApp_len (p : List UInt8) {ws : List (List UInt8)} (h : ws ≠ []) : (headApp p ws).length = ws.length := by
  cases ws with
  | nil => exact absurd rfl h
  | cons w r => rfl
theorem splL_ne (c : UInt8) (l : List UInt8) : splL c l ≠ [] := by
  cases l with
  | nil => simp [splL]
  | cons b l =>
    unfold splL
    split
    · simp
    · cases splL c l <;> simp [headApp]
theorem splL_len (c : UInt8) (l : List UInt8) : (splL c l).length = l.count c + 1 := by
  induction l with
  | nil => rfl
  | cons b l ih =>
    unfold splL
    by_cases h : b = c
    · subst h; simp [ih]
    · rw [if_neg h, headApp_len _ (splL_ne c l), ih, List.count_cons_of_ne (by simpa using h)]
theorem splL_none (c : UInt8) (l : List UInt8) (h : l.count c = 0) : splL c l = [l] := by
  induction l with
  | nil => rfl
  | cons b l ih =>
    by_cases hb : b = c
    · subst hb; simp at h
    · rw [List.count_cons_of_ne (by simpa using hb)] at h
      unfold splL; rw [if_neg hb, ih h]; rfl
theorem index_cons (b c : UInt8) (l : List UInt8) : Go.Lib.index (b :: l) [c] = if b = c then 0 else if Go.Lib.index l [c] == -1 then -1 else Go.Lib.index l [c] + 1 := by
  by_cases h : b = c
  · subst h; rw [Go.Lib.index]; simp [List.isPrefixOf]
  · have hp : ([c] : List UInt8).isPrefixOf (b :: l) = false := by simp [List.isPrefixOf, Ne.symm h]
    rw [Go.Lib.index, hp]; simp [h]
theorem splitK_cons (b c : UInt8) (l : List UInt8) (k : Nat) : Go.Lib.splitK [c] 0 (k + 1) (b :: l) = if b = c then [] :: Go.Lib.splitK [c] 0 k l else headApp [b] (Go.Lib.splitK [c] 0 (k + 1) l) := by
  have hge := Go.Lib.index_ge l [c]
  rw [Go.Lib.splitK, index_cons]
  by_cases h : b = c
  · subst h; simp
  · rw [if_neg h, if_neg h]
    conv => rhs; rw [Go.Lib.splitK]
    by_cases hm : Go.Lib.index l [c] = -1
    · simp [hm, headApp]
    · obtain ⟨j, hj⟩ : ∃ j : Nat, Go.Lib.index l [c] = j := ⟨(Go.Lib.index l [c]).toNat, by omega⟩
      have e1 : ((j : Int) + 1).toNat = j + 1 := by omega
      have n1 : ¬ ((j : Int) = -1) := by omega
      have n2 : ¬ ((j : Int) + 1 = -1) := by omega
      simp [hj, n1, n2, e1, headApp]
theorem splitK_nil (c : UInt8) (k : Nat) : Go.Lib.splitK [c] 0 k [] = [[]] := by cases k <;> simp [Go.Lib.splitK, Go.Lib.index]
theorem splitK_ne (c : UInt8) (k : Nat) (l : List UInt8) : Go.Lib.splitK [c] 0 k l ≠ [] := by
  cases k with
  | zero => simp [Go.Lib.splitK]
  | succ k => rw [Go.Lib.splitK]; split <;> simp
theorem splitK_is (c : UInt8) (l : List UInt8) : ∀ k : Nat, l.count c ≤ k → Go.Lib.splitK [c] 0 k l = splL c l := by
  induction l with
  | nil => intro k _; rw [splitK_nil]; rfl
  | cons b l ih =>
    intro k hk
    cases k with
    | zero => rw [splL_none c _ (by omega)]; rfl
    | succ k =>
      rw [splitK_cons]
      unfold splL
      by_cases h : b = c
      · subst h; simp at hk; rw [if_pos rfl, if_pos rfl, ih k hk]
      · rw [List.count_cons_of_ne (by simpa using h)] at hk
        rw [if_neg h, if_neg h, ih (k + 1) hk]
theorem splitK_len (c : UInt8) (l : List UInt8) : ∀ k : Nat, (Go.Lib.splitK [c] 0 k l).length = min k (l.count c) + 1 := by
  induction l with
  | nil => intro k; rw [splitK_nil]; simp
  | cons b l ih =>
    intro k
    cases k with
    | zero => simp [Go.Lib.splitK]
    | succ k =>
      rw [splitK_cons]
      by_cases h : b = c
      · subst h; simp [ih k]
      · rw [if_neg h, headApp_len _ (splitK_ne c _ l), ih (k + 1), List.count_cons_of_ne (by simpa using h)]
theorem splitB_is (c : UInt8) (k : Nat) (s : ByteArray) : Go.Lib.splitB (⟨#[c]⟩ : ByteArray) 0 k s = (Go.Lib.splitK [c] 0 k s.data.toList).map toBA := by
  have := Go.Lib.splitB_data (⟨#[c]⟩ : ByteArray) 0 k s
  rw [show (⟨#[c]⟩ : ByteArray).data.toList = [c] from rfl] at this
  rw [← this, List.map_map]
  rw [show (toBA ∘ fun x : ByteArray => x.data.toList) = id from rfl, List.map_id]
/-- The reference's split. -/
theorem l1Split_loop (c : UInt8) (s : ByteArray) (hs : s.size ≤ 1048576) (d : Nat) : ∀ (n fr : Nat) (out : List ByteArray), n + d = s.size → fr ≤ n → out.length ≤ n →
    Ev (fun k => spec_l1Split.l0 k s (c.toNat : Int) out fr n) (out ++ (headApp ((s.data.toList.take n).drop fr) (splL c (s.data.toList.drop n))).map toBA) := by
  have hl := list_size s
  have hx : ∀ a b : Nat, s.extract a b = toBA ((s.data.toList.take b).drop a) := fun a b => by
    rw [← toBA_of (s.extract a b), Go.Lib.extract_data, ← List.drop_take]
  induction d with
  | zero =>
    intro n fr out hn hf ho
    refine ev_late 1 fun k => ?_
    simp only [spec_l1Split.l0]
    rw [if_neg (by omega), if_pos (by omega), if_pos (by omega), if_pos (by omega), Int.toNat_natCast, hx]
    have hz : s.data.toList.drop n = [] := List.drop_eq_nil_of_le (by omega)
    have ht : s.data.toList.take n = s.data.toList.take s.size := by rw [show n = s.size by omega]
    rw [hz, ht]
    simp [splL, headApp]
  | succ d ih =>
    intro n fr out hn hf ho
    have hlt : n < s.data.toList.length := by omega
    have hb : bt s (n : Int) = ((s.data.toList[n]).toNat : Int) := bt_nat s n _ (List.getElem?_eq_getElem hlt)
    have hd : s.data.toList.drop n = s.data.toList[n] :: s.data.toList.drop (n + 1) := List.drop_eq_getElem_cons hlt
    by_cases hc : s.data.toList[n] = c
    · refine Ev.step (f := fun k => spec_l1Split.l0 k s (c.toNat : Int) (out ++ [s.extract fr n]) ((n + 1 : Nat) : Int) ((n + 1 : Nat) : Int)) (fun k => by
        simp only [spec_l1Split.l0]
        rw [if_pos (by omega), if_pos (by omega), if_pos (by rw [hb, hc]), if_pos (by omega), if_pos (by omega), if_pos (by omega), if_pos (by omega), w1 (by omega), Int.toNat_natCast, Int.toNat_natCast]) ?_
      have := ih (n + 1) (n + 1) (out ++ [s.extract fr n]) (by omega) (by omega) (by simp; omega)
      rw [hd]
      unfold splL
      rw [if_pos hc]
      rw [List.drop_eq_nil_of_le (by simp; omega), headApp_nil (splL_ne c _), hx] at this
      simpa [headApp, hx] using this
    · refine Ev.step (f := fun k => spec_l1Split.l0 k s (c.toNat : Int) out fr ((n + 1 : Nat) : Int)) (fun k => by
        simp only [spec_l1Split.l0]
        rw [if_pos (by omega), if_pos (by omega), if_neg (by rw [hb]; intro e; exact hc (UInt8.toNat_inj.1 (by omega))), w1 (by omega)]) ?_
      have := ih (n + 1) fr out (by omega) (by omega) (by omega)
      rw [hd]
      unfold splL
      rw [if_neg hc, headApp_app]
      rw [List.take_succ_eq_append_getElem hlt, List.drop_append_of_le_length (by simp; omega)] at this
      exact this
theorem l1Split_ev (c : UInt8) (s : ByteArray) (hs : s.size ≤ 1048576) : Ev (fun k => spec_l1Split.f k s (c.toNat : Int)) ((splL c s.data.toList).map toBA) := by
  have := l1Split_loop c s hs s.size 0 0 [] (by omega) (by omega) (by simp)
  simp only [List.take_zero, List.drop_zero, List.drop_nil, List.nil_append] at this
  rw [headApp_nil (splL_ne c _)] at this
  exact this
/-- The pieces tell the text. -/
def joinL (c : UInt8) : List (List UInt8) → List UInt8
  | [] => []
  | [w] => w
  | w :: v :: r => w ++ c :: joinL c (v :: r)
theorem joinL_head (c b : UInt8) {ws : List (List UInt8)} (h : ws ≠ []) : joinL c (headApp [b] ws) = b :: joinL c ws := by
  match ws with
  | [] => exact absurd rfl h
  | [w] => rfl
  | w :: v :: r => rfl
theorem joinL_spl (c : UInt8) (l : List UInt8) : joinL c (splL c l) = l := by
  induction l with
  | nil => rfl
  | cons b l ih =>
    unfold splL
    by_cases h : b = c
    · rw [if_pos h]
      cases hw : splL c l with
      | nil => exact absurd hw (splL_ne c l)
      | cons w r => rw [hw] at ih; show [] ++ c :: joinL c (w :: r) = _; rw [ih, h]; rfl
    · rw [if_neg h, joinL_head c b (splL_ne c l), ih]
theorem joinL_len (c : UInt8) (m : Nat) : ∀ ws : List (List UInt8), (∀ w ∈ ws, w.length ≤ m) → ws ≠ [] → (joinL c ws).length + 1 ≤ ws.length * (m + 1)
  | [], _, h => absurd rfl h
  | [w], hm, _ => by have := hm w (by simp); simp [joinL]; omega
  | w :: v :: r, hm, _ => by
    have h1 := hm w (by simp)
    have h2 := joinL_len c m (v :: r) (fun x hx => hm x (by simp [hx])) (by simp)
    rw [joinL, List.length_append, List.length_cons, List.length_cons (a := w), Nat.succ_mul]
    omega
/-! ### Numbers between a byte -/
theorem dec_ge : ∀ (l : List UInt8) (acc n : Nat), Go.Lib.decFrom acc l = some n → acc * 10 ^ l.length ≤ n := by
  intro l
  induction l with
  | nil => intro acc n h; simp only [Go.Lib.decFrom, Option.some.injEq] at h; subst h; simp
  | cons c r ih =>
    intro acc n h
    simp only [Go.Lib.decFrom, dig_of] at h
    split at h
    · rename_i v hv
      have := ih _ _ h
      rw [List.length_cons, Nat.pow_succ]
      refine Nat.le_trans ?_ this
      rw [Nat.mul_comm (10 ^ r.length) 10, ← Nat.mul_assoc]
      exact Nat.mul_le_mul_right _ (by omega)
    · cases h
/-- A canonical number below 100 has at most two digits. -/
theorem rdw_two (w : List UInt8) (n : Nat) (h : rdw w = some n) (hn : n ≤ 99) : w.length ≤ 2 := by
  unfold rdw at h
  split at h
  · rename_i hc
    cases w with
    | nil => simp
    | cons c r =>
      rcases Nat.lt_or_ge 1 r.length with h1 | h1
      · have h48 : c ≠ 48 := by
          rcases hc.2 with h | h
          · exact fun e => h (by rw [e]; rfl)
          · rw [List.length_cons] at h; omega
        have hd := dec_digs _ _ _ h c (by simp)
        have hc49 : 49 ≤ c.toNat := by
          rcases Nat.lt_or_ge c.toNat 49 with hlt | hge
          · exact absurd (UInt8.toNat_inj.1 (show c.toNat = (48 : UInt8).toNat from by have : (48 : UInt8).toNat = 48 := rfl; omega)) h48
          · exact hge
        simp only [Go.Lib.decFrom, dig_of] at h
        rw [if_pos hd] at h
        have := dec_ge r _ n h
        have h10 : 10 ^ 2 ≤ 10 ^ r.length := Nat.pow_le_pow_right (by omega) (by omega)
        have : 1 * 10 ^ 2 ≤ n := Nat.le_trans (Nat.mul_le_mul (by omega) h10) this
        omega
      · simp; omega
  · cases h
theorem rdw_lt (w : List UInt8) (n : Nat) (h : rdw w = some n) (hl : w.length ≤ 2) : n ≤ 99 := by
  unfold rdw at h
  split at h
  · have := Go.Lib.decFrom_lt w 0 n h
    have h10 : 10 ^ w.length ≤ 10 ^ 2 := Nat.pow_le_pow_right (by omega) hl
    omega
  · cases h
theorem numR_ok (w : List UInt8) (h : (numR w 2).2 = true) : (numR w 2).1 = rdR w ∧ w.length ≤ 2 := by
  unfold numR at h ⊢
  split at h
  · rename_i hl
    rw [if_pos hl]
    unfold rdR; rw [if_pos (by omega)]
    cases hw : rdw w with
    | none => rw [hw] at h; cases h
    | some n => exact ⟨rfl, hl⟩
  · cases h
theorem numR_of (w : List UInt8) (h0 : 0 ≤ rdR w) (h1 : rdR w ≤ 99) : (numR w 2).2 = true := by
  unfold rdR at h0 h1
  split at h0
  · rename_i h6
    rw [if_pos h6] at h1
    cases hw : rdw w with
    | none => rw [hw] at h0; simp at h0
    | some n =>
      rw [hw] at h1
      have := rdw_two w n hw (by simp at h1; omega)
      unfold numR; rw [if_pos this, hw]
  · simp at h0
def okAll (ws : List (List UInt8)) : Bool := ws.all fun w => (numR w 2).2
def partR (ws : List (List UInt8)) (most : Nat) : List Int × Bool := if ws.length ≤ most ∧ okAll ws = true then (ws.map rdR, true) else ([], false)
theorem rdOf_map (ws : List (List UInt8)) (n : Nat) (h : n < ws.length) : rdOf ByteArray.empty (ws.map toBA) (n : Int) = toBA ws[n] := by
  show (ws.map toBA).getD ((n : Int)).toNat ByteArray.empty = _
  rw [Int.toNat_natCast, List.getD_eq_getElem?_getD, List.getElem?_map, List.getElem?_eq_getElem h]; rfl
theorem splL_small (c : UInt8) (l : List UInt8) : ∀ w ∈ splL c l, w.length ≤ l.length := by
  induction l with
  | nil => intro w hw; simp [splL] at hw; subst hw; simp
  | cons b l ih =>
    intro w hw
    unfold splL at hw
    by_cases h : b = c
    · rw [if_pos h] at hw
      rcases List.mem_cons.1 hw with rfl | hw
      · simp
      · have := ih w hw; simp; omega
    · rw [if_neg h] at hw
      cases hv : splL c l with
      | nil => exact absurd hv (splL_ne c l)
      | cons v r =>
        rw [hv] at hw ih
        rcases List.mem_cons.1 hw with rfl | hw
        · have := ih v (by simp); simp; omega
        · have := ih w (by simp [hw]); simp; omega
theorem count_le_size (c : UInt8) (s : ByteArray) : s.data.toList.count c ≤ s.size := by rw [← list_size]; exact List.count_le_length
theorem okAll_iff (ws : List (List UInt8)) : okAll ws = true ↔ ∀ w ∈ ws, (numR w 2).2 = true := by unfold okAll; rw [List.all_eq_true]
/-- Where all numbers lie between 0 and 99 the program reads them, too. -/
theorem partR_good (ws : List (List UInt8)) (most : Nat) (h : ws.length ≤ most) (hv : ∀ x ∈ ws.map rdR, 0 ≤ x ∧ x ≤ 99) : partR ws most = (ws.map rdR, true) := by
  unfold partR
  rw [if_pos ⟨h, (okAll_iff ws).2 fun w hw => numR_of w (hv _ (List.mem_map_of_mem hw)).1 (hv _ (List.mem_map_of_mem hw)).2⟩]
theorem partR_else (ws : List (List UInt8)) (most : Nat) : partR ws most = (ws.map rdR, true) ∧ ws.length ≤ most ∨ partR ws most = ([], false) := by
  unfold partR
  split
  · exact .inl ⟨rfl, by rename_i h; exact h.1⟩
  · exact .inr rfl
/-- .. and the text is short. -/
theorem good_short (c : UInt8) (l : List UInt8) (most : Nat) (h : (splL c l).length ≤ most) (hv : ∀ x ∈ (splL c l).map rdR, 0 ≤ x ∧ x ≤ 99) : l.length + 1 ≤ most * 3 := by
  have hw : ∀ w ∈ splL c l, w.length ≤ 2 := fun w hw => (numR_ok w (numR_of w (hv _ (List.mem_map_of_mem hw)).1 (hv _ (List.mem_map_of_mem hw)).2)).2
  have := joinL_len c 2 (splL c l) hw (splL_ne c l)
  rw [joinL_spl] at this
  have : (splL c l).length * 3 ≤ most * 3 := Nat.mul_le_mul_right _ h
  omega
/-! ### A text cut at a byte -/
theorem cut_cons (b c : UInt8) (l : List UInt8) : Go.Lib.cut (b :: l) [c] = if b = c then ([], l, true) else (b :: (Go.Lib.cut l [c]).1, (Go.Lib.cut l [c]).2.1, (Go.Lib.cut l [c]).2.2) := by
  have hge := Go.Lib.index_ge l [c]
  unfold Go.Lib.cut
  rw [index_cons]
  by_cases h : b = c
  · subst h; simp
  · simp only [if_neg h]
    by_cases hm : Go.Lib.index l [c] = -1
    · simp [hm]
    · obtain ⟨j, hj⟩ : ∃ j : Nat, Go.Lib.index l [c] = j := ⟨(Go.Lib.index l [c]).toNat, by omega⟩
      have e1 : ((j : Int) + 1).toNat = j + 1 := by omega
      have n1 : ¬ ((j : Int) = -1) := by omega
      have n2 : (0 : Int) ≤ (j : Int) + 1 := by omega
      have n3 : (0 : Int) ≤ (j : Int) := by omega
      simp [hj, n1, n2, n3, e1]
theorem cut_nil (c : UInt8) : Go.Lib.cut [] [c] = ([], [], false) := by simp [Go.Lib.cut, Go.Lib.index]
/-- Where the byte stands in front of a text without it, and a rest. -/
theorem cut_at (c : UInt8) (a r : List UInt8) (h : c ∉ a) : Go.Lib.cut (a ++ c :: r) [c] = (a, r, true) := by
  induction a with
  | nil => rw [List.nil_append, cut_cons, if_pos rfl]
  | cons b a ih =>
    rw [List.cons_append, cut_cons, if_neg (fun e => h (by simp [e])), ih (fun x => h (by simp [x]))]
theorem cut_not (c : UInt8) (l : List UInt8) (h : c ∉ l) : Go.Lib.cut l [c] = (l, [], false) := by
  induction l with
  | nil => exact cut_nil c
  | cons b l ih => rw [cut_cons, if_neg (fun e => h (by simp [e])), ih (fun x => h (by simp [x]))]
theorem splL_at (c : UInt8) (a r : List UInt8) (h : c ∉ a) : splL c (a ++ c :: r) = a :: splL c r := by
  induction a with
  | nil => rw [List.nil_append, splL, if_pos rfl]
  | cons b a ih =>
    rw [List.cons_append, splL, if_neg (fun e => h (by simp [e])), ih (fun x => h (by simp [x]))]; rfl
theorem splL_not (c : UInt8) (l : List UInt8) (h : c ∉ l) : splL c l = [l] := splL_none c l (List.count_eq_zero.2 h)
theorem at_byte (c : UInt8) (l : List UInt8) : c ∉ l ∨ ∃ a r, c ∉ a ∧ l = a ++ c :: r := by
  induction l with
  | nil => exact .inl (by simp)
  | cons b l ih =>
    by_cases h : b = c
    · exact .inr ⟨[], l, by simp, by simp [h]⟩
    · rcases ih with hn | ⟨a, r, ha, rfl⟩
      · exact .inl (by simp [Ne.symm h, hn])
      · exact .inr ⟨b :: a, r, by simp [Ne.symm h, ha], rfl⟩
/-- Two pieces: the cut gives just them. -/
theorem spl_two (c : UInt8) (l a r : List UInt8) (h : splL c l = [a, r]) : c ∉ a ∧ c ∉ r ∧ l = a ++ c :: r := by
  rcases at_byte c l with hn | ⟨a', r', ha, rfl⟩
  · rw [splL_not c l hn] at h; simp at h
  · rw [splL_at c a' r' ha] at h
    simp only [List.cons.injEq] at h
    obtain ⟨rfl, h⟩ := h
    rcases at_byte c r' with hn | ⟨a2, r2, ha2, rfl⟩
    · rw [splL_not c r' hn] at h
      simp only [List.cons.injEq, and_true] at h
      subst h
      exact ⟨ha, hn, rfl⟩
    · rw [splL_at c a2 r2 ha2] at h
      simp only [List.cons.injEq] at h
      exact absurd h.2 (splL_ne c r2)
theorem spl_pair (c : UInt8) (a r : List UInt8) (ha : c ∉ a) (hr : c ∉ r) : splL c (a ++ c :: r) = [a, r] := by rw [splL_at c a r ha, splL_not c r hr]
theorem numR_digs (w : List UInt8) (h : (numR w 2).2 = true) : 1 ≤ w.length ∧ ∀ c ∈ w, 48 ≤ c.toNat ∧ c.toNat ≤ 57 := by
  unfold numR at h
  split at h
  · cases hw : rdw w with
    | none => rw [hw] at h; cases h
    | some n =>
      unfold rdw at hw
      split at hw
      · rename_i hc; exact ⟨hc.1, dec_digs w 0 n hw⟩
      · cases hw
  · cases h
theorem numR_not (w : List UInt8) (h : (numR w 2).2 = true) (c : UInt8) (hc : ¬ (48 ≤ c.toNat ∧ c.toNat ≤ 57)) : c ∉ w := fun hm => hc ((numR_digs w h).2 c hm)
theorem numR_val (w : List UInt8) (h : (numR w 2).2 = true) : ∃ n : Nat, rdR w = (n : Int) ∧ (numR w 2).1 = (n : Int) ∧ n ≤ 99 ∧ rdw w = some n := by
  have hk := numR_ok w h
  unfold numR at h ⊢
  split at h
  · rename_i hl
    cases hw : rdw w with
    | none => rw [hw] at h; cases h
    | some n =>
      refine ⟨n, ?_, ?_, rdw_lt w n hw hl, rfl⟩
      · unfold rdR; rw [if_pos (by omega), hw]
      · rw [if_pos hl]
  · cases h
theorem Cut_is (s : ByteArray) (c : UInt8) (hs : s.size ≤ 1048576) : strings_Cut.f s (⟨#[c]⟩ : ByteArray) = some (toBA (Go.Lib.cut s.data.toList [c]).1, toBA (Go.Lib.cut s.data.toList [c]).2.1, (Go.Lib.cut s.data.toList [c]).2.2) := by
  unfold strings_Cut.f; rw [if_pos (by omega)]; rfl
theorem cut_len (c : UInt8) (l : List UInt8) : (Go.Lib.cut l [c]).1.length ≤ l.length ∧ (Go.Lib.cut l [c]).2.1.length ≤ l.length := by
  rcases at_byte c l with hn | ⟨a, r, ha, rfl⟩
  · rw [cut_not c l hn]; simp
  · rw [cut_at c a r ha]; simp only [List.length_append, List.length_cons]; omega
/-! ### The decimal text of a small number -/
def numB (n : Nat) : ByteArray := ⟨(Go.Lib.decDigits n).toArray⟩
theorem digit_is : ∀ d : Nat, d < 10 → strOfNums [(wrap64 (48 + (d : Int))) % 256] = (⟨#[UInt8.ofNat (48 + d)]⟩ : ByteArray) := by decide +kernel
theorem numB_one (n : Nat) (h : n < 10) : numB n = (⟨#[UInt8.ofNat (48 + n)]⟩ : ByteArray) := by
  unfold numB; rw [Go.Lib.decDigits, dif_pos h]
theorem numB_two (n : Nat) (h : ¬ n < 10) (h2 : n < 100) : numB n = (⟨#[UInt8.ofNat (48 + n / 10)]⟩ : ByteArray) ++ (⟨#[UInt8.ofNat (48 + n % 10)]⟩ : ByteArray) := by
  unfold numB; rw [Go.Lib.decDigits, dif_neg h, Go.Lib.decDigits, dif_pos (by omega)]
  apply ByteArray.ext
  rw [ByteArray.data_append]
  simp
theorem numB_size (n : Nat) (h : n < 100) : (numB n).size ≤ 2 := by
  by_cases h1 : n < 10
  · rw [numB_one n h1]; exact (by decide : (1 : Nat) ≤ 2)
  · rw [numB_two n h1 h, ByteArray.size_append]; exact (by decide : (1 : Nat) + 1 ≤ 2)
theorem l1Num_one (n : Nat) (h : n < 10) (k : Nat) : spec_l1Num.f (k + 1) (n : Int) = some (numB n) := by
  simp only [spec_l1Num.f]
  rw [if_pos (by omega), digit_is n h, numB_one n h]
theorem l1Num_ev (n : Nat) (h : n < 100) : Ev (fun k => spec_l1Num.f k (n : Int)) (numB n) := by
  by_cases h1 : n < 10
  · exact ev_late 1 fun k => l1Num_one n h1 k
  · refine ev_late 2 fun k => ?_
    rw [show spec_l1Num.f (k + 2) (n : Int) = spec_l1Num.f (k + 1 + 1) (n : Int) from rfl, spec_l1Num.f]
    have hd : Int.tdiv (n : Int) 10 = ((n / 10 : Nat) : Int) := by rw [Int.tdiv_eq_ediv_of_nonneg (by omega)]; omega
    have hm : Int.tmod (n : Int) 10 = ((n % 10 : Nat) : Int) := by rw [Int.tmod_eq_emod_of_nonneg (by omega)]; omega
    rw [if_neg (by omega), hd, hm, w0 (by omega) (by omega), l1Num_one (n / 10) (by omega) k]
    simp only [Option.bind_some]
    rw [digit_is (n % 10) (by omega), numB_one (n / 10) (by omega), if_pos (by exact (by decide : (1 : Nat) + 1 ≤ 9223372036854775807)), numB_two n h1 h]
/-! ### The text of numbers -/
theorem rdw_text (w : List UInt8) (n : Nat) (h : rdw w = some n) (hn : n ≤ 99) : numB n = toBA w := by
  have h2 := rdw_two w n h hn
  have hh := h
  unfold rdw at hh
  split at hh
  · rename_i hc
    match w, h2, hc, hh with
    | [c], _, _, hh =>
      simp only [Go.Lib.decFrom, dig_of] at hh
      by_cases hd : 48 ≤ c.toNat ∧ c.toNat ≤ 57
      · rw [if_pos hd] at hh
        simp only [Go.Lib.decFrom, Option.some.injEq] at hh
        subst hh
        rw [numB_one _ (by omega)]
        have : UInt8.ofNat (48 + (0 * 10 + (c.toNat - 48))) = c := by
          rw [show 48 + (0 * 10 + (c.toNat - 48)) = c.toNat by omega]; exact UInt8.ofNat_toNat
        rw [this]; rfl
      · rw [if_neg hd] at hh; cases hh
    | [c, e], _, hc, hh =>
      simp only [Go.Lib.decFrom, dig_of] at hh
      by_cases hd : 48 ≤ c.toNat ∧ c.toNat ≤ 57
      · rw [if_pos hd] at hh
        by_cases he : 48 ≤ e.toNat ∧ e.toNat ≤ 57
        · simp only [if_pos he, Go.Lib.decFrom, Option.some.injEq] at hh
          have hc48 : c ≠ 48 := by
            rcases hc.2 with h | h
            · exact fun x => h (by rw [x]; rfl)
            · simp at h
          have h49 : 49 ≤ c.toNat := by
            rcases Nat.lt_or_ge c.toNat 49 with hlt | hge
            · exact absurd (UInt8.toNat_inj.1 (show c.toNat = (48 : UInt8).toNat from by have : (48 : UInt8).toNat = 48 := rfl; omega)) hc48
            · exact hge
          subst hh
          rw [numB_two _ (by omega) (by omega)]
          have e1 : UInt8.ofNat (48 + ((0 * 10 + (c.toNat - 48)) * 10 + (e.toNat - 48)) / 10) = c := by
            rw [show 48 + ((0 * 10 + (c.toNat - 48)) * 10 + (e.toNat - 48)) / 10 = c.toNat by omega]; exact UInt8.ofNat_toNat
          have e2 : UInt8.ofNat (48 + ((0 * 10 + (c.toNat - 48)) * 10 + (e.toNat - 48)) % 10) = e := by
            rw [show 48 + ((0 * 10 + (c.toNat - 48)) * 10 + (e.toNat - 48)) % 10 = e.toNat by omega]; exact UInt8.ofNat_toNat
          rw [e1, e2]; rfl
        · rw [if_neg he] at hh; cases hh
      · rw [if_neg hd] at hh; cases hh
    | [], _, hc, _ => exact absurd hc.1 (by simp)
    | _ :: _ :: _ :: _, h2, _, _ => simp at h2
  · cases hh
theorem toBA_app (a b : List UInt8) : toBA a ++ toBA b = toBA (a ++ b) := by
  apply ByteArray.ext; rw [ByteArray.data_append]; simp [toBA]
theorem rdR_some (w : List UInt8) (h0 : 0 ≤ rdR w) (h1 : rdR w ≤ 99) : ∃ n : Nat, rdR w = (n : Int) ∧ n ≤ 99 ∧ numB n = toBA w := by
  unfold rdR at h0 h1 ⊢
  split at h0
  · rename_i h6
    rw [if_pos h6] at h1
    cases hw : rdw w with
    | none => rw [hw] at h0; simp at h0
    | some n =>
      rw [hw] at h1
      have hn : n ≤ 99 := by simp at h1; omega
      exact ⟨n, by rw [if_pos h6], hn, rdw_text w n hw hn⟩
  · simp at h0
theorem l1Num_rd (w : List UInt8) (h0 : 0 ≤ rdR w) (h1 : rdR w ≤ 99) : Ev (fun k => spec_l1Num.f k (rdR w)) (toBA w) := by
  obtain ⟨n, e, hn, ht⟩ := rdR_some w h0 h1
  rw [e, ← ht]
  exact l1Num_ev n (by omega)
theorem rdI (xs : List Int) (n : Nat) (h : n < xs.length) : rd xs (n : Int) = xs[n] := getD_nat xs 0 n h
theorem l1In_is (n a b : Int) : spec_l1In.f n a b = some (decide (a ≤ n ∧ n ≤ b)) := by
  unfold spec_l1In.f; by_cases h : n ≥ a <;> simp [h] <;> omega
theorem within_is (n a b : Int) : impl_within.f n a b = some (decide (a ≤ n ∧ n ≤ b)) := by
  unfold impl_within.f; by_cases h : a ≤ n <;> simp [h]
def allB (l : List Int) (a b : Int) : Bool := l.all fun x => decide (a ≤ x ∧ x ≤ b)
def wsum : Int → List Int → Int
  | s, [] => s
  | s, x :: l => wsum (wrap64 (s + x)) l
theorem l1All_loop (a b : Int) (l : List Int) (hl : l.length ≤ 1048576) (d : Nat) : ∀ (n k : Nat), n + d = l.length → d < k → spec_l1All.l0 k a b l (l.length : Int) n = some (allB (l.drop n) a b) := by
  induction d with
  | zero =>
    intro n k hn hk
    obtain ⟨k, rfl⟩ : ∃ m, k = m + 1 := ⟨k - 1, by omega⟩
    simp only [spec_l1All.l0]; rw [if_neg (by omega)]
    obtain rfl : n = l.length := by omega
    simp [allB]
  | succ d ih =>
    intro n k hn hk
    obtain ⟨k, rfl⟩ : ∃ m, k = m + 1 := ⟨k - 1, by omega⟩
    have hlt : n < l.length := by omega
    simp only [spec_l1All.l0, l1In_is, Option.bind_some]
    rw [if_pos (by omega), if_pos (by omega), if_pos (by omega), rdI l n hlt, w1 (by omega), ih (n + 1) k (by omega) (by omega), List.drop_eq_getElem_cons hlt]
    unfold allB; rw [List.all_cons]
    cases decide (a ≤ l[n] ∧ l[n] ≤ b) <;> simp
theorem l1All_ev (l : List Int) (hl : l.length ≤ 1048576) (a b : Int) : Ev (fun k => spec_l1All.f k l a b) (allB l a b) :=
  ⟨l.length + 1, fun k hk => by
    show spec_l1All.f k l a b = _
    unfold spec_l1All.f
    exact (l1All_loop a b l hl l.length 0 k (by omega) (by omega)).trans (by simp)⟩
theorem soSum_loop (l : List Int) (hl : l.length ≤ 1048576) (d : Nat) : ∀ (n k : Nat) (s : Int), n + d = l.length → d < k → spec_soSum.l0 k s l (l.length : Int) n = some (wsum s (l.drop n)) := by
  induction d with
  | zero =>
    intro n k s hn hk
    obtain ⟨k, rfl⟩ : ∃ m, k = m + 1 := ⟨k - 1, by omega⟩
    simp only [spec_soSum.l0]; rw [if_neg (by omega)]
    obtain rfl : n = l.length := by omega
    simp [wsum]
  | succ d ih =>
    intro n k s hn hk
    obtain ⟨k, rfl⟩ : ∃ m, k = m + 1 := ⟨k - 1, by omega⟩
    have hlt : n < l.length := by omega
    simp only [spec_soSum.l0]
    rw [if_pos (by omega), if_pos (by omega), if_pos (by omega), rdI l n hlt, w1 (by omega), ih (n + 1) k _ (by omega) (by omega), List.drop_eq_getElem_cons hlt]
    rfl
theorem soSum_ev (l : List Int) (hl : l.length ≤ 1048576) : Ev (fun k => spec_soSum.f k l) (wsum 0 l) :=
  ⟨l.length + 1, fun k hk => by
    show spec_soSum.f k l = _
    unfold spec_soSum.f
    exact (soSum_loop l hl l.length 0 k 0 (by omega) (by omega)).trans (by simp)⟩
theorem total_loop (l : List Int) (hl : l.length ≤ 1048576) (d : Nat) : ∀ (n k : Nat) (s : Int), n + d = l.length → d < k → impl_total.l0 k s l (l.length : Int) n = some (wsum s (l.drop n)) := by
  induction d with
  | zero =>
    intro n k s hn hk
    obtain ⟨k, rfl⟩ : ∃ m, k = m + 1 := ⟨k - 1, by omega⟩
    simp only [impl_total.l0]; rw [if_neg (by omega)]
    obtain rfl : n = l.length := by omega
    simp [wsum]
  | succ d ih =>
    intro n k s hn hk
    obtain ⟨k, rfl⟩ : ∃ m, k = m + 1 := ⟨k - 1, by omega⟩
    have hlt : n < l.length := by omega
    simp only [impl_total.l0]
    rw [if_pos (by omega), if_pos (by omega), if_pos (by omega), rdI l n hlt, w1 (by omega), ih (n + 1) k _ (by omega) (by omega), List.drop_eq_getElem_cons hlt]
    rfl
theorem total_ev (l : List Int) (hl : l.length ≤ 1048576) : Ev (fun k => impl_total.f k l) (wsum 0 l) :=
  ⟨l.length + 1, fun k hk => by
    show impl_total.f k l = _
    unfold impl_total.f
    exact (total_loop l hl l.length 0 k 0 (by omega) (by omega)).trans (by simp)⟩
theorem index_int_loop (l : List Int) (hl : l.length ≤ 1048576) (φ : Int → Option Bool) (q : Int → Bool) (hφ : ∀ x ∈ l, φ x = some (q x)) (d : Nat) : ∀ (n k : Nat), n + d = l.length → d < k →
    ∃ r, slices_IndexFunc_sint_int.l0 k l φ (l.length : Int) n = some r ∧ (decide (r ≥ 0) = (l.drop n).any q) := by
  induction d with
  | zero =>
    intro n k hn hk
    obtain ⟨k, rfl⟩ : ∃ m, k = m + 1 := ⟨k - 1, by omega⟩
    obtain rfl : n = l.length := by omega
    exact ⟨-1, by simp only [slices_IndexFunc_sint_int.l0]; rw [if_neg (by omega)], by simp⟩
  | succ d ih =>
    intro n k hn hk
    obtain ⟨k, rfl⟩ : ∃ m, k = m + 1 := ⟨k - 1, by omega⟩
    have hlt : n < l.length := by omega
    have hx := hφ l[n] (List.getElem_mem hlt)
    obtain ⟨r, hr, hq⟩ := ih (n + 1) k (by omega) (by omega)
    rw [List.drop_eq_getElem_cons hlt, List.any_cons]
    cases h : q l[n]
    · refine ⟨r, ?_, by simpa [h] using hq⟩
      simp only [slices_IndexFunc_sint_int.l0]
      rw [if_pos (by omega), if_pos (by omega), if_pos (by omega), rdI l n hlt, hx, h, w1 (by omega)]
      simpa using hr
    · refine ⟨n, ?_, by simp⟩
      simp only [slices_IndexFunc_sint_int.l0]
      rw [if_pos (by omega), if_pos (by omega), if_pos (by omega), rdI l n hlt, hx, h]
      rfl
theorem contains_int_ev (l : List Int) (hl : l.length ≤ 1048576) (φ : Int → Option Bool) (q : Int → Bool) (hφ : ∀ x ∈ l, φ x = some (q x)) : Ev (fun k => slices_ContainsFunc_sint_int.f k l φ) (l.any q) :=
  ⟨l.length + 1, fun k hk => by
    show slices_ContainsFunc_sint_int.f k l φ = _
    obtain ⟨r, hr, hq⟩ := index_int_loop l hl φ q hφ l.length 0 k (by omega) (by omega)
    simp only [slices_ContainsFunc_sint_int.f, slices_IndexFunc_sint_int.f]
    have hr' : slices_IndexFunc_sint_int.l0 k l φ (l.length : Int) 0 = some r := by simpa using hr
    rw [hr']; simp only [Option.bind_some, hq]; simp⟩
theorem areWithin_ev (l : List Int) (hl : l.length ≤ 1048576) (a b : Int) : Ev (fun k => impl_areWithin.f k l a b) (allB l a b) := by
  refine ev_eq ((contains_int_ev l hl (fun x => impl_areWithin_1.f x a b) (fun x => !decide (a ≤ x ∧ x ≤ b)) (fun x _ => by simp only [impl_areWithin_1.f, within_is, Option.bind_some])).bind (Ev.now (!_))) ?_
  unfold allB; rw [List.all_eq_not_any_not]
theorem eqIntS_loop (l : List Int) (hl : l.length ≤ 1048576) (d : Nat) : ∀ (n k : Nat), n + d = l.length → d < k → laws_eqIntS.l0 k l l n = some true := by
  induction d with
  | zero =>
    intro n k hn hk
    obtain ⟨k, rfl⟩ : ∃ m, k = m + 1 := ⟨k - 1, by omega⟩
    simp only [laws_eqIntS.l0]; rw [if_neg (by omega)]
  | succ d ih =>
    intro n k hn hk
    obtain ⟨k, rfl⟩ : ∃ m, k = m + 1 := ⟨k - 1, by omega⟩
    simp only [laws_eqIntS.l0, if_true]
    rw [if_pos (by omega), if_pos (by omega), if_pos (by omega), w1 (by omega)]
    exact ih (n + 1) k (by omega) (by omega)
theorem eqIntS_ev (l : List Int) (hl : l.length ≤ 1048576) : Ev (fun k => laws_eqIntS.f k l l) true :=
  ⟨l.length + 1, fun k hk => by
    show laws_eqIntS.f k l l = _
    unfold laws_eqIntS.f
    rw [if_pos rfl]
    exact eqIntS_loop l hl l.length 0 k (by omega) (by omega)⟩
theorem set_mid {α : Type} (p q : List α) (x v : α) : (p ++ x :: q).set p.length v = p ++ v :: q := by
  induction p with
  | nil => rfl
  | cons a p ih => simp [ih]
theorem getD_mid {α : Type} (p q : List α) (x z : α) : (p ++ x :: q).getD p.length z = x := by
  simp [List.getD_eq_getElem?_getD]
/-! ### Lists of whole numbers: marks -/
def markI (a : Int) (n : Nat) : List Int := (List.range n).map fun i : Nat => a + (i : Int)
theorem markI_len (a : Int) (n : Nat) : (markI a n).length = n := by simp [markI]
theorem markI_succ (a : Int) (n : Nat) : markI a (n + 1) = markI a n ++ [a + (n : Int)] := by simp [markI, List.range_succ]
theorem markIntS_loop (a : Int) (h0 : 0 ≤ a) (h1 : a ≤ 1048576) (l : List Int) (hl : l.length ≤ 1048577) (d : Nat) : ∀ (n k : Nat), n + d = l.length → d < k →
    laws_markIntS.l0 k (markI a n ++ l.drop n) (a + (n : Int)) n = some (a + (l.length : Int), markI a l.length) := by
  induction d with
  | zero =>
    intro n k hn hk
    obtain ⟨k, rfl⟩ : ∃ m, k = m + 1 := ⟨k - 1, by omega⟩
    obtain rfl : n = l.length := by omega
    simp only [laws_markIntS.l0]; rw [if_neg (by simp [markI_len])]; simp
  | succ d ih =>
    intro n k hn hk
    obtain ⟨k, rfl⟩ : ∃ m, k = m + 1 := ⟨k - 1, by omega⟩
    have hlt : n < l.length := by omega
    have hd : l.drop n = l[n] :: l.drop (n + 1) := List.drop_eq_getElem_cons hlt
    have s : ∀ (x v : Int), (markI a n ++ x :: l.drop (n + 1)).set ((n : Int)).toNat v = markI a n ++ v :: l.drop (n + 1) := fun x v => by
      have := set_mid (markI a n) (l.drop (n + 1)) x v; rw [markI_len] at this; simpa using this
    simp only [laws_markIntS.l0, hd]
    rw [if_pos (by simp [markI_len]; omega), if_pos (by omega), s, w0 (x := a + (n : Int) + 1) (by omega) (by omega), w1 (by omega)]
    have := ih (n + 1) k (by omega) (by omega)
    rw [markI_succ, List.append_assoc] at this
    rw [show a + (n : Int) + 1 = a + ((n + 1 : Nat) : Int) by omega]; exact this
theorem markIntS_ev (a : Int) (h0 : 0 ≤ a) (h1 : a ≤ 1048576) (l : List Int) (hl : l.length ≤ 1048577) : Ev (fun k => laws_markIntS.f k l a) (a + (l.length : Int), markI a l.length) :=
  ⟨l.length + 1, fun k hk => by
    have := markIntS_loop a h0 h1 l hl l.length 0 k (by omega) (by omega)
    show laws_markIntS.f k l a = _
    unfold laws_markIntS.f
    simpa [markI] using this⟩
theorem heldIntS_loop (a : Int) (h0 : 0 ≤ a) (h1 : a ≤ 1048576) (m : Nat) (hl : m ≤ 1048577) (d : Nat) : ∀ (n k : Nat), n + d = m → d < k →
    laws_heldIntS.l0 k (markI a m) (a + (n : Int)) n = some (a + (m : Int)) := by
  induction d with
  | zero =>
    intro n k hn hk
    obtain ⟨k, rfl⟩ : ∃ m, k = m + 1 := ⟨k - 1, by omega⟩
    obtain rfl : n = m := by omega
    simp only [laws_heldIntS.l0]; rw [if_neg (by simp [markI_len])]
  | succ d ih =>
    intro n k hn hk
    obtain ⟨k, rfl⟩ : ∃ m, k = m + 1 := ⟨k - 1, by omega⟩
    have hlt : n < (markI a m).length := by rw [markI_len]; omega
    have g : rd (markI a m) (n : Int) = a + (n : Int) := by rw [rdI _ n hlt]; simp [markI]
    simp only [laws_heldIntS.l0, g]
    rw [if_pos (by rw [markI_len]; omega), if_pos (by omega)]
    try rw [if_pos trivial]
    rw [w0 (x := a + (n : Int) + 1) (by omega) (by omega), w1 (by omega), show a + (n : Int) + 1 = a + ((n + 1 : Nat) : Int) by omega]
    exact ih (n + 1) k (by omega) (by omega)
theorem heldIntS_ev (a : Int) (h0 : 0 ≤ a) (h1 : a ≤ 1048576) (m : Nat) (hl : m ≤ 1048577) : Ev (fun k => laws_heldIntS.f k (markI a m) a) (a + (m : Int)) :=
  ⟨m + 1, fun k hk => by
    have := heldIntS_loop a h0 h1 m hl m 0 k (by omega) (by omega)
    show laws_heldIntS.f k (markI a m) a = _
    unfold laws_heldIntS.f
    simpa using this⟩
/-! ### Gloves -/
theorem all_in {l : List Int} {a b : Int} (h : allB l a b = true) : ∀ x ∈ l, a ≤ x ∧ x ≤ b := fun x hx => by
  have := List.all_eq_true.1 h x hx
  exact of_decide_eq_true this
def glovesB (L R : List Int) : Bool := decide (1 ≤ L.length ∧ L.length ≤ 8) && (decide (R.length = L.length) && (allB L 0 20 && (allB R 0 20 && decide (wrap64 (wsum 0 L + wsum 0 R) > 0))))
theorem AreGloves_ev (L R : List Int) (hL : L.length ≤ 1048576) (hR : R.length ≤ 1048576) : Ev (fun k => impl_AreGloves.f k L R) (glovesB L R) := by
  unfold glovesB impl_AreGloves.f
  simp only [within_is, Option.bind_some]
  by_cases h : 1 ≤ L.length ∧ L.length ≤ 8
  · have h' : (1 : Int) ≤ (L.length : Int) ∧ (L.length : Int) ≤ 8 := by omega
    simp only [h, h', and_self, decide_true, if_true, Bool.true_and]
    by_cases e : R.length = L.length
    · simp only [e, decide_true, if_true, Bool.true_and]
      refine (areWithin_ev L hL 0 20).bind ?_
      cases allB L 0 20
      · exact Ev.now _
      · simp only [if_true, Bool.true_and]
        refine (areWithin_ev R hR 0 20).bind ?_
        cases allB R 0 20
        · exact Ev.now _
        · simp only [if_true, Bool.true_and]
          exact (total_ev L hL).bind ((total_ev R hR).bind (Ev.now _))
    · have e' : ¬ ((R.length : Int) = (L.length : Int)) := by omega
      simp only [e, e', decide_false, if_false, Bool.false_and]; exact Ev.now _
  · have h' : ¬ ((1 : Int) ≤ (L.length : Int) ∧ (L.length : Int) ≤ 8) := by omega
    simp only [h, h', decide_false, Bool.false_eq_true, if_false, Bool.false_and]; exact Ev.now _
theorem gvGood_ev (L R : List Int) (hL : L.length ≤ 1048576) (hR : R.length ≤ 1048576) : Ev (fun k => spec_gvGood.f k L R) (glovesB L R) := by
  unfold glovesB spec_gvGood.f
  simp only [l1In_is, Option.bind_some]
  by_cases h : 1 ≤ L.length ∧ L.length ≤ 8
  · have h' : (1 : Int) ≤ (L.length : Int) ∧ (L.length : Int) ≤ 8 := by omega
    simp only [h, h', and_self, decide_true, if_true, Bool.true_and]
    by_cases e : R.length = L.length
    · simp only [e, decide_true, if_true, Bool.true_and]
      refine (l1All_ev L hL 0 20).bind ?_
      cases allB L 0 20
      · exact Ev.now _
      · simp only [if_true, Bool.true_and]
        refine (l1All_ev R hR 0 20).bind ?_
        cases allB R 0 20
        · exact Ev.now _
        · simp only [if_true, Bool.true_and]
          exact (soSum_ev L hL).bind ((soSum_ev R hR).bind (Ev.now _))
    · have e' : ¬ ((R.length : Int) = (L.length : Int)) := by omega
      simp only [e, e', decide_false, if_false, Bool.false_and]; exact Ev.now _
  · have h' : ¬ ((1 : Int) ≤ (L.length : Int) ∧ (L.length : Int) ≤ 8) := by omega
    simp only [h, h', decide_false, Bool.false_eq_true, if_false, Bool.false_and]; exact Ev.now _
/-! #### texts of gloves -/
abbrev Pr := List UInt8 × List UInt8
def glue (p : Pr) : List UInt8 := p.1 ++ 108 :: p.2
def gText : List Pr → List UInt8
  | [] => []
  | p :: ps => glue p ++ 114 :: gText ps
def rdA (ps : List Pr) : List Int := ps.map fun p => rdR p.1
def rdB (ps : List Pr) : List Int := ps.map fun p => rdR p.2
def no108 (p : Pr) : Prop := (108 : UInt8) ∉ p.1 ∧ (108 : UInt8) ∉ p.2
def okP (p : Pr) : Prop := (numR p.1 2).2 = true ∧ (numR p.2 2).2 = true
theorem ok_no108 {p : Pr} (h : okP p) : no108 p := ⟨numR_not p.1 h.1 108 (by decide), numR_not p.2 h.2 108 (by decide)⟩
theorem ok_no114 {p : Pr} (h : okP p) : (114 : UInt8) ∉ glue p := by
  have h1 := numR_not p.1 h.1 114 (by decide)
  have h2 := numR_not p.2 h.2 114 (by decide)
  simp [glue, h1, h2]
theorem gloves_small {L R : List Int} (h : glovesB L R = true) : (L.length ≤ 8 ∧ R.length ≤ 8 ∧ 1 ≤ L.length) ∧ (∀ x ∈ L, 0 ≤ x ∧ x ≤ 99) ∧ ∀ x ∈ R, 0 ≤ x ∧ x ≤ 99 := by
  unfold glovesB at h
  simp only [Bool.and_eq_true] at h
  have h1 := of_decide_eq_true h.1
  have h2 := of_decide_eq_true h.2.1
  exact ⟨⟨h1.2, by omega, h1.1⟩, fun x hx => by have := all_in h.2.2.1 x hx; omega, fun x hx => by have := all_in h.2.2.2.1 x hx; omega⟩
theorem good_ok {ps : List Pr} (h : glovesB (rdA ps) (rdB ps) = true) : ∀ p ∈ ps, okP p := fun p hp => by
  have h1 := (gloves_small h).2.1 (rdR p.1) (List.mem_map_of_mem (f := fun p : Pr => rdR p.1) hp)
  have h2 := (gloves_small h).2.2 (rdR p.2) (List.mem_map_of_mem (f := fun p : Pr => rdR p.2) hp)
  exact ⟨numR_of p.1 h1.1 h1.2, numR_of p.2 h2.1 h2.2⟩
theorem cut_inj (c : UInt8) {a a' r r' : List UInt8} (h : c ∉ a) (h' : c ∉ a') (e : a ++ c :: r = a' ++ c :: r') : a = a' ∧ r = r' := by
  have h1 := cut_at c a r h
  rw [e, cut_at c a' r' h'] at h1
  simp only [Prod.mk.injEq] at h1
  exact ⟨h1.1.symm, h1.2.1.symm⟩
theorem glue_inj {p q : Pr} (hp : no108 p) (hq : no108 q) (h : glue p = glue q) : p = q := by
  have := cut_inj 108 hp.1 hq.1 h
  exact Prod.ext this.1 this.2
theorem glues_inj : ∀ (ps qs : List Pr), (∀ p ∈ ps, no108 p) → (∀ p ∈ qs, no108 p) → ps.map glue = qs.map glue → ps = qs
  | [], [], _, _, _ => rfl
  | [], _ :: _, _, _, h => by simp at h
  | _ :: _, [], _, _, h => by simp at h
  | p :: ps, q :: qs, hp, hq, h => by
    have := List.cons.inj h
    rw [glue_inj (hp p (by simp)) (hq q (by simp)) this.1, glues_inj ps qs (fun x hx => hp x (by simp [hx])) (fun x hx => hq x (by simp [hx])) (by simpa using this.2)]
theorem gText_snoc (p : Pr) : ∀ ps : List Pr, gText (ps ++ [p]) = gText ps ++ (glue p ++ [114])
  | [] => by simp [gText]
  | q :: ps => by
    show glue q ++ 114 :: gText (ps ++ [p]) = (glue q ++ 114 :: gText ps) ++ (glue p ++ [114])
    rw [gText_snoc p ps]; simp
theorem gText_join : ∀ ps : List Pr, ps ≠ [] → gText ps = joinL 114 (ps.map glue) ++ [114]
  | [], h => absurd rfl h
  | [p], _ => rfl
  | p :: q :: r, _ => by
    show glue p ++ 114 :: gText (q :: r) = (glue p ++ 114 :: joinL 114 ((q :: r).map glue)) ++ [114]
    rw [gText_join (q :: r) (by simp)]; simp
theorem spl_join : ∀ (ps : List Pr), (∀ p ∈ ps, okP p) → ps ≠ [] → splL 114 (joinL 114 (ps.map glue)) = ps.map glue
  | [], _, hne => absurd rfl hne
  | [p], h, _ => splL_not 114 (glue p) (ok_no114 (h p (by simp)))
  | p :: q :: r, h, _ => by
    show splL 114 (glue p ++ 114 :: joinL 114 ((q :: r).map glue)) = _
    rw [splL_at 114 (glue p) _ (ok_no114 (h p (by simp))), spl_join (q :: r) (fun x hx => h x (by simp [hx])) (by simp)]; rfl
theorem BA_size (l : List UInt8) : (toBA l).size = l.length := by rw [← list_size]; rfl
theorem glue_len {p : Pr} (h : okP p) : (glue p).length ≤ 5 := by
  have h1 := (numR_ok p.1 h.1).2
  have h2 := (numR_ok p.2 h.2).2
  simp only [glue, List.length_append, List.length_cons]; omega
theorem gText_len : ∀ (ps : List Pr), (∀ p ∈ ps, okP p) → (gText ps).length ≤ 6 * ps.length
  | [], _ => by simp [gText]
  | p :: ps, h => by
    have h1 := glue_len (h p (by simp))
    have h2 := gText_len ps (fun x hx => h x (by simp [hx]))
    simp only [gText, List.length_append, List.length_cons]; omega
theorem ok_rd {p : Pr} (h : okP p) : (0 ≤ rdR p.1 ∧ rdR p.1 ≤ 99) ∧ (0 ≤ rdR p.2 ∧ rdR p.2 ≤ 99) := by
  obtain ⟨x, ex, _, lx, _⟩ := numR_val p.1 h.1
  obtain ⟨y, ey, _, ly, _⟩ := numR_val p.2 h.2
  rw [ex, ey]; omega
theorem gvText_loop (ps : List Pr) (hw : ps.length ≤ 100) (ho : ∀ p ∈ ps, okP p) (d : Nat) : ∀ (n : Nat), n + d = ps.length →
    Ev (fun k => spec_gvText.l0 k (toBA (gText (ps.take n))) (rdA ps) (ps.length : Int) n (rdA ps) (rdB ps)) (toBA (gText ps)) := by
  induction d with
  | zero =>
    intro n hn
    refine ev_late 1 fun k => ?_
    simp only [spec_gvText.l0]
    rw [if_neg (by omega), List.take_of_length_le (by omega)]
  | succ d ih =>
    intro n hn
    have hlt : n < ps.length := by omega
    have ra : rd (rdA ps) (n : Int) = rdR ps[n].1 := by rw [rdI _ n (by simpa [rdA] using hlt)]; simp [rdA]
    have rb : rd (rdB ps) (n : Int) = rdR ps[n].2 := by rw [rdI _ n (by simpa [rdB] using hlt)]; simp [rdB]
    have hp := ho ps[n] (List.getElem_mem hlt)
    have hx := ok_rd hp
    have h1 := (numR_ok _ hp.1).2
    have h2 := (numR_ok _ hp.2).2
    have hlen : (gText (ps.take n)).length ≤ 1000 := by
      have := gText_len (ps.take n) (fun p hp => ho p (List.mem_of_mem_take hp))
      rw [List.length_take] at this; omega
    have hm := ih (n + 1) (by omega)
    rw [List.take_succ_eq_append_getElem hlt, gText_snoc] at hm
    have hs108 : ∀ a : List UInt8, toBA a ++ (⟨#[108]⟩ : ByteArray) = toBA (a ++ [108]) := fun a => toBA_app a [108]
    have hs114 : ∀ a : List UInt8, toBA a ++ (⟨#[114]⟩ : ByteArray) = toBA (a ++ [114]) := fun a => toBA_app a [114]
    have c1 : (toBA ps[n].1).size + 1 ≤ 9223372036854775807 := by rw [BA_size]; omega
    have c2 : (toBA (ps[n].1 ++ [108])).size + (toBA ps[n].2).size ≤ 9223372036854775807 := by rw [BA_size, BA_size, List.length_append]; simp; omega
    have hg : ps[n].1 ++ ([108] : List UInt8) ++ ps[n].2 = glue ps[n] := by simp [glue]
    have hgl := glue_len hp
    have c3 : (toBA (glue ps[n])).size + 1 ≤ 9223372036854775807 := by rw [BA_size]; omega
    have c4 : (toBA (gText (ps.take n))).size + (toBA (glue ps[n] ++ [114])).size ≤ 9223372036854775807 := by rw [BA_size, BA_size, List.length_append]; simp; omega
    refine Ev.step (f := fun k => (spec_l1Num.f k (rdR ps[n].1)).bind fun t126 => (if t126.size + 1 ≤ 9223372036854775807 then ((spec_l1Num.f k (rdR ps[n].2)).bind fun t128 => (if (t126 ++ (⟨#[108]⟩ : ByteArray)).size + t128.size ≤ 9223372036854775807 then (if ((t126 ++ (⟨#[108]⟩ : ByteArray)) ++ t128).size + 1 ≤ 9223372036854775807 then (if (toBA (gText (ps.take n))).size + (((t126 ++ (⟨#[108]⟩ : ByteArray)) ++ t128) ++ (⟨#[114]⟩ : ByteArray)).size ≤ 9223372036854775807 then (spec_gvText.l0 k (toBA (gText (ps.take n)) ++ (((t126 ++ (⟨#[108]⟩ : ByteArray)) ++ t128) ++ (⟨#[114]⟩ : ByteArray))) (rdA ps) (ps.length : Int) ((n + 1 : Nat) : Int) (rdA ps) (rdB ps)) else (none)) else (none)) else (none))) else (none))) (fun k => by
      simp only [spec_gvText.l0]
      rw [if_pos (by omega), if_pos (by omega), if_pos (by simp only [rdA, List.length_map]; omega), ra, rb, w1 (by omega)]
      simp only [if_pos (show (n : Int) < ((rdB ps).length : Int) by simp only [rdB, List.length_map]; omega)]) ?_
    refine (l1Num_rd _ hx.1.1 hx.1.2).bind ?_
    simp only [if_pos c1]
    refine (l1Num_rd _ hx.2.1 hx.2.2).bind ?_
    simp only [hs108, if_pos c2, toBA_app]
    simp only [hg, if_pos c3, hs114, if_pos c4, toBA_app]
    exact hm
theorem gvText_ev (ps : List Pr) (hw : ps.length ≤ 100) (ho : ∀ p ∈ ps, okP p) : Ev (fun k => spec_gvText.f k (rdA ps) (rdB ps)) (toBA (gText ps)) := by
  have := gvText_loop ps hw ho ps.length 0 (by omega)
  simp only [List.take_zero] at this
  unfold spec_gvText.f
  rw [show (rdA ps).length = ps.length from List.length_map ..]
  exact this
/-! #### both readings -/
theorem BA_toList (l : List UInt8) : (toBA l).toList = l := by rw [Go.ByteArray.toList_eq]; rfl
theorem num_ba (w : List UInt8) (hw : w.length ≤ 1048576) : impl_number.f (toBA w) 2 = some (numR w 2) := by
  have := number_is (toBA w) 2 (by omega) (by omega) (by have h2 := list_size (toBA w); rw [toBA_data] at h2; omega)
  rw [toBA_data] at this; exact this
theorem read_ba (w : List UInt8) (hw : w.length ≤ 1048576) : Ev (fun k => spec_l1Read.f k (toBA w)) (rdR w) := by
  have := l1Read_ev (toBA w) (by have h2 := list_size (toBA w); rw [toBA_data] at h2; omega)
  rw [toBA_data] at this; exact this
abbrev R3 := List Int × List Int × Bool
def noR : R3 := ([], [], false)
theorem specLoop (s : ByteArray) (ws : List (List UInt8)) (hw : ws.length ≤ 1000000) (hs : ∀ w ∈ ws, w.length ≤ 1048576) (d : Nat) : ∀ (n : Nat) (L R : List Int), n + d = ws.length → L.length = n → R.length = n →
    (∃ ps : List Pr, ws.drop n = ps.map glue ∧ (∀ p ∈ ps, no108 p) ∧ ∀ r : R3, Ev (fun k => spec_gvParse.l0 k s (ws.map toBA) (ws.length : Int) (ws.length : Int) (L ++ rdA ps) (R ++ rdB ps)) r → Ev (fun k => spec_gvParse.l0 k s (ws.map toBA) (ws.length : Int) n L R) r) ∨
    ((∀ ps : List Pr, (∀ p ∈ ps, no108 p) → ws.drop n ≠ ps.map glue) ∧ Ev (fun k => spec_gvParse.l0 k s (ws.map toBA) (ws.length : Int) n L R) noR) := by
  induction d with
  | zero =>
    intro n L R hn ho _
    refine .inl ⟨[], by rw [List.drop_eq_nil_of_le (by omega)]; rfl, by simp, fun r h9 => ?_⟩
    obtain rfl : n = ws.length := by omega
    simpa [rdA, rdB] using h9
  | succ d ih =>
    intro n L R hn ho hr
    have hlt : n < ws.length := by omega
    have hd : ws.drop n = ws[n] :: ws.drop (n + 1) := List.drop_eq_getElem_cons hlt
    have hwl := hs ws[n] (List.getElem_mem hlt)
    have e1 := l1Split_ev 108 (toBA ws[n]) (by rw [BA_size]; exact hwl)
    rw [toBA_data] at e1
    have step : ∀ r : R3, Ev (fun k => (spec_l1Split.f k (toBA ws[n]) 108).bind fun t137 => (if (t137.length : Int) = 2 then (if 0 < (t137.length : Int) then ((spec_l1Read.f k (rdOf ByteArray.empty t137 0)).bind fun t141 => (if L.length < 17592186044416 then (if 1 < (t137.length : Int) then ((spec_l1Read.f k (rdOf ByteArray.empty t137 1)).bind fun t146 => (if R.length < 17592186044416 then (spec_gvParse.l0 k s (ws.map toBA) (ws.length : Int) ((n + 1 : Nat) : Int) (L ++ [t141]) (R ++ [t146])) else (none))) else (none)) else (none))) else (none)) else (some (([] : List Int), ([] : List Int), false)))) r → Ev (fun k => spec_gvParse.l0 k s (ws.map toBA) (ws.length : Int) n L R) r := fun r h => by
      refine Ev.step (fun k => ?_) h
      simp only [spec_gvParse.l0]
      rw [if_pos (by omega), if_pos (by omega), if_pos (by rw [List.length_map]; omega), rdOf_map ws n hlt, w1 (by omega)]
    by_cases h2 : (splL 108 ws[n]).length = 2
    · obtain ⟨a, b, hab⟩ : ∃ a b, splL 108 ws[n] = [a, b] := by
        match hx : splL 108 ws[n], h2 with
        | [a, b], _ => exact ⟨a, b, rfl⟩
      obtain ⟨na, nb, hl⟩ := spl_two 108 _ a b hab
      have hlen := congrArg List.length hl
      simp only [List.length_append, List.length_cons] at hlen
      rw [hab] at e1
      have next : ∀ r : R3, Ev (fun k => spec_gvParse.l0 k s (ws.map toBA) (ws.length : Int) ((n + 1 : Nat) : Int) (L ++ [rdR a]) (R ++ [rdR b])) r → Ev (fun k => spec_gvParse.l0 k s (ws.map toBA) (ws.length : Int) n L R) r := fun r h => by
        refine step r (e1.bind ?_)
        have r0 : rdOf ByteArray.empty ([a, b].map toBA) 0 = toBA a := rdOf_map [a, b] 0 (by simp)
        have r1 : rdOf ByteArray.empty ([a, b].map toBA) 1 = toBA b := rdOf_map [a, b] 1 (by simp)
        simp only [r0, r1]
        simp only [List.map_cons, List.map_nil, List.length_cons, List.length_nil]
        simp only [show (((0 + 1 + 1 : Nat) : Int) = 2) from rfl, show (0 : Int) < ((0 + 1 + 1 : Nat) : Int) from by omega, show (1 : Int) < ((0 + 1 + 1 : Nat) : Int) from by omega, if_true]
        refine (read_ba a (by omega)).bind ?_
        simp only [if_pos (show L.length < 17592186044416 by omega)]
        refine (read_ba b (by omega)).bind ?_
        simp only [if_pos (show R.length < 17592186044416 by omega)]
        exact h
      rcases ih (n + 1) (L ++ [rdR a]) (R ++ [rdR b]) (by omega) (by simp [ho]) (by simp [hr]) with ⟨ps, h1, h2, h3⟩ | ⟨h1, h3⟩
      · refine .inl ⟨(a, b) :: ps, by rw [hd, h1, hl]; rfl, fun p hp => ?_, fun r hr => next r (h3 r ?_)⟩
        · rcases List.mem_cons.1 hp with rfl | hp
          · exact ⟨na, nb⟩
          · exact h2 p hp
        · simpa [rdA, rdB] using hr
      · refine .inr ⟨fun ps hp he => ?_, next _ h3⟩
        rw [hd] at he
        match ps, he with
        | p :: q, he => exact h1 q (fun x hx => hp x (by simp [hx])) (by simpa using (List.cons.inj he).2)
    · refine .inr ⟨fun ps hp he => ?_, step _ (e1.bind ?_)⟩
      · rw [hd] at he
        match ps, he with
        | p :: q, he =>
          have h0 := (List.cons.inj he).1
          have hq := hp p (by simp)
          rw [h0] at h2
          unfold glue at h2
          rw [spl_pair 108 p.1 p.2 hq.1 hq.2] at h2
          exact h2 rfl
      · simp only [if_neg (show ¬ ((((splL 108 ws[n]).map toBA).length : Int) = 2) by rw [List.length_map]; omega)]
        exact Ev.now _
theorem implLoop (m : Nat) (hm : m ≤ 1000) : ∀ (l : List UInt8) (L R : List Int), l.length ≤ m → L.length + l.length ≤ 1000 → R.length + l.length ≤ 1000 →
    (∃ qs : List Pr, l = gText qs ∧ (∀ p ∈ qs, okP p) ∧ ∀ r : R3, Ev (fun k => impl_ParseGloves.l0 k (toBA []) (L ++ rdA qs) (R ++ rdB qs)) r → Ev (fun k => impl_ParseGloves.l0 k (toBA l) L R) r) ∨
    ((∀ qs : List Pr, (∀ p ∈ qs, okP p) → l ≠ gText qs) ∧ Ev (fun k => impl_ParseGloves.l0 k (toBA l) L R) noR) := by
  induction m with
  | zero =>
    intro l L R hl _ _
    obtain rfl : l = [] := List.eq_nil_of_length_eq_zero (by omega)
    exact .inl ⟨[], rfl, by simp, fun r hr => by simpa [rdA, rdB] using hr⟩
  | succ m ih =>
    intro l L R hl hL hR
    by_cases h0 : l = []
    · subst h0; exact .inl ⟨[], rfl, by simp, fun r hr => by simpa [rdA, rdB] using hr⟩
    obtain ⟨l1, l2, l3, hc⟩ : ∃ l1 l2 l3, Go.Lib.cut l [108] = (l1, l2, l3) := ⟨_, _, _, rfl⟩
    obtain ⟨m1, m2, m3, hc2⟩ : ∃ m1 m2 m3, Go.Lib.cut l2 [114] = (m1, m2, m3) := ⟨_, _, _, rfl⟩
    have k1 : l1.length ≤ l.length ∧ l2.length ≤ l.length := by have := cut_len 108 l; rw [hc] at this; exact this
    have k2 : m1.length ≤ l2.length ∧ m2.length ≤ l2.length := by have := cut_len 114 l2; rw [hc2] at this; exact this
    have e1 : strings_Cut.f (toBA l) (⟨#[108]⟩ : ByteArray) = some (toBA l1, toBA l2, l3) := by
      rw [Cut_is (toBA l) 108 (by rw [BA_size]; omega), toBA_data, hc]
    have e2 : strings_Cut.f (toBA l2) (⟨#[114]⟩ : ByteArray) = some (toBA m1, toBA m2, m3) := by
      rw [Cut_is (toBA l2) 114 (by rw [BA_size]; omega), toBA_data, hc2]
    have hz : ¬ ((toBA l).toList = ([] : List UInt8)) := by rw [BA_toList]; exact h0
    have step : ∀ r : R3, Ev (fun k => if m3 = true then (if (numR l1 2).2 = true then (if (numR m1 2).2 = true then impl_ParseGloves.l0 k (toBA m2) (L ++ [(numR l1 2).1]) (R ++ [(numR m1 2).1]) else some (([] : List Int), ([] : List Int), false)) else some (([] : List Int), ([] : List Int), false)) else some (([] : List Int), ([] : List Int), false)) r → Ev (fun k => impl_ParseGloves.l0 k (toBA l) L R) r := fun r h => by
      refine Ev.step (fun k => ?_) h
      simp only [impl_ParseGloves.l0]
      rw [if_neg hz, e1]
      simp only [Option.bind_some, e2, num_ba l1 (by omega), num_ba m1 (by omega), List.length_cons, List.length_nil]
      rw [if_pos (show L.length + (0 + 1) < 17592186044416 by omega), if_pos (show R.length + (0 + 1) < 17592186044416 by omega)]
    rcases at_byte 108 l with hn | ⟨a, b, ha, rfl⟩
    · rw [cut_not 108 l hn] at hc
      simp only [Prod.mk.injEq] at hc
      obtain ⟨-, rfl, -⟩ := hc
      rw [cut_nil] at hc2
      simp only [Prod.mk.injEq] at hc2
      obtain ⟨-, -, rfl⟩ := hc2
      refine .inr ⟨fun qs _ he => ?_, step _ ?_⟩
      · match qs, he with
        | [], he => exact h0 he
        | p :: q, he => exact hn (by rw [he]; simp [gText, glue])
      · simp only [Bool.false_eq_true, if_false]; exact Ev.now _
    · rw [cut_at 108 a b ha] at hc
      simp only [Prod.mk.injEq] at hc
      obtain ⟨rfl, rfl, -⟩ := hc
      have inj : ∀ (p : Pr) (q : List Pr), okP p → a ++ 108 :: b = gText (p :: q) → a = p.1 ∧ b = p.2 ++ 114 :: gText q := fun p q hp he => by
        refine cut_inj 108 ha (ok_no108 hp).1 (he.trans ?_)
        simp [gText, glue]
      rcases at_byte 114 b with hn | ⟨c, d, hcn, rfl⟩
      · rw [cut_not 114 b hn] at hc2
        simp only [Prod.mk.injEq] at hc2
        obtain ⟨-, -, rfl⟩ := hc2
        refine .inr ⟨fun qs ho he => ?_, step _ ?_⟩
        · match qs, he with
          | [], he => exact h0 he
          | p :: q, he => exact hn (by rw [(inj p q (ho p (by simp)) he).2]; simp)
        · simp only [Bool.false_eq_true, if_false]; exact Ev.now _
      · rw [cut_at 114 c d hcn] at hc2
        simp only [Prod.mk.injEq] at hc2
        obtain ⟨rfl, rfl, rfl⟩ := hc2
        have inj2 : ∀ (p : Pr) (q : List Pr), okP p → a ++ 108 :: (c ++ 114 :: d) = gText (p :: q) → p = (a, c) ∧ d = gText q := fun p q hp he => by
          have h1 := inj p q hp he
          have h2 := cut_inj 114 hcn (numR_not p.2 hp.2 114 (by decide)) h1.2
          exact ⟨Prod.ext h1.1.symm h2.1.symm, h2.2⟩
        by_cases hok : okP (a, c)
        · have o1 := numR_ok a hok.1
          have o2 := numR_ok c hok.2
          have next : ∀ r : R3, Ev (fun k => impl_ParseGloves.l0 k (toBA d) (L ++ [rdR a]) (R ++ [rdR c])) r → Ev (fun k => impl_ParseGloves.l0 k (toBA (a ++ 108 :: (c ++ 114 :: d))) L R) r := fun r h => by
            refine step r ?_
            simp only [if_true, hok.1, hok.2, o1.1, o2.1]
            exact h
          simp only [List.length_append, List.length_cons] at hl hL hR
          rcases ih (by omega) d (L ++ [rdR a]) (R ++ [rdR c]) (by omega) (by simp; omega) (by simp; omega) with ⟨qs, h1, h2, h3⟩ | ⟨h1, h3⟩
          · refine .inl ⟨(a, c) :: qs, by rw [h1]; simp [gText, glue], fun p hp => ?_, fun r hr => next r (h3 r ?_)⟩
            · rcases List.mem_cons.1 hp with rfl | hp
              · exact hok
              · exact h2 p hp
            · simpa [rdA, rdB] using hr
          · refine .inr ⟨fun qs ho he => ?_, next _ h3⟩
            match qs, he with
            | [], he => exact h0 he
            | p :: q, he => exact h1 q (fun x hx => ho x (by simp [hx])) (inj2 p q (ho p (by simp)) he).2
        · refine .inr ⟨fun qs ho he => ?_, step _ ?_⟩
          · match qs, he with
            | [], he => exact h0 he
            | p :: q, he =>
              have hp := ho p (by simp)
              rw [(inj2 p q hp he).1] at hp
              exact hok hp
          · simp only [if_true]
            by_cases h1 : (numR a 2).2 = true
            · have h2 : ¬ (numR c 2).2 = true := fun h2 => hok ⟨h1, h2⟩
              simp only [h1, if_true, eq_false_of_ne_true h2, Bool.false_eq_true, if_false]; exact Ev.now _
            · simp only [eq_false_of_ne_true h1, Bool.false_eq_true, if_false]; exact Ev.now _
/-! #### the ends -/
def outOf (ps : List Pr) : R3 := if glovesB (rdA ps) (rdB ps) = true then (rdA ps, rdB ps, true) else noR
theorem implEnd (ps : List Pr) (hl : ps.length ≤ 1048576) : Ev (fun k => impl_ParseGloves.l0 k (toBA []) (rdA ps) (rdB ps)) (outOf ps) := by
  refine Ev.step (f := fun k => (impl_AreGloves.f k (rdA ps) (rdB ps)).bind fun t183 => (if t183 = true then (some (rdA ps, rdB ps, true)) else (some (([] : List Int), ([] : List Int), false)))) (fun k => by simp only [impl_ParseGloves.l0]; rw [if_pos (by rw [BA_toList])]) ?_
  refine (AreGloves_ev _ _ (by simp only [rdA, List.length_map]; exact hl) (by simp only [rdB, List.length_map]; exact hl)).bind ?_
  unfold outOf
  by_cases h : glovesB (rdA ps) (rdB ps) = true
  · simp only [h, if_true]; exact Ev.now _
  · simp only [eq_false_of_ne_true h, Bool.false_eq_true, if_false]; exact Ev.now _
/-- What the reference's reading says of an answer. -/
def outS (r : R3) : R3 := if r.2.2 = true then (r.1, r.2.1, true) else noR
theorem specEnd (s : ByteArray) (ws : List (List UInt8)) (ps : List Pr) (hj : s.data.toList = gText ps) (hl : ps.length ≤ 1048576) : ∃ r, Ev (fun k => spec_gvParse.l0 k s (ws.map toBA) (ws.length : Int) (ws.length : Int) (rdA ps) (rdB ps)) r ∧ outS r = outOf ps := by
  have st : ∀ r : R3, Ev (fun k => (spec_gvGood.f k (rdA ps) (rdB ps)).bind fun t134 => (if t134 = true then ((spec_gvText.f k (rdA ps) (rdB ps)).bind fun t135 => (some (rdA ps, rdB ps, (t135.toList == s.toList)))) else (some (rdA ps, rdB ps, false)))) r → Ev (fun k => spec_gvParse.l0 k s (ws.map toBA) (ws.length : Int) (ws.length : Int) (rdA ps) (rdB ps)) r := fun r h =>
    Ev.step (fun k => by simp only [spec_gvParse.l0]; rw [if_neg (by omega)]) h
  have g := gvGood_ev (rdA ps) (rdB ps) (by simp only [rdA, List.length_map]; exact hl) (by simp only [rdB, List.length_map]; exact hl)
  by_cases h : glovesB (rdA ps) (rdB ps) = true
  · refine ⟨(rdA ps, rdB ps, true), st _ (g.bind ?_), by simp [outS, outOf, h]⟩
    simp only [h, if_true]
    have h8 := (gloves_small h).1.1
    simp only [rdA, List.length_map] at h8
    refine (gvText_ev ps (by omega) (good_ok h)).bind ?_
    rw [show ((toBA (gText ps)).toList == s.toList) = true from by rw [BA_toList, Go.ByteArray.toList_eq, hj]; simp]
    exact Ev.now _
  · refine ⟨(rdA ps, rdB ps, false), st _ (g.bind ?_), by simp [outS, outOf, h]⟩
    simp only [eq_false_of_ne_true h, Bool.false_eq_true, if_false]; exact Ev.now _
theorem both (s : ByteArray) (hs : s.size ≤ 48) : ∃ r : R3, (r.1.length ≤ 8 ∧ r.2.1.length ≤ 8) ∧ Ev (fun k => spec_ParseGloves.f k s) r ∧ Ev (fun k => impl_ParseGloves.f k s) r := by
  have hl := list_size s
  have small : ∀ ps : List Pr, (outOf ps).1.length ≤ 8 ∧ (outOf ps).2.1.length ≤ 8 := fun ps => by
    unfold outOf
    by_cases h : glovesB (rdA ps) (rdB ps) = true
    · rw [if_pos h]; exact ⟨(gloves_small h).1.1, (gloves_small h).1.2.1⟩
    · rw [if_neg h]; exact ⟨Nat.zero_le _, Nat.zero_le _⟩
  have sp : ∀ r : R3, Ev (fun k => spec_gvParse.f k s) r → Ev (fun k => spec_ParseGloves.f k s) (outS r) := fun r h => by
    unfold spec_ParseGloves.f
    refine h.bind ?_
    unfold outS
    by_cases hr : r.2.2 = true
    · simp only [hr, if_true]; exact Ev.now _
    · simp only [eq_false_of_ne_true hr, Bool.false_eq_true, if_false]; exact Ev.now _
  have im : ∀ r : R3, Ev (fun k => impl_ParseGloves.l0 k (toBA s.data.toList) [] []) r → Ev (fun k => impl_ParseGloves.f k s) r := fun r h => by
    unfold impl_ParseGloves.f
    simp only [if_neg (show ¬ (s.size : Int) > 48 by omega)]
    exact h
  have B := implLoop 48 (by omega) s.data.toList [] [] (by omega) (by simp; omega) (by simp; omega)
  simp only [List.nil_append] at B
  by_cases hlast : ∃ t, s.data.toList = t ++ [114]
  · obtain ⟨t, ht⟩ := hlast
    have htl := congrArg List.length ht
    rw [List.length_append, List.length_singleton] at htl
    have hcl : t.count 114 ≤ t.length := List.count_le_length
    have hlen := splL_len 114 t
    have hsm : ∀ w ∈ splL 114 t, w.length ≤ 1048576 := fun w hw => by have := splL_small 114 _ w hw; omega
    have A := specLoop s (splL 114 t) (by omega) hsm (splL 114 t).length 0 [] [] (by omega) rfl rfl
    simp only [List.drop_zero, List.nil_append] at A
    have sg : ∀ r : R3, Ev (fun k => spec_gvParse.l0 k s ((splL 114 t).map toBA) ((splL 114 t).length : Int) ((0 : Nat) : Int) [] []) r → Ev (fun k => spec_gvParse.f k s) r := fun r h => by
      have hb : bt s ((s.size - 1 : Nat) : Int) = 114 := by
        have : s.data.toList[s.size - 1]? = some 114 := by rw [ht, show s.size - 1 = t.length by omega]; simp
        exact bt_nat s (s.size - 1) 114 this
      have hw : wrap64 ((s.size : Int) - 1) = ((s.size - 1 : Nat) : Int) := by rw [w0 (by omega) (by omega)]; omega
      have hx : s.extract 0 (s.size - 1) = toBA t := by
        rw [← toBA_of (s.extract 0 (s.size - 1)), Go.Lib.extract_data]
        rw [ht, show s.size - 1 = t.length by omega]; simp
      unfold spec_gvParse.f
      simp only [if_neg (show ¬ (s.size : Int) > 48 by omega), if_neg (show ¬ (s.size : Int) = 0 by omega), hw, hb]
      simp only [if_pos (show (0 : Int) ≤ ((s.size - 1 : Nat) : Int) by omega), if_pos (show ((s.size - 1 : Nat) : Int) < (s.size : Int) by omega), bne_self_eq_false]
      refine Ev.step (f := fun k => (spec_l1Split.f k (toBA t) 114).bind fun t131 => (spec_gvParse.l0 k s t131 (t131.length : Int) 0 ([] : List Int) ([] : List Int))) (fun k => by
        simp only [spec_gvParse.j0, Bool.false_eq_true, if_false, hw]
        rw [if_pos (show (0 : Int) ≤ ((s.size - 1 : Nat) : Int) by omega), if_pos (show ((s.size - 1 : Nat) : Int) ≤ (s.size : Int) by omega), Int.toNat_natCast, hx]) ?_
      have e := l1Split_ev 114 (toBA t) (by rw [BA_size]; omega)
      rw [toBA_data] at e
      refine e.bind ?_
      simp only [List.length_map]
      exact h
    have len : ∀ ps : List Pr, splL 114 t = ps.map glue → ps.length ≤ 1048576 := fun ps h => by have := congrArg List.length h; rw [List.length_map] at this; omega
    have back : ∀ ps : List Pr, splL 114 t = ps.map glue → s.data.toList = gText ps := fun ps h => by
      have hj := joinL_spl 114 t
      rw [h] at hj
      rw [gText_join ps (by rintro rfl; exact splL_ne 114 t h), hj, ht]
    have forth : ∀ qs : List Pr, (∀ p ∈ qs, okP p) → s.data.toList = gText qs → splL 114 t = qs.map glue := fun qs ho h => by
      have hne : qs ≠ [] := by rintro rfl; rw [ht] at h; simp [gText] at h
      rw [ht, gText_join qs hne] at h
      rw [List.append_cancel_right h]
      exact spl_join qs ho hne
    rcases A with ⟨ps, h1, h2, h3⟩ | ⟨h1, h3⟩
    · obtain ⟨r, e1, e2⟩ := specEnd s (splL 114 t) ps (back ps h1) (len ps h1)
      have E := sp r (sg r (h3 r e1))
      rw [e2] at E
      rcases B with ⟨qs, g1, g2, g3⟩ | ⟨g1, g3⟩
      · have e : ps = qs := glues_inj ps qs h2 (fun p hp => ok_no108 (g2 p hp)) (h1.symm.trans (forth qs g2 g1))
        subst e
        exact ⟨_, small ps, E, im _ (g3 _ (implEnd ps (len ps h1)))⟩
      · have hd : ¬ glovesB (rdA ps) (rdB ps) = true := fun h => g1 ps (good_ok h) (back ps h1)
        unfold outOf at E
        rw [if_neg hd] at E
        exact ⟨noR, ⟨Nat.zero_le _, Nat.zero_le _⟩, E, im _ g3⟩
    · have E := sp noR (sg noR h3)
      rcases B with ⟨qs, g1, g2, g3⟩ | ⟨g1, g3⟩
      · exact absurd (forth qs g2 g1) (h1 qs (fun p hp => ok_no108 (g2 p hp)))
      · exact ⟨noR, ⟨Nat.zero_le _, Nat.zero_le _⟩, E, im _ g3⟩
  · have E : Ev (fun k => spec_gvParse.f k s) noR := by
      have bad : ∀ k, spec_gvParse.j0 (k + 1) s true = some noR := fun k => by simp only [spec_gvParse.j0, if_true]; rfl
      refine ev_late 1 fun k => ?_
      unfold spec_gvParse.f
      rw [if_neg (show ¬ (s.size : Int) > 48 by omega)]
      by_cases h0 : s.size = 0
      · rw [if_pos (by omega), bad]
      · have hw : wrap64 ((s.size : Int) - 1) = ((s.size - 1 : Nat) : Int) := by rw [w0 (by omega) (by omega)]; omega
        rw [if_neg (by omega), hw, if_pos (by omega), if_pos (by omega)]
        have hlt : s.size - 1 < s.data.toList.length := by omega
        have hb := bt_nat s (s.size - 1) _ (List.getElem?_eq_getElem hlt)
        have hne : bt s ((s.size - 1 : Nat) : Int) ≠ 114 := fun e => hlast ⟨s.data.toList.take (s.size - 1), by
          have h5 : s.data.toList[s.size - 1] = 114 := UInt8.toNat_inj.1 (show (s.data.toList[s.size - 1]).toNat = 114 by rw [hb] at e; omega)
          have h6 := List.take_succ_eq_append_getElem hlt
          rw [h5, List.take_of_length_le (by omega)] at h6
          exact h6⟩
        rw [show (bt s ((s.size - 1 : Nat) : Int) != 114) = true from bne_iff_ne.2 hne, bad]
    have E2 := sp noR E
    rcases B with ⟨qs, g1, g2, g3⟩ | ⟨g1, g3⟩
    · have hq : qs = [] := by
        refine Classical.byContradiction fun hq => hlast ⟨_, g1.trans (gText_join qs hq)⟩
      subst hq
      have e0 : outOf [] = noR := rfl
      have := implEnd [] (Nat.zero_le _)
      rw [e0] at this
      exact ⟨noR, ⟨Nat.zero_le _, Nat.zero_le _⟩, E2, im _ (g3 _ this)⟩
    · exact ⟨noR, ⟨Nat.zero_le _, Nat.zero_le _⟩, E2, im _ g3⟩
theorem eqGloves_ev (L R : List Int) (hL : L.length ≤ 1048576) (hR : R.length ≤ 1048576) : Ev (fun k => laws_eqGloves.f k L R L R) true := by
  unfold laws_eqGloves.f
  refine (eqIntS_ev L hL).bind ?_
  simp only [if_true]
  refine (eqIntS_ev R hR).bind ?_
  simp only [if_true]
  exact Ev.now _
theorem markGloves_ev (L R : List Int) (hL : L.length ≤ 8) (hR : R.length ≤ 8) : Ev (fun k => laws_markGloves.f k L R 1) (1 + (L.length : Int) + (R.length : Int), markI 1 L.length, markI (1 + (L.length : Int)) R.length) := by
  unfold laws_markGloves.f
  refine (markIntS_ev 1 (by omega) (by omega) L (by omega)).bind ?_
  refine (markIntS_ev (1 + (L.length : Int)) (by omega) (by omega) R (by omega)).bind ?_
  exact Ev.now _
theorem heldGloves_ev (m n : Nat) (hL : m ≤ 8) (hR : n ≤ 8) : Ev (fun k => laws_heldGloves.f k (markI 1 m) (markI (1 + (m : Int)) n) 1) (1 + (m : Int) + (n : Int)) := by
  unfold laws_heldGloves.f
  refine (heldIntS_ev 1 (by omega) (by omega) m (by omega)).bind ?_
  simp only [if_neg (show ¬ (1 + (m : Int) < 0) by omega)]
  refine (heldIntS_ev (1 + (m : Int)) (by omega) (by omega) n (by omega)).bind ?_
  simp only [if_neg (show ¬ (1 + (m : Int) + (n : Int) < 0) by omega)]
  exact Ev.now _
theorem gloves_tail (s : ByteArray) (hb : s.size ≤ 1048576) (r : R3) (hr : r.1.length ≤ 8 ∧ r.2.1.length ≤ 8) (h1 : Ev (fun k => spec_ParseGloves.f k s) r) (h3 : Ev (fun k => impl_ParseGloves.f k s) r) : ∃ k, laws_FnExactParseGloves.f k s = some true := by
  refine Ev.rounds (r := true) ?_
  unfold laws_FnExactParseGloves.f
  simp only [if_neg (show ¬ (s.size : Int) > 1048576 by omega)]
  refine h1.bind ?_
  refine h3.bind ?_
  refine (eqGloves_ev _ _ (by omega) (by omega)).bind ?_
  simp only [if_true, bne_self_eq_false, Bool.false_eq_true, if_false]
  refine (markGloves_ev _ _ hr.1 hr.2).bind ?_
  refine (heldGloves_ev _ _ hr.1 hr.2).bind ?_
  simp only [if_neg (show ¬ (1 + (r.1.length : Int) + (r.2.1.length : Int) < 0) by omega), if_true]
  refine h3.bind ?_
  refine (eqGloves_ev _ _ (by omega) (by omega)).bind ?_
  simp only [if_true, bne_self_eq_false, Bool.false_eq_true, if_false]
  refine (heldGloves_ev _ _ hr.1 hr.2).bind ?_
  simp only [if_neg (show ¬ (1 + (r.1.length : Int) + (r.2.1.length : Int) < 0) by omega), if_true]
  exact Ev.now _
theorem FnExactParseGloves : laws_FnExactParseGloves.Pure := by
  intro s _
  by_cases hb : s.size ≤ 1048576
  · by_cases h48 : s.size ≤ 48
    · obtain ⟨r, hr, h1, h2⟩ := both s h48
      exact gloves_tail s hb r hr h1 h2
    · refine gloves_tail s hb noR ⟨Nat.zero_le _, Nat.zero_le _⟩ ?_ ?_
      · unfold spec_ParseGloves.f
        refine Ev.bind (a := noR) (ev_late 1 fun k => ?_) (Ev.now _)
        unfold spec_gvParse.f
        rw [if_pos (show (s.size : Int) > 48 by omega)]
        simp only [spec_gvParse.j0, if_true]; rfl
      · unfold impl_ParseGloves.f
        simp only [if_pos (show (s.size : Int) > 48 by omega)]
        exact Ev.now _
  · exact ⟨0, by unfold laws_FnExactParseGloves.f; rw [if_pos (by omega)]⟩
end Go.Proofs.YtdifnieiobfnaaaDoor.Pure
