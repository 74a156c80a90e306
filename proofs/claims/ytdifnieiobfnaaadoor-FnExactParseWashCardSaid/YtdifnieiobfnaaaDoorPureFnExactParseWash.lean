/- The program's ParseWash answers as the reference's does. Conditions: the statement's. -/
import Derived.Test.YtdifnieiobfnaaaDoorPFnExactParseWashx5
import Derived.Lib.CutLaws
import Derived.Lib.ItoaNum
namespace Go.Proofs.YtdifnieiobfnaaaDoor.Pure
open Go.RowKit Go.Proofs.YtdifnieiobfnaaaDoor.PFnExactParseWash Go.Proofs.YtdifnieiobfnaaaDoorW.PrintWords Go.Proofs.YtdifnieiobfnaaaDoorW.PrintLast
set_option linter.unusedVariables false
set_option linter.unusedSimpArgs false
/-! ### Plain words -/
theorem w1 {n : Nat} (h : n < 4611686018427387904) : wrap64 ((n : Int) + 1) = ((n + 1 : Nat) : Int) := by unfold wrap64; omega
theorem w0 {x : Int} (h1 : -9223372036854775808 ≤ x) (h2 : x ≤ 9223372036854775807) : wrap64 x = x := by unfold wrap64; omega
theorem wfi {x : Int} (h : (Lit.int .i64 x).wf = true) : -9223372036854775808 ≤ x ∧ x ≤ 9223372036854775807 := by
  simpa [Lit.wf, IntKind.min, IntKind.max, IntKind.signed, IntKind.bits] using h
theorem getD_nat {α : Type} (l : List α) (z : α) (n : Nat) (h : n < l.length) : l.getD ((n : Int)).toNat z = l[n] := by
  simp [List.getD_eq_getElem?_getD, h]
theorem fill_set {α β : Type} (f : α → β) (l : List α) (z : β) (n : Nat) (h : n < l.length) :
    ((l.take n).map f ++ List.replicate (l.length - n) z).set n (f l[n]) = (l.take (n + 1)).map f ++ List.replicate (l.length - (n + 1)) z := by
  obtain ⟨d, hd⟩ : ∃ d, l.length - n = d + 1 := ⟨l.length - n - 1, by omega⟩
  rw [List.set_append, if_neg (by simp; omega), List.take_succ_eq_append_getElem h]
  have h1 : n - ((l.take n).map f).length = 0 := by simp; omega
  have h2 : l.length - (n + 1) = d := by omega
  rw [h1, h2, hd, List.replicate_succ, List.set_cons_zero, List.map_append]
  simp
theorem getD_set {α : Type} (l : List α) (z : α) (i j : Nat) (v : α) (hi : i < l.length) : (l.set i v).getD j z = if j = i then v else l.getD j z := by
  by_cases h : j = i
  · subst h; simp [List.getD_eq_getElem?_getD, hi]
  · rw [if_neg h]; simp [List.getD_eq_getElem?_getD, Ne.symm h]
/-- A way that needs no rounds. -/
theorem ev_now {α : Type} {g : Nat → Option α} {r : α} (h : ∀ k, g k = some r) : Ev g r := ⟨0, fun k _ => h k⟩
theorem ev_late {α : Type} {g : Nat → Option α} {r : α} (n : Nat) (h : ∀ k, g (k + n) = some r) : Ev g r := ⟨n, fun k hk => by
  obtain ⟨m, rfl⟩ : ∃ m, k = m + n := ⟨k - n, by omega⟩
  exact h m⟩
theorem ev_eq {α : Type} {g : Nat → Option α} {r s : α} (h : Ev g r) (e : r = s) : Ev g s := e ▸ h
/-! ### Numbers read: canonical decimals -/
def rdw (l : List UInt8) : Option Nat := if 1 ≤ l.length ∧ (l.head? ≠ some 48 ∨ l.length ≤ 1) then Go.Lib.decFrom 0 l else none
def rdR (l : List UInt8) : Int := if l.length ≤ 6 then (match rdw l with | some n => (n : Int) | none => -1) else -1
def numR (l : List UInt8) (d : Nat) : Int × Bool := if l.length ≤ d then (match rdw l with | some n => ((n : Int), true) | none => (0, false)) else (0, false)
theorem bt_nat (s : ByteArray) (n : Nat) (c : UInt8) (h : s.data.toList[n]? = some c) : bt s (n : Int) = (c.toNat : Int) := by
  obtain ⟨hlt, rfl⟩ := List.getElem?_eq_some_iff.1 h
  have hs : n < s.size := by rw [Array.length_toList] at hlt; exact hlt
  have e : ((n : Int)).toNat = n := Int.toNat_natCast n
  unfold bt
  rw [dif_pos (by rw [e]; exact hs)]
  simp only [e]
  rfl
theorem list_size (s : ByteArray) : s.data.toList.length = s.size := by rw [Array.length_toList]; rfl
theorem dig_of (c : UInt8) : Go.Lib.digitVal c = if 48 ≤ c.toNat ∧ c.toNat ≤ 57 then some (c.toNat - 48) else none := rfl
theorem num_step (acc c : Nat) (ha : acc < 100000) (h1 : 48 ≤ c) (h2 : c ≤ 57) : wrap64 (wrap64 (10 * (acc : Int)) + ((c : Int) - 48) % 256) = ((acc * 10 + (c - 48) : Nat) : Int) := by unfold wrap64; omega
theorem pow_step (acc c n : Nat) (ha : acc < 10 ^ n) (h2 : c ≤ 57) : acc * 10 + (c - 48) < 10 ^ (n + 1) := by
  have hp : 10 ^ (n + 1) = 10 ^ n * 10 := Nat.pow_succ ..
  rw [hp]
  generalize 10 ^ n = X at *
  omega
theorem dropWhile_nil {α : Type} (p : α → Bool) (l : List α) : l.dropWhile p = [] ↔ ∀ c ∈ l, p c = true := by
  induction l with
  | nil => simp
  | cons x r ih =>
    rw [List.dropWhile_cons]
    by_cases hx : p x = true
    · rw [if_pos hx, ih]; simp [hx]
    · rw [if_neg hx]; simp [hx]
theorem l1Read_loop (s : ByteArray) (hs : s.size ≤ 6) (d : Nat) : ∀ (n acc k : Nat), n + d = s.size → d < k → acc < 10 ^ n →
    spec_l1Read.l0 k s acc n = some (match Go.Lib.decFrom acc (s.data.toList.drop n) with | some v => (v : Int) | none => -1) := by
  induction d with
  | zero =>
    intro n acc k hn hk ha
    obtain ⟨k, rfl⟩ : ∃ m, k = m + 1 := ⟨k - 1, by omega⟩
    have hd : s.data.toList.drop n = [] := List.drop_eq_nil_of_le (by rw [list_size]; omega)
    simp only [spec_l1Read.l0, hd, Go.Lib.decFrom]; rw [if_neg (by omega)]
  | succ d ih =>
    intro n acc k hn hk ha
    obtain ⟨k, rfl⟩ : ∃ m, k = m + 1 := ⟨k - 1, by omega⟩
    have hlt : n < s.data.toList.length := by rw [list_size]; omega
    have hd : s.data.toList.drop n = s.data.toList[n] :: s.data.toList.drop (n + 1) := List.drop_eq_getElem_cons hlt
    have hb : bt s (n : Int) = ((s.data.toList[n]).toNat : Int) := bt_nat s n _ (List.getElem?_eq_getElem hlt)
    generalize s.data.toList[n] = c at hd hb
    have h5 : acc < 100000 := Nat.lt_of_lt_of_le ha (Nat.le_trans (Nat.pow_le_pow_right (n := 10) (by omega) (show n ≤ 5 by omega)) (by decide))
    have hq := fun h => pow_step acc c.toNat n ha h
    clear ha
    simp only [spec_l1Read.l0, hd, Go.Lib.decFrom, hb, dig_of]
    rw [if_pos (by omega), if_pos (by omega)]
    by_cases h1 : (c.toNat : Int) < 48
    · rw [if_pos h1, if_neg (show ¬ (48 ≤ c.toNat ∧ c.toNat ≤ 57) by omega)]
    · rw [if_neg h1]
      by_cases h2 : (c.toNat : Int) > 57
      · rw [if_pos h2, if_neg (show ¬ (48 ≤ c.toNat ∧ c.toNat ≤ 57) by omega)]
      · rw [if_neg h2, if_pos (show 48 ≤ c.toNat ∧ c.toNat ≤ 57 by omega)]
        rw [num_step acc c.toNat h5 (by omega) (by omega), w1 (by omega)]
        exact ih (n + 1) (acc * 10 + (c.toNat - 48)) k (by omega) (by omega) (hq (by omega))
theorem head_nat (s : ByteArray) (h : 0 < s.size) : ∃ c, s.data.toList.head? = some c ∧ bt s 0 = (c.toNat : Int) := by
  have hlt : 0 < s.data.toList.length := by rw [list_size]; exact h
  refine ⟨s.data.toList[0], ?_, bt_nat s 0 _ (List.getElem?_eq_getElem hlt)⟩
  rw [List.head?_eq_getElem?, List.getElem?_eq_getElem hlt]
theorem head_is (c : UInt8) : ((c.toNat : Int) = 48) ↔ c = 48 := by
  constructor
  · intro h; apply UInt8.toNat_inj.1; show c.toNat = 48; omega
  · rintro rfl; rfl
theorem l1Read_ev (s : ByteArray) (hs : s.size ≤ 1048576) : Ev (fun k => spec_l1Read.f k s) (rdR s.data.toList) := by
  refine ev_late 9 fun k => ?_
  have hl := list_size s
  simp only [spec_l1Read.f, spec_l1In.f]
  by_cases h0 : s.size = 0
  · rw [if_neg (by omega)]
    simp only [Option.bind_some, Bool.false_eq_true, if_false]
    rw [show k + 9 = (k + 8) + 1 from rfl]
    simp only [spec_l1Read.j0, if_true]
    unfold rdR rdw
    rw [if_pos (by omega), if_neg (by omega)]
  rw [if_pos (by omega)]
  simp only [Option.bind_some]
  by_cases h6 : s.size ≤ 6
  · rw [if_pos (by simp; omega), if_pos (by omega)]
    obtain ⟨c, hc, hb⟩ := head_nat s (by omega)
    rw [hb]
    have hr : rdR s.data.toList = if s.data.toList.head? ≠ some 48 ∨ s.size ≤ 1 then (match Go.Lib.decFrom 0 s.data.toList with | some n => (n : Int) | none => -1) else -1 := by
      unfold rdR rdw
      rw [hl, if_pos h6]
      by_cases hz : s.data.toList.head? ≠ some 48 ∨ s.size ≤ 1
      · rw [if_pos ⟨by omega, hz⟩, if_pos hz]
      · rw [if_neg (fun x => hz x.2), if_neg hz]
    rw [hr, hc]
    have hloop := l1Read_loop s h6 s.size 0 0 (k + 8) (by omega) (by omega) (by omega)
    rw [List.drop_zero] at hloop
    rw [show k + 9 = (k + 8) + 1 from rfl]
    by_cases h48 : c = 48
    · rw [if_pos ((head_is c).2 h48)]
      by_cases h1 : s.size ≤ 1
      · rw [if_pos (Or.inr h1), show decide ((s.size : Int) > 1) = false from decide_eq_false (by omega)]
        simp only [spec_l1Read.j0, Bool.false_eq_true, if_false]
        exact hloop
      · rw [if_neg (by rw [h48]; simp; omega), show decide ((s.size : Int) > 1) = true from decide_eq_true (by omega)]
        simp only [spec_l1Read.j0, if_true]
    · rw [if_neg (fun x => h48 ((head_is c).1 x)), if_pos (Or.inl (fun x => h48 (Option.some.inj x)))]
      simp only [spec_l1Read.j0, Bool.false_eq_true, if_false]
      exact hloop
  · rw [if_neg (by simp; omega)]
    rw [show k + 9 = (k + 8) + 1 from rfl]
    simp only [spec_l1Read.j0, if_true]
    unfold rdR
    rw [if_neg (by omega)]
/-! #### the program's reading -/
theorem digs_has (c : UInt8) : ([48, 49, 50, 51, 52, 53, 54, 55, 56, 57] : List UInt8).contains c = decide (48 ≤ c.toNat ∧ c.toNat ≤ 57) := by
  rw [Bool.eq_iff_iff, List.contains_iff_mem]
  simp only [List.mem_cons, List.not_mem_nil, or_false, ← UInt8.toNat_inj, decide_eq_true_eq]
  simp only [UInt8.reduceToNat]
  omega
theorem trimS_nil (l cs : List UInt8) : Go.Lib.trimS l cs = [] ↔ ∀ c ∈ l, cs.contains c = true := by
  unfold Go.Lib.trimS Go.Lib.trimLeftS Go.Lib.trimRightS
  rw [dropWhile_nil]
  constructor
  · intro h
    have : l.reverse.dropWhile (cs.contains ·) = [] := by
      cases hx : l.reverse.dropWhile (cs.contains ·) with
      | nil => rfl
      | cons x xs =>
        have hm : x ∈ (l.reverse.dropWhile (cs.contains ·)).reverse := by rw [hx]; simp
        have hn := List.head?_dropWhile_not (cs.contains ·) l.reverse
        rw [hx] at hn
        simp only [List.head?_cons] at hn
        have := h x hm
        rw [hn] at this
        cases this
    rw [dropWhile_nil] at this
    intro c hc
    exact this c (by simpa using hc)
  · intro h c hc
    have : c ∈ l.reverse.dropWhile (cs.contains ·) := by simpa using hc
    exact h c (by simpa using (List.dropWhile_sublist _).mem this)
theorem dec_all : ∀ (l : List UInt8) (acc : Nat), (∀ c ∈ l, 48 ≤ c.toNat ∧ c.toNat ≤ 57) → ∃ v, Go.Lib.decFrom acc l = some v := by
  intro l
  induction l with
  | nil => intro acc _; exact ⟨acc, rfl⟩
  | cons c r ih =>
    intro acc h
    simp only [Go.Lib.decFrom, dig_of]
    rw [if_pos (h c (by simp))]
    exact ih _ fun x hx => h x (by simp [hx])
theorem dec_digs (l : List UInt8) (acc v : Nat) (h : Go.Lib.decFrom acc l = some v) : ∀ c ∈ l, 48 ≤ c.toNat ∧ c.toNat ≤ 57 := by
  intro c hc
  obtain ⟨j, hj⟩ := List.getElem?_of_mem hc
  obtain ⟨d, hd⟩ := Go.Lib.digit_of_decFrom l acc v h j c hj
  rw [dig_of] at hd
  split at hd
  · assumption
  · cases hd
theorem atoi_digs (l : List UInt8) (h1 : 1 ≤ l.length) (h18 : l.length ≤ 18) (v : Nat) (h : Go.Lib.decFrom 0 l = some v) : Go.Lib.atoiAll l = .ok (v : Int) := by
  rw [Go.Lib.atoiAll_short l h18]
  cases l with
  | nil => simp at h1
  | cons c r =>
    have hc := dec_digs (c :: r) 0 v h c (by simp)
    have n45 : (c == 45) = false := by
      rw [beq_eq_false_iff_ne]; rintro rfl; exact absurd hc.1 (by decide)
    have n43 : (c == 43) = false := by
      rw [beq_eq_false_iff_ne]; rintro rfl; exact absurd hc.1 (by decide)
    simp only [Go.Lib.atoi, n45, n43, Bool.false_eq_true, if_false, Go.Lib.decNat, List.isEmpty_cons, h, Option.map_some]
    rfl
theorem number_is (s : ByteArray) (d : Nat) (hd : 1 ≤ d) (h6 : d ≤ 6) (hs : s.size ≤ 1048576) : impl_number.f s (d : Int) = some (numR s.data.toList d) := by
  have hl := list_size s
  unfold impl_number.f impl_within.f
  by_cases h0 : s.size = 0
  · rw [if_neg (by omega)]
    simp only [Option.bind_some, Bool.false_eq_true, if_false]
    unfold numR rdw
    rw [if_pos (by omega), if_neg (by omega)]
  rw [if_pos (by omega)]
  simp only [Option.bind_some]
  by_cases hd2 : s.size ≤ d
  · rw [if_pos (by simp; omega)]
    have ht : strings_Trim.f s (⟨#[48, 49, 50, 51, 52, 53, 54, 55, 56, 57]⟩ : ByteArray) = some ⟨(Go.Lib.trimS s.data.toList [48, 49, 50, 51, 52, 53, 54, 55, 56, 57]).toArray⟩ := by
      unfold strings_Trim.f
      rw [if_pos ⟨by omega, by decide, by decide⟩]
    rw [ht]
    simp only [Option.bind_some, Go.ByteArray.toList_eq]
    obtain ⟨c, hc, hb⟩ := head_nat s (by omega)
    have hnr : numR s.data.toList d = (match (if s.data.toList.head? ≠ some 48 ∨ s.size ≤ 1 then Go.Lib.decFrom 0 s.data.toList else none) with | some n => ((n : Int), true) | none => (0, false)) := by
      unfold numR rdw
      rw [hl, if_pos hd2]
      by_cases hz : s.data.toList.head? ≠ some 48 ∨ s.size ≤ 1
      · rw [if_pos ⟨by omega, hz⟩, if_pos hz]
      · rw [if_neg (fun x => hz x.2), if_neg hz]
    rw [hnr, hc, hb]
    cases hv : Go.Lib.decFrom 0 s.data.toList with
    | none =>
      have hn : ¬ (Go.Lib.trimS s.data.toList [48, 49, 50, 51, 52, 53, 54, 55, 56, 57] = []) := by
        rw [trimS_nil]
        intro h
        obtain ⟨v, hv'⟩ := dec_all s.data.toList 0 (fun c hc => by have := h c hc; rw [digs_has] at this; exact of_decide_eq_true this)
        rw [hv] at hv'; cases hv'
      rw [if_neg (by simpa using hn)]
      rw [ite_self]
    | some v =>
      have hy : Go.Lib.trimS s.data.toList [48, 49, 50, 51, 52, 53, 54, 55, 56, 57] = [] := by
        rw [trimS_nil]
        intro c hc
        rw [digs_has]
        exact decide_eq_true (dec_digs _ _ _ hv c hc)
      have ha : strconv_Atoi.f s = some ((v : Int), none) := by
        unfold strconv_Atoi.f
        rw [if_pos (by omega), atoi_digs _ (by omega) (by omega) v hv]
      rw [if_pos (by simpa using hy), if_pos (by omega), ha]
      simp only [Option.bind_some, Option.isNone_none, if_true]
      by_cases h48 : c = 48
      · rw [if_pos ((head_is c).2 h48)]
        by_cases h1 : s.size ≤ 1
        · rw [if_neg (by omega), if_pos (Or.inr h1)]
        · rw [if_pos (by omega), if_neg (by rw [h48]; simp; omega)]
      · rw [if_neg (fun x => h48 ((head_is c).1 x)), if_pos (Or.inl (fun x => h48 (Option.some.inj x)))]
  · rw [if_neg (by simp; omega)]
    unfold numR
    rw [if_neg (by omega)]
/-! ### A text's pieces between a byte -/
def headApp (p : List UInt8) : List (List UInt8) → List (List UInt8)
  | [] => [p]
  | w :: r => (p ++ w) :: r
def splL (c : UInt8) : List UInt8 → List (List UInt8)
  | [] => [[]]
  | b :: l => if b = c then [] :: splL c l else headApp [b] (splL c l)
def toBA (w : List UInt8) : ByteArray := ⟨w.toArray⟩
theorem toBA_data (w : List UInt8) : (toBA w).data.toList = w := rfl
theorem toBA_of (s : ByteArray) : toBA s.data.toList = s := rfl
theorem headApp_nil {ws : List (List UInt8)} (h : ws ≠ []) : headApp [] ws = ws := by
  cases ws with
  | nil => exact absurd rfl h
  | cons w r => rfl
theorem headApp_app (p q : List UInt8) (ws : List (List UInt8)) : headApp p (headApp q ws) = headApp (p ++ q) ws := by
  cases ws <;> simp [headApp]
theorem headApp_len (p : List UInt8) {ws : List (List UInt8)} (h : ws ≠ []) : (headApp p ws).length = ws.length := by
  cases ws with
  | nil => exact absurd rfl h
  | cons w r => rfl
theorem splL_ne (c : UInt8) (l : List UInt8) : splL c l ≠ [] := by
  cases l with
  | nil => simp [splL]
  | cons b l =>
    unfold splL
    split
    · simp
    · cases splL c l <;> simp [headApp]
theorem splL_len (c : UInt8) (l : List UInt8) : (splL c l).length = l.count c + 1 := by
  induction l with
  | nil => rfl
  | cons b l ih =>
    unfold splL
    by_cases h : b = c
    · subst h; simp [ih]
    · rw [if_neg h, headApp_len _ (splL_ne c l), ih, List.count_cons_of_ne (by simpa using h)]
theorem splL_none (c : UInt8) (l : List UInt8) (h : l.count c = 0) : splL c l = [l] := by
  induction l with
  | nil => rfl
  | cons b l ih =>
    by_cases hb : b = c
    · subst hb; simp at h
    · rw [List.count_cons_of_ne (by simpa using hb)] at h
      unfold splL; rw [if_neg hb, ih h]; rfl
theorem index_cons (b c : UInt8) (l : List UInt8) : Go.Lib.index (b :: l) [c] = if b = c then 0 else if Go.Lib.index l [c] == -1 then -1 else Go.Lib.index l [c] + 1 := by
  by_cases h : b = c
  · subst h; rw [Go.Lib.index]; simp [List.isPrefixOf]
  · have hp : ([c] : List UInt8).isPrefixOf (b :: l) = false := by simp [List.isPrefixOf, Ne.symm h]
    rw [Go.Lib.index, hp]; simp [h]
theorem splitK_cons (b c : UInt8) (l : List UInt8) (k : Nat) : Go.Lib.splitK [c] 0 (k + 1) (b :: l) = if b = c then [] :: Go.Lib.splitK [c] 0 k l else headApp [b] (Go.Lib.splitK [c] 0 (k + 1) l) := by
  have hge := Go.Lib.index_ge l [c]
  rw [Go.Lib.splitK, index_cons]
  by_cases h : b = c
  · subst h; simp
  · rw [if_neg h, if_neg h]
    conv => rhs; rw [Go.Lib.splitK]
    by_cases hm : Go.Lib.index l [c] = -1
    · simp [hm, headApp]
    · obtain ⟨j, hj⟩ : ∃ j : Nat, Go.Lib.index l [c] = j := ⟨(Go.Lib.index l [c]).toNat, by omega⟩
      have e1 : ((j : Int) + 1).toNat = j + 1 := by omega
      have n1 : ¬ ((j : Int) = -1) := by omega
      have n2 : ¬ ((j : Int) + 1 = -1) := by omega
      simp [hj, n1, n2, e1, headApp]
theorem splitK_nil (c : UInt8) (k : Nat) : Go.Lib.splitK [c] 0 k [] = [[]] := by cases k <;> simp [Go.Lib.splitK, Go.Lib.index]
theorem splitK_ne (c : UInt8) (k : Nat) (l : List UInt8) : Go.Lib.splitK [c] 0 k l ≠ [] := by
  cases k with
  | zero => simp [Go.Lib.splitK]
  | succ k => rw [Go.Lib.splitK]; split <;> simp
theorem splitK_is (c : UInt8) (l : List UInt8) : ∀ k : Nat, l.count c ≤ k → Go.Lib.splitK [c] 0 k l = splL c l := by
  induction l with
  | nil => intro k _; rw [splitK_nil]; rfl
  | cons b l ih =>
    intro k hk
    cases k with
    | zero => rw [splL_none c _ (by omega)]; rfl
    | succ k =>
      rw [splitK_cons]
      unfold splL
      by_cases h : b = c
      · subst h; simp at hk; rw [if_pos rfl, if_pos rfl, ih k hk]
      · rw [List.count_cons_of_ne (by simpa using h)] at hk
        rw [if_neg h, if_neg h, ih (k + 1) hk]
theorem splitK_len (c : UInt8) (l : List UInt8) : ∀ k : Nat, (Go.Lib.splitK [c] 0 k l).length = min k (l.count c) + 1 := by
  induction l with
  | nil => intro k; rw [splitK_nil]; simp
  | cons b l ih =>
    intro k
    cases k with
    | zero => simp [Go.Lib.splitK]
    | succ k =>
      rw [splitK_cons]
      by_cases h : b = c
      · subst h; simp [ih k]
      · rw [if_neg h, headApp_len _ (splitK_ne c _ l), ih (k + 1), List.count_cons_of_ne (by simpa using h)]
theorem splitB_is (c : UInt8) (k : Nat) (s : ByteArray) : Go.Lib.splitB (⟨#[c]⟩ : ByteArray) 0 k s = (Go.Lib.splitK [c] 0 k s.data.toList).map toBA := by
  have := Go.Lib.splitB_data (⟨#[c]⟩ : ByteArray) 0 k s
  rw [show (⟨#[c]⟩ : ByteArray).data.toList = [c] from rfl] at this
  rw [← this, List.map_map]
  rw [show (toBA ∘ fun x : ByteArray => x.data.toList) = id from rfl, List.map_id]
/-- The reference's split. -/
theorem l1Split_loop (c : UInt8) (s : ByteArray) (hs : s.size ≤ 1048576) (d : Nat) : ∀ (n fr : Nat) (out : List ByteArray), n + d = s.size → fr ≤ n → out.length ≤ n →
    Ev (fun k => spec_l1Split.l0 k s (c.toNat : Int) out fr n) (out ++ (headApp ((s.data.toList.take n).drop fr) (splL c (s.data.toList.drop n))).map toBA) := by
  have hl := list_size s
  have hx : ∀ a b : Nat, s.extract a b = toBA ((s.data.toList.take b).drop a) := fun a b => by
    rw [← toBA_of (s.extract a b), Go.Lib.extract_data, ← List.drop_take]
  induction d with
  | zero =>
    intro n fr out hn hf ho
    refine ev_late 1 fun k => ?_
    simp only [spec_l1Split.l0]
    rw [if_neg (by omega), if_pos (by omega), if_pos (by omega), if_pos (by omega), Int.toNat_natCast, hx]
    have hz : s.data.toList.drop n = [] := List.drop_eq_nil_of_le (by omega)
    have ht : s.data.toList.take n = s.data.toList.take s.size := by rw [show n = s.size by omega]
    rw [hz, ht]
    simp [splL, headApp]
  | succ d ih =>
    intro n fr out hn hf ho
    have hlt : n < s.data.toList.length := by omega
    have hb : bt s (n : Int) = ((s.data.toList[n]).toNat : Int) := bt_nat s n _ (List.getElem?_eq_getElem hlt)
    have hd : s.data.toList.drop n = s.data.toList[n] :: s.data.toList.drop (n + 1) := List.drop_eq_getElem_cons hlt
    by_cases hc : s.data.toList[n] = c
    · refine Ev.step (f := fun k => spec_l1Split.l0 k s (c.toNat : Int) (out ++ [s.extract fr n]) ((n + 1 : Nat) : Int) ((n + 1 : Nat) : Int)) (fun k => by
        simp only [spec_l1Split.l0]
        rw [if_pos (by omega), if_pos (by omega), if_pos (by rw [hb, hc]), if_pos (by omega), if_pos (by omega), if_pos (by omega), if_pos (by omega), w1 (by omega), Int.toNat_natCast, Int.toNat_natCast]) ?_
      have := ih (n + 1) (n + 1) (out ++ [s.extract fr n]) (by omega) (by omega) (by simp; omega)
      rw [hd]
      unfold splL
      rw [if_pos hc]
      rw [List.drop_eq_nil_of_le (by simp; omega), headApp_nil (splL_ne c _), hx] at this
      simpa [headApp, hx] using this
    · refine Ev.step (f := fun k => spec_l1Split.l0 k s (c.toNat : Int) out fr ((n + 1 : Nat) : Int)) (fun k => by
        simp only [spec_l1Split.l0]
        rw [if_pos (by omega), if_pos (by omega), if_neg (by rw [hb]; intro e; exact hc (UInt8.toNat_inj.1 (by omega))), w1 (by omega)]) ?_
      have := ih (n + 1) fr out (by omega) (by omega) (by omega)
      rw [hd]
      unfold splL
      rw [if_neg hc, headApp_app]
      rw [List.take_succ_eq_append_getElem hlt, List.drop_append_of_le_length (by simp; omega)] at this
      exact this
theorem l1Split_ev (c : UInt8) (s : ByteArray) (hs : s.size ≤ 1048576) : Ev (fun k => spec_l1Split.f k s (c.toNat : Int)) ((splL c s.data.toList).map toBA) := by
  have := l1Split_loop c s hs s.size 0 0 [] (by omega) (by omega) (by simp)
  simp only [List.take_zero, List.drop_zero, List.drop_nil, List.nil_append] at this
  rw [headApp_nil (splL_ne c _)] at this
  exact this
/-- The pieces tell the text. -/
def joinL (c : UInt8) : List (List UInt8) → List UInt8
  | [] => []
  | [w] => w
  | w :: v :: r => w ++ c :: joinL c (v :: r)
theorem joinL_head (c b : UInt8) {ws : List (List UInt8)} (h : ws ≠ []) : joinL c (headApp [b] ws) = b :: joinL c ws := by
  match ws with
  | [] => exact absurd rfl h
  | [w] => rfl
  | w :: v :: r => rfl
theorem joinL_spl (c : UInt8) (l : List UInt8) : joinL c (splL c l) = l := by
  induction l with
  | nil => rfl
  | cons b l ih =>
    unfold splL
    by_cases h : b = c
    · rw [if_pos h]
      cases hw : splL c l with
      | nil => exact absurd hw (splL_ne c l)
      | cons w r => rw [hw] at ih; show [] ++ c :: joinL c (w :: r) = _; rw [ih, h]; rfl
    · rw [if_neg h, joinL_head c b (splL_ne c l), ih]
theorem joinL_len (c : UInt8) (m : Nat) : ∀ ws : List (List UInt8), (∀ w ∈ ws, w.length ≤ m) → ws ≠ [] → (joinL c ws).length + 1 ≤ ws.length * (m + 1)
  | [], _, h => absurd rfl h
  | [w], hm, _ => by have := hm w (by simp); simp [joinL]; omega
  | w :: v :: r, hm, _ => by
    have h1 := hm w (by simp)
    have h2 := joinL_len c m (v :: r) (fun x hx => hm x (by simp [hx])) (by simp)
    rw [joinL, List.length_append, List.length_cons, List.length_cons (a := w), Nat.succ_mul]
    omega
/-! ### Numbers between a byte -/
theorem dec_ge : ∀ (l : List UInt8) (acc n : Nat), Go.Lib.decFrom acc l = some n → acc * 10 ^ l.length ≤ n := by
  intro l
  induction l with
  | nil => intro acc n h; simp only [Go.Lib.decFrom, Option.some.injEq] at h; subst h; simp
  | cons c r ih =>
    intro acc n h
    simp only [Go.Lib.decFrom, dig_of] at h
    split at h
    · rename_i v hv
      have := ih _ _ h
      rw [List.length_cons, Nat.pow_succ]
      refine Nat.le_trans ?_ this
      rw [Nat.mul_comm (10 ^ r.length) 10, ← Nat.mul_assoc]
      exact Nat.mul_le_mul_right _ (by omega)
    · cases h
/-- A canonical number below 100 has at most two digits. -/
theorem rdw_two (w : List UInt8) (n : Nat) (h : rdw w = some n) (hn : n ≤ 99) : w.length ≤ 2 := by
  unfold rdw at h
  split at h
  · rename_i hc
    cases w with
    | nil => simp
    | cons c r =>
      rcases Nat.lt_or_ge 1 r.length with h1 | h1
      · have h48 : c ≠ 48 := by
          rcases hc.2 with h | h
          · exact fun e => h (by rw [e]; rfl)
          · rw [List.length_cons] at h; omega
        have hd := dec_digs _ _ _ h c (by simp)
        have hc49 : 49 ≤ c.toNat := by
          rcases Nat.lt_or_ge c.toNat 49 with hlt | hge
          · exact absurd (UInt8.toNat_inj.1 (show c.toNat = (48 : UInt8).toNat from by have : (48 : UInt8).toNat = 48 := rfl; omega)) h48
          · exact hge
        simp only [Go.Lib.decFrom, dig_of] at h
        rw [if_pos hd] at h
        have := dec_ge r _ n h
        have h10 : 10 ^ 2 ≤ 10 ^ r.length := Nat.pow_le_pow_right (by omega) (by omega)
        have : 1 * 10 ^ 2 ≤ n := Nat.le_trans (Nat.mul_le_mul (by omega) h10) this
        omega
      · simp; omega
  · cases h
theorem rdw_lt (w : List UInt8) (n : Nat) (h : rdw w = some n) (hl : w.length ≤ 2) : n ≤ 99 := by
  unfold rdw at h
  split at h
  · have := Go.Lib.decFrom_lt w 0 n h
    have h10 : 10 ^ w.length ≤ 10 ^ 2 := Nat.pow_le_pow_right (by omega) hl
    omega
  · cases h
theorem numR_ok (w : List UInt8) (h : (numR w 2).2 = true) : (numR w 2).1 = rdR w ∧ w.length ≤ 2 := by
  unfold numR at h ⊢
  split at h
  · rename_i hl
    rw [if_pos hl]
    unfold rdR; rw [if_pos (by omega)]
    cases hw : rdw w with
    | none => rw [hw] at h; cases h
    | some n => exact ⟨rfl, hl⟩
  · cases h
theorem numR_of (w : List UInt8) (h0 : 0 ≤ rdR w) (h1 : rdR w ≤ 99) : (numR w 2).2 = true := by
  unfold rdR at h0 h1
  split at h0
  · rename_i h6
    rw [if_pos h6] at h1
    cases hw : rdw w with
    | none => rw [hw] at h0; simp at h0
    | some n =>
      rw [hw] at h1
      have := rdw_two w n hw (by simp at h1; omega)
      unfold numR; rw [if_pos this, hw]
  · simp at h0
def okAll (ws : List (List UInt8)) : Bool := ws.all fun w => (numR w 2).2
def partR (ws : List (List UInt8)) (most : Nat) : List Int × Bool := if ws.length ≤ most ∧ okAll ws = true then (ws.map rdR, true) else ([], false)
theorem rdOf_map (ws : List (List UInt8)) (n : Nat) (h : n < ws.length) : rdOf ByteArray.empty (ws.map toBA) (n : Int) = toBA ws[n] := by
  show (ws.map toBA).getD ((n : Int)).toNat ByteArray.empty = _
  rw [Int.toNat_natCast, List.getD_eq_getElem?_getD, List.getElem?_map, List.getElem?_eq_getElem h]; rfl
theorem splL_small (c : UInt8) (l : List UInt8) : ∀ w ∈ splL c l, w.length ≤ l.length := by
  induction l with
  | nil => intro w hw; simp [splL] at hw; subst hw; simp
  | cons b l ih =>
    intro w hw
    unfold splL at hw
    by_cases h : b = c
    · rw [if_pos h] at hw
      rcases List.mem_cons.1 hw with rfl | hw
      · simp
      · have := ih w hw; simp; omega
    · rw [if_neg h] at hw
      cases hv : splL c l with
      | nil => exact absurd hv (splL_ne c l)
      | cons v r =>
        rw [hv] at hw ih
        rcases List.mem_cons.1 hw with rfl | hw
        · have := ih v (by simp); simp; omega
        · have := ih w (by simp [hw]); simp; omega
theorem count_le_size (c : UInt8) (s : ByteArray) : s.data.toList.count c ≤ s.size := by rw [← list_size]; exact List.count_le_length
theorem okAll_iff (ws : List (List UInt8)) : okAll ws = true ↔ ∀ w ∈ ws, (numR w 2).2 = true := by unfold okAll; rw [List.all_eq_true]
/-- Where all numbers lie between 0 and 99 the program reads them, too. -/
theorem partR_good (ws : List (List UInt8)) (most : Nat) (h : ws.length ≤ most) (hv : ∀ x ∈ ws.map rdR, 0 ≤ x ∧ x ≤ 99) : partR ws most = (ws.map rdR, true) := by
  unfold partR
  rw [if_pos ⟨h, (okAll_iff ws).2 fun w hw => numR_of w (hv _ (List.mem_map_of_mem hw)).1 (hv _ (List.mem_map_of_mem hw)).2⟩]
theorem partR_else (ws : List (List UInt8)) (most : Nat) : partR ws most = (ws.map rdR, true) ∧ ws.length ≤ most ∨ partR ws most = ([], false) := by
  unfold partR
  split
  · exact .inl ⟨rfl, by rename_i h; exact h.1⟩
  · exact .inr rfl
/-- .. and the text is short. -/
theorem good_short (c : UInt8) (l : List UInt8) (most : Nat) (h : (splL c l).length ≤ most) (hv : ∀ x ∈ (splL c l).map rdR, 0 ≤ x ∧ x ≤ 99) : l.length + 1 ≤ most * 3 := by
  have hw : ∀ w ∈ splL c l, w.length ≤ 2 := fun w hw => (numR_ok w (numR_of w (hv _ (List.mem_map_of_mem hw)).1 (hv _ (List.mem_map_of_mem hw)).2)).2
  have := joinL_len c 2 (splL c l) hw (splL_ne c l)
  rw [joinL_spl] at this
  have : (splL c l).length * 3 ≤ most * 3 := Nat.mul_le_mul_right _ h
  omega
/-! ### A text cut at a byte -/
theorem cut_cons (b c : UInt8) (l : List UInt8) : Go.Lib.cut (b :: l) [c] = if b = c then ([], l, true) else (b :: (Go.Lib.cut l [c]).1, (Go.Lib.cut l [c]).2.1, (Go.Lib.cut l [c]).2.2) := by
  have hge := Go.Lib.index_ge l [c]
  unfold Go.Lib.cut
  rw [index_cons]
  by_cases h : b = c
  · subst h; simp
  · simp only [if_neg h]
    by_cases hm : Go.Lib.index l [c] = -1
    · simp [hm]
    · obtain ⟨j, hj⟩ : ∃ j : Nat, Go.Lib.index l [c] = j := ⟨(Go.Lib.index l [c]).toNat, by omega⟩
      have e1 : ((j : Int) + 1).toNat = j + 1 := by omega
      have n1 : ¬ ((j : Int) = -1) := by omega
      have n2 : (0 : Int) ≤ (j : Int) + 1 := by omega
      have n3 : (0 : Int) ≤ (j : Int) := by omega
      simp [hj, n1, n2, n3, e1]
theorem cut_nil (c : UInt8) : Go.Lib.cut [] [c] = ([], [], false) := by simp [Go.Lib.cut, Go.Lib.index]
/-- Where the byte stands in front of a text without it, and a rest. -/
theorem cut_at (c : UInt8) (a r : List UInt8) (h : c ∉ a) : Go.Lib.cut (a ++ c :: r) [c] = (a, r, true) := by
  induction a with
  | nil => rw [List.nil_append, cut_cons, if_pos rfl]
  | cons b a ih =>
    rw [List.cons_append, cut_cons, if_neg (fun e => h (by simp [e])), ih (fun x => h (by simp [x]))]
theorem cut_not (c : UInt8) (l : List UInt8) (h : c ∉ l) : Go.Lib.cut l [c] = (l, [], false) := by
  induction l with
  | nil => exact cut_nil c
  | cons b l ih => rw [cut_cons, if_neg (fun e => h (by simp [e])), ih (fun x => h (by simp [x]))]
theorem splL_at (c : UInt8) (a r : List UInt8) (h : c ∉ a) : splL c (a ++ c :: r) = a :: splL c r := by
  induction a with
  | nil => rw [List.nil_append, splL, if_pos rfl]
  | cons b a ih =>
    rw [List.cons_append, splL, if_neg (fun e => h (by simp [e])), ih (fun x => h (by simp [x]))]; rfl
theorem splL_not (c : UInt8) (l : List UInt8) (h : c ∉ l) : splL c l = [l] := splL_none c l (List.count_eq_zero.2 h)
theorem at_byte (c : UInt8) (l : List UInt8) : c ∉ l ∨ ∃ a r, c ∉ a ∧ l = a ++ c :: r := by
  induction l with
  | nil => exact .inl (by simp)
  | cons b l ih =>
    by_cases h : b = c
    · exact .inr ⟨[], l, by simp, by simp [h]⟩
    · rcases ih with hn | ⟨a, r, ha, rfl⟩
      · exact .inl (by simp [Ne.symm h, hn])
      · exact .inr ⟨b :: a, r, by simp [Ne.symm h, ha], rfl⟩
/-- Two pieces: the cut gives just them. -/
theorem spl_two (c : UInt8) (l a r : List UInt8) (h : splL c l = [a, r]) : c ∉ a ∧ c ∉ r ∧ l = a ++ c :: r := by
  rcases at_byte c l with hn | ⟨a', r', ha, rfl⟩
  · rw [splL_not c l hn] at h; simp at h
  · rw [splL_at c a' r' ha] at h
    simp only [List.cons.injEq] at h
    obtain ⟨rfl, h⟩ := h
    rcases at_byte c r' with hn | ⟨a2, r2, ha2, rfl⟩
    · rw [splL_not c r' hn] at h
      simp only [List.cons.injEq, and_true] at h
      subst h
      exact ⟨ha, hn, rfl⟩
    · rw [splL_at c a2 r2 ha2] at h
      simp only [List.cons.injEq] at h
      exact absurd h.2 (splL_ne c r2)
theorem spl_pair (c : UInt8) (a r : List UInt8) (ha : c ∉ a) (hr : c ∉ r) : splL c (a ++ c :: r) = [a, r] := by rw [splL_at c a r ha, splL_not c r hr]
theorem numR_digs (w : List UInt8) (h : (numR w 2).2 = true) : 1 ≤ w.length ∧ ∀ c ∈ w, 48 ≤ c.toNat ∧ c.toNat ≤ 57 := by
  unfold numR at h
  split at h
  · cases hw : rdw w with
    | none => rw [hw] at h; cases h
    | some n =>
      unfold rdw at hw
      split at hw
      · rename_i hc; exact ⟨hc.1, dec_digs w 0 n hw⟩
      · cases hw
  · cases h
theorem numR_not (w : List UInt8) (h : (numR w 2).2 = true) (c : UInt8) (hc : ¬ (48 ≤ c.toNat ∧ c.toNat ≤ 57)) : c ∉ w := fun hm => hc ((numR_digs w h).2 c hm)
theorem numR_val (w : List UInt8) (h : (numR w 2).2 = true) : ∃ n : Nat, rdR w = (n : Int) ∧ (numR w 2).1 = (n : Int) ∧ n ≤ 99 ∧ rdw w = some n := by
  have hk := numR_ok w h
  unfold numR at h ⊢
  split at h
  · rename_i hl
    cases hw : rdw w with
    | none => rw [hw] at h; cases h
    | some n =>
      refine ⟨n, ?_, ?_, rdw_lt w n hw hl, rfl⟩
      · unfold rdR; rw [if_pos (by omega), hw]
      · rw [if_pos hl]
  · cases h
theorem Cut_is (s : ByteArray) (c : UInt8) (hs : s.size ≤ 1048576) : strings_Cut.f s (⟨#[c]⟩ : ByteArray) = some (toBA (Go.Lib.cut s.data.toList [c]).1, toBA (Go.Lib.cut s.data.toList [c]).2.1, (Go.Lib.cut s.data.toList [c]).2.2) := by
  unfold strings_Cut.f; rw [if_pos (by omega)]; rfl
theorem cut_len (c : UInt8) (l : List UInt8) : (Go.Lib.cut l [c]).1.length ≤ l.length ∧ (Go.Lib.cut l [c]).2.1.length ≤ l.length := by
  rcases at_byte c l with hn | ⟨a, r, ha, rfl⟩
  · rw [cut_not c l hn]; simp
  · rw [cut_at c a r ha]; simp only [List.length_append, List.length_cons]; omega
/-! ### The decimal text of a small number -/
def numB (n : Nat) : ByteArray := ⟨(Go.Lib.decDigits n).toArray⟩
theorem digit_is : ∀ d : Nat, d < 10 → strOfNums [(wrap64 (48 + (d : Int))) % 256] = (⟨#[UInt8.ofNat (48 + d)]⟩ : ByteArray) := by decide +kernel
theorem numB_one (n : Nat) (h : n < 10) : numB n = (⟨#[UInt8.ofNat (48 + n)]⟩ : ByteArray) := by
  unfold numB; rw [Go.Lib.decDigits, dif_pos h]
theorem numB_two (n : Nat) (h : ¬ n < 10) (h2 : n < 100) : numB n = (⟨#[UInt8.ofNat (48 + n / 10)]⟩ : ByteArray) ++ (⟨#[UInt8.ofNat (48 + n % 10)]⟩ : ByteArray) := by
  unfold numB; rw [Go.Lib.decDigits, dif_neg h, Go.Lib.decDigits, dif_pos (by omega)]
  apply ByteArray.ext
  rw [ByteArray.data_append]
  simp
theorem numB_size (n : Nat) (h : n < 100) : (numB n).size ≤ 2 := by
  by_cases h1 : n < 10
  · rw [numB_one n h1]; exact (by decide : (1 : Nat) ≤ 2)
  · rw [numB_two n h1 h, ByteArray.size_append]; exact (by decide : (1 : Nat) + 1 ≤ 2)
theorem l1Num_one (n : Nat) (h : n < 10) (k : Nat) : spec_l1Num.f (k + 1) (n : Int) = some (numB n) := by
  simp only [spec_l1Num.f]
  rw [if_pos (by omega), digit_is n h, numB_one n h]
theorem l1Num_ev (n : Nat) (h : n < 100) : Ev (fun k => spec_l1Num.f k (n : Int)) (numB n) := by
  by_cases h1 : n < 10
  · exact ev_late 1 fun k => l1Num_one n h1 k
  · refine ev_late 2 fun k => ?_
    rw [show spec_l1Num.f (k + 2) (n : Int) = spec_l1Num.f (k + 1 + 1) (n : Int) from rfl, spec_l1Num.f]
    have hd : Int.tdiv (n : Int) 10 = ((n / 10 : Nat) : Int) := by rw [Int.tdiv_eq_ediv_of_nonneg (by omega)]; omega
    have hm : Int.tmod (n : Int) 10 = ((n % 10 : Nat) : Int) := by rw [Int.tmod_eq_emod_of_nonneg (by omega)]; omega
    rw [if_neg (by omega), hd, hm, w0 (by omega) (by omega), l1Num_one (n / 10) (by omega) k]
    simp only [Option.bind_some]
    rw [digit_is (n % 10) (by omega), numB_one (n / 10) (by omega), if_pos (by exact (by decide : (1 : Nat) + 1 ≤ 9223372036854775807)), numB_two n h1 h]
/-! ### The text of numbers -/
theorem rdw_text (w : List UInt8) (n : Nat) (h : rdw w = some n) (hn : n ≤ 99) : numB n = toBA w := by
  have h2 := rdw_two w n h hn
  have hh := h
  unfold rdw at hh
  split at hh
  · rename_i hc
    match w, h2, hc, hh with
    | [c], _, _, hh =>
      simp only [Go.Lib.decFrom, dig_of] at hh
      by_cases hd : 48 ≤ c.toNat ∧ c.toNat ≤ 57
      · rw [if_pos hd] at hh
        simp only [Go.Lib.decFrom, Option.some.injEq] at hh
        subst hh
        rw [numB_one _ (by omega)]
        have : UInt8.ofNat (48 + (0 * 10 + (c.toNat - 48))) = c := by
          rw [show 48 + (0 * 10 + (c.toNat - 48)) = c.toNat by omega]; exact UInt8.ofNat_toNat
        rw [this]; rfl
      · rw [if_neg hd] at hh; cases hh
    | [c, e], _, hc, hh =>
      simp only [Go.Lib.decFrom, dig_of] at hh
      by_cases hd : 48 ≤ c.toNat ∧ c.toNat ≤ 57
      · rw [if_pos hd] at hh
        by_cases he : 48 ≤ e.toNat ∧ e.toNat ≤ 57
        · simp only [if_pos he, Go.Lib.decFrom, Option.some.injEq] at hh
          have hc48 : c ≠ 48 := by
            rcases hc.2 with h | h
            · exact fun x => h (by rw [x]; rfl)
            · simp at h
          have h49 : 49 ≤ c.toNat := by
            rcases Nat.lt_or_ge c.toNat 49 with hlt | hge
            · exact absurd (UInt8.toNat_inj.1 (show c.toNat = (48 : UInt8).toNat from by have : (48 : UInt8).toNat = 48 := rfl; omega)) hc48
            · exact hge
          subst hh
          rw [numB_two _ (by omega) (by omega)]
          have e1 : UInt8.ofNat (48 + ((0 * 10 + (c.toNat - 48)) * 10 + (e.toNat - 48)) / 10) = c := by
            rw [show 48 + ((0 * 10 + (c.toNat - 48)) * 10 + (e.toNat - 48)) / 10 = c.toNat by omega]; exact UInt8.ofNat_toNat
          have e2 : UInt8.ofNat (48 + ((0 * 10 + (c.toNat - 48)) * 10 + (e.toNat - 48)) % 10) = e := by
            rw [show 48 + ((0 * 10 + (c.toNat - 48)) * 10 + (e.toNat - 48)) % 10 = e.toNat by omega]; exact UInt8.ofNat_toNat
          rw [e1, e2]; rfl
        · rw [if_neg he] at hh; cases hh
      · rw [if_neg hd] at hh; cases hh
    | [], _, hc, _ => exact absurd hc.1 (by simp)
    | _ :: _ :: _ :: _, h2, _, _ => simp at h2
  · cases hh
theorem toBA_app (a b : List UInt8) : toBA a ++ toBA b = toBA (a ++ b) := by
  apply ByteArray.ext; rw [ByteArray.data_append]; simp [toBA]
theorem rdR_some (w : List UInt8) (h0 : 0 ≤ rdR w) (h1 : rdR w ≤ 99) : ∃ n : Nat, rdR w = (n : Int) ∧ n ≤ 99 ∧ numB n = toBA w := by
  unfold rdR at h0 h1 ⊢
  split at h0
  · rename_i h6
    rw [if_pos h6] at h1
    cases hw : rdw w with
    | none => rw [hw] at h0; simp at h0
    | some n =>
      rw [hw] at h1
      have hn : n ≤ 99 := by simp at h1; omega
      exact ⟨n, by rw [if_pos h6], hn, rdw_text w n hw hn⟩
  · simp at h0
theorem l1Num_rd (w : List UInt8) (h0 : 0 ≤ rdR w) (h1 : rdR w ≤ 99) : Ev (fun k => spec_l1Num.f k (rdR w)) (toBA w) := by
  obtain ⟨n, e, hn, ht⟩ := rdR_some w h0 h1
  rw [e, ← ht]
  exact l1Num_ev n (by omega)
theorem l1In_is (n a b : Int) : spec_l1In.f n a b = some (decide (a ≤ n ∧ n ≤ b)) := by
  unfold spec_l1In.f; by_cases h : n ≥ a <;> simp [h] <;> omega
theorem within_is (n a b : Int) : impl_within.f n a b = some (decide (a ≤ n ∧ n ≤ b)) := by
  unfold impl_within.f; by_cases h : a ≤ n <;> simp [h]
theorem itoa_is (n : Nat) (h : n < 100) : strconv_Itoa.f (n : Int) = some (numB n) := by
  unfold strconv_Itoa.f; rw [if_pos (by omega)]; rfl
def washB (a b c : Int) : Bool := decide (1 ≤ a ∧ a ≤ 30) && (decide (1 ≤ b ∧ b ≤ 30) && decide (1 ≤ c ∧ c ≤ 30))
def washT (a b c : Nat) : ByteArray := ((((numB a ++ (⟨#[119]⟩ : ByteArray)) ++ numB b) ++ (⟨#[100]⟩ : ByteArray)) ++ numB c)
theorem good_is (a b c : Int) : spec_dyGood.f a b c = some (washB a b c) := by
  unfold spec_dyGood.f washB
  simp only [l1In_is, Option.bind_some]
  by_cases h1 : 1 ≤ a ∧ a ≤ 30 <;> by_cases h2 : 1 ≤ b ∧ b ≤ 30 <;> simp [h1, h2]
theorem wash_is (a b c : Int) : impl_IsWash.f a b c = some (washB a b c) := by
  unfold impl_IsWash.f impl_areTimes.f washB
  simp only [within_is, Option.bind_some]
  by_cases h1 : 1 ≤ a ∧ a ≤ 30 <;> by_cases h2 : 1 ≤ b ∧ b ≤ 30 <;> simp [h1, h2]
theorem sizes (a b c : Nat) (ha : a < 100) (hb : b < 100) (hc : c < 100) : (numB a).size + 1 ≤ 9223372036854775807 ∧ (numB a ++ (⟨#[119]⟩ : ByteArray)).size + (numB b).size ≤ 9223372036854775807 ∧ ((numB a ++ (⟨#[119]⟩ : ByteArray)) ++ numB b).size + 1 ≤ 9223372036854775807 ∧ (((numB a ++ (⟨#[119]⟩ : ByteArray)) ++ numB b) ++ (⟨#[100]⟩ : ByteArray)).size + (numB c).size ≤ 9223372036854775807 := by
  have h1 := numB_size a ha
  have h2 := numB_size b hb
  have h3 := numB_size c hc
  have e1 : (⟨#[119]⟩ : ByteArray).size = 1 := rfl
  have e2 : (⟨#[100]⟩ : ByteArray).size = 1 := rfl
  simp only [ByteArray.size_append, e1, e2]; omega
theorem text_is (a b c : Nat) (ha : a < 100) (hb : b < 100) (hc : c < 100) : impl_Wash_text.f a b c = some (washT a b c) := by
  obtain ⟨s1, s2, s3, s4⟩ := sizes a b c ha hb hc
  unfold impl_Wash_text.f
  simp only [itoa_is a ha, itoa_is b hb, itoa_is c hc, Option.bind_some, if_pos s1, if_pos s2, if_pos s3, if_pos s4]
  rfl
theorem dyText_ev (a b c : Nat) (ha : a < 100) (hb : b < 100) (hc : c < 100) : Ev (fun k => spec_dyText.f k a b c) (washT a b c) := by
  obtain ⟨s1, s2, s3, s4⟩ := sizes a b c ha hb hc
  unfold spec_dyText.f
  refine (l1Num_ev a ha).bind ?_
  simp only [if_pos s1]
  refine (l1Num_ev b hb).bind ?_
  simp only [if_pos s2, if_pos s3]
  refine (l1Num_ev c hc).bind ?_
  simp only [if_pos s4]
  exact Ev.now _
abbrev W4 := Int × Int × Int × Bool
def fail : W4 := (0, 0, 0, false)
/-- What is right: three numbers, and the text is theirs. -/
def Tells (l : List UInt8) (a b c : List UInt8) : Prop := l = a ++ 119 :: (b ++ 100 :: c) ∧ (numR a 2).2 = true ∧ (numR b 2).2 = true ∧ (numR c 2).2 = true ∧ washB (rdR a) (rdR b) (rdR c) = true
theorem no119 {w : List UInt8} (h : (numR w 2).2 = true) : (119 : UInt8) ∉ w := numR_not w h 119 (by decide)
theorem no100 {w : List UInt8} (h : (numR w 2).2 = true) : (100 : UInt8) ∉ w := numR_not w h 100 (by decide)
theorem tells_text {l a b c : List UInt8} (h : Tells l a b c) (x y z : Nat) (hx : rdw a = some x ∧ x ≤ 99) (hy : rdw b = some y ∧ y ≤ 99) (hz : rdw c = some z ∧ z ≤ 99) : washT x y z = toBA l := by
  unfold washT
  rw [rdw_text a x hx.1 hx.2, rdw_text b y hy.1 hy.2, rdw_text c z hz.1 hz.2, h.1]
  rw [show (⟨#[119]⟩ : ByteArray) = toBA [119] from rfl, show (⟨#[100]⟩ : ByteArray) = toBA [100] from rfl]
  simp only [toBA_app]
  simp
theorem washB_in {a b c : Int} (h : washB a b c = true) : (0 ≤ a ∧ a ≤ 99) ∧ (0 ≤ b ∧ b ≤ 99) ∧ (0 ≤ c ∧ c ≤ 99) := by
  unfold washB at h
  simp only [Bool.and_eq_true, decide_eq_true_eq] at h
  omega
theorem BA_list {s t : ByteArray} (h : s.toList = t.toList) : s = t := by
  rw [Go.ByteArray.toList_eq, Go.ByteArray.toList_eq] at h
  rw [← toBA_of s, ← toBA_of t, h]
theorem num_ba (w : List UInt8) (hw : w.length ≤ 1048576) : impl_number.f (toBA w) 2 = some (numR w 2) := by
  have := number_is (toBA w) 2 (by omega) (by omega) (by have h2 := list_size (toBA w); rw [toBA_data] at h2; omega)
  rw [toBA_data] at this; exact this
/-- The program: right, or not. -/
theorem implWash (s : ByteArray) (hs : s.size ≤ 1048576) : (∃ a b c, Tells s.data.toList a b c ∧ impl_ParseWash.f s = some (rdR a, rdR b, rdR c, true)) ∨ ((∀ a b c, ¬ Tells s.data.toList a b c) ∧ impl_ParseWash.f s = some fail) := by
  have hl := list_size s
  by_cases ht : ∃ a b c, Tells s.data.toList a b c
  · obtain ⟨a, b, c, h⟩ := ht
    refine .inl ⟨a, b, c, h, ?_⟩
    obtain ⟨x, ex, nx, lx, wx⟩ := numR_val a h.2.1
    obtain ⟨y, ey, ny, ly, wy⟩ := numR_val b h.2.2.1
    obtain ⟨z, ez, nz, lz, wz⟩ := numR_val c h.2.2.2.1
    have la := (numR_ok a h.2.1).2
    have lb := (numR_ok b h.2.2.1).2
    have lc := (numR_ok c h.2.2.2.1).2
    have hlen := congrArg List.length h.1
    simp only [List.length_append, List.length_cons] at hlen
    have c1 : Go.Lib.cut s.data.toList [119] = (a, b ++ 100 :: c, true) := by rw [h.1]; exact cut_at 119 a _ (no119 h.2.1)
    have c2 : Go.Lib.cut (b ++ 100 :: c) [100] = (b, c, true) := cut_at 100 b _ (no100 h.2.2.1)
    have sz : (toBA (b ++ 100 :: c)).size ≤ 1048576 := by rw [← list_size, toBA_data, List.length_append, List.length_cons]; omega
    unfold impl_ParseWash.f
    rw [if_neg (by omega), Cut_is s 119 hs, c1]
    simp only [Option.bind_some]
    rw [Cut_is _ 100 sz, toBA_data, c2]
    simp only [Option.bind_some, num_ba a (by omega), num_ba b (by omega), num_ba c (by omega), h.2.1, h.2.2.1, h.2.2.2.1, if_true, nx, ny, nz, wash_is]
    have hw := h.2.2.2.2
    rw [ex, ey, ez] at hw
    simp only [hw, if_true, text_is x y z (by omega) (by omega) (by omega), Option.bind_some]
    rw [tells_text h x y z ⟨wx, lx⟩ ⟨wy, ly⟩ ⟨wz, lz⟩, toBA_of, if_pos rfl, ex, ey, ez]
  · refine .inr ⟨fun a b c h => ht ⟨a, b, c, h⟩, ?_⟩
    unfold impl_ParseWash.f
    by_cases h10 : (s.size : Int) > 10
    · rw [if_pos h10]; rfl
    · rw [if_neg h10, Cut_is s 119 hs]
      simp only [Option.bind_some]
      have k1 := cut_len 119 s.data.toList
      generalize hc1 : Go.Lib.cut s.data.toList [119] = q at k1 ⊢
      obtain ⟨a, r, f1⟩ := q
      simp only at k1 ⊢
      rw [Cut_is _ 100 (by rw [← list_size, toBA_data]; omega), toBA_data]
      simp only [Option.bind_some]
      have k2 := cut_len 100 r
      generalize hc2 : Go.Lib.cut r [100] = q at k2 ⊢
      obtain ⟨b, c, f2⟩ := q
      simp only at k2 ⊢
      rw [num_ba a (by omega), num_ba b (by omega), num_ba c (by omega)]
      simp only [Option.bind_some]
      by_cases ha : (numR a 2).2 = true
      · by_cases hb : (numR b 2).2 = true
        · by_cases hc : (numR c 2).2 = true
          · simp only [ha, hb, hc, if_true, wash_is, Option.bind_some]
            obtain ⟨x, ex, nx, lx, wx⟩ := numR_val a ha
            obtain ⟨y, ey, ny, ly, wy⟩ := numR_val b hb
            obtain ⟨z, ez, nz, lz, wz⟩ := numR_val c hc
            rw [nx, ny, nz]
            by_cases hw : washB x y z = true
            · exfalso
              refine ht ⟨a, b, c, ?_, ha, hb, hc, by rw [ex, ey, ez]; exact hw⟩
              have e2 : r = b ++ 100 :: c := by
                rcases at_byte 100 r with hn | ⟨b', c', hb', rfl⟩
                · rw [cut_not 100 r hn] at hc2
                  have : c = [] := by simpa using (congrArg (fun q => q.2.1) hc2).symm
                  have := (numR_digs c hc).1
                  simp_all
                · rw [cut_at 100 b' c' hb'] at hc2
                  simp only [Prod.mk.injEq] at hc2
                  rw [hc2.1, hc2.2.1]
              rcases at_byte 119 s.data.toList with hn | ⟨a', r', ha', he⟩
              · rw [cut_not 119 _ hn] at hc1
                have : r = [] := by simpa using (congrArg (fun q => q.2.1) hc1).symm
                rw [this] at e2
                have := congrArg List.length e2
                simp at this
              · rw [he, cut_at 119 a' r' ha'] at hc1
                simp only [Prod.mk.injEq] at hc1
                rw [he, hc1.1, hc1.2.1, e2]
            · rw [if_neg hw]; rfl
          · simp only [ha, hb, hc, if_true, Bool.false_eq_true, if_false]; rfl
        · simp only [ha, hb, if_true, Bool.false_eq_true, if_false]; rfl
      · simp only [ha, Bool.false_eq_true, if_false]; rfl
theorem rd0 (w : List UInt8) (ws : List (List UInt8)) : rdOf ByteArray.empty ((w :: ws).map toBA) 0 = toBA w := rdOf_map (w :: ws) 0 (by simp)
theorem rd1 (w v : List UInt8) (ws : List (List UInt8)) : rdOf ByteArray.empty ((w :: v :: ws).map toBA) 1 = toBA v := rdOf_map (w :: v :: ws) 1 (by simp)
theorem dyParse_j0 (s : ByteArray) (hs : s.size ≤ 1048576) (ws : List ByteArray) : Ev (fun k => spec_dyParse.j0 k s ws true) fail := ev_late 1 fun k => by simp only [spec_dyParse.j0, if_true]; rfl
theorem read_ba (w : List UInt8) (hw : w.length ≤ 1048576) : Ev (fun k => spec_l1Read.f k (toBA w)) (rdR w) := by
  have := l1Read_ev (toBA w) (by have h2 := list_size (toBA w); rw [toBA_data] at h2; omega)
  rw [toBA_data] at this; exact this
def dyMid (k : Nat) (s : ByteArray) (a : List UInt8) (t128 : List ByteArray) : Option W4 := (if (t128.length : Int) = 2 then ((spec_l1Read.f k (toBA a)).bind fun t132 => (if 0 < (t128.length : Int) then ((spec_l1Read.f k (rdOf ByteArray.empty t128 0)).bind fun t134 => (if 1 < (t128.length : Int) then ((spec_l1Read.f k (rdOf ByteArray.empty t128 1)).bind fun t136 => ((spec_dyGood.f t132 t134 t136).bind fun t138 => (if t138 = true then ((spec_dyText.f k t132 t134 t136).bind fun t139 => (some (t132, t134, t136, (t139.toList == s.toList)))) else (some (t132, t134, t136, false))))) else (none))) else (none))) else (some (0, 0, 0, false)))
theorem dy_two (s : ByteArray) (a r : List UInt8) (res : W4) (h : Ev (fun k => (spec_l1Split.f k (toBA r) 100).bind fun t => dyMid k s a t) res) : Ev (fun k => spec_dyParse.j0 k s ([a, r].map toBA) ((([a, r].map toBA).length : Int) != 2)) res := by
  refine Ev.step (fun k => ?_) h
  simp only [spec_dyParse.j0, rd0, rd1]
  rw [if_neg (by simp), if_pos (by simp)]
  unfold dyMid
  simp
theorem dy_in (s : ByteArray) (a b c : List UInt8) (ha : a.length ≤ 1048576) (hb : b.length ≤ 1048576) (hc : c.length ≤ 1048576) (res : W4)
    (h : Ev (fun k => if washB (rdR a) (rdR b) (rdR c) = true then ((spec_dyText.f k (rdR a) (rdR b) (rdR c)).bind fun t => some (rdR a, rdR b, rdR c, (t.toList == s.toList))) else some (rdR a, rdR b, rdR c, false)) res) : Ev (fun k => dyMid k s a ([b, c].map toBA)) res := by
  have r0 := rd0 b [c]
  have r1 := rd1 b c []
  unfold dyMid
  simp only [r0, r1]
  simp only [List.map_cons, List.map_nil, List.length_cons, List.length_nil]
  simp only [show (((0 + 1 + 1 : Nat) : Int) = 2) from rfl, show (0 : Int) < ((0 + 1 + 1 : Nat) : Int) from by omega, show (1 : Int) < ((0 + 1 + 1 : Nat) : Int) from by omega, if_true]
  refine (read_ba a ha).bind ?_
  refine (read_ba b hb).bind ?_
  refine (read_ba c hc).bind ?_
  simp only [good_is, Option.bind_some]
  exact h
theorem two_of {ws : List (List UInt8)} (h : ws.length = 2) : ∃ a b, ws = [a, b] := by
  match ws, h with
  | [a, b], _ => exact ⟨a, b, rfl⟩
theorem list_beq {s t : ByteArray} (h : ¬ s = t) : (s.toList == t.toList) = false := by
  rw [beq_eq_false_iff_ne]; exact fun e => h (BA_list e)
/-- The reference: the same. -/
theorem specWash (s : ByteArray) (hs : s.size ≤ 1048576) : (∃ a b c, Tells s.data.toList a b c ∧ Ev (fun k => spec_dyParse.f k s) (rdR a, rdR b, rdR c, true)) ∨ ((∀ a b c, ¬ Tells s.data.toList a b c) ∧ ∃ r : W4, r.2.2.2 = false ∧ Ev (fun k => spec_dyParse.f k s) r) := by
  have hl := list_size s
  by_cases ht : ∃ a b c, Tells s.data.toList a b c
  · obtain ⟨a, b, c, h⟩ := ht
    refine .inl ⟨a, b, c, h, ?_⟩
    obtain ⟨x, ex, nx, lx, wx⟩ := numR_val a h.2.1
    obtain ⟨y, ey, ny, ly, wy⟩ := numR_val b h.2.2.1
    obtain ⟨z, ez, nz, lz, wz⟩ := numR_val c h.2.2.2.1
    have la := (numR_ok a h.2.1).2
    have lb := (numR_ok b h.2.2.1).2
    have lc := (numR_ok c h.2.2.2.1).2
    have hlen := congrArg List.length h.1
    simp only [List.length_append, List.length_cons] at hlen
    have s1 : splL 119 s.data.toList = [a, b ++ 100 :: c] := by
      rw [h.1]; exact spl_pair 119 a _ (no119 h.2.1) (by simp [no119 h.2.2.1, no119 h.2.2.2.1])
    have s2 : splL 100 (b ++ 100 :: c) = [b, c] := spl_pair 100 b c (no100 h.2.2.1) (no100 h.2.2.2.1)
    have sz : (toBA (b ++ 100 :: c)).size ≤ 1048576 := by rw [← list_size, toBA_data, List.length_append, List.length_cons]; omega
    unfold spec_dyParse.f
    have e1 := l1Split_ev 119 s hs
    rw [s1] at e1
    refine e1.bind ?_
    simp only [if_neg (show ¬ (s.size : Int) > 8 by omega)]
    refine dy_two s a (b ++ 100 :: c) _ ?_
    have e2 := l1Split_ev 100 (toBA (b ++ 100 :: c)) sz
    rw [toBA_data, s2] at e2
    refine e2.bind ?_
    refine dy_in s a b c (by omega) (by omega) (by omega) _ ?_
    have hw := h.2.2.2.2
    rw [ex, ey, ez] at hw ⊢
    simp only [hw, if_true]
    refine (dyText_ev x y z (by omega) (by omega) (by omega)).bind ?_
    rw [tells_text h x y z ⟨wx, lx⟩ ⟨wy, ly⟩ ⟨wz, lz⟩, toBA_of]
    simp only [beq_self_eq_true]
    exact Ev.now _
  · refine .inr ⟨fun a b c h => ht ⟨a, b, c, h⟩, ?_⟩
    have e1 := l1Split_ev 119 s hs
    unfold spec_dyParse.f
    by_cases h8 : (s.size : Int) > 8
    · refine ⟨fail, rfl, e1.bind ?_⟩
      simp only [if_pos h8]
      exact dyParse_j0 s hs _
    by_cases h2 : (splL 119 s.data.toList).length = 2
    · obtain ⟨a, r, hs1⟩ := two_of h2
      obtain ⟨na, nr, hl1⟩ := spl_two 119 _ a r hs1
      have hlen := congrArg List.length hl1
      simp only [List.length_append, List.length_cons] at hlen
      rw [hs1] at e1
      have sz : (toBA r).size ≤ 1048576 := by rw [← list_size, toBA_data]; omega
      have e2 := l1Split_ev 100 (toBA r) sz
      rw [toBA_data] at e2
      by_cases h3 : (splL 100 r).length = 2
      · obtain ⟨b, c, hs2⟩ := two_of h3
        obtain ⟨nb, nc, hl2⟩ := spl_two 100 _ b c hs2
        have hlen2 := congrArg List.length hl2
        simp only [List.length_append, List.length_cons] at hlen2
        rw [hs2] at e2
        by_cases hw : washB (rdR a) (rdR b) (rdR c) = true
        · have hi := washB_in hw
          have oa := numR_of a hi.1.1 hi.1.2
          have ob := numR_of b hi.2.1.1 hi.2.1.2
          have oc := numR_of c hi.2.2.1 hi.2.2.2
          exact absurd ⟨a, b, c, by rw [hl1, hl2], oa, ob, oc, hw⟩ ht
        · refine ⟨(rdR a, rdR b, rdR c, false), rfl, e1.bind ?_⟩
          simp only [if_neg h8]
          refine dy_two s a r _ (e2.bind (dy_in s a b c (by omega) (by omega) (by omega) _ ?_))
          simp only [if_neg hw]
          exact Ev.now _
      · refine ⟨fail, rfl, e1.bind ?_⟩
        simp only [if_neg h8]
        refine dy_two s a r _ (e2.bind ?_)
        unfold dyMid
        simp only [if_neg (show ¬ ((((splL 100 r).map toBA).length : Int) = 2) by rw [List.length_map]; omega)]
        exact Ev.now _
    · refine ⟨fail, rfl, e1.bind ?_⟩
      simp only [if_neg h8]
      rw [show ((((splL 119 s.data.toList).map toBA).length : Int) != 2) = true from by rw [bne_iff_ne, List.length_map]; omega]
      exact dyParse_j0 s hs _
theorem wash_tail (s : ByteArray) (hb : s.size ≤ 1048576) (r : W4) (h1 : Ev (fun k => spec_ParseWash.f k s) r) (h2 : impl_ParseWash.f s = some r) : ∃ k, laws_FnExactParseWash.f k s = some true := by
  refine Ev.rounds (r := true) ?_
  unfold laws_FnExactParseWash.f
  simp only [if_neg (show ¬ (s.size : Int) > 1048576 by omega), h2, Option.bind_some]
  refine h1.bind ?_
  unfold laws_eqWash.f
  simp only [if_true, Option.bind_some, bne_self_eq_false, Bool.false_eq_true, if_false]
  exact Ev.now _
theorem FnExactParseWash : laws_FnExactParseWash.Pure := by
  intro s _
  by_cases hb : s.size ≤ 1048576
  · rcases specWash s hb with ⟨a, b, c, ht, h1⟩ | ⟨hn, r, hr, h1⟩
    · rcases implWash s hb with ⟨a', b', c', ht', h2⟩ | ⟨hn, _⟩
      · have e1 : a' = a ∧ b' ++ 100 :: c' = b ++ 100 :: c := by
          have c1 := cut_at 119 a (b ++ 100 :: c) (no119 ht.2.1)
          have c2 := cut_at 119 a' (b' ++ 100 :: c') (no119 ht'.2.1)
          rw [← ht.1] at c1
          rw [← ht'.1, c1] at c2
          simp only [Prod.mk.injEq] at c2
          exact ⟨c2.1.symm, c2.2.1.symm⟩
        have e2 : b' = b ∧ c' = c := by
          have c1 := cut_at 100 b c (no100 ht.2.2.1)
          have c2 := cut_at 100 b' c' (no100 ht'.2.2.1)
          rw [e1.2, c1] at c2
          simp only [Prod.mk.injEq] at c2
          exact ⟨c2.1.symm, c2.2.1.symm⟩
        rw [e1.1, e2.1, e2.2] at h2
        refine wash_tail s hb (rdR a, rdR b, rdR c, true) ?_ h2
        unfold spec_ParseWash.f
        refine h1.bind ?_
        simp only [if_true]
        exact Ev.now _
      · exact absurd ht (hn a b c)
    · rcases implWash s hb with ⟨a', b', c', ht', h2⟩ | ⟨_, h2⟩
      · exact absurd ht' (hn a' b' c')
      · refine wash_tail s hb fail ?_ h2
        unfold spec_ParseWash.f
        refine h1.bind ?_
        simp only [hr, Bool.false_eq_true, if_false]
        exact Ev.now _
  · exact ⟨0, by unfold laws_FnExactParseWash.f; rw [if_pos (by omega)]⟩
end Go.Proofs.YtdifnieiobfnaaaDoor.Pure
