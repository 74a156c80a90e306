/- Lemmas for the plain law of FnDaysLeast, part 1. Conditions: those that each states. -/
import Derived.Test.YtmogbnhgelihlaaGreatDoorVPFnDaysLeast
import Derived.Test.YtmogbnhgelihlaaGreatDoorVaiEv
import Derived.Test.YtmogbnhgelihlaaGreatDoorVaiLaw
import Derived.Lib.AtoiTie
namespace Go.Proofs.YtmogbnhgelihlaaGreatDoorV.Law
set_option linter.unusedVariables false
set_option linter.unusedSimpArgs false
open Go.Proofs.YtmogbnhgelihlaaGreatDoorV
abbrev CurT := List Int × Int × Int × Unit
/-- A cursor that has gone no further than m. -/
def Cur (m : Int) (c : CurT) : Prop := (∀ x ∈ c.1, 0 ≤ x ∧ x ≤ 255) ∧ 0 ≤ c.2.1 ∧ c.2.1 ≤ m
theorem Cur.mono {m m' : Int} {c : CurT} (h : Cur m c) (hm : m ≤ m') : Cur m' c := ⟨h.1, h.2.1, Int.le_trans h.2.2 hm⟩
theorem and255 (x : Int) : 0 ≤ iw (andI .u64 x 255) ∧ iw (andI .u64 x 255) ≤ 255 := by
  have h : 0 ≤ andI .u64 x 255 ∧ andI .u64 x 255 ≤ 255 := by
    unfold andI
    have h1 : (BitVec.ofInt IntKind.u64.bits x &&& BitVec.ofInt IntKind.u64.bits 255).toNat ≤ 255 := by
      rw [BitVec.toNat_and]
      exact Nat.le_trans Nat.and_le_right (by decide)
    generalize (BitVec.ofInt IntKind.u64.bits x &&& BitVec.ofInt IntKind.u64.bits 255).toNat = y at h1 ⊢
    have : IntKind.wrap .u64 (y : Int) = (y : Int) % 18446744073709551616 := rfl
    rw [this]; omega
  rw [iw_id] <;> omega
theorem next_is (k : Nat) {m : Int} {c : CurT} (h : Cur m c) (hm : m ≤ 1000000000000000) :
    ∃ v s, spec_l1Cur_next_f k c = some ((v, ()), ((c.1, c.2.1 + 1, s, ()), ())) ∧ 0 ≤ v ∧ v ≤ 255 := by
  obtain ⟨hb, h0, h1⟩ := h
  obtain ⟨l, a, s, u⟩ := c
  simp only at hb h0 h1
  unfold spec_l1Cur_next_f
  have ha : iw (a + 1) = a + 1 := iw_id (by omega) (by omega)
  have key : ∀ v : Int, 0 ≤ v → v ≤ 255 → ∃ v' s', (cond (decide ((iw (a + 1)) ≤ ((List.length l : Nat) : Int))) (some (((v, ()), ((l, (iw (a + 1)), (IntKind.wrap .u64 ((IntKind.wrap .u64 ((IntKind.wrap .u64 (s * 6364136223846793005)) + (IntKind.wrap .u64 v))) + 1442695040888963407)), ()), ())) : (Int × Unit) × (CurT × Unit))) (some (((iw ((andI .u64 (shrI .u64 (IntKind.wrap .u64 ((IntKind.wrap .u64 ((IntKind.wrap .u64 (s * 6364136223846793005)) + (IntKind.wrap .u64 v))) + 1442695040888963407)) 40) 255))), ()), ((l, (iw (a + 1)), (IntKind.wrap .u64 ((IntKind.wrap .u64 ((IntKind.wrap .u64 (s * 6364136223846793005)) + (IntKind.wrap .u64 v))) + 1442695040888963407)), ()), ())))) = some ((v', ()), ((l, a + 1, s', ()), ())) ∧ 0 ≤ v' ∧ v' ≤ 255 := by
    intro v hv0 hv1
    rw [ha, cond_dec]
    split
    · exact ⟨v, _, rfl, hv0, hv1⟩
    · exact ⟨_, _, rfl, and255 _⟩
  simp only [cond_dec (p := a < ((List.length l : Nat) : Int))]
  split
  · rename_i hlt
    rw [ixk_in h0 hlt]
    simp only [met_inl]
    have hin : rd l a ∈ l := by
      unfold rd
      rw [List.getD_eq_getElem?_getD, List.getElem?_eq_getElem (by omega)]
      exact List.getElem_mem _
    obtain ⟨h2, h3⟩ := hb _ hin
    have e : iw (rd l a) = rd l a := iw_id (by omega) (by omega)
    rw [e]
    exact key _ h2 h3
  · simp only [met_inl]
    exact key 0 (by omega) (by omega)
theorem pick_is (k : Nat) {m : Int} {c : CurT} (h : Cur m c) (hm : m ≤ 999999999999999) (n : Int) :
    ∃ v c', spec_l1Cur_pick_f k c n = some ((v, ()), (c', ())) ∧ 0 ≤ v ∧ (v < n ∨ v = 0 ∧ n ≤ 1) ∧ Cur (m + 2) c' ∧ c'.1 = c.1 := by
  unfold spec_l1Cur_pick_f
  rw [cond_dec]
  split
  · rename_i h1
    exact ⟨0, _, rfl, by omega, .inr ⟨rfl, h1⟩, h.mono (by omega), rfl⟩
  · rename_i h1
    obtain ⟨v, s, e, hv0, hv1⟩ := next_is k h (by omega)
    rw [show (c.1, c.2.1, c.2.2.1, ()) = c from rfl, e]
    simp only [Option.bind_some]
    have hc' : Cur (m + 1) (c.1, c.2.1 + 1, s, ()) := ⟨h.1, by have := h.2.1; simp only; omega, by have := h.2.2; simp only; omega⟩
    have done : ∀ (c' : CurT) (v : Int), 0 ≤ v → Cur (m + 2) c' → c'.1 = c.1 → ∃ v' c'', (chk (!(n == 0)) (some (((Int.tmod v n), ()), ((c'.1, c'.2.1, c'.2.2.1, ()), ()))) : Option ((Int × Unit) × (CurT × Unit))) = some ((v', ()), (c'', ())) ∧ 0 ≤ v' ∧ (v' < n ∨ v' = 0 ∧ n ≤ 1) ∧ Cur (m + 2) c'' ∧ c''.1 = c.1 := by
      intro c' v hv hc he
      rw [chk_true (by simp; omega)]
      refine ⟨_, _, rfl, ?_, ?_, hc, he⟩
      · exact Int.tmod_nonneg _ hv
      · left; exact Int.tmod_lt_of_pos _ (by omega)
    rw [cond_dec]
    split
    · obtain ⟨v2, s2, e2, hv2, _⟩ := next_is k hc' (by omega)
      simp only [] at e2 ⊢
      rw [e2]
      simp only [Option.bind_some, met_inl]
      refine done (c.1, c.2.1 + 1 + 1, s2, ()) _ ?_ ⟨h.1, by have := h.2.1; simp only; omega, by have := h.2.2; simp only; omega⟩ rfl
      have q1 : iw (v * 256) = v * 256 := iw_id (by omega) (by omega)
      rw [q1, iw_id] <;> omega
    · simp only [met_inl]
      exact done (c.1, c.2.1 + 1, s, ()) v hv0 (hc'.mono (by omega)) rfl
theorem among_is (k : Nat) {m : Int} {c : CurT} (h : Cur m c) (hm : m ≤ 999999999999999) (l : List Int) (hl : 0 < l.length) :
    ∃ v c', spec_l1Cur_among_f k c l = some ((v, ()), (c', ())) ∧ v ∈ l ∧ Cur (m + 2) c' ∧ c'.1 = c.1 := by
  unfold spec_l1Cur_among_f
  obtain ⟨v, c', e, h0, h1, h2, h3⟩ := pick_is k h hm ((List.length l : Nat) : Int)
  rw [show (c.1, c.2.1, c.2.2.1, ()) = c from rfl, e]
  simp only [Option.bind_some]
  rw [ixk_in h0 (by omega)]
  refine ⟨_, _, rfl, ?_, h2, h3⟩
  unfold rd
  rw [List.getD_eq_getElem?_getD, List.getElem?_eq_getElem (by omega)]
  exact List.getElem_mem _

def in64 (l : List Int) : Prop := ∀ x ∈ l, -9223372036854775808 ≤ x ∧ x ≤ 9223372036854775807
theorem in64.one {x : Int} (h1 : -9223372036854775808 ≤ x) (h2 : x ≤ 9223372036854775807) : in64 [x] := by
  intro y hy
  rw [List.mem_singleton.1 hy]; exact ⟨h1, h2⟩
theorem within_is (k : Nat) (x lo hi : Int) : impl_within_f k x lo hi = some ((decide (lo ≤ x) && decide (x ≤ hi), ()), ()) := by
  unfold impl_within_f
  by_cases h : lo ≤ x <;> simp [h]
theorem l1In_is (k : Nat) (x lo hi : Int) : spec_l1In_f k x lo hi = some ((decide (lo ≤ x) && decide (x ≤ hi), ()), ()) := by
  unfold spec_l1In_f
  by_cases h : lo ≤ x <;> simp [h]
def allIn (lo hi : Int) (l : List Int) : Bool := l.all fun x => decide (lo ≤ x) && decide (x ≤ hi)

theorem cur0 {l : List Int} (h : ∀ x ∈ l, 0 ≤ x ∧ x ≤ 255) : Cur 0 (l, 0, 0, ()) := ⟨h, Int.le_refl _, Int.le_refl _⟩
def Drawn (S : List Int) : Prop := in64 S ∧ S.length ≤ 8
theorem ceta (c : CurT) : (c.1, c.2.1, c.2.2.1, ()) = c := rfl
theorem one_is (k : Nat) {m : Int} {c : CurT} (h : Cur m c) (hm : m ≤ 999999999999999) (n : Int) : ∃ b c', spec_l1Cur_one_f k c n = some ((b, ()), (c', ())) ∧ Cur (m + 2) c' ∧ c'.1 = c.1 := by
  unfold spec_l1Cur_one_f
  obtain ⟨v, c', e, _, _, h2, h3⟩ := pick_is k h hm n
  rw [ceta, e]
  exact ⟨_, c', rfl, h2, h3⟩
theorem big_is (k : Nat) (l m : List Int) : ∃ b, laws_big_f k l m = some ((b, ()), ()) := by
  unfold laws_big_f
  rw [cond_dec]
  split <;> exact ⟨_, rfl⟩
theorem byte_in {l : List Int} (h : ∀ x ∈ l, (Lit.int .u8 x).wf = true) : ∀ x ∈ l, 0 ≤ x ∧ x ≤ 255 := fun x hx => by
  have := h x hx
  simpa [Lit.wf, IntKind.min, IntKind.max, IntKind.signed, IntKind.bits] using this

def sumN (f : Nat → Nat) : Nat → Nat
  | 0 => 0
  | n + 1 => sumN f n + f n
section
variable (wt : Nat → Nat → Nat) (st : Nat → Nat)
/-- .. of whatever of that something. -/
def V (wt : Nat → Nat → Nat) : List Nat → Int → Nat
  | [], k => if k = 0 then 1 else 0
  | n :: S, k => sumN (fun d => wt n d * V wt S (k - d)) (n + 1)
end
/-- Draws are counted each once. -/
def ones (_ _ : Nat) : Nat := 1

def nats' (S : List Int) : List Nat := S.map Int.toNat
def good (S : List Int) : Bool := (decide (1 ≤ (S.length : Int)) && decide ((S.length : Int) ≤ 8)) && (allIn 0 20 S && decide (sumW S > 0))
def few (S : List Int) : Bool := good S && decide (sumW S ≤ 40)

theorem andX_same {α : Type} (p : Option α) : andX p p = p := by unfold andX; rw [if_pos rfl]

/-- A colour is there. -/
def st1 (d : Nat) : Nat := min d 1
/-- Where a choice of d more comes to. -/
def place (V a d : Nat) : Nat := (a / V + d) * V + a % V + st1 d

/-! ### Numbers as texts -/
def dig (n : Nat) : List UInt8 := if n < 10 then [UInt8.ofNat (48 + n)] else [UInt8.ofNat (48 + n / 10), UInt8.ofNat (48 + n % 10)]
theorem lit_app (a b : List UInt8) : lit a ++ lit b = lit (a ++ b) := by
  apply ByteArray.ext
  simp [lit, ByteArray.data_append]
theorem lit_size (a : List UInt8) : (lit a).size = a.length := by simp [lit, ByteArray.size]
theorem lit_list (a : List UInt8) : (lit a).data.toList = a := rfl
theorem wrap_u8 (n : Nat) (h : n < 256) : IntKind.wrap .u8 (n : Int) = (n : Int) := by
  have : ∀ n : Nat, n < 256 → IntKind.wrap .u8 (n : Int) = (n : Int) := by decide +kernel
  exact this n h
theorem one_byte (n : Nat) (h : n < 100) : strOfNums [IntKind.wrap .u8 (iw (48 + (n : Int)))] = lit [UInt8.ofNat (48 + n)] := by
  rw [iw_id (by omega) (by omega), show (48 : Int) + (n : Int) = ((48 + n : Nat) : Int) by omega, wrap_u8 _ (by omega)]
  rfl
theorem l1Num_r_is (k : Nat) : ∀ (i n : Nat), n < 100 → 2 ≤ i → spec_l1Num_r k i (n : Int) = some ((lit (dig n), ()), ()) := by
  have small : ∀ (i n : Nat), n < 10 → 1 ≤ i → spec_l1Num_r k i (n : Int) = some ((lit (dig n), ()), ()) := fun i n hn hi => by
    obtain ⟨i, rfl⟩ : ∃ j, i = j + 1 := ⟨i - 1, by omega⟩
    show spec_l1Num_s k _ (n : Int) = _
    unfold spec_l1Num_s dig
    rw [cond_dec, if_pos (by omega), if_pos hn, one_byte n (by omega)]
  intro i n hn hi
  by_cases h : n < 10
  · exact small i n h (by omega)
  · obtain ⟨i, rfl⟩ : ∃ j, i = j + 1 := ⟨i - 1, by omega⟩
    show spec_l1Num_s k (spec_l1Num_r k i) (n : Int) = _
    unfold spec_l1Num_s
    have e1 : iw (Int.tdiv (n : Int) 10) = ((n / 10 : Nat) : Int) := by rw [Int.tdiv_eq_ediv_of_nonneg (by omega), iw_id (by omega) (by omega)]; rfl
    have e2 : Int.tmod (n : Int) 10 = ((n % 10 : Nat) : Int) := by rw [Int.tmod_eq_emod_of_nonneg (by omega)]; rfl
    rw [cond_dec, if_neg (by omega), e1, e2, small i (n / 10) (by omega) (by omega), one_byte (n % 10) (by omega)]
    simp only [Option.bind_some, andX_same]
    have e3 : dig (n / 10) = [UInt8.ofNat (48 + n / 10)] := by unfold dig; rw [if_pos (by omega)]
    rw [e3, chk_dec (by simp [lit_size]), lit_app]
    unfold dig
    rw [if_neg h]
    rfl
theorem l1Num_is (k : Nat) (hk : 2 ≤ k) (n : Nat) (hn : n < 100) : spec_l1Num_f k (n : Int) = some ((lit (dig n), ()), ()) := l1Num_r_is k k n hn hk
theorem decDigits_is (n : Nat) (hn : n < 100) : Lib.decDigits n = dig n := by
  have : ∀ n : Nat, n < 100 → Lib.decDigits n = dig n := by decide +kernel
  exact this n hn
theorem itoa_is (k : Nat) (n : Nat) (hn : n < 100) : strconv_Itoa_f k (n : Int) = some ((lit (dig n), ()), ()) := by
  unfold strconv_Itoa_f itoaL
  rw [decide_eq_true (show (0 : Int) ≤ (n : Int) by omega), decide_eq_true (show (n : Int) < 100 by omega), Int.toNat_natCast, decDigits_is n hn]
  rfl
theorem dig_len (n : Nat) : 1 ≤ (dig n).length ∧ (dig n).length ≤ 2 := by unfold dig; split <;> simp

theorem strOne (x : Int) : (strOfNums [x]).size = 1 := by first | rfl | simp [strOfNums, ByteArray.size]
abbrev SPR := (CurT × ByteArray × Unit) ⊕ ((ByteArray × Unit) × (CurT × Unit))
noncomputable def spoiltF (k : Nat) (p2 : ByteArray) (rec : (CurT × ByteArray × Int × Unit) → Option SPR) (x : CurT × ByteArray × Int × Unit) : Option SPR :=
  spec_l1Cur_spoilt_l1_b k p2 (fun x0 x1 x7 => rec (x0, x1, x7, ())) x.1 x.2.1 x.2.2.1
theorem cutSize (s : ByteArray) (a b : Nat) : (ByteArray.extract s a b).size ≤ s.size := by
  rw [ByteArray.size_extract]; omega
theorem spoilt_loop (k : Nat) (p2 : ByteArray) (hp : 1 < p2.size) (hp2 : p2.size ≤ 100) : ∀ (j i : Nat) (m : Int) (c : CurT) (s : ByteArray), Cur m c → m + 6 * j ≤ 999999999999900 → j < i → s.size + j ≤ 1000 →
    ∃ c' s', iter i (spoiltF k p2) (c, s, (j : Int), ()) = some (.inl (c', s', ())) ∧ s'.size ≤ s.size + j := by
  intro j
  induction j with
  | zero =>
    intro i m c s hc hm hi hS
    obtain ⟨i, rfl⟩ : ∃ i', i = i' + 1 := ⟨i - 1, by omega⟩
    refine ⟨c, s, ?_, by omega⟩
    show spoiltF k p2 _ _ = _
    simp only [spoiltF, spec_l1Cur_spoilt_l1_b, cond_dec]
    rw [if_neg (by simp)]
    rfl
  | succ j ih =>
    intro i m c s hc hm hi hS
    obtain ⟨i, rfl⟩ : ∃ i', i = i' + 1 := ⟨i - 1, by omega⟩
    by_cases hz : s.size = 0
    · refine ⟨c, s, ?_, by omega⟩
      show spoiltF k p2 _ _ = _
      simp only [spoiltF, spec_l1Cur_spoilt_l1_b, cond_dec]
      rw [if_pos (by omega)]
      simp only [met_inl, hz]
      rfl
    · obtain ⟨v1, c1, e1, a1, b1, h1, q1⟩ := pick_is k hc (by omega) ((s.size : Nat) : Int)
      obtain ⟨v2, c2, e2, a2, b2, h2, q2⟩ := pick_is k h1 (by omega) ((p2.size : Nat) : Int)
      obtain ⟨v3, c3, e3, a3, b3, h3, q3⟩ := pick_is k h2 (by omega) 3
      have hv : v1 < (s.size : Int) := by omega
      have hw : v2 < (p2.size : Int) := by omega
      have c1s := cutSize s 0 (Int.toNat v1)
      have c2s : (ByteArray.extract s 0 (Int.toNat v1)).size = _ := ByteArray.size_extract
      have c3s : (ByteArray.extract s (Int.toNat v1) s.size).size = _ := ByteArray.size_extract
      have c4s : (ByteArray.extract s (Int.toNat (v1 + 1)) s.size).size = _ := ByteArray.size_extract
      have one := strOne (byteAt p2 v2)
      have hi1 : iw (v1 + 1) = v1 + 1 := iw_id (by omega) (by omega)
      have step : ∃ s1, s1.size ≤ s.size + 1 ∧ iter (i + 1) (spoiltF k p2) (c, s, ((j + 1 : Nat) : Int), ()) = iter i (spoiltF k p2) (c3, s1, (j : Int), ()) := by
        have hgt : decide (((s.size : Nat) : Int) > 0) = true := decide_eq_true (by omega)
        have hj : iw (((j + 1 : Nat) : Int) - 1) = (j : Int) := by rw [iw_id (by omega) (by omega)]; omega
        cases g0 : v3 == 0 with
        | true =>
          refine ⟨(ByteArray.extract s 0 (Int.toNat v1)) ++ (strOfNums [byteAt p2 v2]) ++ (ByteArray.extract s (Int.toNat v1) s.size), ?_, ?_⟩
          rotate_left
          · show spoiltF k p2 _ _ = _
            simp only [spoiltF, spec_l1Cur_spoilt_l1_b, cond_dec]
            rw [if_pos (by omega)]
            simp only [met_inl, hgt, cond_true]
            rw [show (c.1, c.2.1, c.2.2.1, ()) = c from rfl, e1]
            simp only [Option.bind_some]
            rw [show (c1.1, c1.2.1, c1.2.2.1, ()) = c1 from rfl, e2]
            simp only [Option.bind_some]
            rw [ixk_in a2 (by omega), show (c2.1, c2.2.1, c2.2.2.1, ()) = c2 from rfl, e3]
            simp only [Option.bind_some, g0, cond_true]
            rw [chk_dec a1, chk_dec (by omega), chk_dec (by omega), chk_dec a1, chk_dec (by omega), chk_dec (by rw [ByteArray.size_append]; omega)]
            simp only [met_inl, hj]
          · rw [ByteArray.size_append, ByteArray.size_append]; omega
        | false =>
          cases g1 : v3 == 1 with
          | true =>
            refine ⟨(ByteArray.extract s 0 (Int.toNat v1)) ++ (strOfNums [byteAt p2 v2]) ++ (ByteArray.extract s (Int.toNat (v1 + 1)) s.size), ?_, ?_⟩
            rotate_left
            · show spoiltF k p2 _ _ = _
              simp only [spoiltF, spec_l1Cur_spoilt_l1_b, cond_dec]
              rw [if_pos (by omega)]
              simp only [met_inl, hgt, cond_true]
              rw [show (c.1, c.2.1, c.2.2.1, ()) = c from rfl, e1]
              simp only [Option.bind_some]
              rw [show (c1.1, c1.2.1, c1.2.2.1, ()) = c1 from rfl, e2]
              simp only [Option.bind_some]
              rw [ixk_in a2 (by omega), show (c2.1, c2.2.1, c2.2.2.1, ()) = c2 from rfl, e3]
              simp only [Option.bind_some, g0, g1, cond_true, cond_false, hi1]
              rw [chk_dec a1, chk_dec (by omega), chk_dec (by omega), chk_dec (by omega), chk_dec (by omega), chk_dec (by rw [ByteArray.size_append]; omega)]
              simp only [met_inl, hj]
            · rw [ByteArray.size_append, ByteArray.size_append]; omega
          | false =>
            refine ⟨(ByteArray.extract s 0 (Int.toNat v1)) ++ (ByteArray.extract s (Int.toNat (v1 + 1)) s.size), ?_, ?_⟩
            rotate_left
            · show spoiltF k p2 _ _ = _
              simp only [spoiltF, spec_l1Cur_spoilt_l1_b, cond_dec]
              rw [if_pos (by omega)]
              simp only [met_inl, hgt, cond_true]
              rw [show (c.1, c.2.1, c.2.2.1, ()) = c from rfl, e1]
              simp only [Option.bind_some]
              rw [show (c1.1, c1.2.1, c1.2.2.1, ()) = c1 from rfl, e2]
              simp only [Option.bind_some]
              rw [ixk_in a2 (by omega), show (c2.1, c2.2.1, c2.2.2.1, ()) = c2 from rfl, e3]
              simp only [Option.bind_some, g0, g1, cond_false, hi1]
              rw [chk_dec a1, chk_dec (by omega), chk_dec (by omega), chk_dec (by omega), chk_dec (by omega)]
              simp only [met_inl, hj]
            · rw [ByteArray.size_append]; omega
      obtain ⟨s1, l1, es⟩ := step
      obtain ⟨c', s', e4, l4⟩ := ih i (m + 6) c3 s1 (h3.mono (by omega)) (by omega) (by omega) (by omega)
      exact ⟨c', s', by rw [es, e4], by omega⟩
theorem spoilt_is (k : Nat) (hk : 100 ≤ k) {m : Int} {c : CurT} (h : Cur m c) (hm : m ≤ 999999999990000) (p2 s : ByteArray) (hp : 1 < p2.size) (hp2 : p2.size ≤ 100) (hs : s.size ≤ 900) :
    ∃ s' c', spec_l1Cur_spoilt_f k c s p2 = some ((s', ()), (c', ())) ∧ s'.size ≤ s.size + 2 := by
  unfold spec_l1Cur_spoilt_f
  obtain ⟨v, c1, e1, a1, b1, h1, q1⟩ := pick_is k h (by omega) 2
  rw [show (c.1, c.2.1, c.2.2.1, ()) = c from rfl, e1]
  simp only [Option.bind_some]
  obtain ⟨n, rfl⟩ : ∃ n : Nat, v = (n : Int) := ⟨v.toNat, by omega⟩
  obtain ⟨c', s', e, l⟩ := spoilt_loop k p2 hp hp2 (n + 1) k (m + 2) c1 s h1 (by omega) (by omega) (by omega)
  rw [show iw (1 + (n : Int)) = ((n + 1 : Nat) : Int) by rw [iw_id (by omega) (by omega)]; omega]
  rw [show (spec_l1Cur_spoilt_l1 k p2 (c1.1, c1.2.1, c1.2.2.1, ()) s ((n + 1 : Nat) : Int)) = iter k (spoiltF k p2) (c1, s, ((n + 1 : Nat) : Int), ()) from rfl, e]
  exact ⟨s', c', rfl, by omega⟩

/-! ### A text's pieces between a byte -/
def headApp (p : List UInt8) : List (List UInt8) → List (List UInt8)
  | [] => [p]
  | w :: r => (p ++ w) :: r
def splL (c : UInt8) : List UInt8 → List (List UInt8)
  | [] => [[]]
  | b :: l => if b = c then [] :: splL c l else headApp [b] (splL c l)
theorem headApp_nil {ws : List (List UInt8)} (h : ws ≠ []) : headApp [] ws = ws := by
  cases ws with
  | nil => exact absurd rfl h
  | cons w r => rfl
theorem headApp_app (p q : List UInt8) (ws : List (List UInt8)) : headApp p (headApp q ws) = headApp (p ++ q) ws := by
  cases ws <;> simp [headApp]
theorem splL_ne (c : UInt8) (l : List UInt8) : splL c l ≠ [] := by
  cases l with
  | nil => simp [splL]
  | cons b l =>
    unfold splL
    split
    · simp
    · cases splL c l <;> simp [headApp]
theorem splL_none (c : UInt8) (l : List UInt8) (h : l.count c = 0) : splL c l = [l] := by
  induction l with
  | nil => rfl
  | cons b l ih =>
    by_cases hb : b = c
    · subst hb; simp at h
    · rw [List.count_cons_of_ne (by simpa using hb)] at h
      unfold splL; rw [if_neg hb, ih h]; rfl
theorem index_cons (b c : UInt8) (l : List UInt8) : Lib.index (b :: l) [c] = if b = c then 0 else if Lib.index l [c] == -1 then -1 else Lib.index l [c] + 1 := by
  by_cases h : b = c
  · subst h; rw [Lib.index]; simp [List.isPrefixOf]
  · have hp : ([c] : List UInt8).isPrefixOf (b :: l) = false := by simp [List.isPrefixOf, Ne.symm h]
    rw [Lib.index, hp]; simp [h]
/-- The pieces tell the text. -/
def jnL (c : UInt8) : List (List UInt8) → List UInt8
  | [] => []
  | [w] => w
  | w :: v :: r => w ++ c :: jnL c (v :: r)
/-! ### Numbers read -/
def rdw (l : List UInt8) : Option Nat := if 1 ≤ l.length ∧ (l.head? ≠ some 48 ∨ l.length ≤ 1) then Lib.decFrom 0 l else none
def rdR (l : List UInt8) : Int := if l.length ≤ 6 then (match rdw l with | some n => (n : Int) | none => -1) else -1
def numR (l : List UInt8) (d : Nat) : Int × Bool := if l.length ≤ d then (match rdw l with | some n => ((n : Int), true) | none => (0, false)) else (0, false)
theorem list_size (s : ByteArray) : s.data.toList.length = s.size := by rw [Array.length_toList]; rfl
theorem dig_of (c : UInt8) : Lib.digitVal c = if 48 ≤ c.toNat ∧ c.toNat ≤ 57 then some (c.toNat - 48) else none := rfl
theorem pow_step (acc c n : Nat) (ha : acc < 10 ^ n) (h2 : c ≤ 57) : acc * 10 + (c - 48) < 10 ^ (n + 1) := by
  have hp : 10 ^ (n + 1) = 10 ^ n * 10 := Nat.pow_succ ..
  rw [hp]
  generalize 10 ^ n = X at *
  omega
theorem dropWhile_nil {α : Type} (p : α → Bool) (l : List α) : l.dropWhile p = [] ↔ ∀ c ∈ l, p c = true := by
  induction l with
  | nil => simp
  | cons x r ih =>
    rw [List.dropWhile_cons]
    by_cases hx : p x = true
    · rw [if_pos hx, ih]; simp [hx]
    · rw [if_neg hx]; simp [hx]
theorem digs_has (c : UInt8) : ([48, 49, 50, 51, 52, 53, 54, 55, 56, 57] : List UInt8).contains c = decide (48 ≤ c.toNat ∧ c.toNat ≤ 57) := by
  rw [Bool.eq_iff_iff, List.contains_iff_mem]
  simp only [List.mem_cons, List.not_mem_nil, or_false, ← UInt8.toNat_inj, decide_eq_true_eq]
  simp only [UInt8.reduceToNat]
  omega
theorem trimS_nil (l cs : List UInt8) : Lib.trimS l cs = [] ↔ ∀ c ∈ l, cs.contains c = true := by
  unfold Lib.trimS Lib.trimLeftS Lib.trimRightS
  rw [dropWhile_nil]
  constructor
  · intro h
    have : l.reverse.dropWhile (cs.contains ·) = [] := by
      cases hx : l.reverse.dropWhile (cs.contains ·) with
      | nil => rfl
      | cons x xs =>
        have hm : x ∈ (l.reverse.dropWhile (cs.contains ·)).reverse := by rw [hx]; simp
        have hn := List.head?_dropWhile_not (cs.contains ·) l.reverse
        rw [hx] at hn
        simp only [List.head?_cons] at hn
        have := h x hm
        rw [hn] at this
        cases this
    rw [dropWhile_nil] at this
    intro c hc
    exact this c (by simpa using hc)
  · intro h c hc
    have : c ∈ l.reverse.dropWhile (cs.contains ·) := by simpa using hc
    exact h c (by simpa using (List.dropWhile_sublist _).mem this)
theorem dec_all : ∀ (l : List UInt8) (acc : Nat), (∀ c ∈ l, 48 ≤ c.toNat ∧ c.toNat ≤ 57) → ∃ v, Lib.decFrom acc l = some v := by
  intro l
  induction l with
  | nil => intro acc _; exact ⟨acc, rfl⟩
  | cons c r ih =>
    intro acc h
    simp only [Lib.decFrom, dig_of]
    rw [if_pos (h c (by simp))]
    exact ih _ fun x hx => h x (by simp [hx])
theorem dec_digs (l : List UInt8) (acc v : Nat) (h : Lib.decFrom acc l = some v) : ∀ c ∈ l, 48 ≤ c.toNat ∧ c.toNat ≤ 57 := by
  intro c hc
  obtain ⟨j, hj⟩ := List.getElem?_of_mem hc
  obtain ⟨d, hd⟩ := Lib.digit_of_decFrom l acc v h j c hj
  rw [dig_of] at hd
  split at hd
  · assumption
  · cases hd
theorem atoi_digs (l : List UInt8) (h1 : 1 ≤ l.length) (h18 : l.length ≤ 18) (v : Nat) (h : Lib.decFrom 0 l = some v) : Lib.atoiAll l = .ok (v : Int) := by
  rw [Lib.atoiAll_short l h18]
  cases l with
  | nil => simp at h1
  | cons c r =>
    have hc := dec_digs (c :: r) 0 v h c (by simp)
    have n45 : (c == 45) = false := by
      rw [beq_eq_false_iff_ne]; rintro rfl; exact absurd hc.1 (by decide)
    have n43 : (c == 43) = false := by
      rw [beq_eq_false_iff_ne]; rintro rfl; exact absurd hc.1 (by decide)
    simp only [Lib.atoi, n45, n43, Bool.false_eq_true, if_false, Lib.decNat, List.isEmpty_cons, h, Option.map_some]
    rfl
theorem dec_ge : ∀ (l : List UInt8) (acc n : Nat), Lib.decFrom acc l = some n → acc * 10 ^ l.length ≤ n := by
  intro l
  induction l with
  | nil => intro acc n h; simp only [Lib.decFrom, Option.some.injEq] at h; subst h; simp
  | cons c r ih =>
    intro acc n h
    simp only [Lib.decFrom, dig_of] at h
    split at h
    · rename_i v hv
      have := ih _ _ h
      rw [List.length_cons, Nat.pow_succ]
      refine Nat.le_trans ?_ this
      rw [Nat.mul_comm (10 ^ r.length) 10, ← Nat.mul_assoc]
      exact Nat.mul_le_mul_right _ (by omega)
    · cases h
theorem rdw_two (w : List UInt8) (n : Nat) (h : rdw w = some n) (hn : n ≤ 99) : w.length ≤ 2 := by
  unfold rdw at h
  split at h
  · rename_i hc
    cases w with
    | nil => simp
    | cons c r =>
      rcases Nat.lt_or_ge 1 r.length with h1 | h1
      · have h48 : c ≠ 48 := by
          rcases hc.2 with h | h
          · exact fun e => h (by rw [e]; rfl)
          · rw [List.length_cons] at h; omega
        have hd := dec_digs _ _ _ h c (by simp)
        have hc49 : 49 ≤ c.toNat := by
          rcases Nat.lt_or_ge c.toNat 49 with hlt | hge
          · exact absurd (UInt8.toNat_inj.1 (show c.toNat = (48 : UInt8).toNat from by have : (48 : UInt8).toNat = 48 := rfl; omega)) h48
          · exact hge
        simp only [Lib.decFrom, dig_of] at h
        rw [if_pos hd] at h
        have := dec_ge r _ n h
        have h10 : 10 ^ 2 ≤ 10 ^ r.length := Nat.pow_le_pow_right (by omega) (by omega)
        have : 1 * 10 ^ 2 ≤ n := Nat.le_trans (Nat.mul_le_mul (by omega) h10) this
        omega
      · simp; omega
  · cases h
theorem rdw_lt (w : List UInt8) (n : Nat) (h : rdw w = some n) (hl : w.length ≤ 2) : n ≤ 99 := by
  unfold rdw at h
  split at h
  · have := Lib.decFrom_lt w 0 n h
    have h10 : 10 ^ w.length ≤ 10 ^ 2 := Nat.pow_le_pow_right (by omega) hl
    omega
  · cases h
theorem splL_small (c : UInt8) (l : List UInt8) : ∀ w ∈ splL c l, w.length ≤ l.length := by
  induction l with
  | nil => intro w hw; simp [splL] at hw; subst hw; simp
  | cons b l ih =>
    intro w hw
    unfold splL at hw
    by_cases h : b = c
    · rw [if_pos h] at hw
      rcases List.mem_cons.1 hw with rfl | hw
      · simp
      · have := ih w hw; simp; omega
    · rw [if_neg h] at hw
      cases hv : splL c l with
      | nil => exact absurd hv (splL_ne c l)
      | cons v r =>
        rw [hv] at hw ih
        rcases List.mem_cons.1 hw with rfl | hw
        · have := ih v (by simp); simp; omega
        · have := ih w (by simp [hw]); simp; omega
theorem lit_of (s : ByteArray) : lit s.data.toList = s := rfl
theorem rdR_dig (n : Nat) (h : n < 100) : rdR (dig n) = (n : Int) := by
  have : ∀ n : Nat, n < 100 → rdR (dig n) = (n : Int) := by decide +kernel
  exact this n h
theorem rdw_text (w : List UInt8) (n : Nat) (h : rdw w = some n) (hn : n ≤ 99) : dig n = w := by
  have h2 := rdw_two w n h hn
  have hh := h
  unfold rdw at hh
  split at hh
  · rename_i hc
    match w, h2, hc, hh with
    | [c], _, _, hh =>
      simp only [Lib.decFrom, dig_of] at hh
      by_cases hd : 48 ≤ c.toNat ∧ c.toNat ≤ 57
      · rw [if_pos hd] at hh
        simp only [Lib.decFrom, Option.some.injEq] at hh
        subst hh
        unfold dig
        rw [if_pos (by omega), show 48 + (0 * 10 + (c.toNat - 48)) = c.toNat by omega, UInt8.ofNat_toNat]
      · rw [if_neg hd] at hh; cases hh
    | [c, e], _, hc, hh =>
      simp only [Lib.decFrom, dig_of] at hh
      by_cases hd : 48 ≤ c.toNat ∧ c.toNat ≤ 57
      · rw [if_pos hd] at hh
        by_cases he : 48 ≤ e.toNat ∧ e.toNat ≤ 57
        · simp only [if_pos he, Lib.decFrom, Option.some.injEq] at hh
          have hc48 : c ≠ 48 := by
            rcases hc.2 with h | h
            · exact fun x => h (by rw [x]; rfl)
            · simp at h
          have h49 : 49 ≤ c.toNat := by
            rcases Nat.lt_or_ge c.toNat 49 with hlt | hge
            · exact absurd (UInt8.toNat_inj.1 (show c.toNat = (48 : UInt8).toNat from by have : (48 : UInt8).toNat = 48 := rfl; omega)) hc48
            · exact hge
          subst hh
          unfold dig
          rw [if_neg (by omega), show 48 + ((0 * 10 + (c.toNat - 48)) * 10 + (e.toNat - 48)) / 10 = c.toNat by omega, UInt8.ofNat_toNat,
            show 48 + ((0 * 10 + (c.toNat - 48)) * 10 + (e.toNat - 48)) % 10 = e.toNat by omega, UInt8.ofNat_toNat]
        · rw [if_neg he] at hh; cases hh
      · rw [if_neg hd] at hh; cases hh
    | [], _, hc, _ => exact absurd hc.1 (by simp)
    | _ :: _ :: _ :: _, h2, _, _ => simp at h2
  · cases hh

/-! ### Numbers and pieces read -/
theorem byteAt_nat (s : ByteArray) (n : Nat) (c : UInt8) (h : s.data.toList[n]? = some c) : byteAt s (n : Int) = (c.toNat : Int) := by
  unfold byteAt
  rw [Int.toNat_natCast, List.getD_eq_getElem?_getD, h]; rfl
def rdRes : Option Nat → Option ((Int × Unit) ⊕ ((Int × Unit) × Unit))
  | some v => some (.inl ((v : Int), ()))
  | none => some (.inr (((-1), ()), ()))
noncomputable def readF (k : Nat) (s : ByteArray) (rec : (Int × Int × Unit) → Option ((Int × Unit) ⊕ ((Int × Unit) × Unit))) (x : Int × Int × Unit) : Option ((Int × Unit) ⊕ ((Int × Unit) × Unit)) := spec_l1Read_l2_b k s (fun x3 x4 => rec (x3, x4, ())) x.1 x.2.1
theorem read_loop (k : Nat) (s : ByteArray) (hs : s.size ≤ 6) : ∀ (d n acc i : Nat), n + d = s.size → d < i → acc < 10 ^ n →
    iter i (readF k s) ((acc : Int), (n : Int), ()) = rdRes (Lib.decFrom acc (s.data.toList.drop n)) := by
  intro d
  induction d with
  | zero =>
    intro n acc i hn hi ha
    obtain ⟨i, rfl⟩ : ∃ i', i = i' + 1 := ⟨i - 1, by omega⟩
    show readF k s _ _ = _
    rw [List.drop_eq_nil_of_le (by rw [list_size]; omega)]
    simp only [readF, spec_l1Read_l2_b]
    rw [cond_dec, if_neg (by omega)]
    rfl
  | succ d ih =>
    intro n acc i hn hi ha
    obtain ⟨i, rfl⟩ : ∃ i', i = i' + 1 := ⟨i - 1, by omega⟩
    show readF k s _ _ = _
    have hlt : n < s.data.toList.length := by rw [list_size]; omega
    have hd : s.data.toList.drop n = s.data.toList[n] :: s.data.toList.drop (n + 1) := List.drop_eq_getElem_cons hlt
    have hb : byteAt s (n : Int) = ((s.data.toList[n]).toNat : Int) := byteAt_nat s n _ (List.getElem?_eq_getElem hlt)
    rw [hd]
    generalize s.data.toList[n] = c at hb
    have h5 : acc < 100000 := Nat.lt_of_lt_of_le ha (Nat.le_trans (Nat.pow_le_pow_right (n := 10) (by omega) (show n ≤ 5 by omega)) (by decide))
    have hq := fun h => pow_step acc c.toNat n ha h
    clear ha
    simp only [readF, spec_l1Read_l2_b, hb, Lib.decFrom, dig_of]
    rw [cond_dec, if_pos (by omega), ixk_in (by omega) (by omega), cond_dec]
    by_cases h1 : (c.toNat : Int) < 48
    · rw [if_pos h1, if_neg (show ¬ (48 ≤ c.toNat ∧ c.toNat ≤ 57) by omega)]
      rfl
    · rw [if_neg h1, ixk_in (by omega) (by omega)]
      simp only [met_inl]
      rw [cond_dec]
      by_cases h2 : (c.toNat : Int) > 57
      · rw [if_pos h2, if_neg (show ¬ (48 ≤ c.toNat ∧ c.toNat ≤ 57) by omega)]
        rfl
      · rw [if_neg h2, if_pos (show 48 ≤ c.toNat ∧ c.toNat ≤ 57 by omega), ixk_in (by omega) (by omega)]
        have e : iw (iw (10 * (acc : Int)) + iw (IntKind.wrap .u8 ((c.toNat : Int) - 48))) = ((acc * 10 + (c.toNat - 48) : Nat) : Int) := by
          rw [show ((c.toNat : Int) - 48) = ((c.toNat - 48 : Nat) : Int) by omega, wrap_u8 _ (by omega), iw_id (x := 10 * (acc : Int)) (by omega) (by omega), iw_id (x := ((c.toNat - 48 : Nat) : Int)) (by omega) (by omega), iw_id (by omega) (by omega)]
          omega
        rw [e, iw_nat (by omega)]
        exact ih (n + 1) (acc * 10 + (c.toNat - 48)) i (by omega) (by omega) (hq (by omega))
theorem byte_head (s : ByteArray) (h : 0 < s.size) : ∃ c, s.data.toList.head? = some c ∧ byteAt s 0 = (c.toNat : Int) := by
  have hlt : 0 < s.data.toList.length := by rw [list_size]; exact h
  refine ⟨s.data.toList[0], ?_, byteAt_nat s 0 _ (List.getElem?_eq_getElem hlt)⟩
  rw [List.head?_eq_getElem?, List.getElem?_eq_getElem hlt]
theorem is48 (c : UInt8) : ((c.toNat : Int) = 48) ↔ c = 48 := by
  constructor
  · intro h; apply UInt8.toNat_inj.1; show c.toNat = 48; omega
  · rintro rfl; rfl
def lead (s : ByteArray) : Bool := decide (s.data.toList.head? = some 48) && decide (1 < s.size)
theorem lead_is {β : Type} (s : ByteArray) (h : 0 < s.size) : cond (byteAt s 0 == 48) (some (.inl (decide ((s.size : Int) > 1), ()))) (some (.inl (false, ()))) = (some (.inl (lead s, ())) : Option ((Bool × Unit) ⊕ β)) := by
  obtain ⟨c, hc, hb⟩ := byte_head s h
  unfold lead
  rw [hb, hc]
  by_cases h48 : c = 48
  · rw [show ((c.toNat : Int) == 48) = true from beq_iff_eq.2 ((is48 c).2 h48), h48]
    simp; omega
  · rw [show ((c.toNat : Int) == 48) = false from beq_eq_false_iff_ne.2 (fun x => h48 ((is48 c).1 x)), show decide (some c = some (48 : UInt8)) = false from decide_eq_false (fun x => h48 (Option.some.inj x))]
    simp
theorem rdw_lead (s : ByteArray) : rdw s.data.toList = if 1 ≤ s.size ∧ lead s = false then Lib.decFrom 0 s.data.toList else none := by
  unfold rdw
  rw [list_size]
  have : (s.data.toList.head? ≠ some 48 ∨ s.size ≤ 1) ↔ lead s = false := by
    unfold lead
    rw [Bool.and_eq_false_iff, decide_eq_false_iff_not, decide_eq_false_iff_not]
    constructor
    · rintro (h | h)
      · exact .inl h
      · exact .inr (by omega)
    · rintro (h | h)
      · exact .inl h
      · exact .inr (by omega)
  simp only [this]
theorem l1Read_is (k : Nat) (hk : 100 ≤ k) (s : ByteArray) (hs : s.size ≤ 1000) : spec_l1Read_f k s = some ((rdR s.data.toList, ()), ()) := by
  have hl := list_size s
  unfold spec_l1Read_f
  rw [l1In_is]
  simp only [Option.bind_some]
  unfold rdR
  rw [rdw_lead, hl]
  by_cases h1 : 1 ≤ s.size
  · by_cases h6 : s.size ≤ 6
    · rw [decide_eq_true (show (1 : Int) ≤ (s.size : Int) by omega), decide_eq_true (show (s.size : Int) ≤ 6 by omega)]
      simp only [Bool.and_self, Bool.not_true, cond_false]
      rw [chk_dec (by omega), lead_is s (by omega), if_pos h6]
      cases hz : lead s with
      | true => rw [if_neg (by simp)]; rfl
      | false =>
        rw [if_pos ⟨h1, rfl⟩]
        simp only [met_inl, cond_false]
        have := read_loop k s h6 s.size 0 0 k (by omega) (by omega) (by omega)
        rw [List.drop_zero] at this
        rw [show spec_l1Read_l2 k s 0 0 = iter k (readF k s) (((0 : Nat) : Int), ((0 : Nat) : Int), ()) from rfl, this]
        cases Lib.decFrom 0 s.data.toList <;> rfl
    · rw [decide_eq_false (show ¬ (s.size : Int) ≤ 6 by omega), Bool.and_false, if_neg h6]
      rfl
  · rw [decide_eq_false (show ¬ (1 : Int) ≤ (s.size : Int) by omega), Bool.false_and, if_pos (by omega), if_neg (by omega)]
    rfl
theorem number_is (k : Nat) (s : ByteArray) (d : Nat) (hd : 1 ≤ d) (h6 : d ≤ 6) (hs : s.size ≤ 1000) : impl_number_f k s (d : Int) = some (((numR s.data.toList d).1, (numR s.data.toList d).2, ()), ()) := by
  have hl := list_size s
  unfold impl_number_f
  rw [within_is]
  simp only [Option.bind_some]
  unfold numR
  rw [rdw_lead, hl]
  by_cases h1 : 1 ≤ s.size
  · by_cases h6' : s.size ≤ d
    · rw [decide_eq_true (show (1 : Int) ≤ (s.size : Int) by omega), decide_eq_true (show (s.size : Int) ≤ (d : Int) by omega)]
      simp only [Bool.and_self, Bool.not_true, cond_false]
      rw [if_pos h6']
      have ht : strings_Trim_f k s (lit [48, 49, 50, 51, 52, 53, 54, 55, 56, 57]) = some ((lit (Lib.trimS s.data.toList [48, 49, 50, 51, 52, 53, 54, 55, 56, 57]), ()), ()) := by
        unfold strings_Trim_f trimL
        rw [decide_eq_true (show s.size ≤ 9223372036854775807 by omega), lit_list, show decide ((lit [48, 49, 50, 51, 52, 53, 54, 55, 56, 57]).size < 4294967281) = true by rw [lit_size]; decide]
        rfl
      rw [ht]
      simp only [Option.bind_some, Go.ByteArray.toList_eq, lit_list]
      cases hv : Lib.decFrom 0 s.data.toList with
      | none =>
        have hn : ¬ (Lib.trimS s.data.toList [48, 49, 50, 51, 52, 53, 54, 55, 56, 57] = []) := by
          rw [trimS_nil]
          intro h
          obtain ⟨v, hv'⟩ := dec_all s.data.toList 0 (fun c hc => by have := h c hc; rw [digs_has] at this; exact of_decide_eq_true this)
          rw [hv] at hv'; cases hv'
        rw [show (Lib.trimS s.data.toList [48, 49, 50, 51, 52, 53, 54, 55, 56, 57] == ByteArray.empty.data.toList) = false from beq_eq_false_iff_ne.2 hn, ite_self]
        rfl
      | some v =>
        have hy : Lib.trimS s.data.toList [48, 49, 50, 51, 52, 53, 54, 55, 56, 57] = [] := by
          rw [trimS_nil]
          intro c hc
          rw [digs_has]
          exact decide_eq_true (dec_digs _ _ _ hv c hc)
        rw [show (Lib.trimS s.data.toList [48, 49, 50, 51, 52, 53, 54, 55, 56, 57] == ByteArray.empty.data.toList) = true from beq_iff_eq.2 hy]
        simp only [Bool.not_true, cond_false]
        rw [chk_dec (by omega), lead_is s (by omega)]
        cases hz : lead s with
        | true => rw [if_neg (by simp)]; rfl
        | false =>
          rw [if_pos ⟨h1, rfl⟩]
          simp only [met_inl, cond_false]
          unfold strconv_Atoi_f atoiL
          rw [chk_dec (by omega), atoi_digs _ (by omega) (by omega) v hv]
          rfl
    · rw [decide_eq_false (show ¬ (s.size : Int) ≤ (d : Int) by omega), Bool.and_false, if_neg h6']
      rfl
  · rw [decide_eq_false (show ¬ (1 : Int) ≤ (s.size : Int) by omega), Bool.false_and, if_pos (by omega), if_neg (by omega)]
    rfl

/-! ### A text of socks read -/
abbrev SplR := ((List ByteArray) × Int × Unit) ⊕ (((List ByteArray) × Unit) × Unit)
noncomputable def splF (k : Nat) (s : ByteArray) (c : Int) (rec : ((List ByteArray) × Int × Int × Unit) → Option SplR) (x : (List ByteArray) × Int × Int × Unit) : Option SplR := spec_l1Split_l1_b k s c (fun x5 x6 x7 => rec (x5, x6, x7, ())) x.1 x.2.1 x.2.2.1
noncomputable def splG (s : ByteArray) (j4 : (List ByteArray) × Int × Unit) : Option (((List ByteArray) × Unit) × Unit) :=
  (chk (decide (0 ≤ j4.2.1)) (chk (decide (j4.2.1 ≤ ((ByteArray.size s : Nat) : Int))) (chk (decide (List.length j4.1 + List.length [(ByteArray.extract s (Int.toNat j4.2.1) (ByteArray.size s))] ≤ 8278675785607)) (some (((j4.1 ++ [(ByteArray.extract s (Int.toNat j4.2.1) (ByteArray.size s))]), ()), ())))))
theorem ext_is (s : ByteArray) (a b : Nat) : s.extract a b = lit ((s.data.toList.take b).drop a) := by
  rw [← lit_of (s.extract a b), Lib.extract_data, ← List.drop_take]
theorem split_loop (k : Nat) (c : UInt8) (s : ByteArray) (hs : s.size ≤ 1000) : ∀ (d n fr i : Nat) (out : List ByteArray), n + d = s.size → fr ≤ n → out.length ≤ n → d < i →
    met (iter i (splF k s (c.toNat : Int)) (out, (fr : Int), (n : Int), ())) (splG s) = some (((out ++ (headApp ((s.data.toList.take n).drop fr) (splL c (s.data.toList.drop n))).map lit), ()), ()) := by
  have hl := list_size s
  intro d
  induction d with
  | zero =>
    intro n fr i out hn hf ho hi
    obtain ⟨i, rfl⟩ : ∃ i', i = i' + 1 := ⟨i - 1, by omega⟩
    show met (splF k s (c.toNat : Int) _ _) _ = _
    simp only [splF, spec_l1Split_l1_b]
    rw [cond_dec, if_neg (by omega)]
    simp only [met_inl, splG]
    rw [chk_dec (by omega), chk_dec (by omega), chk_dec (by simp; omega), Int.toNat_natCast, ext_is]
    have hz : s.data.toList.drop n = [] := List.drop_eq_nil_of_le (by omega)
    have ht : s.data.toList.take n = s.data.toList.take s.size := by rw [show n = s.size by omega]
    rw [hz, ht]
    simp [splL, headApp]
  | succ d ih =>
    intro n fr i out hn hf ho hi
    obtain ⟨i, rfl⟩ : ∃ i', i = i' + 1 := ⟨i - 1, by omega⟩
    show met (splF k s (c.toNat : Int) _ _) _ = _
    have hlt : n < s.data.toList.length := by omega
    have hb : byteAt s (n : Int) = ((s.data.toList[n]).toNat : Int) := byteAt_nat s n _ (List.getElem?_eq_getElem hlt)
    have hd : s.data.toList.drop n = s.data.toList[n] :: s.data.toList.drop (n + 1) := List.drop_eq_getElem_cons hlt
    simp only [splF, spec_l1Split_l1_b]
    rw [cond_dec, if_pos (by omega), ixk_in (by omega) (by omega), hb]
    by_cases hc : s.data.toList[n] = c
    · rw [show (((s.data.toList[n]).toNat : Int) == (c.toNat : Int)) = true from beq_iff_eq.2 (by rw [hc]), cond_true, chk_dec (by omega), chk_dec (by omega), chk_dec (by omega), chk_dec (by omega), chk_dec (by simp; omega), Int.toNat_natCast, Int.toNat_natCast, iw_nat (by omega)]
      simp only [met_inl]
      have := ih (n + 1) (n + 1) i (out ++ [s.extract fr n]) (by omega) (by omega) (by simp; omega) (by omega)
      rw [hd]
      have e : splL c (s.data.toList[n] :: s.data.toList.drop (n + 1)) = [] :: splL c (s.data.toList.drop (n + 1)) := by rw [splL, if_pos hc]
      rw [e]
      rw [List.drop_eq_nil_of_le (by simp; omega), headApp_nil (splL_ne c _), ext_is] at this
      rw [ext_is]
      refine Eq.trans this ?_
      simp [headApp]
    · rw [show (((s.data.toList[n]).toNat : Int) == (c.toNat : Int)) = false from beq_eq_false_iff_ne.2 (fun e => hc (UInt8.toNat_inj.1 (by omega))), cond_false, iw_nat (by omega)]
      simp only [met_inl]
      have := ih (n + 1) fr i out (by omega) (by omega) (by omega) (by omega)
      rw [hd]
      have e : splL c (s.data.toList[n] :: s.data.toList.drop (n + 1)) = headApp [s.data.toList[n]] (splL c (s.data.toList.drop (n + 1))) := by rw [splL, if_neg hc]
      rw [e, headApp_app]
      rw [List.take_succ_eq_append_getElem hlt, List.drop_append_of_le_length (by simp; omega)] at this
      exact this
theorem l1Split_is (k : Nat) (hk : 2000 ≤ k) (c : UInt8) (s : ByteArray) (hs : s.size ≤ 1000) : spec_l1Split_f k s (c.toNat : Int) = some (((splL c s.data.toList).map lit, ()), ()) := by
  have := split_loop k c s hs s.size 0 0 k [] (by omega) (by omega) (by simp) (by omega)
  simp only [List.take_zero, List.drop_zero, List.drop_nil, List.nil_append] at this
  rw [headApp_nil (splL_ne c _)] at this
  exact this
theorem rdG_lit (ws : List (List UInt8)) (n : Nat) (h : n < ws.length) : rdG ByteArray.empty (ws.map lit) (n : Int) = lit ws[n] := by
  rw [rdG_nat _ _ n (by simpa using h)]; simp

/-! ### Gloves -/
abbrev GT := List Int × List Int × Unit
def goodG (L R : List Int) : Bool := (decide (1 ≤ (L.length : Int)) && decide ((L.length : Int) ≤ 8)) && (((R.length : Int) == (L.length : Int)) && (allIn 0 20 L && (allIn 0 20 R && decide (iw (sumW L + sumW R) > 0))))

/-! ### Texts of gloves -/
def gtl : List Nat → List Nat → List UInt8
  | n :: N, m :: M => dig n ++ 108 :: (dig m ++ 114 :: gtl N M)
  | _, _ => []
/-! ### Drawn gloves with small numbers -/
def in9 (L : List Int) : Prop := ∀ x ∈ L, 0 ≤ x ∧ x ≤ 9
theorem in9.one {x : Int} (h1 : 0 ≤ x) (h2 : x ≤ 9) : in9 [x] := by
  intro y hy
  rw [List.mem_singleton.1 hy]; exact ⟨h1, h2⟩

/-! ### A text cut at a byte -/
theorem cut_cons (b c : UInt8) (l : List UInt8) : Lib.cut (b :: l) [c] = if b = c then ([], l, true) else (b :: (Lib.cut l [c]).1, (Lib.cut l [c]).2.1, (Lib.cut l [c]).2.2) := by
  have hge := Lib.index_ge l [c]
  unfold Lib.cut
  rw [index_cons]
  by_cases h : b = c
  · subst h; simp
  · simp only [if_neg h]
    by_cases hm : Lib.index l [c] = -1
    · simp [hm]
    · obtain ⟨j, hj⟩ : ∃ j : Nat, Lib.index l [c] = j := ⟨(Lib.index l [c]).toNat, by omega⟩
      have e1 : ((j : Int) + 1).toNat = j + 1 := by omega
      have n1 : ¬ ((j : Int) = -1) := by omega
      have n2 : (0 : Int) ≤ (j : Int) + 1 := by omega
      have n3 : (0 : Int) ≤ (j : Int) := by omega
      simp [hj, n1, n2, n3, e1]
theorem cut_nil (c : UInt8) : Lib.cut [] [c] = ([], [], false) := by simp [Lib.cut, Lib.index]
/-- Where the byte stands in front of a text without it, and a rest. -/
theorem cut_at (c : UInt8) (a r : List UInt8) (h : c ∉ a) : Lib.cut (a ++ c :: r) [c] = (a, r, true) := by
  induction a with
  | nil => rw [List.nil_append, cut_cons, if_pos rfl]
  | cons b a ih =>
    rw [List.cons_append, cut_cons, if_neg (fun e => h (by simp [e])), ih (fun x => h (by simp [x]))]
theorem splL_at (c : UInt8) (a r : List UInt8) (h : c ∉ a) : splL c (a ++ c :: r) = a :: splL c r := by
  induction a with
  | nil => rw [List.nil_append, splL, if_pos rfl]
  | cons b a ih =>
    rw [List.cons_append, splL, if_neg (fun e => h (by simp [e])), ih (fun x => h (by simp [x]))]; rfl
theorem splL_not (c : UInt8) (l : List UInt8) (h : c ∉ l) : splL c l = [l] := splL_none c l (List.count_eq_zero.2 h)
theorem spl_pair (c : UInt8) (a r : List UInt8) (ha : c ∉ a) (hr : c ∉ r) : splL c (a ++ c :: r) = [a, r] := by rw [splL_at c a r ha, splL_not c r hr]
theorem numR_dig (n : Nat) (h : n < 100) : numR (dig n) 2 = ((n : Int), true) := by
  have : ∀ n : Nat, n < 100 → numR (dig n) 2 = ((n : Int), true) := by decide +kernel
  exact this n h
theorem numR_num (w : List UInt8) (h : (numR w 2).2 = true) : ∃ n : Nat, n < 100 ∧ dig n = w ∧ numR w 2 = ((n : Int), true) := by
  unfold numR at h ⊢
  split at h
  · rename_i hl
    rw [if_pos hl]
    cases hw : rdw w with
    | none => rw [hw] at h; cases h
    | some n =>
      have := rdw_lt w n hw hl
      exact ⟨n, by omega, rdw_text w n hw this, rfl⟩
  · cases h
theorem cut_is (k : Nat) (s : List UInt8) (c : UInt8) (h : s.length ≤ 1000) : strings_Cut_f k (lit s) (lit [c]) = some ((lit (Lib.cut s [c]).1, lit (Lib.cut s [c]).2.1, (Lib.cut s [c]).2.2, ()), ()) := by
  unfold strings_Cut_f cutL
  rw [chk_dec (by rw [lit_size]; omega)]
  rfl
/-- What a text of gloves comes to: just where it is a text of some. -/
def PgOk (s : ByteArray) (v : (GT × Bool × Unit) × Unit) : Prop :=
  (v = ((([], [], ()), false, ()), ()) ∨ ∃ L R, goodG L R = true ∧ s = lit (gtl (nats' L) (nats' R)) ∧ v = (((L, R, ()), true, ()), ())) ∧
  (∀ L R, goodG L R = true → s = lit (gtl (nats' L) (nats' R)) → v = (((L, R, ()), true, ()), ()))
theorem PgOk.uniq {s : ByteArray} {v v' : (GT × Bool × Unit) × Unit} (h : PgOk s v) (h' : PgOk s v') : v = v' := by
  rcases h.1 with e | ⟨L, R, g, t, e⟩
  · rcases h'.1 with e' | ⟨L, R, g, t, e'⟩
    · rw [e, e']
    · rw [h.2 L R g t, e']
  · rw [h'.2 L R g t, e]

/-! ### Drawers -/
abbrev DT := List (Int × Int)
def wt (S : DT) (i : Nat) : Nat := (rdG ((0, 0) : Int × Int) S (i : Int)).1.toNat
def mi (S : DT) (i : Nat) : Nat := (rdG ((0, 0) : Int × Int) S (i : Int)).2.toNat
def okD (d : Int × Int) : Bool := (decide (0 ≤ d.1) && decide (d.1 ≤ 50)) && (decide (1 ≤ d.2) && decide (d.2 ≤ 60))
def goodD (S : DT) : Bool := (decide (1 ≤ (S.length : Int)) && decide ((S.length : Int) ≤ 8)) && (S.all okD && decide (0 < sumN (wt S) S.length))

/-! ### All minutes, and when it is found -/
def M (S : DT) : Nat := sumN (mi S) S.length

/-! ### Drawn drawers -/
def smD (S : DT) : Prop := ∀ d ∈ S, (0 ≤ d.1 ∧ d.1 ≤ 9) ∧ (1 ≤ d.2 ∧ d.2 ≤ 9)
theorem smD.one {a b : Int} (ha : 0 ≤ a ∧ a ≤ 9) (hb : 1 ≤ b ∧ b ≤ 9) : smD [(a, b)] := by
  intro y hy
  rw [List.mem_singleton.1 hy]; exact ⟨ha, hb⟩

def pd (d : Int × Int) : List UInt8 := dig d.1.toNat ++ 47 :: dig d.2.toNat
def dtl (S : DT) : List UInt8 := jnL 59 (S.map pd)
/-- What a text of drawers comes to: just where it is a text of some. -/
def DpOk (s : ByteArray) (v : (DT × Bool × Unit) × Unit) : Prop :=
  (v = (([], false, ()), ()) ∨ ∃ S, goodD S = true ∧ s = lit (dtl S) ∧ v = ((S, true, ()), ())) ∧
  (∀ S, goodD S = true → s = lit (dtl S) → v = ((S, true, ()), ()))
theorem DpOk.uniq {s : ByteArray} {v v' : (DT × Bool × Unit) × Unit} (h : DpOk s v) (h' : DpOk s v') : v = v' := by
  rcases h.1 with e | ⟨S, g, t, e⟩
  · rcases h'.1 with e' | ⟨S, g, t, e'⟩
    · rw [e, e']
    · rw [h.2 S g t, e']
  · rw [h'.2 S g t, e]

/-! How often numbers stand in a list (impl.times, spec.laCounts). -/
/-- A loop that counts, with what holds at each place. -/
theorem iter_inv {σ α : Type} {F : (σ → Option α) → σ → Option α} (st : Nat → σ) (I : Nat → Prop) (res : Nat → Option α) (n : Nat)
    (h : ∀ j, j ≤ n → I j → (∀ rec, F rec (st j) = res j) ∨ (j < n ∧ I (j + 1) ∧ res j = res (j + 1) ∧ ∀ rec, F rec (st j) = rec (st (j + 1)))) :
    ∀ (k j : Nat), j ≤ n → I j → n - j < k → iter k F (st j) = res j
  | 0, _, _, _, h0 => by omega
  | k + 1, j, hj, hi, hk => by
    show F (iter k F) (st j) = res j
    rcases h j hj hi with h1 | ⟨h1, h2, h3, h4⟩
    · exact h1 _
    · rw [h4, h3]; exact iter_inv st I res n h k (j + 1) h1 h2 (by omega)
def cnts (p : Nat) (l : List Int) : List Int := (List.range p).map fun (i : Nat) => ((l.count (i : Int) : Nat) : Int)
theorem cnts_len (p : Nat) (l : List Int) : (cnts p l).length = p := by simp [cnts]
theorem cnts_get (p : Nat) (l : List Int) (i : Nat) (h : i < p) : (cnts p l)[i]'(by rw [cnts_len]; exact h) = ((l.count (i : Int) : Nat) : Int) := by simp [cnts]
theorem cnts_rd (p : Nat) (l : List Int) (i : Nat) (h : i < p) : rd (cnts p l) (i : Int) = ((l.count (i : Int) : Nat) : Int) := by
  rw [rd_nat _ i (by rw [cnts_len]; exact h), cnts_get p l i h]
theorem cnts_snoc (p : Nat) (l : List Int) (i : Nat) (h : i < p) : setI (cnts p l) (i : Int) (((l.count (i : Int) : Nat) : Int) + 1) = cnts p (l ++ [(i : Int)]) := by
  unfold setI
  rw [Int.toNat_natCast]
  apply List.ext_getElem
  · simp [cnts_len]
  · intro j h1 h2
    rw [cnts_len] at h2
    rw [List.getElem_set, cnts_get _ _ j h2]
    by_cases e : i = j
    · subst e; rw [if_pos rfl, cnts_get _ _ i h2]; simp
    · rw [if_neg e, cnts_get _ _ j h2]
      have : ([(i : Int)].count (j : Int)) = 0 := by
        rw [List.count_eq_zero]; simp; omega
      rw [List.count_append, this]; simp
open Classical in

/-! Loops that test all places; sorted lists; lists of chosen places. -/
open Classical in
open Classical in
open Classical in

/-! Drawn baskets. -/
/-- Numbers that are not great. -/
def lowN (l : List Int) : Prop := ∀ x ∈ l, -1 ≤ x ∧ x < 100
theorem lowN.nil : lowN [] := fun _ h => (by cases h)

/-! What is told of baskets. -/
def cs (l : List Int) : Nat → Nat
  | 0 => 0
  | n + 1 => cs l n + l.count (n : Int)

/-! Days: which pairs are worn, which are clean, what lies in the basket (plain). -/
/-- From which day on a pair is clean that was worn last on day x (-1: never). -/
def dyR (e d x : Int) : Int := if x < 0 then 0 else e * (x / e) + e - 1 + d
/-- The best of the first pairs: clean, and worn longest ago. -/
def dyB (e d : Int) (l : List Int) (t : Int) : Nat → Int
  | 0 => -1
  | n + 1 => if dyR e d (rd l (n : Int)) ≤ t ∧ (dyB e d l t n < 0 ∨ rd l (n : Int) < rd l (dyB e d l t n)) then (n : Int) else dyB e d l t n
/-- The clean ones of the first pairs. -/
def dyC (e d : Int) (l : List Int) (t : Int) : Nat → List Int
  | 0 => []
  | n + 1 => if dyR e d (rd l (n : Int)) ≤ t then dyC e d l t n ++ [(n : Int)] else dyC e d l t n
def dyN (e d : Int) (P : Nat) (l : List Int) (t : Int) : List Int := if 0 ≤ dyB e d l t P then setI l (dyB e d l t P) t else l
def dyS (P : Nat) (e d : Int) : Nat → List Int
  | 0 => List.replicate P (-1)
  | t + 1 => dyN e d P (dyS P e d t) (t : Int)
def dyW (P : Nat) (e d : Int) (t : Nat) : Int := dyB e d (dyS P e d t) (t : Int) P
def dyWq (w : Int) (q : List Int) : List Int := if 0 ≤ w then q ++ [w] else q
def dyPut (b q : List Int) (v : Int) : List Int := q.foldl (fun b k => setI b k v) b
def dyBB (P : Nat) (e d : Int) : Nat → List Int × List Int
  | 0 => (List.replicate P 0, [])
  | t + 1 => if ((t : Int) + 1) % e = 0 then (dyPut (dyBB P e d t).1 (dyWq (dyW P e d t) (dyBB P e d t).2) ((t : Int) + d), []) else ((dyBB P e d t).1, dyWq (dyW P e d t) (dyBB P e d t).2)
def dyQ (P : Nat) (e d : Int) (t : Nat) : List Int := dyWq (dyW P e d t) (dyBB P e d t).2
def dyDay (P : Nat) (e d : Int) (t : Nat) : Int × List Int × List Int × List Int :=
  (dyW P e d t, dyC e d (dyS P e d t) (t : Int) P, sortI (dyQ P e d t), if ((t : Int) + 1) % e = 0 then sortI (dyQ P e d t) else [])
theorem dyB_lo (e d : Int) (l : List Int) (t : Int) : ∀ n, dyB e d l t n = -1 ∨ ∃ m : Nat, m < n ∧ dyB e d l t n = (m : Int) ∧ dyR e d (rd l (m : Int)) ≤ t
  | 0 => Or.inl rfl
  | n + 1 => by
    unfold dyB
    split
    · rename_i h; exact Or.inr ⟨n, by omega, rfl, h.1⟩
    · rcases dyB_lo e d l t n with h | ⟨m, h1, h2, h3⟩
      · exact Or.inl h
      · exact Or.inr ⟨m, by omega, h2, h3⟩
theorem dyB_ge (e d : Int) (l : List Int) (t : Int) (n : Nat) : -1 ≤ dyB e d l t n ∧ dyB e d l t n < (n : Int) := by
  rcases dyB_lo e d l t n with h | ⟨m, h1, h2, h3⟩
  · rw [h]; omega
  · rw [h2]; omega
theorem rd_setI (l : List Int) (i : Nat) (v : Int) (k : Nat) (hk : k < l.length) : rd (setI l (i : Int) v) (k : Int) = if i = k then v else rd l (k : Int) := by
  unfold setI
  rw [Int.toNat_natCast, rd_nat _ k (by simpa using hk), List.getElem_set, rd_nat _ k hk]
theorem setI_len (l : List Int) (i v : Int) : (setI l i v).length = l.length := by unfold setI; simp
theorem dyN_len (e d : Int) (P : Nat) (l : List Int) (t : Int) : (dyN e d P l t).length = l.length := by
  unfold dyN; split
  · exact setI_len _ _ _
  · rfl
theorem dyS_len (P : Nat) (e d : Int) : ∀ t, (dyS P e d t).length = P
  | 0 => by simp [dyS]
  | t + 1 => by rw [dyS, dyN_len, dyS_len P e d t]
theorem dyN_rd (e d : Int) (P : Nat) (l : List Int) (t : Int) (k : Nat) (hk : k < l.length) : rd (dyN e d P l t) (k : Int) = if dyB e d l t P = (k : Int) then t else rd l (k : Int) := by
  unfold dyN
  rcases dyB_lo e d l t P with h | ⟨m, h1, h2, h3⟩
  · rw [h, if_neg (by omega), if_neg (by omega)]
  · rw [h2, if_pos (by omega), rd_setI l m t k hk]
    by_cases hm : m = k
    · subst hm; simp
    · rw [if_neg hm, if_neg (by omega)]
theorem dyS_in (P : Nat) (e d : Int) : ∀ (t : Nat) (k : Nat), k < P → -1 ≤ rd (dyS P e d t) (k : Int) ∧ rd (dyS P e d t) (k : Int) < (t : Int)
  | 0, k, hk => by
    unfold dyS
    rw [rd_nat _ k (by simpa using hk)]; simp
  | t + 1, k, hk => by
    have := dyS_in P e d t k hk
    rw [dyS, dyN_rd _ _ _ _ _ k (by rw [dyS_len]; exact hk)]
    split <;> omega
/-- Where a period of the basket begins. -/
def dyP (e t : Int) : Int := e * (t / e)
theorem dyP_le {e t : Int} (he : 1 ≤ e) : dyP e t ≤ t ∧ t < dyP e t + e := by
  unfold dyP
  have h1 := Int.emod_nonneg t (by omega : e ≠ 0)
  have h2 := Int.emod_lt_of_pos t (by omega : 0 < e)
  have h3 := Int.emod_add_mul_ediv t e
  omega
theorem dyP_same {e t x : Int} (he : 1 ≤ e) (h1 : dyP e t ≤ x) (h2 : x < dyP e t + e) : x / e = t / e := by
  unfold dyP at h1 h2
  have a1 : t / e ≤ x / e := by rw [Int.le_ediv_iff_mul_le (by omega), Int.mul_comm]; exact h1
  have a2 : x / e < t / e + 1 := by rw [Int.ediv_lt_iff_lt_mul (by omega), Int.add_mul, Int.one_mul, Int.mul_comm]; exact h2
  omega
theorem dyP_zero {e t : Int} (he : 1 ≤ e) (ht : 0 ≤ t) : 0 ≤ dyP e t := by
  unfold dyP; exact Int.mul_nonneg (by omega) (Int.ediv_nonneg ht (by omega))
theorem dyP_wash {e t : Int} (he : 1 ≤ e) (h : (t + 1) % e = 0) : dyP e (t + 1) = t + 1 ∧ dyP e t + e = t + 1 := by
  have a := dyP_le (t := t) he
  have h3 := Int.emod_add_mul_ediv (t + 1) e
  have h4 : dyP e (t + 1) = t + 1 := by unfold dyP; omega
  refine ⟨h4, ?_⟩
  have b := dyP_le (t := t + 1) he
  unfold dyP at *
  generalize hq : (t + 1) / e = q at *
  generalize hr : t / e = r at *
  have h5 : e * (q - 1) ≤ t := by rw [Int.mul_sub]; omega
  have h6 : t < e * (q - 1) + e := by rw [Int.mul_sub]; omega
  have h7 : t / e = q - 1 := by
    have a1 : q - 1 ≤ t / e := by rw [Int.le_ediv_iff_mul_le (by omega), Int.mul_comm]; exact h5
    have a2 : t / e < q - 1 + 1 := by rw [Int.ediv_lt_iff_lt_mul (by omega), Int.add_mul, Int.one_mul, Int.mul_comm]; omega
    omega
  rw [hr] at h7
  rw [h7, Int.mul_sub]; omega
theorem dyP_stay {e t : Int} (he : 1 ≤ e) (h : (t + 1) % e ≠ 0) : dyP e (t + 1) = dyP e t := by
  have a := dyP_le (t := t) he
  have : (t + 1) / e = t / e := by
    refine dyP_same he (by omega) ?_
    rcases Int.lt_or_le (t + 1) (dyP e t + e) with h1 | h1
    · exact h1
    · exfalso; apply h
      have : t + 1 = e * (t / e + 1) := by unfold dyP at *; rw [Int.mul_add]; omega
      rw [this, Int.mul_emod_right]
  unfold dyP; rw [this]
theorem dyR_out {e d t x : Int} (he : 1 ≤ e) (hd : 1 ≤ d) (ht : 0 ≤ t) (h1 : dyP e t ≤ x) (h2 : x < t) : dyR e d x = dyP e t + e - 1 + d ∧ ¬ dyR e d x ≤ t := by
  have a := dyP_le (t := t) he
  have b := dyP_zero he ht
  have h := dyP_same he h1 (by omega)
  unfold dyR
  rw [if_neg (by omega), h]
  unfold dyP at *
  omega
theorem dyR_nonneg {e d x : Int} (he : 1 ≤ e) (hd : 1 ≤ d) : 0 ≤ dyR e d x := by
  unfold dyR
  split
  · omega
  · have : 0 ≤ e * (x / e) := Int.mul_nonneg (by omega) (Int.ediv_nonneg (by omega) (by omega))
    omega
theorem dyPut_len (v : Int) : ∀ (q b : List Int), (dyPut b q v).length = b.length
  | [], b => rfl
  | x :: q, b => by
    show (dyPut (setI b x v) q v).length = _
    rw [dyPut_len v q, setI_len]
theorem dyPut_snoc (b q : List Int) (x v : Int) : dyPut b (q ++ [x]) v = setI (dyPut b q v) x v := by unfold dyPut; rw [List.foldl_append]; rfl
theorem dyPut_rd (v : Int) (k : Nat) : ∀ (q b : List Int), (∀ x ∈ q, 0 ≤ x) → k < b.length → rd (dyPut b q v) (k : Int) = if (k : Int) ∈ q then v else rd b (k : Int)
  | [], b, _, _ => by simp [dyPut]
  | x :: q, b, hq, hk => by
    show rd (dyPut (setI b x v) q v) (k : Int) = _
    rw [dyPut_rd v k q _ (fun y hy => hq y (List.mem_cons_of_mem _ hy)) (by rw [setI_len]; exact hk)]
    obtain ⟨i, rfl⟩ := Int.eq_ofNat_of_zero_le (hq x List.mem_cons_self)
    rw [rd_setI b i v k hk]
    by_cases h : (k : Int) ∈ q
    · rw [if_pos h, if_pos (List.mem_cons_of_mem _ h)]
    · rw [if_neg h]
      by_cases h2 : i = k
      · subst h2; simp
      · rw [if_neg h2, if_neg]
        intro hc
        rcases List.mem_cons.1 hc with h3 | h3
        · omega
        · exact h h3
structure DyInv (P : Nat) (e d : Int) (t : Nat) : Prop where
  len : (dyBB P e d t).1.length = P
  mem : ∀ k : Nat, k < P → ((k : Int) ∈ (dyBB P e d t).2 ↔ dyP e (t : Int) ≤ rd (dyS P e d t) (k : Int))
  back : ∀ k : Nat, k < P → rd (dyS P e d t) (k : Int) < dyP e (t : Int) → rd (dyBB P e d t).1 (k : Int) = dyR e d (rd (dyS P e d t) (k : Int))
  inq : ∀ x ∈ (dyBB P e d t).2, 0 ≤ x ∧ x < (P : Int)
  few : (dyBB P e d t).2.length ≤ t
theorem dyW_lo (P : Nat) (e d : Int) (t : Nat) : dyW P e d t = -1 ∨ ∃ m : Nat, m < P ∧ dyW P e d t = (m : Int) ∧ dyR e d (rd (dyS P e d t) (m : Int)) ≤ (t : Int) := dyB_lo e d _ _ P
theorem dyWq_mem (w : Int) (q : List Int) (x : Int) : x ∈ dyWq w q ↔ x ∈ q ∨ (0 ≤ w ∧ x = w) := by
  unfold dyWq; split
  · rename_i h; simp [h]
  · rename_i h; simp [h]
theorem dyQ_in {P : Nat} {e d : Int} {t : Nat} (h : DyInv P e d t) : (∀ x ∈ dyQ P e d t, 0 ≤ x ∧ x < (P : Int)) ∧ (dyQ P e d t).length ≤ t + 1 := by
  constructor
  · intro x hx
    unfold dyQ at hx
    rw [dyWq_mem] at hx
    rcases hx with hx | ⟨h1, h2⟩
    · exact h.inq x hx
    · have := dyB_ge e d (dyS P e d t) (t : Int) P
      unfold dyW at h1 h2
      omega
  · unfold dyQ dyWq
    have := h.few
    split
    · simp; omega
    · omega
theorem dyQ_mem {P : Nat} {e d : Int} (he : 1 ≤ e) {t : Nat} (h : DyInv P e d t) (k : Nat) (hk : k < P) : (k : Int) ∈ dyQ P e d t ↔ dyP e (t : Int) ≤ rd (dyS P e d (t + 1)) (k : Int) := by
  unfold dyQ
  rw [dyWq_mem, h.mem k hk, dyS, dyN_rd _ _ _ _ _ k (by rw [dyS_len]; exact hk)]
  have hp := (dyP_le (t := (t : Int)) he).1
  show _ ∨ 0 ≤ dyW P e d t ∧ (k : Int) = dyW P e d t ↔ dyP e (t : Int) ≤ (if dyW P e d t = (k : Int) then (t : Int) else rd (dyS P e d t) (k : Int))
  by_cases hw : dyW P e d t = (k : Int)
  · rw [if_pos hw, hw]
    constructor
    · intro _; exact hp
    · intro _; exact Or.inr ⟨by omega, rfl⟩
  · rw [if_neg hw]
    constructor
    · rintro (h1 | ⟨h1, h2⟩)
      · exact h1
      · exact absurd h2.symm hw
    · exact Or.inl
theorem dyInv {P : Nat} {e d : Int} (he : 1 ≤ e) (hd : 1 ≤ d) : ∀ t : Nat, DyInv P e d t
  | 0 => by
    have hz : dyP e ((0 : Nat) : Int) = 0 := by unfold dyP; simp
    have hl : ∀ k : Nat, k < P → rd (dyS P e d 0) (k : Int) = -1 := fun k hk => by
      unfold dyS; rw [rd_nat _ k (by simpa using hk)]; simp
    refine ⟨by simp [dyBB], fun k hk => ?_, fun k hk _ => ?_, by simp [dyBB], by simp [dyBB]⟩
    · rw [hl k hk, hz]; simp [dyBB]
    · rw [hl k hk]
      show rd (List.replicate P 0) (k : Int) = _
      rw [rd_nat _ k (by simpa using hk)]; simp [dyR]
  | t + 1 => by
    have h := dyInv (P := P) he hd t
    obtain ⟨hq1, hq2⟩ := dyQ_in h
    have hin := dyS_in P e d (t + 1)
    have hin0 := dyS_in P e d t
    have hS : ∀ k : Nat, k < P → rd (dyS P e d (t + 1)) (k : Int) = if dyW P e d t = (k : Int) then (t : Int) else rd (dyS P e d t) (k : Int) := fun k hk => by
      rw [dyS, dyN_rd _ _ _ _ _ k (by rw [dyS_len]; exact hk)]; rfl
    have hle := dyP_le (t := (t : Int)) he
    by_cases hw : ((t : Int) + 1) % e = 0
    · have hb : dyBB P e d (t + 1) = (dyPut (dyBB P e d t).1 (dyQ P e d t) ((t : Int) + d), []) := by rw [dyBB, if_pos hw]; rfl
      obtain ⟨h1, h2⟩ := dyP_wash he hw
      rw [show ((t : Int) + 1) = ((t + 1 : Nat) : Int) by omega] at h1
      refine ⟨?_, fun k hk => ?_, fun k hk _ => ?_, ?_, ?_⟩
      · rw [hb]; exact (dyPut_len _ _ _).trans h.len
      · rw [hb, h1]
        have := hin k hk
        simp; omega
      · rw [hb]
        show rd (dyPut _ _ _) (k : Int) = _
        rw [dyPut_rd _ k _ _ (fun x hx => (hq1 x hx).1) (by rw [h.len]; exact hk)]
        by_cases hm : (k : Int) ∈ dyQ P e d t
        · rw [if_pos hm]
          have hm2 := (dyQ_mem he h k hk).1 hm
          have hs := dyP_same he hm2 (by have := hin k hk; omega)
          have := hin k hk
          have h0 := dyP_zero he (t := (t : Int)) (by omega)
          unfold dyR
          rw [if_neg (by omega), hs]
          unfold dyP at h2
          omega
        · rw [if_neg hm]
          have hm2 : rd (dyS P e d (t + 1)) (k : Int) < dyP e (t : Int) := by
            rcases Int.lt_or_le (rd (dyS P e d (t + 1)) (k : Int)) (dyP e (t : Int)) with h9 | h9
            · exact h9
            · exact absurd ((dyQ_mem he h k hk).2 h9) hm
          have hwk : dyW P e d t ≠ (k : Int) := fun hc => by rw [hS k hk, if_pos hc] at hm2; omega
          have hS2 := hS k hk
          rw [if_neg hwk] at hS2
          rw [hS2] at hm2
          rw [hS2]
          exact h.back k hk hm2
      · rw [hb]; simp
      · rw [hb]; simp
    · have hb : dyBB P e d (t + 1) = ((dyBB P e d t).1, dyQ P e d t) := by rw [dyBB, if_neg hw]; rfl
      have h1 := dyP_stay he hw
      rw [show ((t : Int) + 1) = ((t + 1 : Nat) : Int) by omega] at h1
      refine ⟨?_, fun k hk => ?_, fun k hk hlt => ?_, ?_, ?_⟩
      · rw [hb]; exact h.len
      · rw [hb, h1]; exact dyQ_mem he h k hk
      · rw [hb]
        rw [h1] at hlt
        have hwk : dyW P e d t ≠ (k : Int) := fun hc => by rw [hS k hk, if_pos hc] at hlt; omega
        have hS2 := hS k hk
        rw [if_neg hwk] at hS2
        rw [hS2] at hlt ⊢
        exact h.back k hk hlt
      · rw [hb]; exact hq1
      · rw [hb]; exact hq2
/-- Whether a pair can be worn, told by back and basket. -/
theorem dy_avail {P : Nat} {e d : Int} (he : 1 ≤ e) (hd : 1 ≤ d) (t : Nat) (k : Nat) (hk : k < P) :
    (rd (dyBB P e d t).1 (k : Int) > (t : Int) ∨ (k : Int) ∈ (dyBB P e d t).2) ↔ ¬ dyR e d (rd (dyS P e d t) (k : Int)) ≤ (t : Int) := by
  have h := dyInv (P := P) he hd t
  have hin := dyS_in P e d t k hk
  by_cases hm : dyP e (t : Int) ≤ rd (dyS P e d t) (k : Int)
  · have := (dyR_out he hd (by omega) hm hin.2).2
    exact ⟨fun _ => this, fun _ => Or.inr ((h.mem k hk).2 hm)⟩
  · have hb := h.back k hk (by omega)
    rw [hb]
    constructor
    · rintro (h1 | h1)
      · omega
      · exact absurd ((h.mem k hk).1 h1) hm
    · intro h1; exact Or.inl (by omega)

/-! Days as the program tells them. -/
theorem index_is (k : Nat) (q : List Int) (x : Int) (hk : q.length < k) (hl : q.length ≤ 100000) :
    slices_Index_int_int_f k q x = some ((if x ∈ q then ((q.idxOf x : Nat) : Int) else -1, ()), ()) := by
  unfold slices_Index_int_int_f
  have h : slices_Index_int_int_l1 k q x 0 = if x ∈ q then some (.inr ((((q.idxOf x : Nat) : Int), ()), ())) else some (.inl ()) := by
    unfold slices_Index_int_int_l1
    generalize hR : (if x ∈ q then some (.inr ((((q.idxOf x : Nat) : Int), ()), ())) else some (.inl ()) : Option (Unit ⊕ ((Int × Unit) × Unit))) = R
    refine iter_inv (fun j : Nat => (((j : Nat) : Int), ())) (fun j => x ∉ q.take j) (fun _ => R) q.length (fun j hj hi => ?_) k 0 (by omega) (by simp) (by omega)
    by_cases hlt : j < q.length
    · by_cases hx : x = q[j]
      · left; intro rec
        simp only [slices_Index_int_int_l1_b]
        have hm : x ∈ q := hx ▸ List.getElem_mem hlt
        have hd : q.idxOf x = j := by
          have h1 : q = q.take j ++ q[j] :: q.drop (j + 1) := by rw [List.getElem_cons_drop, List.take_append_drop]
          have h2 : (q.take j ++ q[j] :: q.drop (j + 1)).idxOf x = j := by
            rw [List.idxOf_append, if_neg hi, ← hx, List.idxOf_cons_self, List.length_take]; omega
          rw [← h1] at h2; exact h2
        rw [cond_dec, if_pos (by omega), ixk_in (by omega) (by omega), rd_nat _ j hlt, ← hR, if_pos hm, hd, ← hx]
        simp
      · right
        refine ⟨hlt, ?_, rfl, fun rec => ?_⟩
        · rw [List.take_succ_eq_append_getElem hlt, List.mem_append]
          rintro (h1 | h1)
          · exact hi h1
          · exact hx (List.mem_singleton.1 h1)
        · simp only [slices_Index_int_int_l1_b]
          rw [cond_dec, if_pos (by omega), ixk_in (by omega) (by omega), rd_nat _ j hlt, iw_nat (by omega)]
          rw [show (x == q[j]) = false from by simpa using hx]; rfl
    · left; intro rec
      simp only [slices_Index_int_int_l1_b]
      rw [cond_dec, if_neg (by omega), ← hR, if_neg]
      rw [List.take_of_length_le (by omega)] at hi; exact hi
  rw [h]
  split <;> simp
theorem contains_is (k : Nat) (q : List Int) (x : Int) (hk : q.length < k) (hl : q.length ≤ 100000) :
    slices_Contains_int_int_f k q x = some ((decide (x ∈ q), ()), ()) := by
  unfold slices_Contains_int_int_f
  rw [index_is k q x hk hl]
  simp only [Option.bind_some]
  congr 4
  by_cases h : x ∈ q
  · rw [if_pos h]; simp [h]
  · rw [if_neg h]; simp [h]
theorem cloneL_is (k : Nat) (q : List Int) (h : q.length ≤ 100000) : slices_Clone_int_int_f k q = some ((q, ()), ()) := by
  unfold slices_Clone_int_int_f
  cases q with
  | nil => simp [andX, chk]
  | cons a q =>
    simp only [List.isEmpty_cons, cond_false]
    rw [chk_dec (by simp at *; omega)]
theorem met_goM {α β : Type} {o : Option (β ⊕ α)} {K : β → Option α} {r : Option α} (v : β) (h : o = some (.inl v)) (h2 : K v = r) : met o K = r := by rw [h]; exact h2
theorem sortI_len (l : List Int) : (sortI l).length = l.length := (List.mergeSort_perm l _).length_eq
abbrev DyWT := Int × Int × Int × Unit
abbrev DyDT := Int × (List Int × (List Int × List Int))
section
variable (k P : Nat) (e d : Int) (hk : 1000 ≤ k) (hP : P ≤ 30) (he : 1 ≤ e) (he2 : e ≤ 30) (hd : 1 ≤ d) (hd2 : d ≤ 30)
include hk hP
theorem days_l2 (j1 : DyWT × List Int × List Int × List Int × List DyDT × Unit) (hj : j1.2.1.length = P) (b q : List Int) (out : List DyDT) (l : List Int) (hl : l.length = P) :
    impl_Wash_days_l2 k j1 ((P : Int), e, d, ()) l b q out 0 = some (.inl (((P : Int), e, d, ()), List.replicate P (-1), b, q, out, ())) := by
  unfold impl_Wash_days_l2
  rw [show ((((P : Int), e, d, ()) : DyWT), l, b, q, out, (0 : Int), ()) = (fun j : Nat => ((((P : Int), e, d, ()) : DyWT), List.replicate j (-1) ++ l.drop j, b, q, out, (j : Int), ())) 0 from by simp]
  refine iter_to (fun j : Nat => ((((P : Int), e, d, ()) : DyWT), List.replicate j (-1) ++ l.drop j, b, q, out, (j : Int), ())) P _ (fun j hj' rec => ?_) (fun rec => ?_) k (by omega)
  · simp only [impl_Wash_days_l2_b]
    rw [cond_dec, if_pos (by omega), ixk_in (by omega) (by simp; omega), iw_nat (by omega)]
    have : setI (List.replicate j (-1) ++ l.drop j) (j : Int) (-1) = List.replicate (j + 1) (-1) ++ l.drop (j + 1) := by
      unfold setI
      rw [Int.toNat_natCast, List.set_append_right _ _ (by simp), List.length_replicate, Nat.sub_self, List.drop_eq_getElem_cons (by omega : j < l.length), List.set_cons_zero, List.replicate_succ', List.append_assoc]
      rfl
    rw [this]
  · simp only [impl_Wash_days_l2_b]
    rw [cond_dec, if_neg (by omega), List.drop_of_length_le (by omega), List.append_nil]
theorem days_l5 (t : Nat) (ht : t ≤ 600) (he : 1 ≤ e) (hd : 1 ≤ d) (out : List DyDT) :
    impl_Wash_days_l5 k (dyS P e d t) (t : Int) ((P : Int), e, d, ()) (dyS P e d t) (dyBB P e d t).1 (dyBB P e d t).2 out (-1, [], [], [], ()) 0
      = some (.inl (((P : Int), e, d, ()), dyS P e d t, (dyBB P e d t).1, (dyBB P e d t).2, out, (dyW P e d t, dyC e d (dyS P e d t) (t : Int) P, [], [], ()), ())) := by
  have hI := dyInv (P := P) he hd t
  have hlen := dyS_len P e d t
  unfold impl_Wash_days_l5
  refine iter_to (fun j : Nat => ((((P : Int), e, d, ()) : DyWT), dyS P e d t, (dyBB P e d t).1, (dyBB P e d t).2, out, (dyB e d (dyS P e d t) (t : Int) j, dyC e d (dyS P e d t) (t : Int) j, ([] : List Int), ([] : List Int), ()), (j : Int), ())) P _ (fun j hj rec => ?_) (fun rec => ?_) k (by omega)
  · simp only [impl_Wash_days_l5_b]
    rw [cond_dec, if_pos (by rw [hlen]; omega), ixk_in (by omega) (by rw [hI.len]; omega)]
    have hav := dy_avail (P := P) he hd t j hj
    rw [contains_is k _ _ (by have := hI.few; omega) (by have := hI.few; omega)]
    have hcl : (dyC e d (dyS P e d t) (t : Int) j).length ≤ j := by
      clear hav
      induction j with
      | zero => simp [dyC]
      | succ j ih =>
        have := ih (by omega)
        unfold dyC; split
        · simp; omega
        · omega
    by_cases ha : dyR e d (rd (dyS P e d t) (j : Int)) ≤ (t : Int)
    · have hn := fun h => (hav.1 h) ha
      have h1 : ¬ rd (dyBB P e d t).1 (j : Int) > (t : Int) := fun h => hn (Or.inl h)
      have h2 : ¬ (j : Int) ∈ (dyBB P e d t).2 := fun h => hn (Or.inr h)
      rw [decide_eq_false h1, decide_eq_false h2]
      simp only [cond_false, Option.bind_some, met_inl]
      rw [chk_dec (by simp; omega)]
      have hB := dyB_ge e d (dyS P e d t) (t : Int) j
      by_cases hb : dyB e d (dyS P e d t) (t : Int) j < 0
      · rw [decide_eq_true hb]
        simp only [cond_true, met_inl]
        rw [iw_nat (by omega)]
        simp only [dyB, dyC]
        rw [if_pos ⟨ha, Or.inl hb⟩, if_pos ha]
      · rw [decide_eq_false hb]
        simp only [cond_false]
        rw [ixk_in (by omega) (by rw [hlen]; omega), ixk_in (by omega) (by rw [hlen]; omega)]
        simp only [met_inl]
        by_cases hs : rd (dyS P e d t) (j : Int) < rd (dyS P e d t) (dyB e d (dyS P e d t) (t : Int) j)
        · rw [decide_eq_true hs]
          simp only [cond_true, met_inl]
          rw [iw_nat (by omega)]
          simp only [dyB, dyC]
          rw [if_pos ⟨ha, Or.inr hs⟩, if_pos ha]
        · rw [decide_eq_false hs]
          simp only [cond_false, met_inl]
          rw [iw_nat (by omega)]
          simp only [dyB, dyC]
          rw [if_neg (by rintro ⟨_, h9 | h9⟩; exact hb h9; exact hs h9), if_pos ha]
    · have hn := hav.2 ha
      have hor : (decide (rd (dyBB P e d t).1 (j : Int) > (t : Int)) || decide ((j : Int) ∈ (dyBB P e d t).2)) = true := by simpa using hn
      have hB1 : dyB e d (dyS P e d t) (t : Int) (j + 1) = dyB e d (dyS P e d t) (t : Int) j := by
        show (if _ then _ else _) = _
        rw [if_neg (fun h => ha h.1)]
      have hC1 : dyC e d (dyS P e d t) (t : Int) (j + 1) = dyC e d (dyS P e d t) (t : Int) j := by
        show (if _ then _ else _) = _
        rw [if_neg ha]
      by_cases h1 : rd (dyBB P e d t).1 (j : Int) > (t : Int)
      · rw [decide_eq_true h1]
        simp only [cond_true, met_inl]
        rw [iw_nat (by omega), hB1, hC1]
      · have h2 := hn.resolve_left h1
        rw [decide_eq_false h1, decide_eq_true h2]
        simp only [cond_true, cond_false, Option.bind_some, met_inl]
        rw [iw_nat (by omega), hB1, hC1]
  · simp only [impl_Wash_days_l5_b]
    rw [cond_dec, if_neg (by rw [hlen]; omega)]
    rfl
theorem days_l12 (t : Nat) (ht : t ≤ 600) (hd : 1 ≤ d) (hd2 : d ≤ 30) (q : List Int) (hq : q.length ≤ 700) (hin : ∀ x ∈ q, 0 ≤ x ∧ x < (P : Int)) (j11 : DyWT × List Int × List Int × List Int × List DyDT × (Int × List Int × List Int × List Int × Unit) × Unit) (hj : j11.2.2.2.1 = q)
    (l b : List Int) (hb : b.length = P) (out : List DyDT) (D : Int × List Int × List Int × List Int × Unit) :
    impl_Wash_days_l12 k (t : Int) j11 ((P : Int), e, d, ()) l b out D q 0 = some (.inl (((P : Int), e, d, ()), l, dyPut b q ((t : Int) + d), out, D, ())) := by
  have _h := hP
  unfold impl_Wash_days_l12
  refine iter_to (fun j : Nat => ((((P : Int), e, d, ()) : DyWT), l, dyPut b (q.take j) ((t : Int) + d), out, D, q, (j : Int), ())) q.length _ (fun j hjl rec => ?_) (fun rec => ?_) k (by omega)
  · simp only [impl_Wash_days_l12_b]
    have hm := hin _ (List.getElem_mem hjl)
    rw [cond_dec, if_pos (by rw [hj]; omega), ixk_in (by omega) (by omega), rd_nat _ j hjl, ixk_in hm.1 (by rw [dyPut_len, hb]; exact hm.2), iw_nat (by omega), iw_id (by omega) (by omega), List.take_succ_eq_append_getElem hjl, dyPut_snoc]
  · simp only [impl_Wash_days_l12_b]
    rw [cond_dec, if_neg (by rw [hj]; omega), List.take_of_length_le (Nat.le_refl _)]
theorem days_l4 (he : 1 ≤ e) (he2 : e ≤ 30) (hd : 1 ≤ d) (hd2 : d ≤ 30) (N : Nat) (hN : N ≤ 600) :
    impl_Wash_days_l4 k (N : Int) ((P : Int), e, d, ()) (List.replicate P (-1)) (List.replicate P 0) [] [] 0 = some (.inl ((List.range N).map (dyDay P e d), ())) := by
  unfold impl_Wash_days_l4
  refine iter_to (fun j : Nat => ((((P : Int), e, d, ()) : DyWT), dyS P e d j, (dyBB P e d j).1, (dyBB P e d j).2, (List.range j).map (dyDay P e d), (j : Int), ())) N _ (fun j hj rec => ?_) (fun rec => ?_) k (by omega)
  · simp only [impl_Wash_days_l4_b]
    rw [cond_dec, if_pos (by omega), days_l5 k P e d hk hP j (by omega) he hd]
    have hI := dyInv (P := P) he hd j
    have hQ := dyQ_in hI
    have hB := dyB_ge e d (dyS P e d j) (j : Int) P
    simp only [met_inl]
    have hQ1 : dyQ P e d j = dyWq (dyW P e d j) (dyBB P e d j).2 := rfl
    have hlen := dyS_len P e d j
    have hN1 : (dyS P e d (j + 1)) = (if 0 ≤ dyW P e d j then setI (dyS P e d j) (dyW P e d j) (j : Int) else dyS P e d j) := rfl
    have hD : (List.range (j + 1)).map (dyDay P e d) = (List.range j).map (dyDay P e d) ++ [dyDay P e d j] := by rw [List.range_succ, List.map_append]; rfl
    refine met_goM ((((P : Int), e, d, ()) : DyWT), dyS P e d (j + 1), (dyBB P e d (j + 1)).1, (dyBB P e d (j + 1)).2, (List.range (j + 1)).map (dyDay P e d), ()) ?_ (by rw [iw_nat (by omega)])
    refine met_goM ((((P : Int), e, d, ()) : DyWT), dyS P e d (j + 1), (dyBB P e d j).1, dyQ P e d j, (List.range j).map (dyDay P e d), (dyW P e d j, dyC e d (dyS P e d j) (j : Int) P, ([] : List Int), ([] : List Int), ()), ()) ?_ ?_
    · rw [hN1, hQ1]
      unfold dyWq
      by_cases hw : 0 ≤ dyW P e d j
      · have := hI.few
        rw [decide_eq_true (show dyW P e d j ≥ 0 from hw), if_pos hw, if_pos hw]
        simp only [cond_true]
        rw [ixk_in hw (by rw [hlen]; exact hB.2), chk_dec (by simp; omega)]
      · rw [decide_eq_false (show ¬ dyW P e d j ≥ 0 from hw), if_neg hw, if_neg hw]
        rfl
    · simp only
      rw [chk_dec (by omega), chk_true (by simp; omega)]
      have hst : ∀ x : Int, Int.tmod ((j : Int) + 1) e = ((j : Int) + 1) % e := fun _ => Int.tmod_eq_emod_of_nonneg (by omega)
      rw [iw_id (by omega) (by omega), hst 0]
      by_cases hw : ((j : Int) + 1) % e = 0
      · rw [hw]
        refine met_goM ((((P : Int), e, d, ()) : DyWT), dyS P e d (j + 1), dyPut (dyBB P e d j).1 (dyQ P e d j) ((j : Int) + d), ([] : List Int), (List.range j).map (dyDay P e d), (dyW P e d j, dyC e d (dyS P e d j) (j : Int) P, sortI (dyQ P e d j), sortI (dyQ P e d j), ()), ()) ?_ ?_
        · show cond true _ _ = _
          simp only [cond_true]
          rw [cloneL_is k _ (by rw [sortI_len]; omega)]
          simp only [Option.bind_some]
          rw [days_l12 k P e d hk hP j (by omega) hd hd2 (dyQ P e d j) (by omega) hQ.1 _ rfl _ _ hI.len]
          rfl
        · simp only
          rw [chk_dec (by simp; omega), hD]
          unfold dyDay
          rw [if_pos hw]
          simp only [dyBB]
          rw [if_pos hw]
          rfl
      · refine met_goM ((((P : Int), e, d, ()) : DyWT), dyS P e d (j + 1), (dyBB P e d j).1, dyQ P e d j, (List.range j).map (dyDay P e d), (dyW P e d j, dyC e d (dyS P e d j) (j : Int) P, sortI (dyQ P e d j), ([] : List Int), ()), ()) ?_ ?_
        · rw [show ((((j : Int) + 1) % e == 0) = false) from by simpa using hw]; rfl
        · simp only
          rw [chk_dec (by simp; omega), hD]
          unfold dyDay
          rw [if_neg hw]
          simp only [dyBB]
          rw [if_neg hw]
          rfl
  · simp only [impl_Wash_days_l4_b]
    rw [cond_dec, if_neg (by omega)]
theorem days_is (he : 1 ≤ e) (he2 : e ≤ 30) (hd : 1 ≤ d) (hd2 : d ≤ 30) (N : Nat) (hN : N ≤ 600) :
    impl_Wash_days_f k ((P : Int), (e, d)) (N : Int) = some (((List.range N).map (dyDay P e d), ()), ()) := by
  unfold impl_Wash_days_f
  simp only [andX_same]
  rw [chk_dec (by omega), chk_dec (by omega), chk_dec (by omega), chk_dec (by omega)]
  simp only [met_inl]
  rw [days_l2 k P e d hk hP _ (by simp) _ _ _ _ (by simp)]
  simp only [met_inl, Int.toNat_natCast]
  rw [days_l4 k P e d hk hP he he2 hd hd2 N hN]
  rfl
end

/-! Days as the reference tells them. -/
def cM (e d B : Int) (l : List Int) : List Int := l.map fun x => if B ≤ x then -1 else dyR e d x
theorem cM_len (e d B : Int) (l : List Int) : (cM e d B l).length = l.length := by simp [cM]
theorem cM_rd (e d B : Int) (l : List Int) (k : Nat) (hk : k < l.length) : rd (cM e d B l) (k : Int) = if B ≤ rd l (k : Int) then -1 else dyR e d (rd l (k : Int)) := by
  rw [rd_nat _ k (by rw [cM_len]; exact hk), rd_nat _ k hk]; simp [cM]
/-- The pairs in the basket among the first ones. -/
def dyK (B : Int) (l : List Int) : Nat → List Int
  | 0 => []
  | n + 1 => if B ≤ rd l (n : Int) then dyK B l n ++ [(n : Int)] else dyK B l n
theorem dyK_len (B : Int) (l : List Int) : ∀ n, (dyK B l n).length ≤ n
  | 0 => Nat.le_refl _
  | n + 1 => by
    have := dyK_len B l n
    unfold dyK; split
    · simp; omega
    · omega
theorem dyK_mem (B : Int) (l : List Int) (x : Int) : ∀ n : Nat, x ∈ dyK B l n ↔ 0 ≤ x ∧ x < (n : Int) ∧ B ≤ rd l x
  | 0 => by simp [dyK]; omega
  | n + 1 => by
    unfold dyK
    have := dyK_mem B l x n
    split
    · rename_i h
      rw [List.mem_append, this]
      constructor
      · rintro (h1 | h1)
        · omega
        · rw [List.mem_singleton.1 h1]; omega
      · rintro ⟨h1, h2, h3⟩
        by_cases h4 : x = (n : Int)
        · exact Or.inr (by rw [h4]; exact List.mem_singleton.2 rfl)
        · exact Or.inl ⟨h1, by omega, h3⟩
    · rename_i h
      rw [this]
      constructor
      · rintro ⟨h1, h2, h3⟩; exact ⟨h1, by omega, h3⟩
      · rintro ⟨h1, h2, h3⟩
        refine ⟨h1, ?_, h3⟩
        rcases Int.lt_or_le x (n : Int) with h4 | h4
        · exact h4
        · exact absurd (show B ≤ rd l (n : Int) by rw [show (n : Int) = x by omega]; exact h3) h
section
variable (k P : Nat) (e d : Int) (hk : 1000 ≤ k) (hP : P ≤ 30)
include hk hP
theorem start_is : spec_dyStart_f k ((P : Int), (e, d)) = some (((List.replicate P 0, List.replicate P (-1), ()), ()), ()) := by
  unfold spec_dyStart_f
  have h : spec_dyStart_l1 k ((P : Int), e, d, ()) ([], [], ()) 0 = some (.inl ((List.replicate P 0, List.replicate P (-1), ()), ())) := by
    unfold spec_dyStart_l1
    refine iter_to (fun j : Nat => (((P : Int), e, d, ()), (List.replicate j (0 : Int), List.replicate j (-1 : Int), ()), (j : Int), ())) P _ (fun j hj rec => ?_) (fun rec => ?_) k (by omega)
    · simp only [spec_dyStart_l1_b]
      rw [cond_dec, if_pos (by omega), chk_dec (by simp; omega), chk_dec (by simp; omega), iw_nat (by omega), ← List.replicate_succ', ← List.replicate_succ']
    · simp only [spec_dyStart_l1_b]
      rw [cond_dec, if_neg (by omega)]
  rw [h]; rfl
end
section
variable (k P : Nat) (e d : Int) (t : Nat) (he : 1 ≤ e) (hd : 1 ≤ d)
include he hd
theorem isClean_is (j : Nat) (hj : j < P) : spec_dyState_isClean_f k (cM e d (dyP e (t : Int)) (dyS P e d t), dyS P e d t, ()) (j : Int) (t : Int)
    = some ((decide (dyR e d (rd (dyS P e d t) (j : Int)) ≤ (t : Int)), ()), ((cM e d (dyP e (t : Int)) (dyS P e d t), dyS P e d t, ()), ())) := by
  unfold spec_dyState_isClean_f
  have hlen := dyS_len P e d t
  have hin := dyS_in P e d t j hj
  rw [ixk_in (by omega) (by rw [cM_len, hlen]; omega), ixk_in (by omega) (by rw [cM_len, hlen]; omega), cM_rd _ _ _ _ j (by rw [hlen]; exact hj)]
  by_cases h : dyP e (t : Int) ≤ rd (dyS P e d t) (j : Int)
  · rw [if_pos h]
    have := (dyR_out he hd (by omega) h hin.2).2
    rw [decide_eq_false this]; rfl
  · rw [if_neg h, decide_eq_true (show dyR e d (rd (dyS P e d t) (j : Int)) ≥ 0 from dyR_nonneg he hd)]; rfl
theorem wear_is (hk : 1000 ≤ k) (hP : P ≤ 30) : spec_dyState_wear_f k (cM e d (dyP e (t : Int)) (dyS P e d t), dyS P e d t, ()) (t : Int)
    = some ((dyW P e d t, ()), ((cM e d (dyP e (t : Int)) (dyS P e d (t + 1)), dyS P e d (t + 1), ()), ())) := by
  have hlen := dyS_len P e d t
  unfold spec_dyState_wear_f
  have h : spec_dyState_wear_l1 k (cM e d (dyP e (t : Int)) (dyS P e d t), dyS P e d t, ()) (t : Int) (cM e d (dyP e (t : Int)) (dyS P e d t), dyS P e d t, ()) (-1) 0
      = some (.inl ((cM e d (dyP e (t : Int)) (dyS P e d t), dyS P e d t, ()), dyW P e d t, ())) := by
    unfold spec_dyState_wear_l1
    refine iter_to (fun j : Nat => ((cM e d (dyP e (t : Int)) (dyS P e d t), dyS P e d t, ()), dyB e d (dyS P e d t) (t : Int) j, (j : Int), ())) P _ (fun j hj rec => ?_) (fun rec => ?_) k (by omega)
    · simp only [spec_dyState_wear_l1_b]
      rw [cond_dec, if_pos (by rw [cM_len, hlen]; omega), isClean_is k P e d t he hd j hj]
      have hB := dyB_ge e d (dyS P e d t) (t : Int) j
      simp only [Option.bind_some]
      rw [iw_nat (by omega)]
      by_cases ha : dyR e d (rd (dyS P e d t) (j : Int)) ≤ (t : Int)
      · rw [decide_eq_true ha]
        simp only [cond_true]
        by_cases hb : dyB e d (dyS P e d t) (t : Int) j < 0
        · rw [decide_eq_true hb]
          simp only [cond_true, met_inl, dyB]
          rw [if_pos ⟨ha, Or.inl hb⟩]
        · rw [decide_eq_false hb]
          simp only [cond_false]
          simp only [ixk_in (show (0 : Int) ≤ (j : Int) by omega) (show (j : Int) < ((dyS P e d t).length : Int) by rw [hlen]; omega), ixk_in (show (0 : Int) ≤ dyB e d (dyS P e d t) (t : Int) j by omega) (show dyB e d (dyS P e d t) (t : Int) j < ((dyS P e d t).length : Int) by rw [hlen]; omega), andX_same, met_inl]
          by_cases hs : rd (dyS P e d t) (j : Int) < rd (dyS P e d t) (dyB e d (dyS P e d t) (t : Int) j)
          · rw [decide_eq_true hs]
            simp only [cond_true, met_inl, dyB]
            rw [if_pos ⟨ha, Or.inr hs⟩]
          · rw [decide_eq_false hs]
            simp only [cond_false, met_inl, dyB]
            rw [if_neg (by rintro ⟨_, h9 | h9⟩; exact hb h9; exact hs h9)]
      · rw [decide_eq_false ha]
        simp only [cond_false, met_inl, dyB]
        rw [if_neg (fun h => ha h.1)]
    · simp only [spec_dyState_wear_l1_b]
      rw [cond_dec, if_neg (by rw [cM_len, hlen]; omega)]
      rfl
  rw [h]
  simp only [met_inl]
  have hN1 : dyS P e d (t + 1) = (if 0 ≤ dyW P e d t then setI (dyS P e d t) (dyW P e d t) (t : Int) else dyS P e d t) := rfl
  by_cases hw : 0 ≤ dyW P e d t
  · have hB := dyB_ge e d (dyS P e d t) (t : Int) P
    have hB2 : dyW P e d t < (P : Int) := hB.2
    rw [decide_eq_true (show dyW P e d t ≥ 0 from hw)]
    simp only [cond_true]
    rw [ixk_in hw (by rw [cM_len, hlen]; exact hB2), ixk_in hw (by rw [hlen]; exact hB2)]
    simp only [met_inl]
    rw [if_pos hw] at hN1
    rw [hN1]
    have : setI (cM e d (dyP e (t : Int)) (dyS P e d t)) (dyW P e d t) (-1) = cM e d (dyP e (t : Int)) (setI (dyS P e d t) (dyW P e d t) (t : Int)) := by
      unfold setI cM
      rw [List.map_set, if_pos (dyP_le he).1]
    rw [this]
  · rw [decide_eq_false (show ¬ dyW P e d t ≥ 0 from hw)]
    rw [if_neg hw] at hN1
    simp only [cond_false, met_inl]
    rw [hN1]
theorem dyBasket_is (hk : 1000 ≤ k) (l : List Int) (B : Int) (hl : l.length ≤ 30) : spec_dyState_basket_f k (cM e d B l, l, ()) = some ((dyK B l l.length, ()), ((cM e d B l, l, ()), ())) := by
  unfold spec_dyState_basket_f
  have h : spec_dyState_basket_l1 k (cM e d B l, l, ()) (cM e d B l, l, ()) [] () 0 = some (.inl ((cM e d B l, l, ()), dyK B l l.length, ())) := by
    unfold spec_dyState_basket_l1
    refine iter_to (fun j : Nat => ((cM e d B l, l, ()), dyK B l j, (), (j : Int), ())) l.length _ (fun j hj rec => ?_) (fun rec => ?_) k (by omega)
    · simp only [spec_dyState_basket_l1_b]
      have := dyK_len B l j
      rw [cond_dec, if_pos (by rw [cM_len]; omega), ixk_in (by omega) (by rw [cM_len]; omega), cM_rd _ _ _ _ j hj, iw_nat (by omega)]
      by_cases hc : B ≤ rd l (j : Int)
      · rw [if_pos hc]
        simp only [dyK, if_pos hc]
        rw [chk_dec (by simp; omega)]
        rfl
      · rw [if_neg hc]
        have := dyR_nonneg (x := rd l (j : Int)) he hd
        simp only [dyK, if_neg hc]
        rw [decide_eq_false (by omega)]
        rfl
    · simp only [spec_dyState_basket_l1_b]
      rw [cond_dec, if_neg (by rw [cM_len]; omega)]
  rw [h]; rfl
/-- What is washed in an evening, by the reference. -/
def dyWsh (P : Nat) (e d : Int) (t : Nat) : List Int := if ((t : Int) + 1) % e = 0 then dyK (dyP e (t : Int)) (dyS P e d (t + 1)) P else []
theorem cM_wash (hw : ((t : Int) + 1) % e = 0) : dyPut (cM e d (dyP e (t : Int)) (dyS P e d (t + 1))) (dyK (dyP e (t : Int)) (dyS P e d (t + 1)) P) ((t : Int) + d) = cM e d (dyP e ((t + 1 : Nat) : Int)) (dyS P e d (t + 1)) := by
  have _h := hd
  have hlen := dyS_len P e d (t + 1)
  obtain ⟨h1, h2⟩ := dyP_wash he hw
  rw [show ((t : Int) + 1) = ((t + 1 : Nat) : Int) by omega] at h1
  apply List.ext_getElem
  · rw [dyPut_len, cM_len, cM_len]
  · intro j hj1 hj2
    have hj : j < P := by rw [cM_len, hlen] at hj2; exact hj2
    have hin := dyS_in P e d (t + 1) j hj
    rw [← rd_nat _ j hj1, ← rd_nat _ j hj2, dyPut_rd _ j _ _ (fun x hx => ((dyK_mem _ _ x P).1 hx).1) (by rw [cM_len, hlen]; exact hj), cM_rd _ _ _ _ j (by rw [hlen]; exact hj), cM_rd _ _ _ _ j (by rw [hlen]; exact hj)]
    rw [if_neg (by omega : ¬ dyP e ((t + 1 : Nat) : Int) ≤ rd (dyS P e d (t + 1)) (j : Int))]
    by_cases hm : dyP e (t : Int) ≤ rd (dyS P e d (t + 1)) (j : Int)
    · rw [if_pos ((dyK_mem _ _ _ P).2 ⟨by omega, by omega, hm⟩)]
      have hs := dyP_same he hm (by omega)
      have h0 := dyP_zero he (t := (t : Int)) (by omega)
      unfold dyR
      rw [if_neg (by omega), hs]
      unfold dyP at h2
      omega
    · rw [if_neg (fun h => hm ((dyK_mem _ _ _ P).1 h).2.2), if_neg hm]
theorem wash_is (hk : 1000 ≤ k) (hP : P ≤ 30) (he2 : e ≤ 30) (hd2 : d ≤ 30) (ht : t ≤ 600) : spec_dyState_wash_f k (cM e d (dyP e (t : Int)) (dyS P e d (t + 1)), dyS P e d (t + 1), ()) ((P : Int), (e, d)) (t : Int)
    = some ((dyWsh P e d t, ()), ((cM e d (dyP e ((t + 1 : Nat) : Int)) (dyS P e d (t + 1)), dyS P e d (t + 1), ()), ())) := by
  have hlen := dyS_len P e d (t + 1)
  unfold spec_dyState_wash_f
  have hst : Int.tmod ((t : Int) + 1) e = ((t : Int) + 1) % e := Int.tmod_eq_emod_of_nonneg (by omega)
  rw [chk_true (by simp; omega), iw_id (by omega) (by omega)]
  show cond (Int.tmod ((t : Int) + 1) e != 0) _ _ = _
  rw [hst]
  unfold dyWsh
  by_cases hw : ((t : Int) + 1) % e = 0
  · rw [if_pos hw, hw]
    show Option.bind _ _ = _
    rw [dyBasket_is k e d he hd hk (dyS P e d (t + 1)) _ (by omega), hlen]
    simp only [Option.bind_some]
    generalize hq : dyK (dyP e (t : Int)) (dyS P e d (t + 1)) P = q
    have hql : q.length ≤ P := by rw [← hq]; exact dyK_len _ _ _
    have hqi : ∀ x ∈ q, 0 ≤ x ∧ x < (P : Int) := fun x hx => by rw [← hq] at hx; have := (dyK_mem _ _ x P).1 hx; omega
    generalize hc : cM e d (dyP e (t : Int)) (dyS P e d (t + 1)) = c
    have hcl : c.length = P := by rw [← hc, cM_len, hlen]
    have h : ∀ y17 : (List Int × Unit) × ((List Int × List Int × Unit) × Unit), y17.1.1 = q → spec_dyState_wash_l1 k (t : Int) y17 (c, dyS P e d (t + 1), ()) ((P : Int), e, d, ()) q q 0 = some (.inl ((dyPut c q ((t : Int) + d), dyS P e d (t + 1), ()), q, ())) := by
      intro y17 hy
      unfold spec_dyState_wash_l1
      refine iter_to (fun j : Nat => ((dyPut c (q.take j) ((t : Int) + d), dyS P e d (t + 1), ()), ((P : Int), e, d, ()), q, q, (j : Int), ())) q.length _ (fun j hjl rec => ?_) (fun rec => ?_) k (by omega)
      · simp only [spec_dyState_wash_l1_b]
        have hm := hqi _ (List.getElem_mem hjl)
        rw [cond_dec, if_pos (by rw [hy]; omega), ixk_in (by omega) (by omega), rd_nat _ j hjl, ixk_in hm.1 (by rw [dyPut_len, hcl]; exact hm.2), iw_nat (by omega), iw_id (by omega) (by omega), List.take_succ_eq_append_getElem hjl, dyPut_snoc]
      · simp only [spec_dyState_wash_l1_b]
        rw [cond_dec, if_neg (by rw [hy]; omega), List.take_of_length_le (Nat.le_refl _)]
    rw [h _ rfl, ← cM_wash P e d t he hd hw, hc, hq]
    rfl
  · rw [if_neg hw]
    have h1 := dyP_stay he hw
    rw [show ((t : Int) + 1) = ((t + 1 : Nat) : Int) by omega] at h1
    rw [show ((((t : Int) + 1) % e != 0) = true) from by simpa using hw, h1]
    rfl
end
section
variable (k P : Nat) (e d : Int) (hk : 1000 ≤ k) (hP : P ≤ 30) (he : 1 ≤ e) (he2 : e ≤ 30) (hd : 1 ≤ d) (hd2 : d ≤ 30)
include hk hP he hd
theorem cM_start : cM e d (dyP e ((0 : Nat) : Int)) (dyS P e d 0) = List.replicate P 0 := by
  have _h := hk
  have _h := hP
  have _h := hd
  have hz : dyP e ((0 : Nat) : Int) = 0 := by unfold dyP; simp
  rw [hz]
  have _h := he
  unfold cM dyS
  rw [List.map_replicate]
  congr 1
include he2 hd2
theorem dyList_is (N : Nat) (hN : N ≤ 600) : spec_dyList_f k ((P : Int), (e, d)) (N : Int) = some (((List.range N).map (dyW P e d), ()), ()) := by
  unfold spec_dyList_f
  rw [start_is k P e d hk hP]
  simp only [Option.bind_some]
  rw [← cM_start k P e d hk hP he hd]
  have h : spec_dyList_l1 k (N : Int) ((P : Int), e, d, ()) [] (cM e d (dyP e ((0 : Nat) : Int)) (dyS P e d 0), List.replicate P (-1), ()) 0 = some (.inl ((List.range N).map (dyW P e d), ())) := by
    unfold spec_dyList_l1
    refine iter_to (fun j : Nat => (((P : Int), e, d, ()), (List.range j).map (dyW P e d), (cM e d (dyP e (j : Int)) (dyS P e d j), dyS P e d j, ()), (j : Int), ())) N _ (fun j hj rec => ?_) (fun rec => ?_) k (by omega)
    · simp only [spec_dyList_l1_b]
      rw [cond_dec, if_pos (by omega), wear_is k P e d j he hd hk hP]
      simp only [Option.bind_some]
      rw [chk_dec (by simp; omega), wash_is k P e d j he hd hk hP he2 hd2 (by omega)]
      simp only [Option.bind_some]
      rw [iw_nat (by omega), List.range_succ, List.map_append]
      rfl
    · simp only [spec_dyList_l1_b]
      rw [cond_dec, if_neg (by omega)]
  rw [h]; rfl
end

/-! Bare days, lasting, times worn. -/
theorem dyB_eq (e d : Int) (l : List Int) (t : Int) (m : Nat) (ha : dyR e d (rd l (m : Int)) ≤ t) :
    ∀ n : Nat, (∀ j : Nat, j < m → dyR e d (rd l (j : Int)) ≤ t → rd l (m : Int) < rd l (j : Int)) →
      (∀ j : Nat, m < j → j < n → dyR e d (rd l (j : Int)) ≤ t → rd l (m : Int) ≤ rd l (j : Int)) → m < n → dyB e d l t n = (m : Int)
  | 0, _, _, h => by omega
  | n + 1, h1, h2, h => by
    by_cases hn : m = n
    · subst hn
      unfold dyB
      rw [if_pos]
      refine ⟨ha, ?_⟩
      rcases dyB_lo e d l t m with h3 | ⟨i, h3, h4, h5⟩
      · left; omega
      · right; rw [h4]; exact h1 i h3 h5
    · have ih := dyB_eq e d l t m ha n h1 (fun j a b => h2 j a (by omega)) (by omega)
      unfold dyB
      rw [ih, if_neg]
      rintro ⟨h3, h4 | h4⟩
      · omega
      · have := h2 n (by omega) (by omega) h3
        omega
theorem dyB_none (e d : Int) (l : List Int) (t : Int) : ∀ n : Nat, (∀ j : Nat, j < n → ¬ dyR e d (rd l (j : Int)) ≤ t) → dyB e d l t n = -1
  | 0, _ => rfl
  | n + 1, h => by
    unfold dyB
    rw [if_neg (fun hc => h n (by omega) hc.1)]
    exact dyB_none e d l t n fun j hj => h j (by omega)
section
variable (P : Nat) (e d : Int) (he : 1 ≤ e) (hd : 1 ≤ d)
theorem dyS_first : ∀ t : Nat, t ≤ P → (∀ j : Nat, j < P → rd (dyS P e d t) (j : Int) = if j < t then (j : Int) else -1) ∧ (t < P → dyW P e d t = (t : Int))
  | 0, _ => by
    have h : ∀ j : Nat, j < P → rd (dyS P e d 0) (j : Int) = -1 := fun j hj => by
      unfold dyS; rw [rd_nat _ j (by simpa using hj)]; simp
    refine ⟨fun j hj => by rw [h j hj, if_neg (by omega)], fun h0 => ?_⟩
    unfold dyW
    refine dyB_eq e d _ _ 0 ?_ P (fun j hj => by omega) (fun j _ hj _ => ?_) h0
    · rw [h 0 h0]; simp [dyR]
    · rw [h 0 h0, h j hj]; omega
  | t + 1, ht => by
    have ih := dyS_first t (by omega)
    have hw := ih.2 (by omega)
    have h : ∀ j : Nat, j < P → rd (dyS P e d (t + 1)) (j : Int) = if j < t + 1 then (j : Int) else -1 := fun j hj => by
      rw [dyS, dyN_rd _ _ _ _ _ j (by rw [dyS_len]; exact hj)]
      show (if dyW P e d t = (j : Int) then _ else _) = _
      rw [hw, ih.1 j hj]
      by_cases h1 : t = j
      · subst h1; rw [if_pos rfl, if_pos (by omega)]
      · rw [if_neg (by omega)]
        by_cases h2 : j < t
        · rw [if_pos h2, if_pos (by omega)]
        · rw [if_neg h2, if_neg (by omega)]
    refine ⟨h, fun h0 => ?_⟩
    unfold dyW
    refine dyB_eq e d _ _ (t + 1) ?_ P (fun j hj _ => ?_) (fun j hj1 hj _ => ?_) h0
    · rw [h _ h0, if_neg (by omega)]; simp [dyR]; omega
    · rw [h _ h0, h j (by omega), if_neg (by omega), if_pos (by omega)]; omega
    · rw [h _ h0, h j (by omega), if_neg (by omega), if_neg (by omega)]; omega
include he
theorem dyR_lo (x : Int) (hx : 0 ≤ x) : e - 1 + d ≤ dyR e d x ∧ dyR e d x ≤ x + e - 1 + d := by
  unfold dyR
  rw [if_neg (by omega)]
  have := dyP_le (t := x) he
  have := dyP_zero he hx
  unfold dyP at *
  omega
theorem dyW_bare (h : (P : Int) < e + d - 1) : dyW P e d P = -1 := by
  have h1 := (dyS_first P e d P (Nat.le_refl _)).1
  unfold dyW
  refine dyB_none e d _ _ P fun j hj => ?_
  rw [h1 j hj, if_pos hj]
  have := (dyR_lo e d he (j : Int) (by omega)).1
  omega
theorem dyS_cyc (hP : 1 ≤ P) (h : e + d - 1 ≤ (P : Int)) : ∀ s : Nat, (∀ j : Nat, j < P → (s : Int) ≤ rd (dyS P e d (P + s)) (j : Int) ∧ rd (dyS P e d (P + s)) (j : Int) % (P : Int) = (j : Int)) ∧ dyW P e d (P + s) = ((s % P : Nat) : Int) := by
  have hw : ∀ s : Nat, (∀ j : Nat, j < P → (s : Int) ≤ rd (dyS P e d (P + s)) (j : Int) ∧ rd (dyS P e d (P + s)) (j : Int) % (P : Int) = (j : Int)) → dyW P e d (P + s) = ((s % P : Nat) : Int) ∧ ∀ j : Nat, j < P → j ≠ s % P → (s : Int) + 1 ≤ rd (dyS P e d (P + s)) (j : Int) := by
    intro s hs
    have hm : s % P < P := Nat.mod_lt _ (by omega)
    have hin : ∀ j : Nat, j < P → rd (dyS P e d (P + s)) (j : Int) < ((P + s : Nat) : Int) := fun j hj => (dyS_in P e d (P + s) j hj).2
    have hne : ∀ j : Nat, j < P → j ≠ s % P → (s : Int) + 1 ≤ rd (dyS P e d (P + s)) (j : Int) := by
      intro j hj hj2
      have a := hs j hj
      rcases Int.lt_or_le (s : Int) (rd (dyS P e d (P + s)) (j : Int)) with h1 | h1
      · omega
      · exfalso; apply hj2
        have h2 : rd (dyS P e d (P + s)) (j : Int) = (s : Int) := by omega
        rw [h2] at a
        omega
    have he0 : rd (dyS P e d (P + s)) ((s % P : Nat) : Int) = (s : Int) := by
      have a := hs (s % P) hm
      have b := hin (s % P) hm
      -- between s and P + s - 1, with the same rest as s
      have h3 : (rd (dyS P e d (P + s)) ((s % P : Nat) : Int) - (s : Int)) % (P : Int) = 0 := by
        rw [Int.sub_emod, a.2]
        rw [show ((s : Int) % (P : Int)) = ((s % P : Nat) : Int) from rfl, Int.sub_self, Int.zero_emod]
      rw [Int.emod_eq_of_lt (by omega) (by omega)] at h3
      omega
    refine ⟨?_, hne⟩
    unfold dyW
    refine dyB_eq e d _ _ (s % P) ?_ P (fun j hj _ => ?_) (fun j hj1 hj _ => ?_) hm
    · rw [he0]
      have := (dyR_lo e d he (s : Int) (by omega)).2
      omega
    · rw [he0]; have := hne j (by omega) (by omega); omega
    · rw [he0]; have := hne j (by omega) (by omega); omega
  intro s
  induction s with
  | zero =>
    have h1 := (dyS_first P e d P (Nat.le_refl _)).1
    have h0 : ∀ j : Nat, j < P → ((0 : Nat) : Int) ≤ rd (dyS P e d (P + 0)) (j : Int) ∧ rd (dyS P e d (P + 0)) (j : Int) % (P : Int) = (j : Int) := by
      intro j hj
      rw [Nat.add_zero, h1 j hj, if_pos hj]
      exact ⟨by omega, Int.emod_eq_of_lt (by omega) (by omega)⟩
    exact ⟨h0, (hw 0 h0).1⟩
  | succ s ih =>
    have h2 := (hw s ih.1).2
    have h0 : ∀ j : Nat, j < P → ((s + 1 : Nat) : Int) ≤ rd (dyS P e d (P + (s + 1))) (j : Int) ∧ rd (dyS P e d (P + (s + 1))) (j : Int) % (P : Int) = (j : Int) := by
      intro j hj
      rw [show P + (s + 1) = (P + s) + 1 by omega, dyS, dyN_rd _ _ _ _ _ j (by rw [dyS_len]; exact hj)]
      show _ ≤ (if dyW P e d (P + s) = (j : Int) then _ else _) ∧ (if dyW P e d (P + s) = (j : Int) then _ else _) % _ = _
      rw [ih.2]
      by_cases hj2 : s % P = j
      · rw [if_pos (by omega)]
        refine ⟨by omega, ?_⟩
        rw [show (((P + s : Nat) : Int) % (P : Int)) = (((P + s) % P : Nat) : Int) from rfl, Nat.add_mod_left, hj2]
      · rw [if_neg (by omega)]
        have := h2 j hj (fun hc => hj2 hc.symm)
        exact ⟨by omega, (ih.1 j hj).2⟩
    exact ⟨h0, (hw (s + 1) h0).1⟩
theorem dyW_never (hP : 1 ≤ P) (h : e + d - 1 ≤ (P : Int)) (t : Nat) : 0 ≤ dyW P e d t := by
  rcases Nat.lt_or_ge t P with h1 | h1
  · rw [(dyS_first P e d t (by omega)).2 h1]; omega
  · obtain ⟨s, rfl⟩ := Nat.le.dest h1
    rw [(dyS_cyc P e d he hP h s).2]; omega
end
/-- The first of so many days for which something holds. -/
def dyF (F : Nat → Bool) (N : Nat) : Option Nat := (List.range N).find? F
theorem dyF_some {F : Nat → Bool} {N j : Nat} (h1 : j < N) (h2 : F j = true) (h3 : ∀ s, s < j → F s = false) : dyF F N = some j := by
  unfold dyF
  rw [List.find?_range_eq_some]
  exact ⟨h2, by simpa using h1, fun s hs => by rw [h3 s hs]; rfl⟩
theorem dyF_none {F : Nat → Bool} {N : Nat} (h : ∀ s, s < N → F s = false) : dyF F N = none := by
  unfold dyF
  rw [List.find?_range_eq_none]
  intro s hs
  rw [h s hs]; rfl
theorem dyF_at {F : Nat → Bool} {N j : Nat} (h : dyF F N = some j) : j < N ∧ F j = true ∧ ∀ s, s < j → F s = false := by
  unfold dyF at h
  rw [List.find?_range_eq_some] at h
  exact ⟨by simpa using h.2.1, h.1, fun s hs => by simpa using h.2.2 s hs⟩
def dyOk (w : Int × Int × Int) : Bool := decide (1 ≤ w.1) && decide (w.1 ≤ 30) && (decide (1 ≤ w.2.1) && decide (w.2.1 ≤ 30) && (decide (1 ≤ w.2.2) && decide (w.2.2 ≤ 30)))
theorem dyOk_nat {w : Int × Int × Int} (h : dyOk w = true) : ∃ (P : Nat) (e d : Int), w = ((P : Int), (e, d)) ∧ 1 ≤ P ∧ P ≤ 30 ∧ 1 ≤ e ∧ e ≤ 30 ∧ 1 ≤ d ∧ d ≤ 30 := by
  obtain ⟨p, e, d⟩ := w
  unfold dyOk at h
  simp only [Bool.and_eq_true, decide_eq_true_eq] at h
  obtain ⟨P, rfl⟩ := Int.eq_ofNat_of_zero_le (show 0 ≤ p by omega)
  exact ⟨P, e, d, rfl, by omega, by omega, by omega, by omega, by omega, by omega⟩
theorem isWash_is (k : Nat) (w : Int × Int × Int) : impl_IsWash_f k w = some ((dyOk w, ()), ()) := by
  unfold impl_IsWash_f impl_areTimes_f dyOk
  simp only [within_is, Option.bind_some]
  cases (decide (1 ≤ w.1) && decide (w.1 ≤ 30)) <;> cases (decide (1 ≤ w.2.1) && decide (w.2.1 ≤ 30)) <;> cases (decide (1 ≤ w.2.2) && decide (w.2.2 ≤ 30)) <;> rfl
theorem dyGood_is (k : Nat) (w : Int × Int × Int) : spec_dyGood_f k w = some ((dyOk w, ()), ()) := by
  unfold spec_dyGood_f dyOk
  simp only [l1In_is, Option.bind_some]
  cases (decide (1 ≤ w.1) && decide (w.1 ≤ 30)) <;> cases (decide (1 ≤ w.2.1) && decide (w.2.1 ≤ 30)) <;> cases (decide (1 ≤ w.2.2) && decide (w.2.2 ≤ 30)) <;> rfl
def bareAt (P : Nat) (e d : Int) (t : Nat) : Bool := decide (dyW P e d t < 0)
theorem bare_first (P : Nat) (e d : Int) (he : 1 ≤ e) (hP : 1 ≤ P) (hP2 : P ≤ 30) : dyF (bareAt P e d) 501 = if (P : Int) < e + d - 1 then some P else none := by
  by_cases h : (P : Int) < e + d - 1
  · rw [if_pos h]
    refine dyF_some (by omega) ?_ fun s hs => ?_
    · unfold bareAt; rw [dyW_bare P e d he h]; rfl
    · unfold bareAt; rw [(dyS_first P e d s (by omega)).2 hs]; exact decide_eq_false (by omega)
  · rw [if_neg h]
    refine dyF_none fun s _ => decide_eq_false ?_
    have := dyW_never P e d he hP (by omega) s
    omega
def fbV (w : Int × Int × Int) : (Int × Bool × Unit) × Unit := if (dyOk w && decide (w.1 < w.2.1 + w.2.2 - 1)) = true then ((w.1, true, ()), ()) else ((0, false, ()), ())
section
variable (k : Nat) (hk : 1000 ≤ k) (w : Int × Int × Int)
include hk
theorem implFB_is : impl_FirstBare_f k w = some (fbV w) := by
  unfold impl_FirstBare_f fbV
  rw [isWash_is]
  cases h : dyOk w with
  | false => rfl
  | true =>
    obtain ⟨P, e, d, rfl, h1, h2, h3, h4, h5, h6⟩ := dyOk_nat h
    simp only [Option.bind_some, Bool.not_true, cond_false, Bool.true_and]
    rw [show (501 : Int) = ((501 : Nat) : Int) from rfl, days_is k P e d hk h2 h3 h4 h5 h6 501 (by omega)]
    simp only [Option.bind_some]
    have hl : ∀ R, R = (match dyF (bareAt P e d) 501 with | some t => some (.inr (((t : Int), ()), ())) | none => some (.inl ()) : Option (Unit ⊕ ((Int × Unit) × Unit))) → slices_IndexFunc_impl_day_impl_day__impl_day_isBare_l1 k ((List.range 501).map (dyDay P e d)) 0 = R := by
      intro R hR
      unfold slices_IndexFunc_impl_day_impl_day__impl_day_isBare_l1
      have hlen : ((List.range 501).map (dyDay P e d)).length = 501 := by simp
      refine iter_inv (fun j : Nat => (((j : Nat) : Int), ())) (fun j => ∀ s, s < j → bareAt P e d s = false) (fun _ => R) 501 (fun j hj hi => ?_) k 0 (by omega) (fun s hs => by omega) (by omega)
      by_cases hlt : j < 501
      · have hg : rdG (0, ([], ([], []))) ((List.range 501).map (dyDay P e d)) (j : Int) = dyDay P e d j := by
          rw [rdG_nat _ _ j (by rw [hlen]; exact hlt)]; simp
        by_cases hb : bareAt P e d j = true
        · left; intro rec
          simp only [slices_IndexFunc_impl_day_impl_day__impl_day_isBare_l1_b, impl_day_isBare_f]
          rw [cond_dec, if_pos (by rw [hlen]; omega), ixk_in (by omega) (by rw [hlen]; omega), hg]
          simp only [Option.bind_some]
          show cond (bareAt P e d j) _ _ = _
          rw [hb, hR, dyF_some hlt hb hi]; rfl
        · right
          have hb2 : bareAt P e d j = false := by simpa using hb
          refine ⟨hlt, fun s hs => ?_, rfl, fun rec => ?_⟩
          · rcases Nat.lt_or_ge s j with h9 | h9
            · exact hi s h9
            · rw [show s = j by omega]; exact hb2
          · simp only [slices_IndexFunc_impl_day_impl_day__impl_day_isBare_l1_b, impl_day_isBare_f]
            rw [cond_dec, if_pos (by rw [hlen]; omega), ixk_in (by omega) (by rw [hlen]; omega), hg]
            simp only [Option.bind_some]
            show cond (bareAt P e d j) _ _ = _
            rw [hb2, iw_nat (by omega)]; rfl
      · left; intro rec
        simp only [slices_IndexFunc_impl_day_impl_day__impl_day_isBare_l1_b]
        rw [cond_dec, if_neg (by rw [hlen]; omega), hR, dyF_none (fun s hs => hi s (by omega))]
    unfold slices_IndexFunc_impl_day_impl_day__impl_day_isBare_f
    rw [hl _ rfl, bare_first P e d h3 h1 h2]
    by_cases hb : (P : Int) < e + d - 1
    · rw [if_pos hb]
      simp only [met_inr, Option.bind_some]
      rw [if_pos (by simpa using hb), decide_eq_true (by omega)]
      simp only [max2]
      congr 3
    · rw [if_neg hb, if_neg (by simpa using hb)]
      rfl
theorem specFB_is : spec_FirstBare_f k w = some (fbV w) := by
  unfold spec_FirstBare_f fbV
  rw [dyGood_is]
  cases h : dyOk w with
  | false => rfl
  | true =>
    obtain ⟨P, e, d, rfl, h1, h2, h3, h4, h5, h6⟩ := dyOk_nat h
    simp only [Option.bind_some, Bool.not_true, cond_false, Bool.true_and]
    rw [show (501 : Int) = ((501 : Nat) : Int) from rfl, dyList_is k P e d hk h2 h3 h4 h5 h6 501 (by omega)]
    simp only [Option.bind_some]
    have hlen : ((List.range 501).map (dyW P e d)).length = 501 := by simp
    have hl : ∀ (y10 : (List Int × Unit) × Unit) R, y10.1.1 = (List.range 501).map (dyW P e d) → R = (match dyF (bareAt P e d) 501 with | some t => some (.inr (((t : Int), true, ()), ())) | none => some (.inl ()) : Option (Unit ⊕ ((Int × Bool × Unit) × Unit))) → spec_FirstBare_l1 k y10 ((List.range 501).map (dyW P e d)) 0 = R := by
      intro y10 R hy hR
      unfold spec_FirstBare_l1
      refine iter_inv (fun j : Nat => ((List.range 501).map (dyW P e d), ((j : Nat) : Int), ())) (fun j => ∀ s, s < j → bareAt P e d s = false) (fun _ => R) 501 (fun j hj hi => ?_) k 0 (by omega) (fun s hs => by omega) (by omega)
      by_cases hlt : j < 501
      · have hg : rd ((List.range 501).map (dyW P e d)) (j : Int) = dyW P e d j := by
          rw [rd_nat _ j (by rw [hlen]; exact hlt)]; simp
        by_cases hb : bareAt P e d j = true
        · left; intro rec
          simp only [spec_FirstBare_l1_b]
          rw [cond_dec, if_pos (by rw [hy, hlen]; omega), ixk_in (by omega) (by rw [hlen]; omega), hg]
          show cond (bareAt P e d j) _ _ = _
          rw [hb, hR, dyF_some hlt hb hi]; rfl
        · right
          have hb2 : bareAt P e d j = false := by simpa using hb
          refine ⟨hlt, fun s hs => ?_, rfl, fun rec => ?_⟩
          · rcases Nat.lt_or_ge s j with h9 | h9
            · exact hi s h9
            · rw [show s = j by omega]; exact hb2
          · simp only [spec_FirstBare_l1_b]
            rw [cond_dec, if_pos (by rw [hy, hlen]; omega), ixk_in (by omega) (by rw [hlen]; omega), hg]
            show cond (bareAt P e d j) _ _ = _
            rw [hb2, iw_nat (by omega)]; rfl
      · left; intro rec
        simp only [spec_FirstBare_l1_b]
        rw [cond_dec, if_neg (by rw [hy, hlen]; omega), hR, dyF_none (fun s hs => hi s (by omega))]
    rw [hl (((List.range 501).map (dyW P e d), ()), ()) _ (by simp only) rfl, bare_first P e d h3 h1 h2]
    by_cases hb : (P : Int) < e + d - 1
    · rw [if_pos hb, if_pos (by simpa using hb)]; rfl
    · rw [if_neg hb, if_neg (by simpa using hb)]; rfl
end

/-! What the program tells of days: worn, bare, times, lasting. -/
def dayOk (w : Int × Int × Int) (t : Int) : Bool := dyOk w && (decide (0 ≤ t) && decide (t ≤ 500))
def wW (w : Int × Int × Int) (t : Int) : Int := dyW w.1.toNat w.2.1 w.2.2 t.toNat
def wl (P : Nat) (e d : Int) (N : Nat) : List Int := (List.range N).map (dyW P e d)
theorem wl_len (P : Nat) (e d : Int) (N : Nat) : (wl P e d N).length = N := by simp [wl]
theorem wl_succ (P : Nat) (e d : Int) (N : Nat) : wl P e d (N + 1) = wl P e d N ++ [dyW P e d N] := by unfold wl; rw [List.range_succ, List.map_append]; rfl
theorem wl_rd (P : Nat) (e d : Int) (N j : Nat) (h : j < N) : rd (wl P e d N) (j : Int) = dyW P e d j := by
  rw [rd_nat _ j (by rw [wl_len]; exact h)]; simp [wl]
def bl (P : Nat) (e d : Int) (N : Nat) : List Int := ((List.range N).filter (bareAt P e d)).map fun (t : Nat) => (t : Int)
theorem bl_len (P : Nat) (e d : Int) (N : Nat) : (bl P e d N).length ≤ N := by
  unfold bl
  rw [List.length_map]
  have := List.length_filter_le (bareAt P e d) (List.range N)
  rwa [List.length_range] at this
theorem bl_succ (P : Nat) (e d : Int) (N : Nat) : bl P e d (N + 1) = if bareAt P e d N = true then bl P e d N ++ [(N : Int)] else bl P e d N := by
  unfold bl
  rw [List.range_succ, List.filter_append, List.map_append]
  by_cases h : bareAt P e d N = true
  · rw [if_pos h, List.filter_cons_of_pos h]; rfl
  · rw [if_neg h, List.filter_cons_of_neg h]; simp
theorem isDay_is (k : Nat) (w : Int × Int × Int) (t : Int) : impl_isDay_f k w t = some ((dayOk w t, ()), ()) := by
  unfold impl_isDay_f dayOk
  rw [isWash_is]
  simp only [Option.bind_some, within_is]
  cases dyOk w <;> rfl
theorem dayOk_nat {w : Int × Int × Int} {t : Int} (h : dayOk w t = true) : ∃ (P : Nat) (e d : Int) (n : Nat), w = ((P : Int), (e, d)) ∧ t = (n : Int) ∧ n ≤ 500 ∧ 1 ≤ P ∧ P ≤ 30 ∧ 1 ≤ e ∧ e ≤ 30 ∧ 1 ≤ d ∧ d ≤ 30 := by
  unfold dayOk at h
  simp only [Bool.and_eq_true, decide_eq_true_eq] at h
  obtain ⟨P, e, d, h1, h2⟩ := dyOk_nat h.1
  obtain ⟨n, rfl⟩ := Int.eq_ofNat_of_zero_le h.2.1
  exact ⟨P, e, d, n, h1, rfl, by omega, h2⟩
theorem days_get (P : Nat) (e d : Int) (N j : Nat) (h : j < N) : rdG (0, ([], ([], []))) ((List.range N).map (dyDay P e d)) (j : Int) = dyDay P e d j := by
  rw [rdG_nat _ _ j (by simpa using h)]; simp
def onV (w : Int × Int × Int) (t : Int) : ((Int × List Int × List Int × List Int × Unit) × Bool × Unit) × Unit :=
  if dayOk w t = true then ((((dyDay w.1.toNat w.2.1 w.2.2 t.toNat).1, (dyDay w.1.toNat w.2.1 w.2.2 t.toNat).2.1, (dyDay w.1.toNat w.2.1 w.2.2 t.toNat).2.2.1, (dyDay w.1.toNat w.2.1 w.2.2 t.toNat).2.2.2, ()), true, ()), ()) else (((0, [], [], [], ()), false, ()), ())
def woV (w : Int × Int × Int) (t : Int) : (Int × Bool × Unit) × Unit := if (dayOk w t && decide (0 ≤ wW w t)) = true then ((wW w t, true, ()), ()) else ((0, false, ()), ())
def bdV (w : Int × Int × Int) (t : Int) : (List Int × Bool × Unit) × Unit := if dayOk w t = true then ((bl w.1.toNat w.2.1 w.2.2 t.toNat, true, ()), ()) else (([], false, ()), ())
def wlV (w : Int × Int × Int) (t : Int) : (List Int × Bool × Unit) × Unit := if dayOk w t = true then ((wl w.1.toNat w.2.1 w.2.2 t.toNat, true, ()), ()) else (([], false, ()), ())
def twV (w : Int × Int × Int) (t : Int) : (List Int × Bool × Unit) × Unit := if dayOk w t = true then ((cnts w.1.toNat (wl w.1.toNat w.2.1 w.2.2 t.toNat), true, ()), ()) else (([], false, ()), ())
section
variable (k : Nat) (hk : 1000 ≤ k) (w : Int × Int × Int) (t : Int)
include hk
theorem implOn_is : impl_on_f k w t = some (onV w t) := by
  unfold impl_on_f onV
  rw [isDay_is]
  cases h : dayOk w t with
  | false => rfl
  | true =>
    obtain ⟨P, e, d, n, rfl, rfl, hn, h1, h2, h3, h4, h5, h6⟩ := dayOk_nat h
    simp only [Option.bind_some, Bool.not_true, cond_false]
    rw [iw_nat (by omega), days_is k P e d hk h2 h3 h4 h5 h6 (n + 1) (by omega)]
    simp only [Option.bind_some]
    rw [ixk_in (by omega) (by simp; omega), days_get P e d (n + 1) n (by omega)]
    rfl
theorem implWO_is : impl_WornOn_f k w t = some (woV w t) := by
  unfold impl_WornOn_f woV
  rw [implOn_is k hk]
  unfold onV
  cases h : dayOk w t with
  | false => rfl
  | true =>
    simp only [Option.bind_some, if_true, Bool.true_and]
    show met (some (.inl (_, decide (wW w t < 0), ()))) _ = _
    simp only [met_inl]
    by_cases hw : 0 ≤ wW w t
    · rw [decide_eq_false (show ¬ wW w t < 0 by omega), if_pos (decide_eq_true hw)]; rfl
    · rw [decide_eq_true (show wW w t < 0 by omega), if_neg (by simpa using hw)]; rfl
theorem implBD_is : impl_BareDays_f k w t = some (bdV w t) := by
  unfold impl_BareDays_f impl_some__impl_day_isBare_f bdV
  rw [isDay_is]
  cases h : dayOk w t with
  | false => rfl
  | true =>
    obtain ⟨P, e, d, n, rfl, rfl, hn, h1, h2, h3, h4, h5, h6⟩ := dayOk_nat h
    simp only [Option.bind_some, Bool.not_true, cond_false]
    rw [days_is k P e d hk h2 h3 h4 h5 h6 n (by omega)]
    simp only [Option.bind_some]
    have hlen : ((List.range n).map (dyDay P e d)).length = n := by simp
    have hl : ∀ y18 : (List (Int × List Int × List Int × List Int) × Unit) × Unit, y18.1.1 = (List.range n).map (dyDay P e d) → impl_some__impl_day_isBare_l1 k y18 [] ((List.range n).map (dyDay P e d)) 0 = some (.inl (bl P e d n, ())) := by
      intro y18 hy
      unfold impl_some__impl_day_isBare_l1
      refine iter_to (fun j : Nat => (bl P e d j, (List.range n).map (dyDay P e d), (j : Int), ())) n _ (fun j hj rec => ?_) (fun rec => ?_) k (by omega)
      · simp only [impl_some__impl_day_isBare_l1_b, impl_day_isBare_f]
        have := bl_len P e d j
        rw [cond_dec, if_pos (by rw [hy, hlen]; omega), ixk_in (by omega) (by rw [hlen]; omega), days_get P e d n j hj, iw_nat (by omega)]
        simp only [Option.bind_some]
        rw [bl_succ]
        show met (met (cond (bareAt P e d j) _ _) _) _ = _
        cases bareAt P e d j with
        | true =>
          simp only [cond_true]
          rw [chk_dec (by simp; omega)]; rfl
        | false => rfl
      · simp only [impl_some__impl_day_isBare_l1_b]
        rw [cond_dec, if_neg (by rw [hy, hlen]; omega)]
    rw [hl (((List.range n).map (dyDay P e d), ()), ()) (by simp only)]
    rfl
theorem implWL_is : impl_WornList_f k w t = some (wlV w t) := by
  unfold impl_WornList_f wlV
  rw [isDay_is]
  cases h : dayOk w t with
  | false => rfl
  | true =>
    obtain ⟨P, e, d, n, rfl, rfl, hn, h1, h2, h3, h4, h5, h6⟩ := dayOk_nat h
    simp only [Option.bind_some, Bool.not_true, cond_false]
    rw [days_is k P e d hk h2 h3 h4 h5 h6 n (by omega)]
    simp only [Option.bind_some]
    have hlen : ((List.range n).map (dyDay P e d)).length = n := by simp
    have hl : ∀ y18 : (List (Int × List Int × List Int × List Int) × Unit) × Unit, y18.1.1 = (List.range n).map (dyDay P e d) → impl_WornList_l1 k y18 [] ((List.range n).map (dyDay P e d)) 0 = some (.inl (wl P e d n, ())) := by
      intro y18 hy
      unfold impl_WornList_l1
      refine iter_to (fun j : Nat => (wl P e d j, (List.range n).map (dyDay P e d), (j : Int), ())) n _ (fun j hj rec => ?_) (fun rec => ?_) k (by omega)
      · simp only [impl_WornList_l1_b]
        rw [cond_dec, if_pos (by rw [hy, hlen]; omega), ixk_in (by omega) (by rw [hlen]; omega), days_get P e d n j hj, iw_nat (by omega), chk_dec (by simp [wl_len]; omega), wl_succ]
        rfl
      · simp only [impl_WornList_l1_b]
        rw [cond_dec, if_neg (by rw [hy, hlen]; omega)]
    rw [hl (((List.range n).map (dyDay P e d), ()), ()) (by simp only)]
    rfl
end
/-- One more day's count. -/
theorem cnts_day (P : Nat) (e d : Int) (j : Nat) : cnts P (wl P e d (j + 1)) = if 0 ≤ dyW P e d j then setI (cnts P (wl P e d j)) (dyW P e d j) (rd (cnts P (wl P e d j)) (dyW P e d j) + 1) else cnts P (wl P e d j) := by
  rw [wl_succ]
  rcases dyW_lo P e d j with h | ⟨m, h1, h2, _⟩
  · rw [h, if_neg (by omega)]
    unfold cnts
    apply List.map_congr_left
    intro i _
    rw [List.count_append, show [(-1 : Int)].count (i : Int) = 0 from by rw [List.count_eq_zero]; simp]
    rfl
  · rw [h2, if_pos (by omega), cnts_rd P _ m h1, cnts_snoc P _ m h1]
theorem wl_count_le (P : Nat) (e d : Int) (N : Nat) (x : Int) : (wl P e d N).count x ≤ N := by
  have := List.count_le_length (a := x) (l := wl P e d N)
  rwa [wl_len] at this
theorem cnts_rd_le (P : Nat) (e d : Int) (N : Nat) (x : Int) (h0 : 0 ≤ x) (h1 : x < (P : Int)) : 0 ≤ rd (cnts P (wl P e d N)) x ∧ rd (cnts P (wl P e d N)) x ≤ (N : Int) := by
  obtain ⟨i, rfl⟩ := Int.eq_ofNat_of_zero_le h0
  rw [cnts_rd P _ i (by omega)]
  have := wl_count_le P e d N (i : Int)
  omega
theorem implTW_is (k : Nat) (hk : 1000 ≤ k) (w : Int × Int × Int) (t : Int) : impl_TimesWorn_f k w t = some (twV w t) := by
  unfold impl_TimesWorn_f twV
  rw [implWL_is k hk]
  unfold wlV
  cases h : dayOk w t with
  | false => rfl
  | true =>
    obtain ⟨P, e, d, n, rfl, rfl, hn, h1, h2, h3, h4, h5, h6⟩ := dayOk_nat h
    simp only [Option.bind_some, if_true, Bool.not_true, cond_false, Int.toNat_natCast]
    rw [chk_dec (by omega), chk_dec (by omega)]
    have hl : ∀ y14 : (List Int × Bool × Unit) × Unit, y14.1.1 = wl P e d n → impl_TimesWorn_l1 k y14 (List.replicate P 0) (wl P e d n) 0 = some (.inl (cnts P (wl P e d n), ())) := by
      intro y14 hy
      unfold impl_TimesWorn_l1
      rw [show List.replicate P (0 : Int) = cnts P (wl P e d 0) from by
        unfold cnts wl
        simp [List.map_const']]
      refine iter_to (fun j : Nat => (cnts P (wl P e d j), wl P e d n, (j : Int), ())) n _ (fun j hj rec => ?_) (fun rec => ?_) k (by omega)
      · simp only [impl_TimesWorn_l1_b]
        have hB : dyW P e d j < (P : Int) := (dyB_ge e d (dyS P e d j) (j : Int) P).2
        rw [cond_dec, if_pos (by rw [hy, wl_len]; omega), ixk_in (by omega) (by rw [wl_len]; omega), wl_rd P e d n j hj, iw_nat (by omega), cnts_day]
        by_cases hw : 0 ≤ dyW P e d j
        · have hc := cnts_rd_le P e d j _ hw hB
          rw [decide_eq_true (show dyW P e d j ≥ 0 from hw), if_pos hw]
          simp only [cond_true]
          rw [ixk_in hw (by rw [cnts_len]; exact hB), ixk_in hw (by rw [cnts_len]; exact hB), iw_id (by omega) (by omega)]
          rfl
        · rw [decide_eq_false (show ¬ dyW P e d j ≥ 0 from hw), if_neg hw]
          rfl
      · simp only [impl_TimesWorn_l1_b]
        rw [cond_dec, if_neg (by rw [hy, wl_len]; omega)]
    rw [hl ((wl P e d n, true, ()), ()) rfl]
    rfl
/-- Whether in the evening of a day some pair has been worn so many times. -/
def luF (P : Nat) (e d : Int) (v : Int) (t : Nat) : Bool := decide (0 ≤ dyW P e d t) && (rd (cnts P (wl P e d t)) (dyW P e d t) + 1 == v)
def luV (w : Int × Int × Int) (v : Int) : (Int × Bool × Unit) × Unit :=
  if (dyOk w && (decide (1 ≤ v) && decide (v ≤ 100))) = true then (match dyF (luF w.1.toNat w.2.1 w.2.2 v) 501 with | some t => (((t : Int), true, ()), ()) | none => ((0, false, ()), ())) else ((0, false, ()), ())
theorem setI_same (l : List Int) (i : Int) (v : Int) (h0 : 0 ≤ i) (h1 : i < (l.length : Int)) : rd (setI l i v) i = v := by
  obtain ⟨n, rfl⟩ := Int.eq_ofNat_of_zero_le h0
  rw [rd_setI l n v n (by omega), if_pos rfl]
theorem cnts_nil (P : Nat) (e d : Int) : List.replicate P (0 : Int) = cnts P (wl P e d 0) := by
  unfold cnts wl
  simp [List.map_const']
section
variable (k : Nat) (hk : 1000 ≤ k) (w : Int × Int × Int) (v : Int)
include hk
theorem implLU_is : impl_LastsUntil_f k w v = some (luV w v) := by
  unfold impl_LastsUntil_f luV
  rw [isWash_is]
  cases h : dyOk w with
  | false => rfl
  | true =>
    obtain ⟨P, e, d, rfl, h1, h2, h3, h4, h5, h6⟩ := dyOk_nat h
    simp only [Option.bind_some, Bool.not_true, cond_false, within_is, met_inl, Bool.true_and]
    cases hv : (decide (1 ≤ v) && decide (v ≤ 100)) with
    | false => rfl
    | true =>
      simp only [Bool.not_true, cond_false, if_true]
      rw [chk_dec (by omega), chk_dec (by omega), show (501 : Int) = ((501 : Nat) : Int) from rfl, days_is k P e d hk h2 h3 h4 h5 h6 501 (by omega)]
      simp only [Option.bind_some, Int.toNat_natCast]
      have hlen : ((List.range 501).map (dyDay P e d)).length = 501 := by simp
      have hl : ∀ (y21 : (List (Int × List Int × List Int × List Int) × Unit) × Unit) R, y21.1.1 = (List.range 501).map (dyDay P e d) →
          R = (match dyF (luF P e d v) 501 with | some t => some (.inr (((t : Int), true, ()), ())) | none => some (.inl ()) : Option (Unit ⊕ ((Int × Bool × Unit) × Unit))) →
          impl_LastsUntil_l2 k v y21 (List.replicate P 0) ((List.range 501).map (dyDay P e d)) 0 = R := by
        intro y21 R hy hR
        unfold impl_LastsUntil_l2
        rw [cnts_nil P e d]
        refine iter_inv (fun j : Nat => (cnts P (wl P e d j), (List.range 501).map (dyDay P e d), ((j : Nat) : Int), ())) (fun j => ∀ s, s < j → luF P e d v s = false) (fun _ => R) 501 (fun j hj hi => ?_) k 0 (by omega) (fun s hs => by omega) (by omega)
        by_cases hlt : j < 501
        · have hg := days_get P e d 501 j hlt
          have hB : dyW P e d j < (P : Int) := (dyB_ge e d (dyS P e d j) (j : Int) P).2
          by_cases hw : 0 ≤ dyW P e d j
          · have hc := cnts_rd_le P e d j _ hw hB
            have hday := cnts_day P e d j
            rw [if_pos hw] at hday
            by_cases hb : luF P e d v j = true
            · left; intro rec
              simp only [impl_LastsUntil_l2_b, impl_day_isBare_f]
              rw [cond_dec, if_pos (by rw [hy, hlen]; omega), ixk_in (by omega) (by rw [hlen]; omega), hg]
              simp only [Option.bind_some, dyDay]
              show met (cond (decide (dyW P e d j < 0)) _ _) _ = _
              rw [decide_eq_false (show ¬ dyW P e d j < 0 by omega)]
              simp only [cond_false]
              rw [ixk_in hw (by rw [cnts_len]; exact hB), ixk_in hw (by rw [cnts_len]; exact hB), ixk_in hw (by rw [setI_len, cnts_len]; exact hB), iw_id (by omega) (by omega), setI_same _ _ _ hw (by rw [cnts_len]; exact hB)]
              have hb3 := hb
              unfold luF at hb3
              rw [decide_eq_true hw, Bool.true_and] at hb3
              rw [hb3, hR, dyF_some hlt hb hi]; rfl
            · right
              have hb2 : luF P e d v j = false := by simpa using hb
              refine ⟨hlt, fun s hs => ?_, rfl, fun rec => ?_⟩
              · rcases Nat.lt_or_ge s j with h9 | h9
                · exact hi s h9
                · rw [show s = j by omega]; exact hb2
              · simp only [impl_LastsUntil_l2_b, impl_day_isBare_f]
                rw [cond_dec, if_pos (by rw [hy, hlen]; omega), ixk_in (by omega) (by rw [hlen]; omega), hg]
                simp only [Option.bind_some, dyDay]
                show met (cond (decide (dyW P e d j < 0)) _ _) _ = _
                rw [decide_eq_false (show ¬ dyW P e d j < 0 by omega)]
                simp only [cond_false]
                rw [ixk_in hw (by rw [cnts_len]; exact hB), ixk_in hw (by rw [cnts_len]; exact hB), ixk_in hw (by rw [setI_len, cnts_len]; exact hB), iw_id (by omega) (by omega), setI_same _ _ _ hw (by rw [cnts_len]; exact hB)]
                have hb3 := hb2
                unfold luF at hb3
                rw [decide_eq_true hw, Bool.true_and] at hb3
                rw [hb3, iw_nat (by omega), hday]; rfl
          · right
            have hday := cnts_day P e d j
            rw [if_neg hw] at hday
            refine ⟨hlt, fun s hs => ?_, rfl, fun rec => ?_⟩
            · rcases Nat.lt_or_ge s j with h9 | h9
              · exact hi s h9
              · rw [show s = j by omega]; unfold luF; rw [decide_eq_false hw]; rfl
            · simp only [impl_LastsUntil_l2_b, impl_day_isBare_f]
              rw [cond_dec, if_pos (by rw [hy, hlen]; omega), ixk_in (by omega) (by rw [hlen]; omega), hg]
              simp only [Option.bind_some, dyDay]
              show met (cond (decide (dyW P e d j < 0)) _ _) _ = _
              rw [decide_eq_true (show dyW P e d j < 0 by omega), iw_nat (by omega), hday]; rfl
        · left; intro rec
          simp only [impl_LastsUntil_l2_b]
          rw [cond_dec, if_neg (by rw [hy, hlen]; omega), hR, dyF_none (fun s hs => hi s (by omega))]
      rw [hl (((List.range 501).map (dyDay P e d), ()), ()) _ (by simp only) rfl]
      cases dyF (luF P e d v) 501 <;> rfl
theorem specLU_is : spec_LastsUntil_f k w v = some (luV w v) := by
  unfold spec_LastsUntil_f luV
  rw [dyGood_is]
  cases h : dyOk w with
  | false => rfl
  | true =>
    obtain ⟨P, e, d, rfl, h1, h2, h3, h4, h5, h6⟩ := dyOk_nat h
    simp only [Option.bind_some, Bool.not_true, cond_false, l1In_is, met_inl, Bool.true_and]
    cases hv : (decide (1 ≤ v) && decide (v ≤ 100)) with
    | false => rfl
    | true =>
      simp only [Bool.not_true, cond_false, if_true]
      rw [chk_dec (by omega), chk_dec (by omega), show (501 : Int) = ((501 : Nat) : Int) from rfl, dyList_is k P e d hk h2 h3 h4 h5 h6 501 (by omega)]
      simp only [Option.bind_some, Int.toNat_natCast]
      show met (spec_LastsUntil_l2 k v ((wl P e d 501, ()), ()) (List.replicate P 0) (wl P e d 501) 0) _ = _
      have hlen := wl_len P e d 501
      have hl : ∀ (y21 : (List Int × Unit) × Unit) R, y21.1.1 = wl P e d 501 →
          R = (match dyF (luF P e d v) 501 with | some t => some (.inr (((t : Int), true, ()), ())) | none => some (.inl ()) : Option (Unit ⊕ ((Int × Bool × Unit) × Unit))) →
          spec_LastsUntil_l2 k v y21 (List.replicate P 0) (wl P e d 501) 0 = R := by
        intro y21 R hy hR
        unfold spec_LastsUntil_l2
        rw [cnts_nil P e d]
        refine iter_inv (fun j : Nat => (cnts P (wl P e d j), wl P e d 501, ((j : Nat) : Int), ())) (fun j => ∀ s, s < j → luF P e d v s = false) (fun _ => R) 501 (fun j hj hi => ?_) k 0 (by omega) (fun s hs => by omega) (by omega)
        by_cases hlt : j < 501
        · have hg := wl_rd P e d 501 j hlt
          have hB : dyW P e d j < (P : Int) := (dyB_ge e d (dyS P e d j) (j : Int) P).2
          by_cases hw : 0 ≤ dyW P e d j
          · have hc := cnts_rd_le P e d j _ hw hB
            have hday := cnts_day P e d j
            rw [if_pos hw] at hday
            by_cases hb : luF P e d v j = true
            · left; intro rec
              simp only [spec_LastsUntil_l2_b]
              rw [cond_dec, if_pos (by rw [hy, hlen]; omega), ixk_in (by omega) (by rw [hlen]; omega), hg, decide_eq_false (show ¬ dyW P e d j < 0 by omega)]
              simp only [cond_false]
              rw [ixk_in hw (by rw [cnts_len]; exact hB), ixk_in hw (by rw [cnts_len]; exact hB), ixk_in hw (by rw [setI_len, cnts_len]; exact hB), iw_id (by omega) (by omega), setI_same _ _ _ hw (by rw [cnts_len]; exact hB)]
              have hb3 := hb
              unfold luF at hb3
              rw [decide_eq_true hw, Bool.true_and] at hb3
              rw [hb3, hR, dyF_some hlt hb hi]; rfl
            · right
              have hb2 : luF P e d v j = false := by simpa using hb
              refine ⟨hlt, fun s hs => ?_, rfl, fun rec => ?_⟩
              · rcases Nat.lt_or_ge s j with h9 | h9
                · exact hi s h9
                · rw [show s = j by omega]; exact hb2
              · simp only [spec_LastsUntil_l2_b]
                rw [cond_dec, if_pos (by rw [hy, hlen]; omega), ixk_in (by omega) (by rw [hlen]; omega), hg, decide_eq_false (show ¬ dyW P e d j < 0 by omega)]
                simp only [cond_false]
                rw [ixk_in hw (by rw [cnts_len]; exact hB), ixk_in hw (by rw [cnts_len]; exact hB), ixk_in hw (by rw [setI_len, cnts_len]; exact hB), iw_id (by omega) (by omega), setI_same _ _ _ hw (by rw [cnts_len]; exact hB)]
                have hb3 := hb2
                unfold luF at hb3
                rw [decide_eq_true hw, Bool.true_and] at hb3
                rw [hb3, iw_nat (by omega), hday]; rfl
          · right
            have hday := cnts_day P e d j
            rw [if_neg hw] at hday
            refine ⟨hlt, fun s hs => ?_, rfl, fun rec => ?_⟩
            · rcases Nat.lt_or_ge s j with h9 | h9
              · exact hi s h9
              · rw [show s = j by omega]; unfold luF; rw [decide_eq_false hw]; rfl
            · simp only [spec_LastsUntil_l2_b]
              rw [cond_dec, if_pos (by rw [hy, hlen]; omega), ixk_in (by omega) (by rw [hlen]; omega), hg, decide_eq_true (show dyW P e d j < 0 by omega), iw_nat (by omega), hday]; rfl
        · left; intro rec
          simp only [spec_LastsUntil_l2_b]
          rw [cond_dec, if_neg (by rw [hy, hlen]; omega), hR, dyF_none (fun s hs => hi s (by omega))]
      rw [hl ((wl P e d 501, ()), ()) _ (by simp only) rfl]
      cases dyF (luF P e d v) 501 <;> rfl
end

/-! The least pairs, the greatest times. -/
def lsC (e d r : Nat) : Nat := (d - (r + 1) + (e - 1)) / e
def lsM (e d : Nat) : Nat → Nat
  | 0 => 0
  | r + 1 => max (lsM e d r) (r + e * lsC e d r)
theorem lsM_is : ∀ e : Fin 31, ∀ d : Fin 31, 1 ≤ e.val → 1 ≤ d.val → lsM e.val d.val e.val + 2 = e.val + d.val := by decide +kernel
theorem lsC_lt {e d r j : Nat} (he : 1 ≤ e) (h : j < lsC e d r) : r + 1 + e * j < d := by
  unfold lsC at h
  have h1 : (j + 1) * e ≤ d - (r + 1) + (e - 1) := (Nat.le_div_iff_mul_le (by omega)).1 (by omega)
  rw [Nat.add_mul, Nat.mul_comm j e] at h1
  omega
theorem lsC_ge {e d r : Nat} (he : 1 ≤ e) : d ≤ r + 1 + e * lsC e d r := by
  unfold lsC
  have h1 := Nat.div_add_mod (d - (r + 1) + (e - 1)) e
  have h2 := Nat.mod_lt (d - (r + 1) + (e - 1)) (show e > 0 by omega)
  omega
theorem lsC_le {e d r : Nat} (he : 1 ≤ e) : lsC e d r ≤ d := by
  rcases Nat.lt_or_ge d (lsC e d r) with h | h
  · have := lsC_lt (j := d) he h
    have : d ≤ e * d := Nat.le_mul_of_pos_left d (by omega)
    omega
  · exact h
theorem lsV_le {e d r : Nat} (he : 1 ≤ e) : r + e * lsC e d r ≤ r + d + e := by
  rcases Nat.eq_zero_or_pos (lsC e d r) with h | h
  · rw [h]; omega
  · have := lsC_lt (j := lsC e d r - 1) (r := r) (d := d) he (by omega)
    rw [Nat.mul_sub, Nat.mul_one] at this
    have h2 : e ≤ e * lsC e d r := Nat.le_mul_of_pos_right e h
    omega
theorem dyLeast_l2 (k e d r : Nat) (hk : 1000 ≤ k) (he : 1 ≤ e) (he2 : e ≤ 30) (hd2 : d ≤ 30) (hr : r ≤ 30) :
    spec_dyLeast_l2 k (e : Int) (d : Int) (r : Int) ((r + 1 : Nat) : Int) = some (.inl (((r + e * lsC e d r : Nat) : Int), ())) := by
  unfold spec_dyLeast_l2
  have hle := lsV_le (e := e) (d := d) (r := r) he
  have hc := lsC_le (e := e) (d := d) (r := r) he
  rw [show ((r : Int), ((r + 1 : Nat) : Int), ()) = (fun j : Nat => (((r + e * j : Nat) : Int), ((r + 1 + e * j : Nat) : Int), ())) 0 from by simp]
  refine iter_to (fun j : Nat => (((r + e * j : Nat) : Int), ((r + 1 + e * j : Nat) : Int), ())) (lsC e d r) _ (fun j hj rec => ?_) (fun rec => ?_) k (by omega)
  · simp only [spec_dyLeast_l2_b]
    have h1 := lsC_lt he hj
    rw [cond_dec, if_pos (by omega), iw_id (by omega) (by omega), iw_id (by omega) (by omega)]
    have h2 : r + e * (j + 1) = r + e * j + e := by rw [Nat.mul_add]; omega
    have h3 : r + 1 + e * (j + 1) = r + 1 + e * j + e := by rw [Nat.mul_add]; omega
    rw [h2, h3]
    rfl
  · simp only [spec_dyLeast_l2_b]
    have h1 := lsC_ge (e := e) (d := d) (r := r) he
    rw [cond_dec, if_neg (by omega)]
theorem dyLeast_is (k : Nat) (e d : Int) (hk : 1000 ≤ k) (he : 1 ≤ e) (he2 : e ≤ 30) (hd : 1 ≤ d) (hd2 : d ≤ 30) : spec_dyLeast_f k e d = some ((e + d - 1, ()), ()) := by
  obtain ⟨e, rfl⟩ := Int.eq_ofNat_of_zero_le (show 0 ≤ e by omega)
  obtain ⟨d, rfl⟩ := Int.eq_ofNat_of_zero_le (show 0 ≤ d by omega)
  unfold spec_dyLeast_f
  have h : spec_dyLeast_l1 k (e : Int) (d : Int) 0 0 = some (.inl (((lsM e d e : Nat) : Int), ())) := by
    unfold spec_dyLeast_l1
    refine iter_to (fun j : Nat => (((lsM e d j : Nat) : Int), (j : Int), ())) e _ (fun j hj rec => ?_) (fun rec => ?_) k (by omega)
    · simp only [spec_dyLeast_l1_b]
      rw [cond_dec, if_pos (by omega), iw_nat (by omega), dyLeast_l2 k e d j hk (by omega) (by omega) (by omega) (by omega)]
      simp only [met_inl, spec_l1Most_f]
      rw [cond_dec]
      have : ((lsM e d (j + 1) : Nat) : Int) = if ((lsM e d j : Nat) : Int) > ((j + e * lsC e d j : Nat) : Int) then ((lsM e d j : Nat) : Int) else ((j + e * lsC e d j : Nat) : Int) := by
        show ((max (lsM e d j) (j + e * lsC e d j) : Nat) : Int) = _
        split <;> omega
      rw [this]
      split <;> rfl
    · simp only [spec_dyLeast_l1_b]
      rw [cond_dec, if_neg (by omega)]
  rw [h]
  simp only [met_inl]
  have h2 := lsM_is ⟨e, by omega⟩ ⟨d, by omega⟩ (by show 1 ≤ e; omega) (by show 1 ≤ d; omega)
  simp only at h2
  rw [iw_id (by omega) (by omega)]
  congr 3
  omega
def tmOk (e d : Int) : Bool := decide (1 ≤ e) && decide (e ≤ 30) && (decide (1 ≤ d) && decide (d ≤ 30))
def lpV (e d : Int) : (Int × Bool × Unit) × Unit := if tmOk e d = true then ((e + d - 1, true, ()), ()) else ((0, false, ()), ())
theorem implLP_is (k : Nat) (e d : Int) : impl_LeastPairs_f k e d = some (lpV e d) := by
  unfold impl_LeastPairs_f impl_areTimes_f lpV tmOk
  simp only [within_is, Option.bind_some]
  cases h : (decide (1 ≤ e) && decide (e ≤ 30)) with
  | false => rfl
  | true =>
    cases h2 : (decide (1 ≤ d) && decide (d ≤ 30)) with
    | false => rfl
    | true =>
      simp only [Bool.and_eq_true, decide_eq_true_eq] at h h2
      simp only [cond_true, met_inl, Option.bind_some, Bool.not_true, cond_false, Bool.and_self, if_true]
      rw [iw_id (x := e + d) (by omega) (by omega), iw_id (by omega) (by omega)]
theorem specLP_is (k : Nat) (hk : 1000 ≤ k) (e d : Int) : spec_LeastPairs_f k e d = some (lpV e d) := by
  unfold spec_LeastPairs_f lpV tmOk
  simp only [l1In_is, Option.bind_some]
  cases h : (decide (1 ≤ e) && decide (e ≤ 30)) with
  | false => rfl
  | true =>
    cases h2 : (decide (1 ≤ d) && decide (d ≤ 30)) with
    | false => rfl
    | true =>
      simp only [Bool.and_eq_true, decide_eq_true_eq] at h h2
      simp only [Bool.not_true, cond_false, met_inl, Bool.and_self, if_true]
      rw [dyLeast_is k e d hk h.1 h.2 h2.1 h2.2]; rfl
def grV (p d : Int) : (Int × Bool × Unit) × Unit := if (tmOk p d && decide (d ≤ p)) = true then ((min2 30 (p - d + 1), true, ()), ()) else ((0, false, ()), ())
theorem greatest_is (k : Nat) (p d : Int) : impl_greatest_f k p d 30 = some (grV p d) := by
  unfold impl_greatest_f grV tmOk
  simp only [within_is, Option.bind_some]
  cases h : (decide (1 ≤ p) && decide (p ≤ 30)) with
  | false => rfl
  | true =>
    cases h2 : (decide (1 ≤ d) && decide (d ≤ 30)) with
    | false => rfl
    | true =>
      simp only [Bool.and_eq_true, decide_eq_true_eq] at h h2
      simp only [Bool.not_true, cond_false, met_inl, Bool.and_self, Bool.true_and]
      by_cases h3 : d ≤ p
      · rw [decide_eq_false (show ¬ p < d by omega), decide_eq_true h3]
        simp only [cond_false, if_true]
        rw [iw_id (x := p - d) (by omega) (by omega), iw_id (by omega) (by omega)]
      · rw [decide_eq_true (show p < d by omega), decide_eq_false h3]; rfl
theorem implGE_is (k : Nat) (p d : Int) : impl_GreatestEvery_f k p d = some (grV p d) := by
  unfold impl_GreatestEvery_f; rw [greatest_is]; rfl
theorem implGD_is (k : Nat) (p d : Int) : impl_GreatestDry_f k p d = some (grV p d) := by
  unfold impl_GreatestDry_f; rw [greatest_is]; rfl
/-- What the search for the greatest time finds. -/
def grR (p d : Int) : Option (Unit ⊕ ((Int × Bool × Unit) × Unit)) := if d ≤ p then some (.inr ((min2 30 (p - d + 1), true, ()), ())) else some (.inl ())
def grJ (p d : Int) : Nat := if d ≤ p then (30 - min2 30 (p - d + 1)).toNat else 30
theorem gr_step (p d : Int) (hp : p ≤ 30) (hd : 1 ≤ d) (j : Nat) (hj : j ≤ grJ p d) : (j < grJ p d ∧ ¬ (30 - (j : Int)) + d - 1 ≤ p ∧ 30 - (j : Int) > 0) ∨ (j = grJ p d ∧ ((d ≤ p ∧ 30 - (j : Int) > 0 ∧ (30 - (j : Int)) + d - 1 ≤ p ∧ 30 - (j : Int) = min2 30 (p - d + 1)) ∨ (¬ d ≤ p ∧ ¬ 30 - (j : Int) > 0))) := by
  unfold grJ at *
  by_cases h : d ≤ p
  · rw [if_pos h] at hj ⊢
    have h1 : min2 30 (p - d + 1) = p - d + 1 := by unfold min2; split <;> omega
    rw [h1] at hj ⊢
    omega
  · rw [if_neg h] at hj ⊢
    omega
theorem specGE_is (k : Nat) (hk : 1000 ≤ k) (p d : Int) : spec_GreatestEvery_f k p d = some (grV p d) := by
  unfold spec_GreatestEvery_f grV tmOk
  simp only [l1In_is, Option.bind_some]
  cases h : (decide (1 ≤ p) && decide (p ≤ 30)) with
  | false => rfl
  | true =>
    cases h2 : (decide (1 ≤ d) && decide (d ≤ 30)) with
    | false => rfl
    | true =>
      simp only [Bool.and_eq_true, decide_eq_true_eq] at h h2
      simp only [Bool.not_true, cond_false, met_inl, Bool.and_self, Bool.true_and]
      have hl : spec_GreatestEvery_l2 k p d 30 = grR p d := by
        unfold spec_GreatestEvery_l2
        have hJ : grJ p d ≤ 30 := by unfold grJ min2; split <;> (try split) <;> omega
        refine iter_up (fun j : Nat => (30 - (j : Int), ())) (fun _ => grR p d) (grJ p d) (fun j hj => ?_) k 0 (by omega) (by omega)
        simp only [spec_GreatestEvery_l2_b]
        rcases gr_step p d h.2 h2.1 j hj with ⟨a1, a2, a3⟩ | ⟨a1, ⟨b1, b2, b3, b4⟩ | ⟨b1, b2⟩⟩
        · right
          refine ⟨a1, by trivial, fun rec => ?_⟩
          rw [decide_eq_true a3, dyLeast_is k (30 - (j : Int)) d hk (by omega) (by omega) h2.1 h2.2]
          simp only [cond_true, Option.bind_some]
          rw [decide_eq_false a2, iw_id (by omega) (by omega), show 30 - (j : Int) - 1 = 30 - ((j + 1 : Nat) : Int) by omega]
          rfl
        · left; intro rec
          rw [decide_eq_true b2, dyLeast_is k (30 - (j : Int)) d hk (by omega) (by omega) h2.1 h2.2]
          simp only [cond_true, Option.bind_some]
          rw [decide_eq_true b3, b4]
          unfold grR
          rw [if_pos b1]; rfl
        · left; intro rec
          rw [decide_eq_false b2]
          unfold grR
          rw [if_neg b1]; rfl
      rw [hl]
      unfold grR
      by_cases h3 : d ≤ p
      · rw [if_pos h3, if_pos (decide_eq_true h3)]; rfl
      · rw [if_neg h3, if_neg (by simpa using h3)]; rfl
theorem specGD_is (k : Nat) (hk : 1000 ≤ k) (p d : Int) : spec_GreatestDry_f k p d = some (grV p d) := by
  unfold spec_GreatestDry_f grV tmOk
  simp only [l1In_is, Option.bind_some]
  cases h : (decide (1 ≤ p) && decide (p ≤ 30)) with
  | false => rfl
  | true =>
    cases h2 : (decide (1 ≤ d) && decide (d ≤ 30)) with
    | false => rfl
    | true =>
      simp only [Bool.and_eq_true, decide_eq_true_eq] at h h2
      simp only [Bool.not_true, cond_false, met_inl, Bool.and_self, Bool.true_and]
      have hl : spec_GreatestDry_l2 k p d 30 = grR p d := by
        unfold spec_GreatestDry_l2
        have hJ : grJ p d ≤ 30 := by unfold grJ min2; split <;> (try split) <;> omega
        refine iter_up (fun j : Nat => (30 - (j : Int), ())) (fun _ => grR p d) (grJ p d) (fun j hj => ?_) k 0 (by omega) (by omega)
        simp only [spec_GreatestDry_l2_b]
        rcases gr_step p d h.2 h2.1 j hj with ⟨a1, a2, a3⟩ | ⟨a1, ⟨b1, b2, b3, b4⟩ | ⟨b1, b2⟩⟩
        · right
          refine ⟨a1, by trivial, fun rec => ?_⟩
          rw [decide_eq_true a3, dyLeast_is k d (30 - (j : Int)) hk h2.1 h2.2 (by omega) (by omega)]
          simp only [cond_true, Option.bind_some]
          rw [decide_eq_false (by omega), iw_id (by omega) (by omega), show 30 - (j : Int) - 1 = 30 - ((j + 1 : Nat) : Int) by omega]
          rfl
        · left; intro rec
          rw [decide_eq_true b2, dyLeast_is k d (30 - (j : Int)) hk h2.1 h2.2 (by omega) (by omega)]
          simp only [cond_true, Option.bind_some]
          rw [decide_eq_true (by omega), b4]
          unfold grR
          rw [if_pos b1]; rfl
        · left; intro rec
          rw [decide_eq_false b2]
          unfold grR
          rw [if_neg b1]; rfl
      rw [hl]
      unfold grR
      by_cases h3 : d ≤ p
      · rw [if_pos h3, if_pos (decide_eq_true h3)]; rfl
      · rw [if_neg h3, if_neg (by simpa using h3)]; rfl

end Go.Proofs.YtmogbnhgelihlaaGreatDoorV.Law
