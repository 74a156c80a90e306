/- The law FnDrawersBest as a plain statement of plain functions: it answers true, whatever comes in. No condition. -/
import Derived.Test.YthgmnlfbgajchaaVQFnDrawersBestx1
namespace Go.Proofs.YthgmnlfbgajchaaV.Law
set_option linter.unusedVariables false
set_option linter.unusedSimpArgs false
open Go.Proofs.YthgmnlfbgajchaaV
/-! The best drawers for a time, by the program and by the reference. -/
theorem shr_testQ : ∀ a : Nat, a < 256 → ∀ v : Nat, v < 8 → (andI .i64 (shrI .i64 (a : Int) (v : Int)) 1 == 1) = Nat.testBit a v := by decide +kernel
theorem shl_pow : ∀ n : Nat, n ≤ 8 → shlI .i64 1 (n : Int) = ((2 ^ n : Nat) : Int) := by decide +kernel
theorem pow_le8 : ∀ n : Nat, n ≤ 8 → 2 ^ n ≤ 256 := by decide
def selP (b : Nat) (i : Nat) : List Nat := (List.range i).filter fun t => Nat.testBit b t
theorem selP_succ (b i : Nat) : selP b (i + 1) = if Nat.testBit b i = true then selP b i ++ [i] else selP b i := by
  unfold selP
  rw [List.range_succ, List.filter_append]
  by_cases h : Nat.testBit b i = true
  · rw [if_pos h, List.filter_cons_of_pos h]; rfl
  · rw [if_neg h, List.filter_cons_of_neg h]; simp
theorem lsum_snoc (f : Nat → Nat) (x : Nat) : ∀ L : List Nat, lsum f (L ++ [x]) = lsum f L + f x
  | [] => by simp [lsum]
  | y :: L => by
    have ih := lsum_snoc f x L
    simp only [List.cons_append, lsum]; omega
theorem selP_len (b i : Nat) : (selP b i).length ≤ i := by
  unfold selP
  have := List.length_filter_le (fun t => Nat.testBit b t) (List.range i)
  rwa [List.length_range] at this
theorem selP_sub (b n : Nat) : Sub n 0 (selP b n) := by
  refine ⟨(List.pairwise_lt_range).filter _, fun x _ => Nat.zero_le x, fun x hx => ?_⟩
  have := (List.mem_filter.1 hx).1
  exact List.mem_range.1 this
theorem sub_selP {n : Nat} {L : List Nat} (h : Sub n 0 L) (h8 : n ≤ 8) : ∃ b, b < 2 ^ n ∧ selP b n = L := by
  refine ⟨bitsTo L L.length, ?_, ?_⟩
  · refine Nat.lt_pow_two_of_testBit _ fun i hi => ?_
    cases hc : Nat.testBit (bitsTo L L.length) i with
    | false => rfl
    | true =>
      have := (bitsTo_test L i L.length (Nat.le_refl _)).1 hc
      rw [List.take_length] at this
      have := h.hi i this
      omega
  · refine List.Perm.eq_of_pairwise (le := fun a b : Nat => a < b) (fun a b _ _ h1 h2 => by omega) (selP_sub _ n).up h.up ?_
    refine (List.perm_ext_iff_of_nodup ?_ ?_).2 fun x => ?_
    · exact (selP_sub _ n).up.imp (fun h => by omega)
    · exact h.up.imp (fun h => by omega)
    · unfold selP
      rw [List.mem_filter, List.mem_range, bitsTo_test L x L.length (Nat.le_refl _), List.take_length]
      constructor
      · rintro ⟨_, h2⟩; exact h2
      · intro h2; exact ⟨h.hi x h2, h2⟩
def bstI (w mm : Nat → Nat) (n m : Nat) : Nat → List Nat
  | 0 => []
  | b + 1 => if lsum mm (selP b n) ≤ m ∧ btr w (selP b n) (bstI w mm n m b) then selP b n else bstI w mm n m b
theorem bstI_is (w mm : Nat → Nat) (n m : Nat) : ∀ b : Nat, Sub n 0 (bstI w mm n m b) ∧ lsum mm (bstI w mm n m b) ≤ m ∧ ∀ c, c < b → lsum mm (selP c n) ≤ m → ¬ btr w (selP c n) (bstI w mm n m b)
  | 0 => ⟨⟨List.Pairwise.nil, fun x hx => absurd hx List.not_mem_nil, fun x hx => absurd hx List.not_mem_nil⟩, Nat.zero_le _, fun c hc => by omega⟩
  | b + 1 => by
    obtain ⟨i1, i2, i3⟩ := bstI_is w mm n m b
    have hdef : bstI w mm n m (b + 1) = if lsum mm (selP b n) ≤ m ∧ btr w (selP b n) (bstI w mm n m b) then selP b n else bstI w mm n m b := rfl
    rw [hdef]
    by_cases h : lsum mm (selP b n) ≤ m ∧ btr w (selP b n) (bstI w mm n m b)
    · rw [if_pos h]
      refine ⟨selP_sub b n, h.1, fun c hc hm hb => ?_⟩
      rcases Nat.lt_or_ge c b with h1 | h1
      · exact i3 c h1 hm (btr_trans hb h.2)
      · rw [show c = b by omega] at hb; exact btr_irr w _ hb
    · rw [if_neg h]
      refine ⟨i1, i2, fun c hc hm hb => ?_⟩
      rcases Nat.lt_or_ge c b with h1 | h1
      · exact i3 c h1 hm hb
      · rw [show c = b by omega] at hb hm; exact h ⟨hm, hb⟩
theorem best_same (w mm : Nat → Nat) (n m q : Nat) (h8 : n ≤ 8) (hq : n < q) : lk w mm n q 0 m = bstI w mm n m (2 ^ n) := by
  obtain ⟨i1, i2, i3⟩ := bstI_is w mm n m (2 ^ n)
  refine opt_uniq w mm n (lk_opt w mm n q 0 m (Nat.zero_le _) (by omega)) ⟨i1, i2⟩ fun L hs hm => ?_
  obtain ⟨b, hb, rfl⟩ := sub_selP hs h8
  exact i3 b hb hm
theorem lsum_le {f : Nat → Nat} {c : Nat} (h : ∀ i, f i ≤ c) : ∀ L : List Nat, lsum f L ≤ c * L.length
  | [] => by simp [lsum]
  | x :: L => by
    have ih := lsum_le h L
    have hx := h x
    simp only [lsum, List.length_cons, Nat.mul_add]; omega
noncomputable def cmpF (k : Nat) (L B : List Nat) (rec : (Int × Unit) → Option (Unit ⊕ ((Int × Unit) × Unit))) (x : Int × Unit) : Option (Unit ⊕ ((Int × Unit) × Unit)) := slices_Compare_int_int_l1_b k (nI L) (nI B) (fun x11 => rec (x11, ())) x.1
theorem compare_is (k : Nat) (hk : 1000 ≤ k) (L B : List Nat) (hl : L.length = B.length) (h8 : L.length ≤ 100) : ∃ c : Int, slices_Compare_int_int_f k (nI L) (nI B) = some ((c, ()), ()) ∧ decide (c < 0) = lexN L B := by
  unfold slices_Compare_int_int_f
  have hC : ∀ x y : Int, cmp_Compare_int_f k x y = some ((if x < y then -1 else if x > y then 1 else 0, ()), ()) := by
    intro x y
    unfold cmp_Compare_int_f cmp_isNaN_int_f
    simp only [Option.bind_some, bne_self_eq_false, cond_false]
    rw [cond_dec, cond_dec]
    split
    · rfl
    · split <;> rfl
  have h : ∀ d j : Nat, j + d = L.length → ∀ q, d < q → ∃ o, iter q (cmpF k L B) ((j : Int), ()) = some o ∧
      ((o = .inl () ∧ lexN (L.drop j) (B.drop j) = false) ∨ ∃ c : Int, o = .inr ((c, ()), ()) ∧ decide (c < 0) = lexN (L.drop j) (B.drop j)) := by
    intro d
    induction d with
    | zero =>
      intro j hj q hq
      obtain ⟨q, rfl⟩ : ∃ q', q = q' + 1 := ⟨q - 1, by omega⟩
      refine ⟨.inl (), ?_, .inl ⟨rfl, by rw [List.drop_eq_nil_of_le (by omega)]; rfl⟩⟩
      rw [show iter (q + 1) (cmpF k L B) ((j : Int), ()) = slices_Compare_int_int_l1_b k (nI L) (nI B) (fun x11 => iter q (cmpF k L B) (x11, ())) (j : Int) from rfl]
      simp only [slices_Compare_int_int_l1_b]
      rw [cond_dec, if_neg (by rw [nI_len]; omega)]
    | succ d ih =>
      intro j hj q hq
      obtain ⟨q, rfl⟩ : ∃ q', q = q' + 1 := ⟨q - 1, by omega⟩
      have hb : ∀ rec : Int → Option (Unit ⊕ ((Int × Unit) × Unit)), slices_Compare_int_int_l1_b k (nI L) (nI B) rec (j : Int) = cond ((if ((L.getD j 0 : Nat) : Int) < ((B.getD j 0 : Nat) : Int) then (-1 : Int) else if ((L.getD j 0 : Nat) : Int) > ((B.getD j 0 : Nat) : Int) then 1 else 0) != 0) (some (.inr ((if ((L.getD j 0 : Nat) : Int) < ((B.getD j 0 : Nat) : Int) then (-1 : Int) else if ((L.getD j 0 : Nat) : Int) > ((B.getD j 0 : Nat) : Int) then 1 else 0, ()), ()))) (rec ((j + 1 : Nat) : Int)) := by
        intro rec
        simp only [slices_Compare_int_int_l1_b]
        rw [cond_dec, if_pos (by rw [nI_len]; omega), ixk_in (by omega) (by rw [nI_len]; omega), decide_eq_false (by rw [nI_len]; omega)]
        simp only [cond_false]
        rw [ixk_in (by omega) (by rw [nI_len]; omega), nI_rd _ j (by omega), nI_rd _ j (by omega), hC, iw_nat (by omega)]
        rfl
      have hdL : L.drop j = L.getD j 0 :: L.drop (j + 1) := by
        rw [List.drop_eq_getElem_cons (by omega), List.getD_eq_getElem?_getD, List.getElem?_eq_getElem (by omega)]; rfl
      have hdB : B.drop j = B.getD j 0 :: B.drop (j + 1) := by
        rw [List.drop_eq_getElem_cons (by omega), List.getD_eq_getElem?_getD, List.getElem?_eq_getElem (by omega)]; rfl
      rw [hdL, hdB, show iter (q + 1) (cmpF k L B) ((j : Int), ()) = slices_Compare_int_int_l1_b k (nI L) (nI B) (fun x11 => iter q (cmpF k L B) (x11, ())) (j : Int) from rfl, hb]
      clear hb hdL hdB
      generalize L.getD j 0 = x
      generalize B.getD j 0 = y
      rcases Nat.lt_trichotomy x y with h1 | h1 | h1
      · refine ⟨.inr ((-1, ()), ()), ?_, .inr ⟨-1, rfl, ?_⟩⟩
        · rw [if_pos (by omega)]; rfl
        · simp only [lexN, decide_eq_true h1, Bool.true_or]; rfl
      · obtain ⟨o, o1, o2⟩ := ih (j + 1) (by omega) q (by omega)
        refine ⟨o, ?_, ?_⟩
        · rw [if_neg (by omega), if_neg (by omega), show ((0 : Int) != 0) = false from rfl, cond_false, o1]
        · have : lexN (x :: L.drop (j + 1)) (y :: B.drop (j + 1)) = lexN (L.drop (j + 1)) (B.drop (j + 1)) := by
            simp only [lexN]
            rw [decide_eq_false (by omega), show (x == y) = true from by simpa using h1]; simp
          rw [this]; exact o2
      · refine ⟨.inr ((1, ()), ()), ?_, .inr ⟨1, rfl, ?_⟩⟩
        · rw [if_neg (by omega), if_pos (by omega)]; rfl
        · simp only [lexN]
          rw [decide_eq_false (show ¬ x < y by omega), show (x == y) = false from by rw [beq_eq_false_iff_ne]; omega]; rfl
  obtain ⟨o, o1, o2⟩ := h L.length 0 (by omega) k (by omega)
  have o1' : slices_Compare_int_int_l1 k (nI L) (nI B) 0 = some o := o1
  rw [o1']
  rw [List.drop_zero, List.drop_zero] at o2
  rcases o2 with ⟨rfl, e⟩ | ⟨c, rfl, e⟩
  · simp only [met_inl]
    rw [nI_len, nI_len, decide_eq_false (by omega), e]
    exact ⟨0, rfl, rfl⟩
  · exact ⟨c, rfl, e⟩
section
variable (k : Nat) (hk : 1000 ≤ k) (S : DT) (hS : InD S) (h8 : S.length ≤ 8)
include hk hS h8
theorem bw_l2 (b : Nat) (hb : b < 256) (z B : List Int × Int × Unit) : impl_bestWithin_l2 k S (b : Int) z B ([], 0, ()) 0 0
    = some (.inl (z, B, (nI (selP b S.length), ((lsum (wt S) (selP b S.length) : Nat) : Int), ()), ((lsum (mi S) (selP b S.length) : Nat) : Int), ())) := by
  unfold impl_bestWithin_l2
  refine iter_to (fun j : Nat => (z, B, (nI (selP b j), ((lsum (wt S) (selP b j) : Nat) : Int), ()), ((lsum (mi S) (selP b j) : Nat) : Int), (j : Int), ())) S.length _ (fun j hj rec => ?_) (fun rec => ?_) k (by omega)
  · simp only [impl_bestWithin_l2_b]
    obtain ⟨e1, w1, m1, _⟩ := inD_at hS j
    have a1 := lsum_le (fun i => (inD_at hS i).2.1) (selP b j)
    have a2 := lsum_le (fun i => (inD_at hS i).2.2.1) (selP b j)
    have a3 := selP_len b j
    rw [cond_dec, if_pos (by omega), ixk_in (by omega) (by omega), chk_dec (by omega), shr_testQ b hb j (by omega), e1, iw_nat (n := j) (by omega), selP_succ]
    cases Nat.testBit b j with
    | true =>
      simp only [cond_true, if_true]
      rw [chk_dec (by rw [nI_len]; simp; omega), iw_id (by omega) (by omega), iw_id (by omega) (by omega), lsum_snoc, lsum_snoc, nI_app]
      rfl
    | false => rfl
  · simp only [impl_bestWithin_l2_b]
    rw [cond_dec, if_neg (by omega)]
theorem bw_is (m : Nat) : impl_bestWithin_f k S (m : Int) = some (((nI (bstI (wt S) (mi S) S.length m (2 ^ S.length)), ((lsum (wt S) (bstI (wt S) (mi S) S.length m (2 ^ S.length)) : Nat) : Int), ()), ()), ()) := by
  unfold impl_bestWithin_f
  rw [chk_dec (by omega)]
  have h : impl_bestWithin_l1 k S (m : Int) ([], 0, ()) ([], 0, ()) 0 = some (.inl (([], 0, ()), (nI (bstI (wt S) (mi S) S.length m (2 ^ S.length)), ((lsum (wt S) (bstI (wt S) (mi S) S.length m (2 ^ S.length)) : Nat) : Int), ()), ())) := by
    unfold impl_bestWithin_l1
    have hp := pow_le8 S.length h8
    refine iter_to (fun b : Nat => ((([] : List Int), (0 : Int), ()), (nI (bstI (wt S) (mi S) S.length m b), ((lsum (wt S) (bstI (wt S) (mi S) S.length m b) : Nat) : Int), ()), (b : Int), ())) (2 ^ S.length) _ (fun b hb rec => ?_) (fun rec => ?_) k (by omega)
    · simp only [impl_bestWithin_l1_b]
      rw [shl_pow S.length h8, cond_dec, if_pos (by omega), bw_l2 k hk S hS h8 b (by omega), iw_nat (by omega)]
      have hdef : bstI (wt S) (mi S) S.length m (b + 1) = if lsum (mi S) (selP b S.length) ≤ m ∧ btr (wt S) (selP b S.length) (bstI (wt S) (mi S) S.length m b) then selP b S.length else bstI (wt S) (mi S) S.length m b := rfl
      have hll := selP_len b S.length
      rw [hdef]
      generalize selP b S.length = L at *
      generalize bstI (wt S) (mi S) S.length m b = B at *
      refine met_goM (([], 0, ()), (nI (if lsum (mi S) L ≤ m ∧ btr (wt S) L B then L else B), ((lsum (wt S) (if lsum (mi S) L ≤ m ∧ btr (wt S) L B then L else B) : Nat) : Int), ()), ()) ?_ rfl
      simp only [met_inl, nI_len]
      by_cases hm : lsum (mi S) L ≤ m
      · rw [decide_eq_false (show ¬ ((lsum (mi S) L : Nat) : Int) > (m : Int) by omega)]
        simp only [cond_false, met_inl]
        by_cases hw : lsum (wt S) L < lsum (wt S) B
        · rw [decide_eq_true (show ((lsum (wt S) L : Nat) : Int) < ((lsum (wt S) B : Nat) : Int) by omega), if_neg (by unfold btr; rintro ⟨_, h | ⟨h, _⟩⟩ <;> omega)]
          rfl
        · rw [decide_eq_false (show ¬ ((lsum (wt S) L : Nat) : Int) < ((lsum (wt S) B : Nat) : Int) by omega)]
          simp only [cond_false]
          by_cases hw2 : lsum (wt S) B < lsum (wt S) L
          · rw [decide_eq_true (show ((lsum (wt S) L : Nat) : Int) > ((lsum (wt S) B : Nat) : Int) by omega), if_pos ⟨hm, .inl hw2⟩]
            rfl
          · rw [decide_eq_false (show ¬ ((lsum (wt S) L : Nat) : Int) > ((lsum (wt S) B : Nat) : Int) by omega)]
            simp only [cond_false]
            by_cases hl : L.length < B.length
            · rw [decide_eq_true (show (((nI L).length : Nat) : Int) < (((nI B).length : Nat) : Int) by rw [nI_len, nI_len]; omega), if_pos ⟨hm, .inr ⟨by omega, .inl hl⟩⟩]
              rfl
            · rw [decide_eq_false (show ¬ (((nI L).length : Nat) : Int) < (((nI B).length : Nat) : Int) by rw [nI_len, nI_len]; omega)]
              simp only [cond_false]
              by_cases hl2 : L.length = B.length
              · obtain ⟨c, hc1, hc2⟩ := compare_is k hk L B hl2 (by omega)
                rw [show ((((nI L).length : Nat) : Int) == (((nI B).length : Nat) : Int)) = true from by rw [nI_len, nI_len, hl2]; simp, hc1]
                simp only [cond_true, Option.bind_some, met_inl]
                rw [hc2]
                cases hx : lexN L B with
                | true => rw [if_pos ⟨hm, .inr ⟨by omega, .inr ⟨hl2, hx⟩⟩⟩]; rfl
                | false =>
                  rw [if_neg (by unfold btr; rw [hx]; rintro ⟨_, h | ⟨_, h | ⟨_, h⟩⟩⟩ <;> first | omega | cases h)]
                  rfl
              · rw [show ((((nI L).length : Nat) : Int) == (((nI B).length : Nat) : Int)) = false from by rw [nI_len, nI_len, beq_eq_false_iff_ne]; omega, if_neg (by unfold btr; rintro ⟨_, h | ⟨_, h | ⟨h, _⟩⟩⟩ <;> omega)]
                rfl
      · rw [decide_eq_true (show ((lsum (mi S) L : Nat) : Int) > (m : Int) by omega), if_neg (fun h => hm h.1)]
        rfl
    · simp only [impl_bestWithin_l1_b]
      rw [shl_pow S.length h8, cond_dec, if_neg (by omega)]
  rw [h]
  rfl
theorem lookD_is : ∀ (q f m : Nat), f ≤ S.length → S.length - f < q → m ≤ 1000 → spec_dwLook_r k q S (f : Int) (m : Int) = some ((nI (lk (wt S) (mi S) S.length q f m), ((lsum (wt S) (lk (wt S) (mi S) S.length q f m) : Nat) : Int), ()), ())
  | 0, _, _, _, h, _ => by omega
  | q + 1, f, m, hf, hq, hm => by
    show spec_dwLook_s k (spec_dwLook_r k q) S (f : Int) (m : Int) = _
    unfold spec_dwLook_s
    have hdef : lk (wt S) (mi S) S.length (q + 1) f m = lkG (wt S) (mi S) m (lk (wt S) (mi S) S.length q) f (S.length - f) := rfl
    rw [hdef]
    have hlen : ∀ j : Nat, j ≤ S.length - f → (lkG (wt S) (mi S) m (lk (wt S) (mi S) S.length q) f j).length ≤ 8 := by
      intro j
      induction j with
      | zero => intro _; simp [lkG]
      | succ j ih =>
        intro hj
        have ih := ih (by omega)
        have hR := lk_opt (wt S) (mi S) S.length q (f + j + 1) (m - mi S (f + j)) (by omega) (by omega)
        show (updL (wt S) (mi S) m (lk (wt S) (mi S) S.length q) (lkG (wt S) (mi S) m (lk (wt S) (mi S) S.length q) f j) (f + j)).length ≤ 8
        unfold updL
        split
        · exact ih
        · split
          · have hs : Sub S.length 0 ((f + j) :: lk (wt S) (mi S) S.length q (f + j + 1) (m - mi S (f + j))) := hR.sub.cons (Nat.zero_le _) (by omega)
            obtain ⟨b, _, hb⟩ := sub_selP hs h8
            rw [← hb]
            exact Nat.le_trans (selP_len _ _) h8
          · exact ih
    have h : spec_dwLook_l1 k (spec_dwLook_r k q) S (m : Int) [] 0 (f : Int) = some (.inl (nI (lkG (wt S) (mi S) m (lk (wt S) (mi S) S.length q) f (S.length - f)), ((lsum (wt S) (lkG (wt S) (mi S) m (lk (wt S) (mi S) S.length q) f (S.length - f)) : Nat) : Int), ())) := by
      unfold spec_dwLook_l1
      refine iter_to (fun j : Nat => (nI (lkG (wt S) (mi S) m (lk (wt S) (mi S) S.length q) f j), ((lsum (wt S) (lkG (wt S) (mi S) m (lk (wt S) (mi S) S.length q) f j) : Nat) : Int), ((f + j : Nat) : Int), ())) (S.length - f) _ (fun j hj rec => ?_) (fun rec => ?_) k (by omega)
      · simp only [spec_dwLook_l1_b]
        obtain ⟨e1, w1, m1, _⟩ := inD_at hS (f + j)
        have hlj := hlen j (by omega)
        have a1 := lsum_le (fun i => (inD_at hS i).2.1) (lkG (wt S) (mi S) m (lk (wt S) (mi S) S.length q) f j)
        have hu : lkG (wt S) (mi S) m (lk (wt S) (mi S) S.length q) f (j + 1) = updL (wt S) (mi S) m (lk (wt S) (mi S) S.length q) (lkG (wt S) (mi S) m (lk (wt S) (mi S) S.length q) f j) (f + j) := rfl
        rw [hu]
        generalize lkG (wt S) (mi S) m (lk (wt S) (mi S) S.length q) f j = B at *
        rw [cond_dec, if_pos (by omega), ixk_in (by omega) (by omega), e1, iw_nat (n := f + j) (by omega)]
        unfold updL
        by_cases hc1 : m < mi S (f + j)
        · rw [decide_eq_true (show ((mi S (f + j) : Nat) : Int) > (m : Int) by omega), if_pos (.inl hc1)]
          rfl
        · rw [decide_eq_false (show ¬ ((mi S (f + j) : Nat) : Int) > (m : Int) by omega)]
          simp only [cond_false, met_inl]
          by_cases hc2 : wt S (f + j) = 0
          · rw [show (((wt S (f + j) : Nat) : Int) == 0) = true from by rw [hc2]; rfl, if_pos (.inr hc2)]
            rfl
          · rw [show (((wt S (f + j) : Nat) : Int) == 0) = false from by rw [beq_eq_false_iff_ne]; omega, if_neg (by omega)]
            simp only [cond_false]
            have hR := lk_opt (wt S) (mi S) S.length q (f + j + 1) (m - mi S (f + j)) (by omega) (by omega)
            have hRl : (lk (wt S) (mi S) S.length q (f + j + 1) (m - mi S (f + j))).length ≤ 8 := by
              have hs : Sub S.length 0 (lk (wt S) (mi S) S.length q (f + j + 1) (m - mi S (f + j))) := ⟨hR.sub.up, fun x _ => Nat.zero_le x, hR.sub.hi⟩
              obtain ⟨b, _, hb⟩ := sub_selP hs h8
              rw [← hb]
              exact Nat.le_trans (selP_len _ _) h8
            rw [iw_id (x := (m : Int) - ((mi S (f + j) : Nat) : Int)) (by omega) (by omega), show (m : Int) - ((mi S (f + j) : Nat) : Int) = ((m - mi S (f + j) : Nat) : Int) by omega, lookD_is q (f + j + 1) (m - mi S (f + j)) (by omega) (by omega) (by omega)]
            simp only [Option.bind_some]
            generalize lk (wt S) (mi S) S.length q (f + j + 1) (m - mi S (f + j)) = R at *
            have a2 := lsum_le (fun i => (inD_at hS i).2.1) R
            rw [iw_id (x := ((lsum (wt S) R : Nat) : Int) + ((wt S (f + j) : Nat) : Int)) (by omega) (by omega), nI_len, nI_len, iw_nat (by omega)]
            by_cases hb1 : lsum (wt S) B < lsum (wt S) R + wt S (f + j)
            · rw [decide_eq_true (show ((lsum (wt S) R : Nat) : Int) + ((wt S (f + j) : Nat) : Int) > ((lsum (wt S) B : Nat) : Int) by omega), if_pos (.inl hb1)]
              simp only [cond_true, met_inl]
              rw [chk_dec (by rw [nI_len]; simp; omega)]
              simp only [met_inl, lsum]
              rw [show (((wt S (f + j) + lsum (wt S) R : Nat)) : Int) = ((lsum (wt S) R : Nat) : Int) + ((wt S (f + j) : Nat) : Int) by omega]
              rfl
            · rw [decide_eq_false (show ¬ ((lsum (wt S) R : Nat) : Int) + ((wt S (f + j) : Nat) : Int) > ((lsum (wt S) B : Nat) : Int) by omega)]
              simp only [cond_false]
              by_cases hb2 : lsum (wt S) R + wt S (f + j) = lsum (wt S) B
              · rw [show ((((lsum (wt S) R : Nat) : Int) + ((wt S (f + j) : Nat) : Int)) == ((lsum (wt S) B : Nat) : Int)) = true from by rw [beq_iff_eq]; omega]
                simp only [cond_true, met_inl]
                by_cases hb3 : R.length + 1 < B.length
                · rw [decide_eq_true (show ((R.length + 1 : Nat) : Int) < ((B.length : Nat) : Int) by omega), if_pos (.inr ⟨hb2, hb3⟩)]
                  simp only [cond_true, met_inl]
                  rw [chk_dec (by rw [nI_len]; simp; omega)]
                  simp only [met_inl, lsum]
                  rw [show (((wt S (f + j) + lsum (wt S) R : Nat)) : Int) = ((lsum (wt S) R : Nat) : Int) + ((wt S (f + j) : Nat) : Int) by omega]
                  rfl
                · rw [decide_eq_false (show ¬ ((R.length + 1 : Nat) : Int) < ((B.length : Nat) : Int) by omega), if_neg (by rintro (h | ⟨_, h⟩) <;> omega)]
                  rfl
              · rw [show ((((lsum (wt S) R : Nat) : Int) + ((wt S (f + j) : Nat) : Int)) == ((lsum (wt S) B : Nat) : Int)) = false from by rw [beq_eq_false_iff_ne]; omega, if_neg (by rintro (h | ⟨h, _⟩) <;> omega)]
                rfl
      · simp only [spec_dwLook_l1_b]
        rw [cond_dec, if_neg (by omega)]
    rw [h]
    rfl
end

/-! Chances within a time; what is found; the best drawers, as told. -/
def tmB (m : Int) : Bool := decide (0 ≤ m) && decide (m ≤ 1000)
def cw (S : DT) (O : List Int) (m : Nat) : Nat := sumN (fun i => if fd S O i ≤ m then wt S i else 0) S.length
def cwV (S : DT) (O : List Int) (m : Int) : (Int × Int × Bool × Unit) × Unit := if (isB2 S O && tmB m) = true then chOut (cw S O m.toNat) (Wd S) else ((0, 0, false, ()), ())
def faV (S : DT) (O : List Int) (p : Int) : (Int × Bool × Unit) × Unit := if (isB2 S O && (decide (0 ≤ p) && decide (p ≤ (S.length : Int) - 1))) = true then ((((fd S O p.toNat : Nat) : Int), true, ()), ()) else ((0, false, ()), ())
def bestS (S : DT) (m : Nat) : List Nat := bstI (wt S) (mi S) S.length m (2 ^ S.length)
def gwV (S : DT) (m : Int) : (Int × Int × Bool × Unit) × Unit := if (goodD S && tmB m) = true then chOut (lsum (wt S) (bestS S m.toNat)) (Wd S) else ((0, 0, false, ()), ())
def bwV (S : DT) (m : Int) : (List Int × Bool × Unit) × Unit := if (goodD S && tmB m) = true then ((nI (bestS S m.toNat), true, ()), ()) else (([], false, ()), ())
theorem bestS_opt {S : DT} (G : GoodD S) (m : Nat) : Opt (wt S) (mi S) S.length 0 m (bestS S m) := by
  have h := lk_opt (wt S) (mi S) S.length 100 0 m (Nat.zero_le _) (by have := G.l8; omega)
  rw [best_same (wt S) (mi S) S.length m 100 G.l8 (by have := G.l8; omega)] at h
  exact h
theorem bestS_len {S : DT} (G : GoodD S) (m : Nat) : (bestS S m).length ≤ 8 := by
  obtain ⟨b, _, hb⟩ := sub_selP (bestS_opt G m).sub G.l8
  rw [← hb]; exact Nat.le_trans (selP_len _ _) G.l8
theorem bestS_le {S : DT} (G : GoodD S) (m : Nat) : lsum (wt S) (bestS S m) ≤ 400 := by
  have a := lsum_le (fun i => (inD_at G.inD i).2.1) (bestS S m)
  have := bestS_len G m
  omega
section
variable (k : Nat) (hk : 1000 ≤ k)
include hk
theorem cw_s {S : DT} (G : GoodD S) {O : List Int} (p : Perm O S.length) (m : Nat) : impl_mean__impl_ChanceWithin_1_l1 k S O (((m : Int), ()), ()) 0 0 0 = some (.inl (((cw S O m : Nat) : Int), ())) := by
  have l8 := G.l8
  have len := p.len
  have hcw : cw S O m = sumN (fun t => if Fm S O (t + 1) ≤ m then wt S (at' O t) else 0) S.length := by
    unfold cw
    rw [← p.sum (fun i => if fd S O i ≤ m then wt S i else 0)]
    exact sumN_congr _ fun t ht => by rw [fd_at 1000 (by omega) G p t ht]
  rw [hcw]
  unfold impl_mean__impl_ChanceWithin_1_l1
  refine iter_to (fun j : Nat => (((sumN (fun t => if Fm S O (t + 1) ≤ m then wt S (at' O t) else 0) j : Nat) : Int), ((Fm S O j : Nat) : Int), (j : Int), ())) S.length _ (fun j hj rec => ?_) (fun rec => ?_) k (by omega)
  · obtain ⟨e1, e2⟩ := at_i k hk G p j hj
    have hs := sum_le (f := fun t => if Fm S O (t + 1) ≤ m then wt S (at' O t) else 0) (c := 50) (fun i => by
      have := (inD_at G.inD (at' O i)).2.1
      show (if Fm S O (i + 1) ≤ m then wt S (at' O i) else 0) ≤ 50
      split <;> omega) (j + 1)
    have hF := Fm_le G.inD O (j + 1)
    simp only [sumN] at hs
    have eF : iw (((Fm S O j : Nat) : Int) + ((mi S (at' O j) : Nat) : Int)) = ((Fm S O (j + 1) : Nat) : Int) := by
      have : Fm S O (j + 1) = Fm S O j + mi S (at' O j) := rfl
      rw [iw_id (by omega) (by omega)]; omega
    simp only [impl_mean__impl_ChanceWithin_1_l1_b]
    rw [cond_dec, if_pos (by omega), ixk_in (by omega) (by omega), e1, ixk_in (by omega) (by omega), ixk_in (by omega) (by omega), (inD_at G.inD (at' O j)).1]
    simp only [eF, sumN]
    unfold impl_ChanceWithin_1_f
    have hw := (inD_at G.inD (at' O j)).2.1
    by_cases hc : Fm S O (j + 1) ≤ m
    · rw [if_pos hc] at hs ⊢
      rw [cond_dec, if_pos (by show ((Fm S O (j + 1) : Nat) : Int) ≤ (m : Int); omega)]
      simp only [Option.bind_some, Int.mul_one]
      rw [iw_nat (by omega), iw_id (x := ((wt S (at' O j) : Nat) : Int)) (by omega) (by omega), iw_id (by omega) (by omega)]
      rfl
    · rw [if_neg hc] at hs ⊢
      rw [cond_dec, if_neg (by show ¬ ((Fm S O (j + 1) : Nat) : Int) ≤ (m : Int); omega)]
      simp only [Option.bind_some, Int.mul_zero]
      rw [iw_nat (by omega), show iw 0 = 0 from by rw [iw_id] <;> omega, iw_id (by omega) (by omega), Int.add_zero]
      rfl
  · simp only [impl_mean__impl_ChanceWithin_1_l1_b]
    rw [cond_dec, if_neg (by omega)]
theorem cw_le {S : DT} (O : List Int) (m : Nat) : cw S O m ≤ Wd S := by
  have _h := hk
  exact sumN_lele fun i _ => by show (if fd S O i ≤ m then wt S i else 0) ≤ wt S i; split <;> omega
theorem implCW_is (S : DT) (O : List Int) (hS : S.length ≤ 20) (hO : O.length ≤ 20) (m : Int) : impl_ChanceWithin_f k S O m = some (cwV S O m) := by
  unfold impl_ChanceWithin_f cwV tmB
  rw [isS_is k (by omega) S O hS hO]
  cases hb : isB2 S O with
  | false => rfl
  | true =>
    obtain ⟨G, p⟩ := isB2_is hb
    have w := Wd_le k hk G p
    simp only [Option.bind_some, Bool.not_true, cond_false, within_is, met_inl, Bool.true_and]
    cases hm : (decide (0 ≤ m) && decide (m ≤ 1000)) with
    | false => rfl
    | true =>
      simp only [Bool.and_eq_true, decide_eq_true_eq] at hm
      obtain ⟨m, rfl⟩ := Int.eq_ofNat_of_zero_le hm.1
      have hcl := cw_le k hk (S := S) O m
      simp only [Bool.not_true, cond_false, if_true, Int.toNat_natCast]
      unfold impl_mean__impl_ChanceWithin_1_f
      rw [cw_s k hk G p m]
      simp only [met_inl]
      rw [weights_is k (by omega) G.inD (by omega)]
      simp only [Option.bind_some]
      rw [show sumN (wt S) S.length = Wd S from rfl, fraction_is k _ _ (by omega) w.1 (by omega) (by omega)]
      rfl
theorem specCW_is (S : DT) (O : List Int) (hS : S.length ≤ 20) (hO : O.length ≤ 20) (m : Int) : spec_ChanceWithin_f k S O m = some (cwV S O m) := by
  unfold spec_ChanceWithin_f spec_dwMinutes_f cwV tmB
  rw [dwBoth_is k (by omega) S O hS hO]
  cases hb : isB2 S O with
  | false => rfl
  | true =>
    obtain ⟨G, p⟩ := isB2_is hb
    have w := Wd_le k hk G p
    have l8 := G.l8
    simp only [Option.bind_some, Bool.not_true, cond_false, l1In_is, met_inl, Bool.true_and]
    cases hm : (decide (0 ≤ m) && decide (m ≤ 1000)) with
    | false => rfl
    | true =>
      simp only [Bool.and_eq_true, decide_eq_true_eq] at hm
      obtain ⟨m, rfl⟩ := Int.eq_ofNat_of_zero_le hm.1
      have hcl := cw_le k hk (S := S) O m
      simp only [Bool.not_true, cond_false, if_true, Int.toNat_natCast]
      rw [found_is k hk G p]
      simp only [Option.bind_some]
      have hrl : (row S.length (fd S O)).length = S.length := by simp [row]
      have h : ∀ y25 : (List Int × Unit) × Unit, y25.1.1 = row S.length (fd S O) → spec_ChanceWithin_l2 k S (m : Int) y25 0 (row S.length (fd S O)) 0 = some (.inl (((cw S O m : Nat) : Int), ())) := by
        intro y25 hy
        unfold spec_ChanceWithin_l2
        refine iter_to (fun j : Nat => (((sumN (fun i => if fd S O i ≤ m then wt S i else 0) j : Nat) : Int), row S.length (fd S O), (j : Int), ())) S.length _ (fun j hj rec => ?_) (fun rec => ?_) k (by omega)
        · simp only [spec_ChanceWithin_l2_b]
          have hs := sum_le (f := fun i => if fd S O i ≤ m then wt S i else 0) (c := 50) (fun i => by
            have := (inD_at G.inD i).2.1
            show (if fd S O i ≤ m then wt S i else 0) ≤ 50
            split <;> omega) (j + 1)
          simp only [sumN] at hs
          have hr : rd (row S.length (fd S O)) (j : Int) = ((fd S O j : Nat) : Int) := by
            rw [rd_nat _ j (by rw [hrl]; exact hj)]; simp [row]
          have hw := (inD_at G.inD j).2.1
          rw [cond_dec, if_pos (by rw [hy, hrl]; omega), ixk_in (by omega) (by rw [hrl]; omega), hr, iw_nat (n := j) (by omega), (inD_at G.inD j).1]
          simp only [sumN]
          by_cases hc : fd S O j ≤ m
          · rw [if_pos hc] at hs ⊢
            rw [decide_eq_true (show ((fd S O j : Nat) : Int) ≤ (m : Int) by omega)]
            simp only [cond_true]
            rw [ixk_in (by omega) (by omega), iw_id (by omega) (by omega)]
            rfl
          · rw [if_neg hc] at hs ⊢
            rw [decide_eq_false (show ¬ ((fd S O j : Nat) : Int) ≤ (m : Int) by omega)]
            rfl
        · simp only [spec_ChanceWithin_l2_b]
          rw [cond_dec, if_neg (by rw [hy, hrl]; omega)]
          rfl
      rw [h _ rfl]
      simp only [met_inl]
      rw [dwAll_is k (by omega) G.inD (by omega)]
      simp only [Option.bind_some]
      rw [show sumN (wt S) S.length = Wd S from rfl, gvLow_is k _ _ (by omega) w.1 (by omega) (by omega)]
      rfl
theorem implFA_is (S : DT) (O : List Int) (hS : S.length ≤ 20) (hO : O.length ≤ 20) (q : Int) : impl_FoundAt_f k S O q = some (faV S O q) := by
  unfold faV
  cases hb : isB2 S O with
  | false =>
    unfold impl_FoundAt_f
    rw [isS_is k (by omega) S O hS hO, hb]; rfl
  | true =>
    obtain ⟨G, p⟩ := isB2_is hb
    have hg : goodD S = true := by unfold isB2 at hb; simp only [Bool.and_eq_true] at hb; exact hb.1
    simp only [Bool.true_and]
    cases hq : (decide (0 ≤ q) && decide (q ≤ (S.length : Int) - 1)) with
    | false =>
      unfold impl_FoundAt_f
      rw [isS_is k (by omega) S O hS hO, hb]
      simp only [Option.bind_some, Bool.not_true, cond_false]
      rw [isDr_is k (by omega) S O hS hO, hg, hq]; rfl
    | true =>
      simp only [Bool.and_eq_true, decide_eq_true_eq] at hq
      obtain ⟨i, rfl⟩ := Int.eq_ofNat_of_zero_le hq.1
      rw [foundAt_is k hk hg p i (by omega)]; rfl
theorem specFA_is (S : DT) (O : List Int) (hS : S.length ≤ 20) (hO : O.length ≤ 20) (q : Int) : spec_FoundAt_f k S O q = some (faV S O q) := by
  unfold spec_FoundAt_f faV
  rw [dwBoth_is k (by omega) S O hS hO]
  cases hb : isB2 S O with
  | false => rfl
  | true =>
    obtain ⟨G, p⟩ := isB2_is hb
    have l8 := G.l8
    have hrl : (row S.length (fd S O)).length = S.length := by simp [row]
    simp only [Option.bind_some, Bool.not_true, cond_false, l1In_is, met_inl, Bool.true_and]
    rw [iw_id (by omega) (by omega)]
    cases hq : (decide (0 ≤ q) && decide (q ≤ (S.length : Int) - 1)) with
    | false => rfl
    | true =>
      simp only [Bool.and_eq_true, decide_eq_true_eq] at hq
      obtain ⟨i, rfl⟩ := Int.eq_ofNat_of_zero_le hq.1
      have hr : rd (row S.length (fd S O)) (i : Int) = ((fd S O i : Nat) : Int) := by
        rw [rd_nat _ i (by rw [hrl]; omega)]; simp [row]
      simp only [Bool.not_true, cond_false, if_true]
      rw [found_is k hk G p]
      simp only [Option.bind_some]
      rw [ixk_in (by omega) (by rw [hrl]; omega), hr]
      rfl
theorem isTimed_is (S : DT) (hS : S.length ≤ 60) (m : Int) : impl_isTimed_f k S m = some ((goodD S && tmB m, ()), ()) := by
  unfold impl_isTimed_f tmB
  rw [areD_is k (by omega) S hS]
  simp only [Option.bind_some, within_is]
  cases goodD S <;> rfl
theorem implBW_is (S : DT) (hS : S.length ≤ 60) (m : Int) : impl_BestWithin_f k S m = some (bwV S m) := by
  unfold impl_BestWithin_f bwV
  rw [isTimed_is k hk S hS]
  cases h : (goodD S && tmB m) with
  | false => rfl
  | true =>
    simp only [Bool.and_eq_true] at h
    have G := goodD_is h.1
    have hm := h.2
    unfold tmB at hm
    simp only [Bool.and_eq_true, decide_eq_true_eq] at hm
    obtain ⟨m, rfl⟩ := Int.eq_ofNat_of_zero_le hm.1
    simp only [Option.bind_some, Bool.not_true, cond_false, if_true, Int.toNat_natCast]
    rw [bw_is k hk S G.inD G.l8 m]
    rfl
theorem specBW_is (S : DT) (hS : S.length ≤ 60) (m : Int) : spec_BestWithin_f k S m = some (bwV S m) := by
  unfold spec_BestWithin_f spec_dwMinutes_f bwV tmB
  rw [dwGood_is k (by omega) S hS]
  cases h : goodD S with
  | false => rfl
  | true =>
    have G := goodD_is h
    have l8 := G.l8
    simp only [Option.bind_some, Bool.not_true, cond_false, l1In_is, met_inl, Bool.true_and]
    cases hm : (decide (0 ≤ m) && decide (m ≤ 1000)) with
    | false => rfl
    | true =>
      simp only [Bool.and_eq_true, decide_eq_true_eq] at hm
      obtain ⟨m, rfl⟩ := Int.eq_ofNat_of_zero_le hm.1
      simp only [Bool.not_true, cond_false, if_true, Int.toNat_natCast]
      unfold spec_dwLook_f
      rw [show (0 : Int) = ((0 : Nat) : Int) from rfl, lookD_is k hk S G.inD l8 k 0 m (Nat.zero_le _) (by omega) (by omega), best_same _ _ _ _ _ l8 (by omega)]
      rfl
theorem implGW_is (S : DT) (hS : S.length ≤ 60) (m : Int) : impl_GreatestWithin_f k S m = some (gwV S m) := by
  unfold impl_GreatestWithin_f gwV
  rw [isTimed_is k hk S hS]
  cases h : (goodD S && tmB m) with
  | false => rfl
  | true =>
    simp only [Bool.and_eq_true] at h
    have G := goodD_is h.1
    have hm := h.2
    unfold tmB at hm
    simp only [Bool.and_eq_true, decide_eq_true_eq] at hm
    obtain ⟨m, rfl⟩ := Int.eq_ofNat_of_zero_le hm.1
    have hb := bestS_le G m
    have w := Wd_le k hk G (bsO_perm G)
    simp only [Option.bind_some, Bool.not_true, cond_false, if_true, Int.toNat_natCast]
    rw [bw_is k hk S G.inD G.l8 m]
    simp only [Option.bind_some]
    rw [weights_is k (by omega) G.inD (by have := G.l8; omega)]
    simp only [Option.bind_some]
    rw [show sumN (wt S) S.length = Wd S from rfl, show bstI (wt S) (mi S) S.length m (2 ^ S.length) = bestS S m from rfl, fraction_is k _ _ (by omega) w.1 (by omega) (by omega)]
    rfl
theorem specGW_is (S : DT) (hS : S.length ≤ 60) (m : Int) : spec_GreatestWithin_f k S m = some (gwV S m) := by
  unfold spec_GreatestWithin_f spec_dwMinutes_f gwV tmB
  rw [dwGood_is k (by omega) S hS]
  cases h : goodD S with
  | false => rfl
  | true =>
    have G := goodD_is h
    have l8 := G.l8
    simp only [Option.bind_some, Bool.not_true, cond_false, l1In_is, met_inl, Bool.true_and]
    cases hm : (decide (0 ≤ m) && decide (m ≤ 1000)) with
    | false => rfl
    | true =>
      simp only [Bool.and_eq_true, decide_eq_true_eq] at hm
      obtain ⟨m, rfl⟩ := Int.eq_ofNat_of_zero_le hm.1
      have hb := bestS_le G m
      have w := Wd_le k hk G (bsO_perm G)
      simp only [Bool.not_true, cond_false, if_true, Int.toNat_natCast]
      unfold spec_dwLook_f
      rw [show (0 : Int) = ((0 : Nat) : Int) from rfl, lookD_is k hk S G.inD l8 k 0 m (Nat.zero_le _) (by omega) (by omega), best_same _ _ _ _ _ l8 (by omega)]
      simp only [Option.bind_some]
      rw [dwAll_is k (by omega) G.inD (by omega)]
      simp only [Option.bind_some]
      rw [show sumN (wt S) S.length = Wd S from rfl, show bstI (wt S) (mi S) S.length m (2 ^ S.length) = bestS S m from rfl, gvLow_is k _ _ (by omega) w.1 (by omega) (by omega)]
      rfl
end
/-! ### Draws -/
theorem drawIS_is (k : Nat) (hk : 100 ≤ k) (l : List Int) (h : ∀ x ∈ l, 0 ≤ x ∧ x ≤ 255) : ∃ S O, spec_DrawIsSearch_f k l = some (((S, O, ()), ())) ∧ S.length ≤ 10 ∧ O.length ≤ 11 := by
  unfold spec_DrawIsSearch_f
  obtain ⟨S, O, c, e, _, _, h1, h2⟩ := search_is k hk (cur0 h) (by omega)
  rw [e]
  exact ⟨S, O, rfl, h1, h2⟩
theorem drawCW_is (k : Nat) (hk : 100 ≤ k) (l : List Int) (h : ∀ x ∈ l, 0 ≤ x ∧ x ≤ 255) : ∃ S O m, spec_DrawChanceWithin_f k l = some (((S, O, m, ()), ())) ∧ S.length ≤ 10 ∧ O.length ≤ 11 := by
  unfold spec_DrawChanceWithin_f
  obtain ⟨S, O, c, e, h1, q1, d1, d2⟩ := search_is k hk (cur0 h) (by omega)
  obtain ⟨v, c2, e2, _⟩ := among_is k h1 (by omega) [0, 1, 2, 3, 4, 5, 6, 8, 12, 20, 1000, 1001, (-1)] (by decide)
  rw [e]
  simp only [Option.bind_some]
  rw [ceta, e2]
  exact ⟨S, O, v, rfl, d1, d2⟩
theorem drawBW_is (k : Nat) (hk : 100 ≤ k) (l : List Int) (h : ∀ x ∈ l, 0 ≤ x ∧ x ≤ 255) : ∃ S m, spec_DrawBestWithin_f k l = some (((S, m, ()), ())) ∧ S.length ≤ 10 := by
  unfold spec_DrawBestWithin_f spec_DrawGreatestWithin_f
  obtain ⟨S, O, m, e, d1, d2⟩ := drawCW_is k hk l h
  rw [e]
  exact ⟨S, m, rfl, d1⟩

theorem nI_pair (L : List Nat) (h : L.Pairwise (· < ·)) : risB (nI L) = true := by
  unfold risB
  refine decide_eq_true fun i hi => ?_
  rw [nI_len] at hi
  rw [nI_rd _ i (by omega), nI_rd _ (i + 1) (by omega), List.getD_eq_getElem?_getD, List.getElem?_eq_getElem (by omega), List.getD_eq_getElem?_getD, List.getElem?_eq_getElem (by omega)]
  have := (List.pairwise_iff_getElem.1 h) i (i + 1) (by omega) (by omega) (by omega)
  show ((L[i] : Nat) : Int) < ((L[i + 1] : Nat) : Int)
  omega
theorem nI_mem (L : List Nat) (i : Nat) : ((i : Int) ∈ nI L) ↔ i ∈ L := by
  unfold nI
  rw [List.mem_map]
  constructor
  · rintro ⟨j, hj, e⟩
    rw [show i = j by omega]; exact hj
  · intro h; exact ⟨i, h, rfl⟩
/-- A sum over a choice is a sum over all. -/
theorem lsum_sub (f : Nat → Nat) {n a : Nat} {L : List Nat} (h : Sub n a L) : lsum f L = sumN (fun t => if t ∈ L then f t else 0) n := by
  rw [lsum_count f n L h.hi]
  refine sumN_congr _ fun i _ => ?_
  have hn : L.Nodup := h.up.imp (fun h => by omega)
  by_cases hi : i ∈ L
  · rw [if_pos hi, List.Nodup.count hn, if_pos hi]; omega
  · rw [if_neg hi, List.count_eq_zero.2 hi]; omega
theorem filter_sub (n : Nat) (q : Nat → Bool) : Sub n 0 ((List.range n).filter q) := ⟨(List.pairwise_lt_range).filter _, fun x _ => Nat.zero_le x, fun x hx => List.mem_range.1 (List.mem_filter.1 hx).1⟩
theorem lsum_filt (f : Nat → Nat) (n : Nat) (q : Nat → Bool) : lsum f ((List.range n).filter q) = sumN (fun t => if q t = true then f t else 0) n := by
  rw [lsum_sub f (filter_sub n q)]
  refine sumN_congr _ fun i hi => ?_
  by_cases h : q i = true
  · rw [if_pos h, if_pos (List.mem_filter.2 ⟨List.mem_range.2 hi, h⟩)]
  · rw [if_neg h, if_neg (fun hc => h (List.mem_filter.1 hc).2)]
/-- What is found within a time is a choice that takes no more. -/
theorem cw_best {S : DT} (G : GoodD S) {O : List Int} (p : Perm O S.length) (m : Nat) : cw S O m ≤ lsum (wt S) (bestS S m) := by
  have hL := filter_sub S.length (fun i => decide (fd S O i ≤ m))
  have hw : lsum (wt S) ((List.range S.length).filter fun i => decide (fd S O i ≤ m)) = cw S O m := by
    rw [lsum_filt]
    unfold cw
    exact sumN_congr _ fun i _ => by
      by_cases h : fd S O i ≤ m
      · rw [if_pos (decide_eq_true h), if_pos h]
      · rw [if_neg (by simpa using h), if_neg h]
  have hm : lsum (mi S) ((List.range S.length).filter fun i => decide (fd S O i ≤ m)) ≤ m := by
    rw [lsum_filt]
    have e1 : sumN (fun t => if decide (fd S O t ≤ m) = true then mi S t else 0) S.length = sumN (fun t => if Fm S O (t + 1) ≤ m then mi S (at' O t) else 0) S.length := by
      rw [← p.sum (fun t => if decide (fd S O t ≤ m) = true then mi S t else 0)]
      exact sumN_congr _ fun t ht => by
        rw [fd_at 1000 (by omega) G p t ht]
        by_cases h : Fm S O (t + 1) ≤ m
        · rw [if_pos (decide_eq_true h), if_pos h]
        · rw [if_neg (by simpa using h), if_neg h]
    rw [e1]
    have : ∀ j : Nat, sumN (fun t => if Fm S O (t + 1) ≤ m then mi S (at' O t) else 0) j ≤ m ∧ sumN (fun t => if Fm S O (t + 1) ≤ m then mi S (at' O t) else 0) j ≤ Fm S O j := by
      intro j
      induction j with
      | zero => exact ⟨Nat.zero_le _, Nat.zero_le _⟩
      | succ j ih =>
        have hF : Fm S O (j + 1) = Fm S O j + mi S (at' O j) := rfl
        simp only [sumN]
        by_cases h : Fm S O (j + 1) ≤ m
        · rw [if_pos h]; omega
        · rw [if_neg h]; omega
    exact (this S.length).1
  have hno := (bestS_opt G m).best _ hL hm
  unfold btr at hno
  rw [hw] at hno
  omega
theorem ord_at {lt : Nat → Nat → Bool} (h : Weak lt) (n i : Nat) (hi : i + 1 < n) : ordR lt (at' (nI (srtN lt n)) i) (at' (nI (srtN lt n)) (i + 1)) := by
  have hl := srtN_len lt n
  rw [at_nI _ _ (by omega), at_nI _ _ (by omega), List.getD_eq_getElem?_getD, List.getElem?_eq_getElem (by omega), List.getD_eq_getElem?_getD, List.getElem?_eq_getElem (by omega)]
  exact (List.pairwise_iff_getElem.1 (srtN_pair h n)) i (i + 1) (by omega) (by omega) (by omega)
theorem db_l4 {S : DT} (hg : goodD S = true) (hS : S.length ≤ 20) (O : List Int) (y85 : (DT × List Int × Unit) × Unit) (y90 y112 : (List Int × Bool × Unit) × Unit) (h85 : y85.1.1 = S) (h90 : y90.1.1 = bsO S) (h112 : y112.1.1 = lfO S) :
    laws_FnDrawersBest_l4 3000 y85 y90 y112 1 = some (.inl ()) := by
  have _o := O
  have G := goodD_is hg
  have l8 := G.l8
  have l0 := G.l0
  have pB := bsO_perm G
  have pL := lfO_perm S
  have lB := pB.len
  have lL := pL.len
  unfold laws_FnDrawersBest_l4
  refine iter_to (fun t : Nat => (((t + 1 : Nat) : Int), ())) (S.length - 1) _ (fun t ht rec => ?_) (fun rec => ?_) 3000 (by omega)
  · simp only [laws_FnDrawersBest_l4_b]
    rw [h85, h90, h112]
    have hsc : scB S (bsO S) (t : Int) = true := by
      unfold scB
      rw [bsO_ok hg, decide_eq_true (by omega), decide_eq_true (by omega)]; rfl
    have hval : scVal S (bsO S) (t : Int) = ((costD S (bsO S) t, true, ()), ()) := by unfold scVal; rw [if_pos hsc]; rfl
    obtain ⟨a1, a2⟩ := at_i 1000 (by omega) G pB t (by omega)
    obtain ⟨b1, b2⟩ := at_i 1000 (by omega) G pB (t + 1) (by omega)
    obtain ⟨c1, c2⟩ := at_i 1000 (by omega) G pL t (by omega)
    obtain ⟨d1, d2⟩ := at_i 1000 (by omega) G pL (t + 1) (by omega)
    have hoB := ord_at (ltR_weak (w := wt S) (mB_pos G.inD)) S.length t (by omega)
    have hoL := ord_at (ltR_weak (w := wt S) (fun _ => Nat.le_refl 1)) S.length t (by omega)
    rw [cond_dec, if_pos (by omega), iw_id (x := ((t + 1 : Nat) : Int) - 1) (by omega) (by omega), show ((t + 1 : Nat) : Int) - 1 = (t : Int) by omega, implSC_is 3000 (by omega) S (bsO S) hS (by omega), hval]
    simp only [Option.bind_some, Bool.not_true, cond_false]
    have hoB' : ordR (ltR (wt S) (mB S)) (at' (bsO S) t) (at' (bsO S) (t + 1)) := hoB
    have hoL' : ordR (ltR (wt S) (fun _ => 1)) (at' (lfO S) t) (at' (lfO S) (t + 1)) := hoL
    unfold ordR ltR mB at hoB'
    unfold ordR ltR at hoL'
    rw [if_pos a2, if_pos b2] at hoB'
    simp only [decide_eq_false_iff_not, Nat.mul_one] at hoB' hoL'
    have hcd : costD S (bsO S) t = ((wt S (at' (bsO S) t) * mi S (at' (bsO S) (t + 1)) : Nat) : Int) - ((wt S (at' (bsO S) (t + 1)) * mi S (at' (bsO S) t) : Nat) : Int) := by
      unfold costD
      rw [mulN, mulN]
    rw [hcd, decide_eq_false (by omega)]
    simp only [cond_false]
    have hlk : ∀ {β : Type}, (ixk (t : Int) (lfO S).length (ixk (rd (lfO S) (t : Int)) S.length (ixk ((t + 1 : Nat) : Int) (lfO S).length (ixk (rd (lfO S) ((t + 1 : Nat) : Int)) S.length (some (.inl ((decide ((rdG (0, 0) S (rd (lfO S) (t : Int))).1 < (rdG (0, 0) S (rd (lfO S) ((t + 1 : Nat) : Int))).1)), ())))))) : Option ((Bool × Unit) ⊕ β)) = some (.inl (false, ())) := by
      intro β
      rw [ixk_in (by omega) (by omega), ixk_in (by omega) (by omega), c1, d1, ixk_in (by omega) (by omega), ixk_in (by omega) (by omega), (inD_at G.inD (at' (lfO S) t)).1, (inD_at G.inD (at' (lfO S) (t + 1))).1]
      rw [decide_eq_false (by show ¬ ((wt S (at' (lfO S) t) : Nat) : Int) < ((wt S (at' (lfO S) (t + 1)) : Nat) : Int); omega)]
    refine met_goM (false, ()) ?_ ?_
    · by_cases hz : wt S (at' (bsO S) t) * mi S (at' (bsO S) (t + 1)) = wt S (at' (bsO S) (t + 1)) * mi S (at' (bsO S) t)
      · have hlt := hoB'.2 (by omega)
        rw [show ((((wt S (at' (bsO S) t) * mi S (at' (bsO S) (t + 1)) : Nat) : Int) - ((wt S (at' (bsO S) (t + 1)) * mi S (at' (bsO S) t) : Nat) : Int)) == 0) = true from by rw [beq_iff_eq]; omega]
        simp only [cond_true]
        rw [ixk_in (by omega) (by omega), ixk_in (by omega) (by omega), a1, b1, decide_eq_false (by omega)]
        simp only [cond_false]
        exact hlk
      · rw [show ((((wt S (at' (bsO S) t) * mi S (at' (bsO S) (t + 1)) : Nat) : Int) - ((wt S (at' (bsO S) (t + 1)) * mi S (at' (bsO S) t) : Nat) : Int)) == 0) = false from by rw [beq_eq_false_iff_ne]; omega]
        simp only [cond_false]
        exact hlk
    · simp only [cond_false]
      rw [iw_nat (by omega)]
  · simp only [laws_FnDrawersBest_l4_b]
    rw [h90, cond_dec, if_neg (by omega)]
theorem db_l9 {S : DT} (G : GoodD S) (m : Nat) (y338 : (DT × Int × Unit) × Unit) (y344 : (List Int × Bool × Unit) × Unit) (h338 : y338.1.1 = S) (h344 : y344.1.1 = nI (bestS S m)) :
    laws_FnDrawersBest_l9 3000 y338 y344 0 0 0 0 = some (.inl (((lsum (mi S) (bestS S m) : Nat) : Int), ((lsum (wt S) (bestS S m) : Nat) : Int), ((Wd S : Nat) : Int), ())) := by
  have hO := bestS_opt G m
  have hlen := bestS_len G m
  have l8 := G.l8
  rw [lsum_sub (mi S) hO.sub, lsum_sub (wt S) hO.sub]
  unfold laws_FnDrawersBest_l9
  refine iter_to (fun j : Nat => (((sumN (fun t => if t ∈ bestS S m then mi S t else 0) j : Nat) : Int), ((sumN (fun t => if t ∈ bestS S m then wt S t else 0) j : Nat) : Int), ((sumN (wt S) j : Nat) : Int), (j : Int), ())) S.length _ (fun j hj rec => ?_) (fun rec => ?_) 3000 (by omega)
  · simp only [laws_FnDrawersBest_l9_b]
    obtain ⟨e1, w1, m1, _⟩ := inD_at G.inD j
    have s1 := sum_le (f := fun t => if t ∈ bestS S m then mi S t else 0) (c := 60) (fun i => by
      have := (inD_at G.inD i).2.2.1
      show (if i ∈ bestS S m then mi S i else 0) ≤ 60
      split <;> omega) j
    have s2 := sum_le (f := fun t => if t ∈ bestS S m then wt S t else 0) (c := 50) (fun i => by
      have := (inD_at G.inD i).2.1
      show (if i ∈ bestS S m then wt S i else 0) ≤ 50
      split <;> omega) j
    have s3 := wt_sum G.inD j
    rw [h338, h344, cond_dec, if_pos (by omega), ixk_in (by omega) (by omega), mHasD_is 3000 _ _ (by rw [nI_len]; omega) (by rw [nI_len]; omega), e1, iw_nat (n := j) (by omega)]
    simp only [Option.bind_some, sumN]
    by_cases hb : j ∈ bestS S m
    · have hp := hO.pos j hb
      rw [decide_eq_true ((nI_mem _ j).2 hb), if_pos hb, if_pos hb]
      simp only [cond_true]
      rw [decide_eq_false (by omega)]
      simp only [cond_false, met_inl]
      rw [iw_id (by omega) (by omega), iw_id (by omega) (by omega), iw_id (by omega) (by omega)]
      rfl
    · rw [decide_eq_false (fun h => hb ((nI_mem _ j).1 h)), if_neg hb, if_neg hb]
      simp only [cond_false, met_inl, Nat.add_zero]
      rw [iw_id (by omega) (by omega)]
      rfl
  · simp only [laws_FnDrawersBest_l9_b]
    rw [h338, cond_dec, if_neg (by omega)]
    rfl
theorem db_l13 {S : DT} (G : GoodD S) (m : Nat) (hm : m ≤ 1000) (y338 : (DT × Int × Unit) × Unit) (y344 : (List Int × Bool × Unit) × Unit) (j11 : Int × Int × Int × Unit) (h338 : y338.1.1 = S ∧ y338.1.2.1 = (m : Int)) (h344 : y344.1.1 = nI (bestS S m)) (hj : j11.1 = ((lsum (mi S) (bestS S m) : Nat) : Int)) :
    laws_FnDrawersBest_l13 3000 y338 y344 j11 0 = some (.inl ()) := by
  have hO := bestS_opt G m
  have hlen := bestS_len G m
  have l8 := G.l8
  unfold laws_FnDrawersBest_l13
  refine iter_to (fun j : Nat => ((j : Int), ())) S.length _ (fun j hjl rec => ?_) (fun rec => ?_) 3000 (by omega)
  · simp only [laws_FnDrawersBest_l13_b]
    obtain ⟨e1, w1, m1, _⟩ := inD_at G.inD j
    have ht := hO.time
    rw [h338.1, h338.2, h344, hj, cond_dec, if_pos (by omega), ixk_in (by omega) (by omega), mHasD_is 3000 _ _ (by rw [nI_len]; omega) (by rw [nI_len]; omega), e1, iw_nat (n := j) (by omega)]
    simp only [Option.bind_some]
    refine met_goM (false, ()) ?_ rfl
    by_cases hb : j ∈ bestS S m
    · rw [decide_eq_true ((nI_mem _ j).2 hb)]; rfl
    · rw [decide_eq_false (fun h => hb ((nI_mem _ j).1 h))]
      simp only [Bool.not_false, cond_true]
      by_cases hw : 0 < wt S j
      · rw [decide_eq_true (by omega)]
        simp only [cond_true]
        rw [iw_id (by omega) (by omega)]
        congr 3
        rw [decide_eq_false_iff_not]
        intro hle
        -- one more would fit
        have hadd : ∀ f : Nat → Nat, lsum f ((List.range S.length).filter fun t => decide (t ∈ bestS S m) || t == j) = lsum f (bestS S m) + f j := by
          intro f
          rw [lsum_filt, lsum_sub f hO.sub]
          have h1 : sumN (fun t => if (decide (t ∈ bestS S m) || t == j) = true then f t else 0) S.length = sumN (fun t => (if t ∈ bestS S m then f t else 0) + (if t = j then f j else 0)) S.length := by
            refine sumN_congr _ fun t _ => ?_
            by_cases h1 : t ∈ bestS S m
            · have h2 : t ≠ j := fun h => hb (h ▸ h1)
              rw [if_pos (by simp [h1]), if_pos h1, if_neg h2]; omega
            · by_cases h2 : t = j
              · rw [if_pos (by simp [h2]), if_neg h1, if_pos h2, h2]; omega
              · rw [if_neg (by simp [h1, h2]), if_neg h1, if_neg h2]
          rw [h1, sumN_add, sumN_one j (f j) S.length, if_pos hjl]
        have hno := hO.best _ (filter_sub S.length fun t => decide (t ∈ bestS S m) || t == j) (by rw [hadd]; omega)
        unfold btr at hno
        rw [hadd] at hno
        omega
      · rw [decide_eq_false (by omega)]; rfl
  · simp only [laws_FnDrawersBest_l13_b]
    rw [h338.1, cond_dec, if_neg (by omega)]
section
variable (S : DT)
theorem bsV_ok : (bsV S).1.2.1 = goodD S := by unfold bsV; cases goodD S <;> rfl
theorem lfV_ok : (lfV S).1.2.1 = goodD S := by unfold lfV; cases goodD S <;> rfl
theorem lsV_ok : (lsV S).1.2.2.1 = goodD S := by unfold lsV; cases goodD S <;> rfl
theorem leV_ok : (leV S).1.2.2.1 = goodD S := by unfold leV; cases goodD S <;> rfl
theorem gwV_ok (m : Int) : (gwV S m).1.2.2.1 = (goodD S && tmB m) := by unfold gwV; cases (goodD S && tmB m) <;> rfl
theorem bwV_ok (m : Int) : (bwV S m).1.2.1 = (goodD S && tmB m) := by unfold bwV; cases (goodD S && tmB m) <;> rfl
theorem bsV_len (h : S.length ≤ 20) : (bsV S).1.1.length ≤ 100 := by
  unfold bsV; split
  · show (nI _).length ≤ 100; rw [nI_len, srtN_len]; omega
  · simp
theorem lfV_len (h : S.length ≤ 20) : (lfV S).1.1.length ≤ 100 := by
  unfold lfV; split
  · show (nI _).length ≤ 100; rw [nI_len, srtN_len]; omega
  · simp
theorem bwV_len (m : Int) : (bwV S m).1.1.length ≤ 100 := by
  unfold bwV; split
  · rename_i h
    simp only [Bool.and_eq_true] at h
    show (nI _).length ≤ 100; rw [nI_len]; have := bestS_len (goodD_is h.1) m.toNat; omega
  · simp
end
/-- No other search has a lesser fraction. -/
theorem frac_ok (A B W : Nat) (hW : 0 < W) (hW2 : W ≤ 400) (hA : A ≤ 1000000) (hB : B ≤ 1000000) (h : A ≤ B) :
    decide (iw (((B / Nat.gcd B W : Nat) : Int) * ((W / Nat.gcd A W : Nat) : Int)) < iw (((A / Nat.gcd A W : Nat) : Int) * ((W / Nat.gcd B W : Nat) : Int))) = false := by
  have h1 := low_le A B W hW h
  have a1 := Nat.div_le_self A (Nat.gcd A W)
  have a2 := Nat.div_le_self B (Nat.gcd B W)
  have a3 := Nat.div_le_self W (Nat.gcd A W)
  have a4 := Nat.div_le_self W (Nat.gcd B W)
  have p1 : (B / Nat.gcd B W) * (W / Nat.gcd A W) ≤ 1000000 * 400 := Nat.mul_le_mul (by omega) (by omega)
  have p2 : (A / Nat.gcd A W) * (W / Nat.gcd B W) ≤ 1000000 * 400 := Nat.mul_le_mul (by omega) (by omega)
  rw [mulN, mulN, iw_id (by omega) (by omega), iw_id (by omega) (by omega)]
  exact decide_eq_false (by omega)
theorem pure_FnDrawersBest : Law laws_FnDrawersBest_f := fun l0 l1 _h0 w0 _h1 w1 => ⟨3000, by
  have hk : 1000 ≤ 3000 := by omega
  unfold laws_FnDrawersBest_f
  obtain ⟨bg, eb⟩ := big_is 3000 l0 l1
  rw [eb]
  cases bg with
  | true => rfl
  | false =>
  simp only [Option.bind_some, cond_false]
  obtain ⟨S, O, e1, dS, dO⟩ := drawIS_is 3000 (by omega) l0 (byte_in w0)
  obtain ⟨T, m, e2, dT⟩ := drawBW_is 3000 (by omega) l1 (byte_in w1)
  obtain ⟨V, Q, t, e3, dV, dQ⟩ := drawCW_is 3000 (by omega) l1 (byte_in w1)
  obtain ⟨X, Y, z, e4, dX, dY⟩ := drawFA_is 3000 (by omega) l1 (byte_in w1)
  have q1 := bsV_len S (by omega)
  have q2 := lfV_len S (by omega)
  have q3 := bwV_len T m
  rw [e1]
  simp only [Option.bind_some]
  rw [implbs_is 3000 hk S (by omega), specbs_is 3000 hk S (by omega), implLS_is 3000 hk S (by omega), specLS_is 3000 hk S (by omega), impllf_is 3000 hk S (by omega), speclf_is 3000 hk S (by omega), implLO_is 3000 hk S (by omega), specLO_is 3000 hk S (by omega)]
  simp only [Option.bind_some]
  refine met_goM (false, ()) ?_ ?_
  · rw [mSameD_is 3000 _ (by omega) (by omega), mSameD_is 3000 _ (by omega) (by omega), areD_is 3000 (by omega) S (by omega), bsV_ok, lfV_ok, lsV_ok, leV_ok]
    simp
  simp only [cond_false]
  refine met_goM () ?_ ?_
  · rw [bsV_ok]
    cases hg : goodD S with
    | false => rfl
    | true =>
      have G := goodD_is hg
      have l8 := G.l8
      have pB := bsO_perm G
      have pL := lfO_perm S
      have w := Wd_le 1000 (by omega) G pB
      have tB := tdsum_le 1000 (by omega) G pB S.length l8
      have tL := tdsum_le 1000 (by omega) G pL S.length l8
      have v1 : bsV S = ((bsO S, true, ()), ()) := by unfold bsV; rw [if_pos hg]; rfl
      have v2 : lfV S = ((lfO S, true, ()), ()) := by unfold lfV; rw [if_pos hg]; rfl
      have v3 : lsV S = chOut (sumN (tdS S (bsO S)) S.length) (Wd S) := by unfold lsV; rw [if_pos hg]
      have v4 : leV S = chOut (sumN (tdO S (lfO S)) S.length) (Wd S) := by unfold leV; rw [if_pos hg]
      have lB := pB.len
      have lL := pL.len
      have v5 : msVal2 S (bsO S) = chOut (sumN (tdS S (bsO S)) S.length) (Wd S) := by unfold msVal2; rw [if_pos (bsO_ok hg)]
      have v6 : moVal S (lfO S) = chOut (sumN (tdO S (lfO S)) S.length) (Wd S) := by unfold moVal; rw [if_pos (lfO_ok hg)]
      rw [v1, v2, v3, v4]
      simp only [cond_true]
      rw [implMS_is 3000 hk S (bsO S) (by omega) (by omega), implMO_is 3000 hk S (lfO S) (by omega) (by omega), v5, v6]
      simp only [Option.bind_some]
      refine met_goM (false, ()) ?_ ?_
      · unfold chOut; simp
      simp only [cond_false]
      rw [implMS_is 3000 hk S O (by omega) (by omega), implMO_is 3000 hk S O (by omega) (by omega)]
      simp only [Option.bind_some]
      refine met_goM (false, ()) ?_ ?_
      · cases hb : isB2 S O with
        | false =>
          have u1 : msVal2 S O = ((0, 0, false, ()), ()) := by unfold msVal2; rw [hb]; rfl
          have u2 : moVal S O = ((0, 0, false, ()), ()) := by unfold moVal; rw [hb]; rfl
          rw [u1, u2]; rfl
        | true =>
          obtain ⟨_, p⟩ := isB2_is hb
          have tO := tdsum_le 1000 (by omega) G p S.length l8
          have u1 : msVal2 S O = chOut (sumN (tdS S O) S.length) (Wd S) := by unfold msVal2; rw [hb]; rfl
          have u2 : moVal S O = chOut (sumN (tdO S O) S.length) (Wd S) := by unfold moVal; rw [hb]; rfl
          rw [u1, u2]
          unfold chOut
          simp only [cond_true]
          rw [frac_ok _ _ _ w.1 w.2 (by omega) (by omega) (bs_least G p), frac_ok _ _ _ w.1 w.2 (by omega) (by omega) (lf_least G p)]
          rfl
      simp only [cond_false]
      rw [db_l4 hg (by omega) O _ _ _ rfl rfl rfl]
      rfl
  rw [e2]
  simp only [Option.bind_some]
  rw [implBW_is 3000 hk T (by omega), specBW_is 3000 hk T (by omega), implGW_is 3000 hk T (by omega), specGW_is 3000 hk T (by omega), e3]
  simp only [Option.bind_some]
  rw [implCW_is 3000 hk V Q (by omega) (by omega), specCW_is 3000 hk V Q (by omega) (by omega), e4]
  simp only [Option.bind_some]
  rw [implFA_is 3000 hk X Y (by omega) (by omega), specFA_is 3000 hk X Y (by omega) (by omega)]
  simp only [Option.bind_some]
  refine met_goM (false, ()) ?_ ?_
  · rw [mSameD_is 3000 _ (by omega) (by omega), gwV_ok, bwV_ok]
    simp
  simp only [cond_false]
  refine met_goM () ?_ ?_
  · rw [bwV_ok]
    cases hg : (goodD T && tmB m) with
    | false => rfl
    | true =>
      have hg' := hg
      simp only [Bool.and_eq_true] at hg'
      have G := goodD_is hg'.1
      have hm := hg'.2
      unfold tmB at hm
      simp only [Bool.and_eq_true, decide_eq_true_eq] at hm
      obtain ⟨m, rfl⟩ := Int.eq_ofNat_of_zero_le hm.1
      have l8 := G.l8
      have hO := bestS_opt G m
      have ht := hO.time
      have hb := bestS_le G m
      have hbl := bestS_len G m
      have w := Wd_le 1000 (by omega) G (bsO_perm G)
      have v1 : bwV T (m : Int) = ((nI (bestS T m), true, ()), ()) := by unfold bwV; rw [if_pos hg]; rfl
      have v2 : gwV T (m : Int) = chOut (lsum (wt T) (bestS T m)) (Wd T) := by unfold gwV; rw [if_pos hg]; rfl
      rw [v1, v2]
      simp only [cond_true]
      rw [db_l9 G m _ _ rfl rfl]
      simp only [met_inl]
      refine met_goM (false, ()) ?_ ?_
      · rw [mRisesD_is 3000 _ (by rw [nI_len]; omega) (by rw [nI_len]; omega), nI_pair _ hO.sub.up]
        simp only [Option.bind_some, Bool.not_true, cond_false]
        rw [decide_eq_false (by omega)]
        simp only [cond_false]
        unfold chOut
        simp only
        rw [mIs_is 3000 _ _ (by omega) w.1 (by omega) (by omega)]
        rfl
      · simp only [cond_false]
        rw [db_l13 G m (by omega) _ _ _ ⟨rfl, rfl⟩ rfl rfl]
        rfl
  refine met_goM () ?_ rfl
  cases hg : (isB2 V Q && tmB t) with
  | false =>
    have u1 : cwV V Q t = ((0, 0, false, ()), ()) := by unfold cwV; rw [hg]; rfl
    rw [u1]; rfl
  | true =>
    have hg' := hg
    simp only [Bool.and_eq_true] at hg'
    obtain ⟨G, p⟩ := isB2_is hg'.1
    have hgd : goodD V = true := by have := hg'.1; unfold isB2 at this; simp only [Bool.and_eq_true] at this; exact this.1
    have hm := hg'.2
    unfold tmB at hm
    simp only [Bool.and_eq_true, decide_eq_true_eq] at hm
    obtain ⟨t, rfl⟩ := Int.eq_ofNat_of_zero_le hm.1
    have w := Wd_le 1000 (by omega) G (bsO_perm G)
    have hcl := cw_le 1000 (by omega) (S := V) Q t
    have hcb := cw_best G p t
    have hb := bestS_le G t
    have u1 : cwV V Q (t : Int) = chOut (cw V Q t) (Wd V) := by unfold cwV; rw [if_pos hg]; rfl
    have u2 : gwV V (t : Int) = chOut (lsum (wt V) (bestS V t)) (Wd V) := by unfold gwV; rw [hgd, hg'.2]; rfl
    rw [u1]
    unfold chOut
    simp only [cond_true]
    rw [implGW_is 3000 hk V (by omega), u2]
    unfold chOut
    simp only [Option.bind_some, Bool.not_true, cond_false]
    rw [frac_ok _ _ _ w.1 w.2 (by omega) (by omega) hcb]
    have hdd := Nat.div_le_div_right (c := Nat.gcd (cw V Q t) (Wd V)) hcl
    rw [decide_eq_false (by omega)]
    rfl⟩

end Go.Proofs.YthgmnlfbgajchaaV.Law
