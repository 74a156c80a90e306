/- The law FnSocksSure as a plain statement of plain functions: it answers true, whatever comes in. No condition. -/
import Derived.Test.YtobeolfihkhlgaaVQFnSocksSurex1
namespace Go.Proofs.YtobeolfihkhlgaaV.Law
set_option linter.unusedVariables false
set_option linter.unusedSimpArgs false
open Go.Proofs.YtobeolfihkhlgaaV
theorem law6_is (k : Nat) (hk : 1000 ≤ k) (l : List Int) (h : ∀ x ∈ l, 0 ≤ x ∧ x ≤ 255) : law6_f k l = some ((true, ()), ()) := by
  unfold law6_f
  obtain ⟨S, c, n, e1, d1⟩ := drawSOC_is k (by omega) l h
  obtain ⟨T, t, e2, d2⟩ := drawSPO_is k (by omega) l h
  obtain ⟨a, b, e3⟩ := drawLS_is k l h
  simp only [e1, e2, e3, Option.bind_some, implSOC_is k (by omega) S d1 c n, specSOC_is k (by omega) S d1 c n, implSPO_is k (by omega) T d2 t, specSPO_is k (by omega) T d2 t, implLS_is k a b, specLS_is k a b, beq_self_eq_true, bne_self_eq_false, Bool.not_true, cond_false]
  refine met_goG (S, T, false, ()) rfl ?_
  simp only [cond_false]
  refine met_goG () (sgCol_is k hk S T d1 c n false) ?_
  refine met_goG () (sgPair_is k hk T S d2 t false) ?_
  exact sgLeast_is k hk a b
theorem law_FnSocksSure (k : Nat) (hk : 1000 ≤ k) (l0 l1 : List Int) (h0 : ∀ x ∈ l0, 0 ≤ x ∧ x ≤ 255) (h1 : ∀ x ∈ l1, 0 ≤ x ∧ x ≤ 255) : laws_FnSocksSure_f k l0 l1 = some ((true, ()), ()) := by
  unfold laws_FnSocksSure_f
  obtain ⟨b, eb⟩ := big_is k l0 l1
  obtain ⟨S, p, ed, d1, hp⟩ := drawWD_is k (by omega) l0 h0
  rw [eb]
  simp only [Option.bind_some]
  cases b with
  | true => rfl
  | false =>
    have lw : (wdVal S p).1.1.length ≤ 20 := by
      unfold wdVal
      split
      · show (worstL S (minP S p)).length ≤ 20
        unfold worstL
        rw [row_len]; omega
      · exact Nat.zero_le _
    simp only [cond_false, ed, Option.bind_some, implWD_is k hk S d1 p hp, specWD_is k hk S d1 p, implSP_is k hk S d1 p, specSP_is k hk S d1 p, implSLK_is k (by omega) S d1 p, specSLK_is k (by omega) S d1 p, implSCO_is k hk S d1 p, specSCO_is k hk S d1 p, implPI_is k hk S d1, specPI_is k hk S d1,
      implCountS_is k (by omega) S d1, specCountS_is k (by omega) S d1, areSocks_is k (by omega) S d1, specAreS_is k (by omega) S d1, zSame_is k (by omega) (wdVal S p).1.1 lw, beq_self_eq_true, bne_self_eq_false, Bool.not_true]
    refine met_goG (false, ()) ?_ ?_
    · have b1 : (wdVal S p).1.2.1 = wdB S p := by unfold wdVal; cases wdB S p <;> rfl
      have b2 : (spVal S p).1.2.1 = spB S p := by unfold spVal; cases spB S p <;> rfl
      have b3 : (slkVal S p).1.2.1 = slkB S p := by unfold slkVal; cases slkB S p <;> rfl
      have b4 : (piVal S).1.2.1 = good S := by unfold piVal; cases good S <;> rfl
      have b5 : (countS S).1.2.1 = good S := by unfold countS; cases good S <;> rfl
      simp only [b1, b2, b3, b4, b5, beq_self_eq_true, Bool.not_true, cond_false]
      cases hg : good S with
      | false =>
        have c1 : wdB S p = false := by unfold wdB; rw [hg]; rfl
        have c2 : spB S p = false := by unfold spB; rw [hg]; rfl
        have c3 : slkB S p = false := by unfold slkB; rw [hg]; rfl
        rw [c1, c2, c3]; rfl
      | true =>
        have G := good_is hg
        have hmx := mx_halves (S := S) G.l0
        have e4 : (piVal S).1.1 = (halves (nats' S) : Int) := by unfold piVal; rw [hg]; rfl
        have c1 : wdB S p = decide (p > 0) := by unfold wdB; rw [hg, Bool.true_and]; exact decide_eq_decide.2 (by omega)
        rw [e4, c1]
        simp only [cond_true, beq_self_eq_true, Bool.not_true, cond_false]
        by_cases h0p : p > 0
        · have c2 : spB S p = decide (p ≤ ((halves (nats' S) : Nat) : Int)) := by
            unfold spB; rw [hg, Bool.true_and, decide_eq_true (show 1 ≤ p by omega), Bool.true_and]
          rw [decide_eq_true h0p, c2]
          simp only [cond_true, beq_self_eq_true, Bool.not_true, cond_false]
          cases hs : slkB S p with
          | false => rfl
          | true =>
            unfold slkB at hs
            simp only [Bool.and_eq_true, decide_eq_true_eq] at hs
            rw [decide_eq_true (by omega)]
            rfl
        · have c2 : spB S p = false := by
            unfold spB; rw [hg, decide_eq_false (show ¬ 1 ≤ p by omega)]; rfl
          have c3 : slkB S p = false := by
            unfold slkB; rw [hg, decide_eq_false (show ¬ 1 ≤ p by omega)]; rfl
          rw [decide_eq_false h0p, c2, c3]
          rfl
    · simp only [cond_false]
      refine met_goG () (sgWorst_is k hk S d1 p) ?_
      refine met_goG () (sgSureP_is k hk S d1 p) ?_
      refine met_goG (false, ()) ?_ ?_
      · cases hb : scoB S p with
        | false =>
          have : scoVal S p = ((0, false, ()), ()) := by unfold scoVal; rw [hb]; rfl
          rw [this]; rfl
        | true =>
          have e1 : scoVal S p = ((lastS (sortI S) (p.toNat - 1) + 1, true, ()), ()) := by unfold scoVal; rw [hb]; rfl
          unfold scoB at hb
          simp only [Bool.and_eq_true, decide_eq_true_eq] at hb
          obtain ⟨hg, h1p, h2p⟩ := hb
          obtain ⟨q, rfl⟩ : ∃ q : Nat, p = ((q + 1 : Nat) : Int) := ⟨p.toNat - 1, by omega⟩
          obtain ⟨f1, f2⟩ := sco_facts (good_is hg) q (by omega)
          have e2 : countS S = (((total (nats' S) : Int), true, ()), ()) := by unfold countS; rw [hg]; rfl
          rw [e1, e2]
          simp only [Int.toNat_natCast, Nat.add_sub_cancel, cond_true]
          rw [cond_dec, if_neg (by omega), decide_eq_false (by omega)]
      · simp only [cond_false]
        exact law6_is k hk l1 h1
theorem pure_FnSocksSure : Law laws_FnSocksSure_f := fun l0 l1 _ h0 _ h1 => ⟨1000, law_FnSocksSure 1000 (Nat.le_refl _) l0 l1 (byte_in h0) (byte_in h1)⟩

end Go.Proofs.YtobeolfihkhlgaaV.Law
