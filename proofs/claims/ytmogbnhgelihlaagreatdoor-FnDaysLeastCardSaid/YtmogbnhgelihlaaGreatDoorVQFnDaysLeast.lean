/- The law FnDaysLeast as a plain statement of plain functions: it answers true, whatever comes in. No condition. -/
import Derived.Test.YtmogbnhgelihlaaGreatDoorVQFnDaysLeastx1
namespace Go.Proofs.YtmogbnhgelihlaaGreatDoorV.Law
set_option linter.unusedVariables false
set_option linter.unusedSimpArgs false
open Go.Proofs.YtmogbnhgelihlaaGreatDoorV
/-! Texts of washes. -/
abbrev WaT := Int × Int × Int
def wtx (a b c : Nat) : List UInt8 := dig a ++ 119 :: (dig b ++ 100 :: dig c)
theorem dig_notW (n : Nat) (h : n < 100) : (119 : UInt8) ∉ dig n ∧ (100 : UInt8) ∉ dig n := by
  have : ∀ n : Nat, n < 100 → (119 : UInt8) ∉ dig n ∧ (100 : UInt8) ∉ dig n := by decide +kernel
  exact this n h
theorem wtx_len (a b c : Nat) : 5 ≤ (wtx a b c).length ∧ (wtx a b c).length ≤ 8 := by
  have h1 := dig_len a
  have h2 := dig_len b
  have h3 := dig_len c
  unfold wtx
  simp only [List.length_append, List.length_cons]
  omega
theorem str_eq (a b : List UInt8) : ((lit a).toList == (lit b).toList) = decide (a = b) := by
  rw [Go.ByteArray.toList_eq, Go.ByteArray.toList_eq, lit_list, lit_list]
  by_cases h : a = b
  · rw [h]; simp
  · rw [decide_eq_false h, beq_eq_false_iff_ne]; exact h
section
variable (k : Nat) (hk : 2000 ≤ k) (a b c : Nat) (ha : a < 100) (hb : b < 100) (hc : c < 100)
include ha hb hc
theorem wtext_is : impl_Wash_text_f k ((a : Int), ((b : Int), (c : Int))) = some ((lit (wtx a b c), ()), ()) := by
  have h1 := dig_len a
  have h2 := dig_len b
  have h3 := dig_len c
  unfold impl_Wash_text_f
  simp only
  rw [itoa_is k a ha, itoa_is k b hb, itoa_is k c hc]
  simp only [Option.bind_some, lit_app]
  rw [chk_dec (by simp only [lit_size, List.length_cons, List.length_nil]; omega), chk_dec (by simp only [lit_size, List.length_append, List.length_cons, List.length_nil]; omega), chk_dec (by simp only [lit_size, List.length_append, List.length_cons, List.length_nil]; omega), chk_dec (by simp only [lit_size, List.length_append, List.length_cons, List.length_nil]; omega)]
  unfold wtx
  simp
include hk
theorem dtext_is : spec_dyText_f k ((a : Int), ((b : Int), (c : Int))) = some ((lit (wtx a b c), ()), ()) := by
  have h1 := dig_len a
  have h2 := dig_len b
  have h3 := dig_len c
  unfold spec_dyText_f
  simp only
  rw [l1Num_is k (by omega) a ha, l1Num_is k (by omega) b hb, l1Num_is k (by omega) c hc]
  simp only [Option.bind_some, lit_app]
  rw [chk_dec (by simp only [lit_size, List.length_cons, List.length_nil]; omega), chk_dec (by simp only [lit_size, List.length_append, List.length_cons, List.length_nil]; omega), chk_dec (by simp only [lit_size, List.length_append, List.length_cons, List.length_nil]; omega), chk_dec (by simp only [lit_size, List.length_append, List.length_cons, List.length_nil]; omega)]
  unfold wtx
  simp
end
def wxV (w : WaT) : (ByteArray × Bool × Unit) × Unit := if dyOk w = true then ((lit (wtx w.1.toNat w.2.1.toNat w.2.2.toNat), true, ()), ()) else ((ByteArray.empty, false, ()), ())
theorem dyOk_nat3 {w : WaT} (h : dyOk w = true) : ∃ a b c : Nat, w = ((a : Int), ((b : Int), (c : Int))) ∧ a ≤ 30 ∧ b ≤ 30 ∧ c ≤ 30 := by
  obtain ⟨P, e, d, rfl, h1, h2, h3, h4, h5, h6⟩ := dyOk_nat h
  obtain ⟨b, rfl⟩ := Int.eq_ofNat_of_zero_le (show 0 ≤ e by omega)
  obtain ⟨c, rfl⟩ := Int.eq_ofNat_of_zero_le (show 0 ≤ d by omega)
  exact ⟨P, b, c, rfl, by omega, by omega, by omega⟩
section
variable (k : Nat) (hk : 2000 ≤ k)
theorem implWX_is (w : WaT) : impl_WashText_f k w = some (wxV w) := by
  unfold impl_WashText_f wxV
  rw [isWash_is]
  cases h : dyOk w with
  | false => rfl
  | true =>
    obtain ⟨a, b, c, rfl, h1, h2, h3⟩ := dyOk_nat3 h
    simp only [Option.bind_some, Bool.not_true, cond_false, if_true]
    rw [wtext_is k a b c (by omega) (by omega) (by omega)]
    rfl
include hk
theorem specWX_is (w : WaT) : spec_WashText_f k w = some (wxV w) := by
  unfold spec_WashText_f wxV
  rw [dyGood_is]
  cases h : dyOk w with
  | false => rfl
  | true =>
    obtain ⟨a, b, c, rfl, h1, h2, h3⟩ := dyOk_nat3 h
    simp only [Option.bind_some, Bool.not_true, cond_false, if_true]
    rw [dtext_is k hk a b c (by omega) (by omega) (by omega)]
    rfl
end
def pwW (a b c : Nat) : (WaT × Bool × Unit) × Unit := ((((a : Int), ((b : Int), (c : Int))), true, ()), ())
/-- What a text of a wash comes to: just where it is the text of one. -/
def PwOk (s : ByteArray) (v : (WaT × Bool × Unit) × Unit) : Prop :=
  (v = (((0, (0, 0)), false, ()), ()) ∨ ∃ a b c : Nat, dyOk ((a : Int), ((b : Int), (c : Int))) = true ∧ s = lit (wtx a b c) ∧ v = pwW a b c) ∧
  (∀ a b c : Nat, dyOk ((a : Int), ((b : Int), (c : Int))) = true → s = lit (wtx a b c) → v = pwW a b c)
theorem PwOk.uniq {s : ByteArray} {v v' : (WaT × Bool × Unit) × Unit} (h : PwOk s v) (h' : PwOk s v') : v = v' := by
  rcases h.1 with e | ⟨a, b, c, g, t, e⟩
  · rcases h'.1 with e' | ⟨a, b, c, g, t, e'⟩
    · rw [e, e']
    · rw [h.2 a b c g t, e']
  · rw [h'.2 a b c g t, e]
theorem dyOk_lt {a b c : Nat} (h : dyOk ((a : Int), ((b : Int), (c : Int))) = true) : a < 100 ∧ b < 100 ∧ c < 100 := by
  unfold dyOk at h
  simp only [Bool.and_eq_true, decide_eq_true_eq] at h
  omega
theorem cut_fst_len (c : UInt8) : ∀ l : List UInt8, (Lib.cut l [c]).1.length ≤ l.length ∧ (Lib.cut l [c]).2.1.length ≤ l.length
  | [] => by rw [cut_nil]; simp
  | b :: l => by
    have := cut_fst_len c l
    rw [cut_cons]
    split
    · simp
    · simp only [List.length_cons]; omega
section
variable (k : Nat) (hk : 2000 ≤ k) (s : ByteArray) (hs : s.size ≤ 40)
include hk hs
theorem implPW_is : ∃ v, impl_ParseWash_f k s = some v ∧ PwOk s v := by
  have _h := hk
  have hl := list_size s
  unfold impl_ParseWash_f
  rw [cond_dec]
  by_cases h10 : ((s.size : Nat) : Int) > 10
  · rw [if_pos h10]
    refine ⟨_, rfl, .inl rfl, fun a b c g t => ?_⟩
    have := (wtx_len a b c).2
    rw [t, lit_size] at h10
    omega
  rw [if_neg h10]
  obtain ⟨l, rfl⟩ : ∃ l, s = lit l := ⟨s.data.toList, (lit_of s).symm⟩
  rw [lit_list] at hl
  have hc1 := cut_fst_len 119 l
  rw [cut_is k l 119 (by omega)]
  simp only [Option.bind_some]
  rw [cut_is k _ 100 (by omega)]
  simp only [Option.bind_some]
  have hc2 := cut_fst_len 100 (Lib.cut l [119]).2.1
  generalize hp : (Lib.cut l [119]).1 = p at *
  generalize hr : (Lib.cut l [119]).2.1 = r at *
  generalize hq : (Lib.cut r [100]).1 = q at *
  generalize hz : (Lib.cut r [100]).2.1 = z at *
  have comp : ∀ a b c : Nat, dyOk ((a : Int), ((b : Int), (c : Int))) = true → lit l = lit (wtx a b c) → p = dig a ∧ q = dig b ∧ z = dig c := by
    intro a b c g t
    obtain ⟨g1, g2, g3⟩ := dyOk_lt g
    have t2 : l = wtx a b c := by rw [← lit_list l, t, lit_list]
    unfold wtx at t2
    rw [t2, cut_at 119 _ _ (dig_notW a g1).1] at hp hr
    simp only at hp hr
    rw [← hr, cut_at 100 _ _ (dig_notW b g2).2] at hq hz
    exact ⟨hp.symm, hq.symm, hz.symm⟩
  rw [show (2 : Int) = ((2 : Nat) : Int) from rfl, number_is k (lit p) 2 (by omega) (by omega) (by rw [lit_size]; omega), number_is k (lit q) 2 (by omega) (by omega) (by rw [lit_size]; omega), number_is k (lit z) 2 (by omega) (by omega) (by rw [lit_size]; omega)]
  simp only [Option.bind_some, lit_list]
  cases h1 : (numR p 2).2 with
  | false =>
    simp only [Bool.not_false, cond_true, met_inl]
    refine ⟨_, rfl, .inl rfl, fun a b c g t => ?_⟩
    obtain ⟨g1, g2, g3⟩ := dyOk_lt g
    rw [(comp a b c g t).1, numR_dig a g1] at h1; cases h1
  | true =>
  cases h2 : (numR q 2).2 with
  | false =>
    simp only [Bool.not_true, cond_false, Bool.not_false, cond_true, met_inl]
    refine ⟨_, rfl, .inl rfl, fun a b c g t => ?_⟩
    obtain ⟨g1, g2, g3⟩ := dyOk_lt g
    rw [(comp a b c g t).2.1, numR_dig b g2] at h2; cases h2
  | true =>
  cases h3 : (numR z 2).2 with
  | false =>
    simp only [Bool.not_true, cond_false, Bool.not_false, cond_true, met_inl]
    refine ⟨_, rfl, .inl rfl, fun a b c g t => ?_⟩
    obtain ⟨g1, g2, g3⟩ := dyOk_lt g
    rw [(comp a b c g t).2.2, numR_dig c g3] at h3; cases h3
  | true =>
    obtain ⟨a, a1, a2, a3⟩ := numR_num p h1
    obtain ⟨b, b1, b2, b3⟩ := numR_num q h2
    obtain ⟨c, c1, c2, c3⟩ := numR_num z h3
    rw [a3, b3, c3]
    simp only [Bool.not_true, cond_false]
    rw [isWash_is]
    have comp2 : ∀ a' b' c' : Nat, dyOk ((a' : Int), ((b' : Int), (c' : Int))) = true → lit l = lit (wtx a' b' c') → a' = a ∧ b' = b ∧ c' = c := by
      intro a' b' c' g t
      obtain ⟨g1, g2, g3⟩ := dyOk_lt g
      obtain ⟨e1, e2, e3⟩ := comp a' b' c' g t
      rw [e1, numR_dig a' g1] at a3
      rw [e2, numR_dig b' g2] at b3
      rw [e3, numR_dig c' g3] at c3
      simp only [Prod.mk.injEq, and_true] at a3 b3 c3
      omega
    cases hg : dyOk ((a : Int), ((b : Int), (c : Int))) with
    | false =>
      refine ⟨_, rfl, .inl rfl, fun a' b' c' g t => ?_⟩
      obtain ⟨rfl, rfl, rfl⟩ := comp2 a' b' c' g t
      rw [hg] at g; cases g
    | true =>
      simp only [Option.bind_some, Bool.not_true, cond_false]
      rw [wtext_is k a b c a1 b1 c1]
      simp only [Option.bind_some, met_inl]
      rw [str_eq]
      by_cases ht : wtx a b c = l
      · rw [decide_eq_true ht]
        refine ⟨_, rfl, .inr ⟨a, b, c, hg, by rw [ht], rfl⟩, fun a' b' c' g t => ?_⟩
        obtain ⟨rfl, rfl, rfl⟩ := comp2 a' b' c' g t
        rfl
      · rw [decide_eq_false ht]
        refine ⟨_, rfl, .inl rfl, fun a' b' c' g t => ?_⟩
        obtain ⟨rfl, rfl, rfl⟩ := comp2 a' b' c' g t
        exact absurd (by rw [← lit_list l, t, lit_list]) ht
theorem specPW_is : ∃ v, spec_ParseWash_f k s = some v ∧ PwOk s v := by
  have hl := list_size s
  obtain ⟨l, rfl⟩ : ∃ l, s = lit l := ⟨s.data.toList, (lit_of s).symm⟩
  rw [lit_list] at hl
  unfold spec_ParseWash_f spec_dyParse_f
  rw [show (119 : Int) = ((119 : UInt8).toNat : Int) from rfl, l1Split_is k hk 119 _ (by omega), lit_list]
  simp only [Option.bind_some]
  have hno : ∀ a b c : Nat, dyOk ((a : Int), ((b : Int), (c : Int))) = true → lit l = lit (wtx a b c) → splL 119 l = [dig a, dig b ++ 100 :: dig c] ∧ l.length ≤ 8 := by
    intro a b c g t
    obtain ⟨g1, g2, g3⟩ := dyOk_lt g
    have t2 : l = wtx a b c := by rw [← lit_list l, t, lit_list]
    refine ⟨?_, by rw [t2]; exact (wtx_len a b c).2⟩
    rw [t2]
    unfold wtx
    refine spl_pair 119 _ _ (dig_notW a g1).1 fun hm => ?_
    rcases List.mem_append.1 hm with h9 | h9
    · exact (dig_notW b g2).1 h9
    · rcases List.mem_cons.1 h9 with h8 | h8
      · cases h8
      · exact (dig_notW c g3).1 h8
  have hsp := splL_small 119 l
  generalize hw : splL 119 l = ws at *
  by_cases hbad : l.length > 8 ∨ ws.length ≠ 2
  · have : (cond (decide (((lit l).size : Int) > 8)) (some (.inl (((0 : Int), (0 : Int), (0 : Int), ()), ws.map lit, true, ()))) (some (.inl (((0 : Int), (0 : Int), (0 : Int), ()), ws.map lit, (((ws.map lit).length : Int) != 2), ()))) : Option ((( Int × Int × Int × Unit) × List ByteArray × Bool × Unit) ⊕ ((WaT × Bool × Unit) × Unit))) = some (.inl (((0 : Int), (0 : Int), (0 : Int), ()), ws.map lit, true, ())) := by
      rw [cond_dec, lit_size]
      by_cases h8 : l.length > 8
      · rw [if_pos (by omega)]
      · rw [if_neg (by omega), show ((((ws.map lit).length : Int) != 2) = true) from by
          rw [List.length_map, bne_iff_ne]; have := hbad.resolve_left h8; omega]
    rw [met_goM _ this rfl]
    refine ⟨_, rfl, .inl rfl, fun a b c g t => ?_⟩
    obtain ⟨e1, e2⟩ := hno a b c g t
    rw [e1] at hbad
    simp at hbad
    omega
  · have h8 : l.length ≤ 8 := by omega
    have h2 : ws.length = 2 := by omega
    obtain ⟨u, x, rfl⟩ : ∃ u x, ws = [u, x] := by
      match ws, h2 with
      | [u, x], _ => exact ⟨u, x, rfl⟩
    have this : (cond (decide (((lit l).size : Int) > 8)) (some (.inl (((0 : Int), (0 : Int), (0 : Int), ()), [u, x].map lit, true, ()))) (some (.inl (((0 : Int), (0 : Int), (0 : Int), ()), [u, x].map lit, ((([u, x].map lit).length : Int) != 2), ()))) : Option ((( Int × Int × Int × Unit) × List ByteArray × Bool × Unit) ⊕ ((WaT × Bool × Unit) × Unit))) = some (.inl (((0 : Int), (0 : Int), (0 : Int), ()), [u, x].map lit, false, ())) := by
      rw [cond_dec, lit_size, if_neg (by omega)]; rfl
    rw [met_goM _ this rfl]
    simp only [cond_false]
    have hu : u.length ≤ 8 := by have := hsp u (by simp); omega
    have hx : x.length ≤ 8 := by have := hsp x (by simp); omega
    have r1 : rdG ByteArray.empty ([u, x].map lit) 1 = lit x := rdG_lit [u, x] 1 (by simp)
    have r0 : rdG ByteArray.empty ([u, x].map lit) 0 = lit u := rdG_lit [u, x] 0 (by simp)
    rw [r1, r0, chk_dec (by simp), show (100 : Int) = ((100 : UInt8).toNat : Int) from rfl, l1Split_is k hk 100 _ (by rw [lit_size]; omega), lit_list]
    simp only [Option.bind_some]
    have hsp2 := splL_small 100 x
    have hno2 : ∀ a b c : Nat, dyOk ((a : Int), ((b : Int), (c : Int))) = true → lit l = lit (wtx a b c) → u = dig a ∧ splL 100 x = [dig b, dig c] := by
      intro a b c g t
      obtain ⟨g1, g2, g3⟩ := dyOk_lt g
      have e1 := (hno a b c g t).1
      simp only [List.cons.injEq, and_true] at e1
      refine ⟨e1.1, ?_⟩
      rw [e1.2]
      exact spl_pair 100 _ _ (dig_notW b g2).2 (dig_notW c g3).2
    generalize hv : splL 100 x = vs at *
    by_cases hv2 : vs.length = 2
    · obtain ⟨y, z, rfl⟩ : ∃ y z, vs = [y, z] := by
        match vs, hv2 with
        | [y, z], _ => exact ⟨y, z, rfl⟩
      have hy : y.length ≤ 8 := by have := hsp2 y (by simp); omega
      have hz : z.length ≤ 8 := by have := hsp2 z (by simp); omega
      have q1 : rdG ByteArray.empty ([y, z].map lit) 1 = lit z := rdG_lit [y, z] 1 (by simp)
      have q0 : rdG ByteArray.empty ([y, z].map lit) 0 = lit y := rdG_lit [y, z] 0 (by simp)
      rw [show (((([y, z].map lit).length : Nat) : Int) != 2) = false from rfl]
      simp only [cond_false]
      rw [q1, q0]
      simp only [l1Read_is k (by omega) (lit u) (by rw [lit_size]; omega), l1Read_is k (by omega) (lit y) (by rw [lit_size]; omega), l1Read_is k (by omega) (lit z) (by rw [lit_size]; omega), Option.bind_some, andX_same, lit_list]
      rw [chk_dec (by simp), chk_dec (by simp), chk_dec (by simp)]
      simp only [met_inl]
      rw [dyGood_is]
      cases hg : dyOk (rdR u, (rdR y, rdR z)) with
      | false =>
        refine ⟨_, rfl, .inl rfl, fun a b c g t => ?_⟩
        obtain ⟨g1, g2, g3⟩ := dyOk_lt g
        obtain ⟨rfl, e2⟩ := hno2 a b c g t
        simp only [List.cons.injEq, and_true] at e2
        rw [e2.1, e2.2, rdR_dig a g1, rdR_dig b g2, rdR_dig c g3, g] at hg
        cases hg
      | true =>
        obtain ⟨a, b, c, hw3, p1, p2, p3⟩ := dyOk_nat3 hg
        simp only [Prod.mk.injEq] at hw3
        obtain ⟨w1, w2, w3⟩ := hw3
        rw [w1, w2, w3] at hg ⊢
        simp only [Option.bind_some, cond_true]
        rw [dtext_is k hk a b c (by omega) (by omega) (by omega)]
        simp only [Option.bind_some, met_inl]
        rw [str_eq]
        have comp2 : ∀ a' b' c' : Nat, dyOk ((a' : Int), ((b' : Int), (c' : Int))) = true → lit l = lit (wtx a' b' c') → a' = a ∧ b' = b ∧ c' = c := by
          intro a' b' c' g t
          obtain ⟨g1, g2, g3⟩ := dyOk_lt g
          obtain ⟨e1, e2⟩ := hno2 a' b' c' g t
          simp only [List.cons.injEq, and_true] at e2
          rw [e1, rdR_dig a' g1] at w1
          rw [e2.1, rdR_dig b' g2] at w2
          rw [e2.2, rdR_dig c' g3] at w3
          omega
        by_cases ht : wtx a b c = l
        · rw [decide_eq_true ht]
          refine ⟨_, rfl, .inr ⟨a, b, c, hg, by rw [ht], rfl⟩, fun a' b' c' g t => ?_⟩
          obtain ⟨rfl, rfl, rfl⟩ := comp2 a' b' c' g t
          rfl
        · rw [decide_eq_false ht]
          refine ⟨_, rfl, .inl rfl, fun a' b' c' g t => ?_⟩
          obtain ⟨rfl, rfl, rfl⟩ := comp2 a' b' c' g t
          exact absurd (by rw [← lit_list l, t, lit_list]) ht
    · rw [show (((vs.map lit).length : Int) != 2) = true from by rw [List.length_map, bne_iff_ne]; omega]
      refine ⟨_, rfl, .inl rfl, fun a b c g t => ?_⟩
      have e2 := (hno2 a b c g t).2
      rw [e2] at hv2
      exact absurd rfl hv2
end

/-! What is drawn for days. -/
section
variable (k : Nat) (hk : 100 ≤ k)
theorem sureWash_is {m : Int} {c : CurT} (h : Cur m c) (hm : m ≤ 999999999999000) :
    ∃ (a b d : Nat) (c' : CurT), spec_l1Cur_sureWash_f k c = some (((((a : Int), ((b : Int), (d : Int)))), ()), (c', ())) ∧ Cur (m + 6) c' ∧ c'.1 = c.1 ∧ 1 ≤ a ∧ a ≤ 9 ∧ 1 ≤ b ∧ b ≤ 7 ∧ 1 ≤ d ∧ d ≤ 4 := by
  unfold spec_l1Cur_sureWash_f
  obtain ⟨v1, c1, e1, a1, b1, h1, q1⟩ := pick_is k h (by omega) 9
  obtain ⟨v2, c2, e2, a2, b2, h2, q2⟩ := pick_is k h1 (by omega) 7
  obtain ⟨v3, c3, e3, a3, b3, h3, q3⟩ := pick_is k h2 (by omega) 4
  rw [ceta, e1]
  simp only [Option.bind_some]
  rw [ceta, e2]
  simp only [Option.bind_some]
  rw [ceta, e3]
  simp only [Option.bind_some]
  rw [iw_id (x := 1 + v1) (by omega) (by omega), iw_id (x := 1 + v2) (by omega) (by omega), iw_id (x := 1 + v3) (by omega) (by omega)]
  obtain ⟨n1, rfl⟩ := Int.eq_ofNat_of_zero_le a1
  obtain ⟨n2, rfl⟩ := Int.eq_ofNat_of_zero_le a2
  obtain ⟨n3, rfl⟩ := Int.eq_ofNat_of_zero_le a3
  refine ⟨1 + n1, 1 + n2, 1 + n3, c3, ?_, h3.mono (by omega), by rw [q3, q2, q1], by omega, by omega, by omega, by omega, by omega, by omega⟩
  rw [ceta]
  rfl
theorem washing_is {m : Int} {c : CurT} (h : Cur m c) (hm : m ≤ 999999999999000) :
    ∃ (w : WaT) (c' : CurT), spec_l1Cur_washing_f k c = some ((w, ()), (c', ())) ∧ Cur (m + 20) c' ∧ c'.1 = c.1 := by
  unfold spec_l1Cur_washing_f
  obtain ⟨a, b, d, c1, e1, h1, q1, _⟩ := sureWash_is k h hm
  obtain ⟨v2, c2, e2, a2, b2, h2, q2⟩ := pick_is k h1 (by omega) 20
  obtain ⟨v3, c3, e3, a3, h3, q3⟩ := among_is k h2 (by omega) [(-1), 0, 1, 30, 31, 4611686018427387904] (by decide)
  rw [ceta, e1]
  simp only [Option.bind_some]
  rw [ceta, e2]
  simp only [Option.bind_some]
  rw [ceta, e3]
  simp only [Option.bind_some]
  cases h5 : v2 == 0 with
  | true => exact ⟨_, c3, rfl, h3.mono (by omega), by rw [q3, q2, q1]⟩
  | false =>
    cases h6 : v2 == 1 with
    | true => exact ⟨_, c3, rfl, h3.mono (by omega), by rw [q3, q2, q1]⟩
    | false =>
      cases h7 : v2 == 2 with
      | true => exact ⟨_, c3, rfl, h3.mono (by omega), by rw [q3, q2, q1]⟩
      | false => exact ⟨_, c2, rfl, h2.mono (by omega), by rw [q2, q1]⟩
variable (l : List Int) (h : ∀ x ∈ l, 0 ≤ x ∧ x ≤ 255)
include h
theorem drawFB_is : ∃ w : WaT, spec_DrawFirstBare_f k l = some ((w, ()), ()) := by
  unfold spec_DrawFirstBare_f spec_DrawIsWash_f
  obtain ⟨w, c, e, _⟩ := washing_is k (cur0 h) (by omega)
  rw [e]
  exact ⟨w, rfl⟩
theorem drawLU_is : ∃ (w : WaT) (v : Int), spec_DrawLastsUntil_f k l = some ((w, v, ()), ()) := by
  unfold spec_DrawLastsUntil_f
  obtain ⟨w, c, e, h1, q1⟩ := washing_is k (cur0 h) (by omega)
  obtain ⟨v, c2, e2, _⟩ := among_is k h1 (by omega) [1, 1, 2, 3, 5, 10, 50, 100, 101, 0] (by decide)
  rw [e]
  simp only [Option.bind_some]
  rw [ceta, e2]
  exact ⟨w, v, rfl⟩
theorem drawLP_is : ∃ e d : Int, spec_DrawLeastPairs_f k l = some ((e, d, ()), ()) := by
  unfold spec_DrawLeastPairs_f
  obtain ⟨b, c, e, h1, q1⟩ := one_is k (cur0 h) (by omega) 9
  rw [e]
  simp only [Option.bind_some]
  cases b with
  | true =>
    obtain ⟨v2, c2, e2, a2, h2, q2⟩ := among_is k h1 (by omega) [(-1), 0, 1, 30, 31] (by decide)
    obtain ⟨v3, c3, e3, a3, h3, q3⟩ := among_is k h2 (by omega) [(-1), 0, 1, 30, 31] (by decide)
    simp only [cond_true]
    rw [ceta, e2]
    simp only [Option.bind_some]
    rw [ceta, e3]
    exact ⟨v2, v3, rfl⟩
  | false =>
    obtain ⟨v2, c2, e2, a2, b2, h2, q2⟩ := pick_is k h1 (by omega) 9
    obtain ⟨v3, c3, e3, a3, b3, h3, q3⟩ := pick_is k h2 (by omega) 9
    simp only [cond_false]
    rw [ceta, e2]
    simp only [Option.bind_some]
    rw [ceta, e3]
    exact ⟨_, _, rfl⟩
theorem drawGE_is : ∃ e d : Int, spec_DrawGreatestEvery_f k l = some ((e, d, ()), ()) := by
  unfold spec_DrawGreatestEvery_f
  obtain ⟨b, c, e, h1, q1⟩ := one_is k (cur0 h) (by omega) 9
  rw [e]
  simp only [Option.bind_some]
  cases b with
  | true =>
    obtain ⟨v2, c2, e2, a2, h2, q2⟩ := among_is k h1 (by omega) [(-1), 0, 1, 30, 31] (by decide)
    obtain ⟨v3, c3, e3, a3, h3, q3⟩ := among_is k h2 (by omega) [(-1), 0, 1, 30, 31] (by decide)
    simp only [cond_true]
    rw [ceta, e2]
    simp only [Option.bind_some]
    rw [ceta, e3]
    exact ⟨v2, v3, rfl⟩
  | false =>
    obtain ⟨v2, c2, e2, a2, b2, h2, q2⟩ := pick_is k h1 (by omega) 12
    obtain ⟨v3, c3, e3, a3, b3, h3, q3⟩ := pick_is k h2 (by omega) 6
    simp only [cond_false]
    rw [ceta, e2]
    simp only [Option.bind_some]
    rw [ceta, e3]
    exact ⟨_, _, rfl⟩
theorem drawGD_is : ∃ e d : Int, spec_DrawGreatestDry_f k l = some ((e, d, ()), ()) := by
  unfold spec_DrawGreatestDry_f
  obtain ⟨e, d, e1⟩ := drawGE_is k l h
  rw [e1]
  exact ⟨e, d, rfl⟩
include hk
theorem drawPW_is : ∃ s, spec_DrawParseWash_f k l = some ((s, ()), ()) ∧ s.size ≤ 40 := by
  unfold spec_DrawParseWash_f
  obtain ⟨a, b, d, c, e, h1, q, p1, p2, p3, p4, p5, p6⟩ := sureWash_is k (cur0 h) (by omega)
  rw [e]; simp only [Option.bind_some]
  rw [show spec_dyText_f k ((a : Int), ((b : Int), (d : Int))) = some ((lit (wtx a b d), ()), ()) from by
    have h1 := dig_len a
    have h2 := dig_len b
    have h3 := dig_len d
    unfold spec_dyText_f
    simp only
    rw [l1Num_is k (by omega) a (by omega), l1Num_is k (by omega) b (by omega), l1Num_is k (by omega) d (by omega)]
    simp only [Option.bind_some, lit_app]
    rw [chk_dec (by simp only [lit_size, List.length_cons, List.length_nil]; omega), chk_dec (by simp only [lit_size, List.length_append, List.length_cons, List.length_nil]; omega), chk_dec (by simp only [lit_size, List.length_append, List.length_cons, List.length_nil]; omega), chk_dec (by simp only [lit_size, List.length_append, List.length_cons, List.length_nil]; omega)]
    unfold wtx
    simp]
  simp only [Option.bind_some]
  obtain ⟨b2, c2, e2, h2, q2⟩ := one_is k h1 (by omega) 3
  rw [ceta, e2]
  simp only [Option.bind_some]
  have hb2 := (wtx_len a b d).2
  cases b2 with
  | false => exact ⟨_, rfl, by rw [lit_size]; omega⟩
  | true =>
    obtain ⟨s', c', e3, l3⟩ := spoilt_is k hk h2 (by omega) (lit [48, 49, 50, 51, 119, 100, 120]) (lit (wtx a b d)) (by rw [lit_size]; decide) (by rw [lit_size]; decide) (by rw [lit_size]; omega)
    rw [lit_size] at l3
    simp only [cond_true]
    rw [ceta, e3]
    exact ⟨s', rfl, by omega⟩
end

/-! The law FnDaysLeast. -/
theorem lu_low (P : Nat) (e d : Int) (v : Int) (hv : 1 ≤ v) : ∀ t : Nat, (∀ s, s < t → luF P e d v s = false) → ∀ j : Nat, j < P → rd (cnts P (wl P e d t)) (j : Int) < v
  | 0, _, j, hj => by
    rw [cnts_rd P _ j hj]
    simp [wl]; omega
  | t + 1, h, j, hj => by
    have ih := lu_low P e d v hv t (fun s hs => h s (by omega)) j hj
    rw [cnts_day]
    by_cases hw : 0 ≤ dyW P e d t
    · rw [if_pos hw]
      have h1 := h t (by omega)
      unfold luF at h1
      rw [decide_eq_true hw, Bool.true_and, beq_eq_false_iff_ne] at h1
      obtain ⟨i, hi⟩ := Int.eq_ofNat_of_zero_le hw
      rw [hi, rd_setI _ i _ j (by rw [cnts_len]; exact hj)]
      rw [hi] at h1
      by_cases hij : i = j
      · subst hij
        rw [if_pos rfl]; omega
      · rw [if_neg hij]; exact ih
    · rw [if_neg hw]; exact ih
theorem lu_at {w : WaT} {v : Int} (h : (luV w v).1.2.1 = true) : ∃ (P : Nat) (e d : Int) (t : Nat), w = ((P : Int), (e, d)) ∧ luV w v = (((t : Int), true, ()), ()) ∧ t ≤ 500 ∧ 1 ≤ v ∧ v ≤ 100 ∧ dayOk w (t : Int) = true ∧ P ≤ 30 ∧
    0 ≤ dyW P e d t ∧ rd (cnts P (wl P e d t)) (dyW P e d t) + 1 = v ∧ ∀ j : Nat, j < P → rd (cnts P (wl P e d t)) (j : Int) < v := by
  unfold luV at h ⊢
  by_cases hc : (dyOk w && (decide (1 ≤ v) && decide (v ≤ 100))) = true
  · rw [if_pos hc] at h ⊢
    simp only [Bool.and_eq_true, decide_eq_true_eq] at hc
    obtain ⟨P, e, d, rfl, h1, h2, h3⟩ := dyOk_nat hc.1
    simp only [Int.toNat_natCast] at h ⊢
    cases hf : dyF (luF P e d v) 501 with
    | none => rw [hf] at h; cases h
    | some t =>
      obtain ⟨g1, g2, g3⟩ := dyF_at hf
      have g4 := g2
      unfold luF at g4
      simp only [Bool.and_eq_true, decide_eq_true_eq, beq_iff_eq] at g4
      refine ⟨P, e, d, t, rfl, rfl, by omega, hc.2.1, hc.2.2, ?_, h2, g4.1, g4.2, lu_low P e d v hc.2.1 t g3⟩
      unfold dayOk
      rw [hc.1, decide_eq_true (by omega), decide_eq_true (by omega)]; rfl
  · rw [if_neg hc] at h; cases h
theorem bl_none (P : Nat) (e d : Int) : bl P e d P = [] := by
  unfold bl
  rw [List.filter_eq_nil_iff.2]
  · rfl
  · intro s hs
    unfold bareAt
    rw [List.mem_range] at hs
    rw [(dyS_first P e d s (by omega)).2 hs]
    simp
theorem fb_ok (w : WaT) : (fbV w).1.2.1 = (dyOk w && decide (w.1 < w.2.1 + w.2.2 - 1)) := by
  unfold fbV
  by_cases h : (dyOk w && decide (w.1 < w.2.1 + w.2.2 - 1)) = true
  · rw [if_pos h, h]
  · rw [if_neg h, Bool.eq_false_iff.2 h]
theorem wx_ok (w : WaT) : (wxV w).1.2.1 = dyOk w := by
  unfold wxV
  by_cases h : dyOk w = true
  · rw [if_pos h, h]
  · rw [if_neg h, Bool.eq_false_iff.2 h]
theorem pw_wx (k : Nat) (hk : 2000 ≤ k) {w : WaT} (h : dyOk w = true) : impl_ParseWash_f k (wxV w).1.1 = some ((w, true, ()), ()) := by
  obtain ⟨a, b, c, rfl, h1, h2, h3⟩ := dyOk_nat3 h
  have e : wxV ((a : Int), ((b : Int), (c : Int))) = ((lit (wtx a b c), true, ()), ()) := by unfold wxV; rw [if_pos h]; rfl
  rw [e]
  have hl := wtx_len a b c
  obtain ⟨v, e1, e2⟩ := implPW_is k hk (lit (wtx a b c)) (by rw [lit_size]; omega)
  rw [e1, e2.2 a b c h rfl]
  rfl
theorem l20_is (k : Nat) (hk : 1000 ≤ k) (P : Nat) (hP : P ≤ 30) (L : List Int) (hL : L.length = P) (v : Int) (hv : ∀ j : Nat, j < P → rd L (j : Int) < v) (x : Int × Int × Int × Unit)
    (y204 : ((Int × Int × Int) × Int × Unit) × Unit) (hy : y204.1.2.1 = v) (j19 : (Int × Int × Int × Unit) × List Int × Bool × Unit) (hj : j19.2.1 = L) :
    laws_FnDaysLeast_l20 k y204 j19 x 0 = some (.inl (x, ())) := by
  unfold laws_FnDaysLeast_l20
  refine iter_to (fun j : Nat => (x, (j : Int), ())) P _ (fun j hjl rec => ?_) (fun rec => ?_) k (by omega)
  · simp only [laws_FnDaysLeast_l20_b]
    have := hv j hjl
    rw [cond_dec, if_pos (by rw [hj]; omega), ixk_in (by omega) (by rw [hj]; omega), hj, hy, decide_eq_false (by omega), iw_nat (by omega)]
    rfl
  · simp only [laws_FnDaysLeast_l20_b]
    rw [cond_dec, if_neg (by rw [hj]; omega)]
theorem bne_notM {x y : Int} (h : x = y) : (x != y) = false := by simp [h]
theorem lp_cases (e d : Int) : (tmOk e d = true ∧ lpV e d = ((e + d - 1, true, ()), ()) ∧ 1 ≤ e ∧ e ≤ 30 ∧ 1 ≤ d ∧ d ≤ 30) ∨ (tmOk e d = false ∧ lpV e d = ((0, false, ()), ())) := by
  unfold lpV
  cases h : tmOk e d with
  | true =>
    refine .inl ⟨rfl, rfl, ?_⟩
    unfold tmOk at h
    simp only [Bool.and_eq_true, decide_eq_true_eq] at h
    omega
  | false => exact .inr ⟨rfl, rfl⟩
theorem gr_cases (p d : Int) : (grV p d = ((min2 30 (p - d + 1), true, ()), ()) ∧ 1 ≤ p ∧ p ≤ 30 ∧ 1 ≤ d ∧ d ≤ p ∧ min2 30 (p - d + 1) = p - d + 1) ∨ grV p d = ((0, false, ()), ()) := by
  unfold grV
  cases h : (tmOk p d && decide (d ≤ p)) with
  | true =>
    refine .inl ⟨rfl, ?_⟩
    unfold tmOk at h
    simp only [Bool.and_eq_true, decide_eq_true_eq] at h
    refine ⟨by omega, by omega, by omega, by omega, ?_⟩
    unfold min2; split <;> omega
  | false => exact .inr rfl
theorem lp_of {e d : Int} (h1 : 1 ≤ e) (h2 : e ≤ 30) (h3 : 1 ≤ d) (h4 : d ≤ 30) : lpV e d = ((e + d - 1, true, ()), ()) := by
  rcases lp_cases e d with h | h
  · exact h.2.1
  · exfalso
    have := h.1
    unfold tmOk at this
    rw [decide_eq_true h1, decide_eq_true h2, decide_eq_true h3, decide_eq_true h4] at this
    cases this
theorem fb_of {P e d : Int} (h : (1 ≤ P ∧ P ≤ 30) ∧ (1 ≤ e ∧ e ≤ 30) ∧ (1 ≤ d ∧ d ≤ 30)) : (fbV (P, (e, d))).1.2.1 = decide (P < e + d - 1) := by
  rw [fb_ok]
  unfold dyOk
  simp [h]
theorem pure_FnDaysLeast : Law laws_FnDaysLeast_f := fun l0 l1 _h0 w0 _h1 w1 => ⟨3000, by
  have hk : 1000 ≤ 3000 := by omega
  have hk2 : 2000 ≤ 3000 := by omega
  unfold laws_FnDaysLeast_f
  obtain ⟨bg, eb⟩ := big_is 3000 l0 l1
  rw [eb]
  cases bg with
  | true => rfl
  | false =>
  simp only [Option.bind_some, cond_false]
  obtain ⟨e, d, e1⟩ := drawLP_is 3000 l0 (byte_in w0)
  obtain ⟨p2, d2, e2⟩ := drawGE_is 3000 l1 (byte_in w1)
  obtain ⟨p3, d3, e3⟩ := drawGD_is 3000 l1 (byte_in w1)
  obtain ⟨w, e4⟩ := drawFB_is 3000 l1 (byte_in w1)
  obtain ⟨u, v, e5⟩ := drawLU_is 3000 l1 (byte_in w1)
  obtain ⟨s, e6, hs⟩ := drawPW_is 3000 (by omega) l1 (byte_in w1)
  rw [e1]
  simp only [Option.bind_some]
  rw [implLP_is, specLP_is 3000 hk]
  simp only [Option.bind_some]
  refine met_goM (false, ()) (by simp) ?_
  simp only [cond_false]
  refine met_goM () ?_ ?_
  · rcases lp_cases e d with ⟨_, hl, h1, h2, h3, h4⟩ | ⟨_, hl⟩
    · rw [hl]
      simp only [cond_true]
      refine met_goM (false, ()) ?_ ?_
      · rw [decide_eq_false (by omega), decide_eq_false (by omega), decide_eq_false (by omega)]
        simp only [cond_false]
        by_cases h5 : d = 1
        · rw [show (d == 1) = true from by simpa using h5, bne_notM (x := e + d - 1) (y := e) (by omega)]
          simp only [cond_true, cond_false]
          by_cases h6 : e = 1
          · rw [show (e == 1) = true from by simpa using h6, bne_notM (by omega)]; rfl
          · rw [show (e == 1) = false from by simpa using h6]; rfl
        · rw [show (d == 1) = false from by simpa using h5]
          simp only [cond_false]
          by_cases h6 : e = 1
          · rw [show (e == 1) = true from by simpa using h6, bne_notM (by omega)]; rfl
          · rw [show (e == 1) = false from by simpa using h6]; rfl
      · simp only [cond_false]
        refine met_goM () ?_ ?_
        · by_cases h5 : e + d - 1 ≤ 30
          · rw [decide_eq_true h5, implFB_is 3000 hk]
            simp only [cond_true, Option.bind_some]
            rw [fb_of ⟨⟨by omega, by omega⟩, ⟨by omega, by omega⟩, ⟨by omega, by omega⟩⟩, decide_eq_false (by omega)]
            rfl
          · rw [decide_eq_false h5]; rfl
        · refine met_goM (decide (1 < e + d - 1 ∧ e + d - 1 ≤ 31), ()) ?_ ?_
          · by_cases h5 : e + d - 1 > 1
            · rw [decide_eq_true h5]
              simp only [cond_true]
              congr 3
              by_cases h6 : e + d - 1 ≤ 31
              · rw [decide_eq_true h6, decide_eq_true ⟨by omega, h6⟩]
              · rw [decide_eq_false h6, decide_eq_false (fun h => h6 h.2)]
            · rw [decide_eq_false h5, decide_eq_false (show ¬ (1 < e + d - 1 ∧ e + d - 1 ≤ 31) from fun h => h5 h.1)]; rfl
          · refine met_goM () ?_ rfl
            by_cases h5 : 1 < e + d - 1 ∧ e + d - 1 ≤ 31
            · rw [decide_eq_true h5, iw_id (by omega) (by omega), implFB_is 3000 hk]
              simp only [cond_true, Option.bind_some]
              rw [fb_of ⟨⟨by omega, by omega⟩, ⟨by omega, by omega⟩, ⟨by omega, by omega⟩⟩, decide_eq_true (by omega)]
              rfl
            · rw [decide_eq_false h5]; rfl
    · rw [hl]; rfl
  rw [e2]
  simp only [Option.bind_some]
  rw [implGE_is, specGE_is 3000 hk, e3]
  simp only [Option.bind_some]
  rw [implGD_is, specGD_is 3000 hk, e4]
  simp only [Option.bind_some]
  rw [implFB_is 3000 hk, specFB_is 3000 hk, e5]
  simp only [Option.bind_some]
  rw [implLU_is 3000 hk, specLU_is 3000 hk, implWX_is 3000, specWX_is 3000 hk2, e6]
  simp only [Option.bind_some]
  obtain ⟨r, f1, f2⟩ := implPW_is 3000 hk2 s hs
  obtain ⟨r', f1', f2'⟩ := specPW_is 3000 hk2 s hs
  obtain rfl := f2.uniq f2'
  rw [f1, f1']
  simp only [Option.bind_some]
  rw [isWash_is]
  simp only [Option.bind_some]
  refine met_goM ((w.1, w.2.1, w.2.2, ()), (u.1, u.2.1, u.2.2, ()), (r.1.1.1, r.1.1.2.1, r.1.1.2.2, ()), false, ()) ?_ ?_
  · rw [wx_ok, fb_ok]
    cases dyOk w <;> cases decide (w.1 < w.2.1 + w.2.2 - 1) <;> simp
  simp only [cond_false]
  refine met_goM ((w.1, w.2.1, w.2.2, ()), (u.1, u.2.1, u.2.2, ()), (r.1.1.1, r.1.1.2.1, r.1.1.2.2, ()), ()) ?_ ?_
  · rcases gr_cases p2 d2 with ⟨hg, h1, h2, h3, h4, h5⟩ | hg
    · rw [hg, h5]
      simp only [cond_true]
      rw [implLP_is, lp_of (by omega) (by omega) (by omega) (by omega)]
      simp only [Option.bind_some, Bool.not_true, cond_false, met_inl]
      rw [decide_eq_false (by omega)]
      simp only [cond_false]
      by_cases h6 : p2 - d2 + 1 < 30
      · rw [decide_eq_true h6, iw_id (by omega) (by omega), implLP_is, lp_of (by omega) (by omega) (by omega) (by omega)]
        simp only [cond_true, Option.bind_some, Bool.not_true, cond_false, met_inl]
        rw [decide_eq_false (by omega)]
        rfl
      · rw [decide_eq_false h6]; rfl
    · rw [hg]; rfl
  refine met_goM ((w.1, w.2.1, w.2.2, ()), (u.1, u.2.1, u.2.2, ()), (r.1.1.1, r.1.1.2.1, r.1.1.2.2, ()), ()) ?_ ?_
  · rcases gr_cases p3 d3 with ⟨hg, h1, h2, h3, h4, h5⟩ | hg
    · rw [hg, h5]
      simp only [cond_true]
      rw [implLP_is, lp_of (by omega) (by omega) (by omega) (by omega)]
      simp only [Option.bind_some, Bool.not_true, cond_false, met_inl]
      rw [decide_eq_false (by omega)]
      rfl
    · rw [hg]; rfl
  refine met_goM ((u.1, u.2.1, u.2.2, ()), (r.1.1.1, r.1.1.2.1, r.1.1.2.2, ()), ()) ?_ ?_
  · rw [wx_ok]
    cases hw : dyOk w with
    | false => rfl
    | true =>
      obtain ⟨P, e', d', rfl, g1, g2, g3, g4, g5, g6⟩ := dyOk_nat hw
      simp only [cond_true]
      rw [implLP_is, lp_of g3 g4 g5 g6, pw_wx 3000 hk2 hw]
      simp only [Option.bind_some, Bool.not_true, cond_false]
      rw [fb_of ⟨⟨by omega, by omega⟩, ⟨g3, g4⟩, ⟨g5, g6⟩⟩]
      refine met_goM (((P : Int), e', d', ()), (u.1, u.2.1, u.2.2, ()), (r.1.1.1, r.1.1.2.1, r.1.1.2.2, ()), false, ()) (by simp) ?_
      simp only [cond_false]
      by_cases hb : (P : Int) < e' + d' - 1
      · rw [decide_eq_true hb]
        have hfb : fbV ((P : Int), (e', d')) = (((P : Int), true, ()), ()) := by
          unfold fbV; rw [hw, decide_eq_true hb]; rfl
        rw [hfb]
        simp only [cond_true]
        rw [implWO_is 3000 hk, implBD_is 3000 hk]
        have hday : dayOk ((P : Int), (e', d')) (P : Int) = true := by
          unfold dayOk; rw [hw, decide_eq_true (by omega), decide_eq_true (by omega)]; rfl
        have hwo : woV ((P : Int), (e', d')) (P : Int) = ((0, false, ()), ()) := by
          have hW : wW ((P : Int), (e', d')) (P : Int) = -1 := dyW_bare P e' d' g3 hb
          unfold woV
          rw [hW, hday]; rfl
        have hbd : bdV ((P : Int), (e', d')) (P : Int) = (([], true, ()), ()) := by
          unfold bdV
          rw [if_pos hday]
          simp only [Int.toNat_natCast]
          rw [bl_none]
        rw [hwo, hbd]
        simp only [Option.bind_some, cond_false, Bool.not_true, met_inl]
        rw [decide_eq_false (show ¬ (P : Int) < 1 by omega)]
        rfl
      · rw [decide_eq_false hb]; rfl
  refine met_goM ((r.1.1.1, r.1.1.2.1, r.1.1.2.2, ()), ()) ?_ ?_
  · cases hl : (luV u v).1.2.1 with
    | false => rfl
    | true =>
      obtain ⟨P, e', d', t, rfl, h1, h2, h3, h4, h5, h6, h7, h8, h9⟩ := lu_at hl
      rw [h1]
      simp only [cond_true]
      have hB : dyW P e' d' t < (P : Int) := (dyB_ge e' d' (dyS P e' d' t) (t : Int) P).2
      have hc := cnts_rd_le P e' d' t _ h7 hB
      have hwo : woV ((P : Int), (e', d')) (t : Int) = ((dyW P e' d' t, true, ()), ()) := by
        have hW : wW ((P : Int), (e', d')) (t : Int) = dyW P e' d' t := rfl
        unfold woV
        rw [hW, h5, decide_eq_true h7]; rfl
      have htw : twV ((P : Int), (e', d')) (t : Int) = ((cnts P (wl P e' d' t), true, ()), ()) := by
        unfold twV
        rw [if_pos h5]
        simp only [Int.toNat_natCast]
      rw [implWO_is 3000 hk, hwo]
      simp only [Option.bind_some]
      rw [iw_id (by omega) (by omega), decide_eq_false (by omega)]
      simp only [cond_false, Bool.not_true, met_inl]
      rw [implTW_is 3000 hk, htw]
      simp only [Option.bind_some, Bool.not_true, cond_false]
      rw [ixk_in h7 (by rw [cnts_len]; exact hB), bne_notM (by omega)]
      simp only [met_inl, cond_false]
      rw [l20_is 3000 hk P h6 (cnts P (wl P e' d' t)) (cnts_len _ _) v h9 _ _ rfl _ rfl]
      rfl
  rcases f2.1 with hr | ⟨a, b, c, g, t, hr⟩
  · rw [hr]; rfl
  · rw [hr]
    unfold pwW
    simp only [cond_true]
    rw [implWX_is 3000]
    have e9 : wxV ((a : Int), ((b : Int), (c : Int))) = ((s, true, ()), ()) := by
      unfold wxV; rw [if_pos g, t]; rfl
    rw [e9]
    simp⟩

end Go.Proofs.YtmogbnhgelihlaaGreatDoorV.Law
