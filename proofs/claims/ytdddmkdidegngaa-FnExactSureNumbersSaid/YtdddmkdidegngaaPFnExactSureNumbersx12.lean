/- The functions that a law reaches, and proofs that the Go code comes to just their answers: written by a program of this session out of the translation. Conditions: those that each theorem states. -/
import Derived.Test.YtdddmkdidegngaaPFnExactSureNumbersx0
import Derived.Test.YtdddmkdidegngaaPFnExactSureNumbersx1
import Derived.Test.YtdddmkdidegngaaPFnExactSureNumbersx2
import Derived.Test.YtdddmkdidegngaaPFnExactSureNumbersx6
import Derived.Test.YtdddmkdidegngaaPFnExactSureNumbersx11
namespace Go.Proofs.Ytdddmkdidegngaa.PFnExactSureNumbers
open Go.RowKit Go.Proofs.YtdddmkdidegngaaW.PrintWords Go.Proofs.YtdddmkdidegngaaW.PrintLast Go.Proofs.YtdddmkdidegngaaW.PrintMore
attribute [local go_sem] max2_int min2_int max_two min_two max_three min_three max_four min_four   -- for this text's walks alone
set_option linter.unusedVariables false
set_option linter.unusedSimpArgs false

/-! ### laws_FnExactSureNumbers: function 16 -/
def laws_FnExactSureNumbers.f (k : Nat) (a0_0 : Int) (l0_1 : List (S41)) : Option (Bool) := (laws_szPuzzle.f a0_0 l0_1 1048576).bind fun t307 => (if t307 < 0 then (some true) else ((laws_toPuzzle.f k a0_0 l0_1).bind fun bt333 => ((spec_SureNumbers.f k bt333.1 bt333.2).bind fun bt337 => ((laws_toPuzzle.f k a0_0 l0_1).bind fun bt341 => ((impl_SureNumbers.f k bt341.1 bt341.2).bind fun bt346 => ((laws_eqIntS.f k bt346.1 bt337.1).bind fun t350 => (if t350 = true then (if (bt346.2 != bt337.2) = true then (some false) else ((laws_toPuzzle.f k a0_0 l0_1).bind fun bt371 => ((laws_eqPuzzle.f k bt341.1 bt341.2 bt371.1 bt371.2).bind fun t375 => (if t375 = true then ((laws_markPuzzle.f k bt341.1 bt341.2 1).bind fun bt382 => (if bt382.1 < 0 then (some false) else ((laws_eqIntS.f k bt346.1 bt337.1).bind fun t384 => (if t384 = true then ((laws_markIntS.f k bt346.1 1).bind fun bt411 => ((laws_heldIntS.f k bt411.2 1).bind fun t413 => (if t413 < 0 then (some false) else (if t413 = bt411.1 then ((laws_toPuzzle.f k a0_0 l0_1).bind fun bt434 => ((impl_SureNumbers.f k bt434.1 bt434.2).bind fun bt438 => ((laws_eqIntS.f k bt438.1 bt337.1).bind fun t442 => (if t442 = true then (if (bt438.2 != bt337.2) = true then (some false) else ((laws_heldIntS.f k bt411.2 1).bind fun t445 => (if t445 < 0 then (some false) else (if t445 = bt411.1 then (some true) else (some false))))) else (some false))))) else (some false))))) else (some false))))) else (some false))))) else (some false))))))))
set_option maxHeartbeats 8000000 in
set_option maxRecDepth 100000 in
theorem laws_FnExactSureNumbers.calls (k : Nat) (a0_0 : Int) (A0_1 : Option Addr) (c0_1 : Nat) (l0_1 : List (S41)) (w : World) (hr0_1 : Kd.C k41 w A0_1 l0_1.length l0_1) (hc0_1 : l0_1.length ≤ c0_1) (h : laws_FnExactSureNumbers.f k a0_0 l0_1 = some true) :
    Calls Try.prog 16 #[.agg #[.int .i64 a0_0, .slice A0_1 l0_1.length c0_1]] w fun e w' => e = .returned (.bool true) ∧ Below w.heap.size w w' := by
 have hu31 := Try.underlying31
 have hu36 := Try.underlying36
 have HR0_1 := Aside0.mk hr0_1
 have HC0_1 := Aside0.mk hc0_1
 clear hr0_1 hc0_1
 have HB := Aside0.mk (Below.refl w.heap.size w)
 have H : ((laws_szPuzzle.f a0_0 l0_1 1048576).bind fun t307 => (if t307 < 0 then (some true) else ((laws_toPuzzle.f k a0_0 l0_1).bind fun bt333 => ((spec_SureNumbers.f k bt333.1 bt333.2).bind fun bt337 => ((laws_toPuzzle.f k a0_0 l0_1).bind fun bt341 => ((impl_SureNumbers.f k bt341.1 bt341.2).bind fun bt346 => ((laws_eqIntS.f k bt346.1 bt337.1).bind fun t350 => (if t350 = true then (if (bt346.2 != bt337.2) = true then (some false) else ((laws_toPuzzle.f k a0_0 l0_1).bind fun bt371 => ((laws_eqPuzzle.f k bt341.1 bt341.2 bt371.1 bt371.2).bind fun t375 => (if t375 = true then ((laws_markPuzzle.f k bt341.1 bt341.2 1).bind fun bt382 => (if bt382.1 < 0 then (some false) else ((laws_eqIntS.f k bt346.1 bt337.1).bind fun t384 => (if t384 = true then ((laws_markIntS.f k bt346.1 1).bind fun bt411 => ((laws_heldIntS.f k bt411.2 1).bind fun t413 => (if t413 < 0 then (some false) else (if t413 = bt411.1 then ((laws_toPuzzle.f k a0_0 l0_1).bind fun bt434 => ((impl_SureNumbers.f k bt434.1 bt434.2).bind fun bt438 => ((laws_eqIntS.f k bt438.1 bt337.1).bind fun t442 => (if t442 = true then (if (bt438.2 != bt337.2) = true then (some false) else ((laws_heldIntS.f k bt411.2 1).bind fun t445 => (if t445 < 0 then (some false) else (if t445 = bt411.1 then (some true) else (some false))))) else (some false))))) else (some false))))) else (some false))))) else (some false))))) else (some false))))))))) = some true := h
 clear h
 replace H := Option.bind_eq_some_iff.mp H
 obtain ⟨t307, A20, H⟩ := H
 replace H : (if t307 < 0 then (some true) else ((laws_toPuzzle.f k a0_0 l0_1).bind fun bt333 => ((spec_SureNumbers.f k bt333.1 bt333.2).bind fun bt337 => ((laws_toPuzzle.f k a0_0 l0_1).bind fun bt341 => ((impl_SureNumbers.f k bt341.1 bt341.2).bind fun bt346 => ((laws_eqIntS.f k bt346.1 bt337.1).bind fun t350 => (if t350 = true then (if (bt346.2 != bt337.2) = true then (some false) else ((laws_toPuzzle.f k a0_0 l0_1).bind fun bt371 => ((laws_eqPuzzle.f k bt341.1 bt341.2 bt371.1 bt371.2).bind fun t375 => (if t375 = true then ((laws_markPuzzle.f k bt341.1 bt341.2 1).bind fun bt382 => (if bt382.1 < 0 then (some false) else ((laws_eqIntS.f k bt346.1 bt337.1).bind fun t384 => (if t384 = true then ((laws_markIntS.f k bt346.1 1).bind fun bt411 => ((laws_heldIntS.f k bt411.2 1).bind fun t413 => (if t413 < 0 then (some false) else (if t413 = bt411.1 then ((laws_toPuzzle.f k a0_0 l0_1).bind fun bt434 => ((impl_SureNumbers.f k bt434.1 bt434.2).bind fun bt438 => ((laws_eqIntS.f k bt438.1 bt337.1).bind fun t442 => (if t442 = true then (if (bt438.2 != bt337.2) = true then (some false) else ((laws_heldIntS.f k bt411.2 1).bind fun t445 => (if t445 < 0 then (some false) else (if t445 = bt411.1 then (some true) else (some false))))) else (some false))))) else (some false))))) else (some false))))) else (some false))))) else (some false)))))))) = some true := H
 have A2 := Aside0.mk A20
 clear A20
 by_cases c3 : t307 < 0
 ·rw [if_pos c3] at H
  have c3b0 : decide (t307 < 0) = true := decide_eq_true c3
  clear c3
  clear H
  go_enter Try.func16, Try.ntmps16
  go_wp2_with (first | ((with_reducible refine gate_dst (N := 1) rfl ?_); refine box_event ?hg (N := 1) ?hd (cs := #[.int .i64 a0_0, .slice A0_1 l0_1.length c0_1]) (t := 31) ?hr ?_; (case hd => rfl); (case hg => rfl); (case hr => first | (go_simp; done) | (go_simp; rfl)); intro gb306 hg w4 hbox hb; have n0_ := Aside0.mk (below_step (by repeat (first | (with_reducible first | exact HB.out | apply below_alloc | apply pw_below_drewN | apply below_drew1) | exact HB.out)) hb); have n1_ := Aside0.mk (hbox); have n2_ := Aside0.mk ((by rw [hg]; exact (below_size (by repeat (first | (with_reducible first | exact HB.out | apply below_alloc | apply pw_below_drewN | apply below_drew1) | exact HB.out))) : w.heap.size ≤ gb306)); have n3_ := Aside0.mk ((by rw [hg]; exact (below_size (by repeat (first | (with_reducible first | exact HB.out | apply below_alloc | apply pw_below_drewN | apply below_drew1) | exact HB.out))) : w.heap.size ≤ gb306)); clear HB; have HB := n0_; have BK306 := n1_; have GW306 := n2_; have GE306 := n3_; clear n0_ n1_ n2_ n3_; clear hb hbox hg; have hcz5_0 : w4.cell? ⟨gb306, 0, none⟩ = some (.int .i64 a0_0) := (blk_cell BK306.out 0).trans rfl; have hcz5_1 : w4.cell? ⟨gb306, 1, none⟩ = some (.slice A0_1 l0_1.length c0_1) := (blk_cell BK306.out 1).trans rfl; have hfz5_0 := blk_frozen BK306.out 0; have hfz5_1 := blk_frozen BK306.out 1) | ((with_reducible refine gate_callee (f := 24) rfl ?_); refine goesL_ (some 16) rfl rfl Try.func24 (by kernel_rfl) rfl #[.agg #[.int .i64 a0_0, .slice A0_1 l0_1.length c0_1], .int .i64 1048576] rfl (by (try simp only [List.map_toArray, List.map_cons, List.map_nil]); first | done | rfl | (simp only [List.length_drop, List.length_take]; rfl)) ?_; (with_reducible refine (laws_szPuzzle.calls a0_0 _ _ l0_1 1048576 t307 _ ?side1 ?side2 A2.out).mono ?_); (case side1 => repeat (first | exact (Kd.C_below HR0_1.out HB.out) | (with_reducible refine Kd.C_alloc ?_ _) | (with_reducible refine Kd.C_drewN ?_ _) | (with_reducible refine Kd.C_drew ?_))); (case side2 => exact HC0_1.out); rintro e w6 ⟨rfl, hb⟩; refine ⟨_, rfl, ?_⟩; have n0_ := Aside0.mk (blk_below (g := gb306) (o := .cells #[.int .i64 a0_0, .slice A0_1 l0_1.length c0_1] 31 (0, 0)) (by (with_reducible repeat (first | refine bN ?_ _ | refine bD ?_ | refine bA ?_ _)); exact BK306.out) hb); have n1_ := Aside0.mk (below_step (by repeat (first | (with_reducible first | exact HB.out | apply below_alloc | apply pw_below_drewN | apply below_drew1) | exact HB.out)) hb); clear BK306; clear HB; have BK306 := n0_; have HB := n1_; clear n0_ n1_; (try clear hb); (try clear hb2); (try clear hk); (try clear hi)))
  go_ret
  exact ⟨by first | rfl | (simp [errW_none, errW_some] <;> rfl) | (simp [*, errW_none, errW_some] <;> rfl), by repeat (first | (with_reducible first | exact HB.out | apply below_alloc | apply pw_below_drewN | apply below_drew1) | exact HB.out)⟩
 ·rw [if_neg c3] at H
  have c3b0 : decide (t307 < 0) = false := decide_eq_false c3
  clear c3
  replace H := Option.bind_eq_some_iff.mp H
  obtain ⟨⟨t333, t334⟩, A70, H⟩ := H
  replace H : ((spec_SureNumbers.f k t333 t334).bind fun bt337 => ((laws_toPuzzle.f k a0_0 l0_1).bind fun bt341 => ((impl_SureNumbers.f k bt341.1 bt341.2).bind fun bt346 => ((laws_eqIntS.f k bt346.1 bt337.1).bind fun t350 => (if t350 = true then (if (bt346.2 != bt337.2) = true then (some false) else ((laws_toPuzzle.f k a0_0 l0_1).bind fun bt371 => ((laws_eqPuzzle.f k bt341.1 bt341.2 bt371.1 bt371.2).bind fun t375 => (if t375 = true then ((laws_markPuzzle.f k bt341.1 bt341.2 1).bind fun bt382 => (if bt382.1 < 0 then (some false) else ((laws_eqIntS.f k bt346.1 bt337.1).bind fun t384 => (if t384 = true then ((laws_markIntS.f k bt346.1 1).bind fun bt411 => ((laws_heldIntS.f k bt411.2 1).bind fun t413 => (if t413 < 0 then (some false) else (if t413 = bt411.1 then ((laws_toPuzzle.f k a0_0 l0_1).bind fun bt434 => ((impl_SureNumbers.f k bt434.1 bt434.2).bind fun bt438 => ((laws_eqIntS.f k bt438.1 bt337.1).bind fun t442 => (if t442 = true then (if (bt438.2 != bt337.2) = true then (some false) else ((laws_heldIntS.f k bt411.2 1).bind fun t445 => (if t445 < 0 then (some false) else (if t445 = bt411.1 then (some true) else (some false))))) else (some false))))) else (some false))))) else (some false))))) else (some false))))) else (some false)))))) = some true := H
  have A7 := Aside0.mk A70
  clear A70
  replace H := Option.bind_eq_some_iff.mp H
  obtain ⟨⟨t337, t340⟩, A80, H⟩ := H
  replace H : ((laws_toPuzzle.f k a0_0 l0_1).bind fun bt341 => ((impl_SureNumbers.f k bt341.1 bt341.2).bind fun bt346 => ((laws_eqIntS.f k bt346.1 t337).bind fun t350 => (if t350 = true then (if (bt346.2 != t340) = true then (some false) else ((laws_toPuzzle.f k a0_0 l0_1).bind fun bt371 => ((laws_eqPuzzle.f k bt341.1 bt341.2 bt371.1 bt371.2).bind fun t375 => (if t375 = true then ((laws_markPuzzle.f k bt341.1 bt341.2 1).bind fun bt382 => (if bt382.1 < 0 then (some false) else ((laws_eqIntS.f k bt346.1 t337).bind fun t384 => (if t384 = true then ((laws_markIntS.f k bt346.1 1).bind fun bt411 => ((laws_heldIntS.f k bt411.2 1).bind fun t413 => (if t413 < 0 then (some false) else (if t413 = bt411.1 then ((laws_toPuzzle.f k a0_0 l0_1).bind fun bt434 => ((impl_SureNumbers.f k bt434.1 bt434.2).bind fun bt438 => ((laws_eqIntS.f k bt438.1 t337).bind fun t442 => (if t442 = true then (if (bt438.2 != t340) = true then (some false) else ((laws_heldIntS.f k bt411.2 1).bind fun t445 => (if t445 < 0 then (some false) else (if t445 = bt411.1 then (some true) else (some false))))) else (some false))))) else (some false))))) else (some false))))) else (some false))))) else (some false))))) = some true := H
  have A8 := Aside0.mk A80
  clear A80
  replace H := Option.bind_eq_some_iff.mp H
  obtain ⟨⟨t341, t342⟩, A90, H⟩ := H
  replace H : ((impl_SureNumbers.f k t341 t342).bind fun bt346 => ((laws_eqIntS.f k bt346.1 t337).bind fun t350 => (if t350 = true then (if (bt346.2 != t340) = true then (some false) else ((laws_toPuzzle.f k a0_0 l0_1).bind fun bt371 => ((laws_eqPuzzle.f k t341 t342 bt371.1 bt371.2).bind fun t375 => (if t375 = true then ((laws_markPuzzle.f k t341 t342 1).bind fun bt382 => (if bt382.1 < 0 then (some false) else ((laws_eqIntS.f k bt346.1 t337).bind fun t384 => (if t384 = true then ((laws_markIntS.f k bt346.1 1).bind fun bt411 => ((laws_heldIntS.f k bt411.2 1).bind fun t413 => (if t413 < 0 then (some false) else (if t413 = bt411.1 then ((laws_toPuzzle.f k a0_0 l0_1).bind fun bt434 => ((impl_SureNumbers.f k bt434.1 bt434.2).bind fun bt438 => ((laws_eqIntS.f k bt438.1 t337).bind fun t442 => (if t442 = true then (if (bt438.2 != t340) = true then (some false) else ((laws_heldIntS.f k bt411.2 1).bind fun t445 => (if t445 < 0 then (some false) else (if t445 = bt411.1 then (some true) else (some false))))) else (some false))))) else (some false))))) else (some false))))) else (some false))))) else (some false)))) = some true := H
  have A9 := Aside0.mk A90
  clear A90
  replace H := Option.bind_eq_some_iff.mp H
  obtain ⟨⟨t346, t349⟩, A100, H⟩ := H
  replace H : ((laws_eqIntS.f k t346 t337).bind fun t350 => (if t350 = true then (if (t349 != t340) = true then (some false) else ((laws_toPuzzle.f k a0_0 l0_1).bind fun bt371 => ((laws_eqPuzzle.f k t341 t342 bt371.1 bt371.2).bind fun t375 => (if t375 = true then ((laws_markPuzzle.f k t341 t342 1).bind fun bt382 => (if bt382.1 < 0 then (some false) else ((laws_eqIntS.f k t346 t337).bind fun t384 => (if t384 = true then ((laws_markIntS.f k t346 1).bind fun bt411 => ((laws_heldIntS.f k bt411.2 1).bind fun t413 => (if t413 < 0 then (some false) else (if t413 = bt411.1 then ((laws_toPuzzle.f k a0_0 l0_1).bind fun bt434 => ((impl_SureNumbers.f k bt434.1 bt434.2).bind fun bt438 => ((laws_eqIntS.f k bt438.1 t337).bind fun t442 => (if t442 = true then (if (bt438.2 != t340) = true then (some false) else ((laws_heldIntS.f k bt411.2 1).bind fun t445 => (if t445 < 0 then (some false) else (if t445 = bt411.1 then (some true) else (some false))))) else (some false))))) else (some false))))) else (some false))))) else (some false))))) else (some false))) = some true := H
  have A10 := Aside0.mk A100
  clear A100
  replace H := Option.bind_eq_some_iff.mp H
  obtain ⟨t350, A110, H⟩ := H
  replace H : (if t350 = true then (if (t349 != t340) = true then (some false) else ((laws_toPuzzle.f k a0_0 l0_1).bind fun bt371 => ((laws_eqPuzzle.f k t341 t342 bt371.1 bt371.2).bind fun t375 => (if t375 = true then ((laws_markPuzzle.f k t341 t342 1).bind fun bt382 => (if bt382.1 < 0 then (some false) else ((laws_eqIntS.f k t346 t337).bind fun t384 => (if t384 = true then ((laws_markIntS.f k t346 1).bind fun bt411 => ((laws_heldIntS.f k bt411.2 1).bind fun t413 => (if t413 < 0 then (some false) else (if t413 = bt411.1 then ((laws_toPuzzle.f k a0_0 l0_1).bind fun bt434 => ((impl_SureNumbers.f k bt434.1 bt434.2).bind fun bt438 => ((laws_eqIntS.f k bt438.1 t337).bind fun t442 => (if t442 = true then (if (bt438.2 != t340) = true then (some false) else ((laws_heldIntS.f k bt411.2 1).bind fun t445 => (if t445 < 0 then (some false) else (if t445 = bt411.1 then (some true) else (some false))))) else (some false))))) else (some false))))) else (some false))))) else (some false))))) else (some false)) = some true := H
  have A11 := Aside0.mk A110
  clear A110
  by_cases c12 : t350 = true
  rotate_left
  ·replace c12 := Bool.eq_false_iff.mpr c12
   subst c12
   have H1 : (some false) = some true := by first | (rw [if_neg (show ¬ (false = true) by decide)] at H; exact H) | rfl
   clear H
   have H := H1
   clear H1
   exact absurd H (by simp)
  subst c12
  have H1 : (if (t349 != t340) = true then (some false) else ((laws_toPuzzle.f k a0_0 l0_1).bind fun bt371 => ((laws_eqPuzzle.f k t341 t342 bt371.1 bt371.2).bind fun t375 => (if t375 = true then ((laws_markPuzzle.f k t341 t342 1).bind fun bt382 => (if bt382.1 < 0 then (some false) else ((laws_eqIntS.f k t346 t337).bind fun t384 => (if t384 = true then ((laws_markIntS.f k t346 1).bind fun bt411 => ((laws_heldIntS.f k bt411.2 1).bind fun t413 => (if t413 < 0 then (some false) else (if t413 = bt411.1 then ((laws_toPuzzle.f k a0_0 l0_1).bind fun bt434 => ((impl_SureNumbers.f k bt434.1 bt434.2).bind fun bt438 => ((laws_eqIntS.f k bt438.1 t337).bind fun t442 => (if t442 = true then (if (bt438.2 != t340) = true then (some false) else ((laws_heldIntS.f k bt411.2 1).bind fun t445 => (if t445 < 0 then (some false) else (if t445 = bt411.1 then (some true) else (some false))))) else (some false))))) else (some false))))) else (some false))))) else (some false))))) = some true := by first | (rw [if_pos rfl] at H; exact H) | rfl
  clear H
  have H := H1
  clear H1
  by_cases c13 : (t349 != t340) = true
  ·rw [if_pos c13] at H
   have c13b0 : (t349 != t340) = true := c13
   (try (have c13b1 : decide (t349 = t340) = false := by simpa using c13))
   (try (have c13b2 : (t349 == t340) = false := by simpa using c13))
   (try (have c13b3 : ¬ (t349 = t340) := by simpa using c13))
   clear c13
   exact absurd H (by simp)
  rw [if_neg c13] at H
  have c13b0 : (t349 != t340) = false := by simpa using c13
  (try (have c13b1 : decide (t349 = t340) = true := by simpa using c13))
  (try (have c13b2 : (t349 == t340) = true := by simpa using c13))
  clear c13
  replace H := Option.bind_eq_some_iff.mp H
  obtain ⟨⟨t371, t372⟩, A140, H⟩ := H
  replace H : ((laws_eqPuzzle.f k t341 t342 t371 t372).bind fun t375 => (if t375 = true then ((laws_markPuzzle.f k t341 t342 1).bind fun bt382 => (if bt382.1 < 0 then (some false) else ((laws_eqIntS.f k t346 t337).bind fun t384 => (if t384 = true then ((laws_markIntS.f k t346 1).bind fun bt411 => ((laws_heldIntS.f k bt411.2 1).bind fun t413 => (if t413 < 0 then (some false) else (if t413 = bt411.1 then ((laws_toPuzzle.f k a0_0 l0_1).bind fun bt434 => ((impl_SureNumbers.f k bt434.1 bt434.2).bind fun bt438 => ((laws_eqIntS.f k bt438.1 t337).bind fun t442 => (if t442 = true then (if (bt438.2 != t340) = true then (some false) else ((laws_heldIntS.f k bt411.2 1).bind fun t445 => (if t445 < 0 then (some false) else (if t445 = bt411.1 then (some true) else (some false))))) else (some false))))) else (some false))))) else (some false))))) else (some false))) = some true := H
  have A14 := Aside0.mk A140
  clear A140
  replace H := Option.bind_eq_some_iff.mp H
  obtain ⟨t375, A150, H⟩ := H
  replace H : (if t375 = true then ((laws_markPuzzle.f k t341 t342 1).bind fun bt382 => (if bt382.1 < 0 then (some false) else ((laws_eqIntS.f k t346 t337).bind fun t384 => (if t384 = true then ((laws_markIntS.f k t346 1).bind fun bt411 => ((laws_heldIntS.f k bt411.2 1).bind fun t413 => (if t413 < 0 then (some false) else (if t413 = bt411.1 then ((laws_toPuzzle.f k a0_0 l0_1).bind fun bt434 => ((impl_SureNumbers.f k bt434.1 bt434.2).bind fun bt438 => ((laws_eqIntS.f k bt438.1 t337).bind fun t442 => (if t442 = true then (if (bt438.2 != t340) = true then (some false) else ((laws_heldIntS.f k bt411.2 1).bind fun t445 => (if t445 < 0 then (some false) else (if t445 = bt411.1 then (some true) else (some false))))) else (some false))))) else (some false))))) else (some false))))) else (some false)) = some true := H
  have A15 := Aside0.mk A150
  clear A150
  by_cases c16 : t375 = true
  rotate_left
  ·replace c16 := Bool.eq_false_iff.mpr c16
   subst c16
   have H1 : (some false) = some true := by first | (rw [if_neg (show ¬ (false = true) by decide)] at H; exact H) | rfl
   clear H
   have H := H1
   clear H1
   exact absurd H (by simp)
  subst c16
  have H1 : ((laws_markPuzzle.f k t341 t342 1).bind fun bt382 => (if bt382.1 < 0 then (some false) else ((laws_eqIntS.f k t346 t337).bind fun t384 => (if t384 = true then ((laws_markIntS.f k t346 1).bind fun bt411 => ((laws_heldIntS.f k bt411.2 1).bind fun t413 => (if t413 < 0 then (some false) else (if t413 = bt411.1 then ((laws_toPuzzle.f k a0_0 l0_1).bind fun bt434 => ((impl_SureNumbers.f k bt434.1 bt434.2).bind fun bt438 => ((laws_eqIntS.f k bt438.1 t337).bind fun t442 => (if t442 = true then (if (bt438.2 != t340) = true then (some false) else ((laws_heldIntS.f k bt411.2 1).bind fun t445 => (if t445 < 0 then (some false) else (if t445 = bt411.1 then (some true) else (some false))))) else (some false))))) else (some false))))) else (some false))))) = some true := by first | (rw [if_pos rfl] at H; exact H) | rfl
  clear H
  have H := H1
  clear H1
  replace H := Option.bind_eq_some_iff.mp H
  obtain ⟨⟨t382, t383⟩, A170, H⟩ := H
  replace H : (if t382 < 0 then (some false) else ((laws_eqIntS.f k t346 t337).bind fun t384 => (if t384 = true then ((laws_markIntS.f k t346 1).bind fun bt411 => ((laws_heldIntS.f k bt411.2 1).bind fun t413 => (if t413 < 0 then (some false) else (if t413 = bt411.1 then ((laws_toPuzzle.f k a0_0 l0_1).bind fun bt434 => ((impl_SureNumbers.f k bt434.1 bt434.2).bind fun bt438 => ((laws_eqIntS.f k bt438.1 t337).bind fun t442 => (if t442 = true then (if (bt438.2 != t340) = true then (some false) else ((laws_heldIntS.f k bt411.2 1).bind fun t445 => (if t445 < 0 then (some false) else (if t445 = bt411.1 then (some true) else (some false))))) else (some false))))) else (some false))))) else (some false)))) = some true := H
  have A17 := Aside0.mk A170
  clear A170
  by_cases c18 : t382 < 0
  ·rw [if_pos c18] at H
   have c18b0 : decide (t382 < 0) = true := decide_eq_true c18
   clear c18
   exact absurd H (by simp)
  rw [if_neg c18] at H
  have c18b0 : decide (t382 < 0) = false := decide_eq_false c18
  clear c18
  replace H := Option.bind_eq_some_iff.mp H
  obtain ⟨t384, A190, H⟩ := H
  replace H : (if t384 = true then ((laws_markIntS.f k t346 1).bind fun bt411 => ((laws_heldIntS.f k bt411.2 1).bind fun t413 => (if t413 < 0 then (some false) else (if t413 = bt411.1 then ((laws_toPuzzle.f k a0_0 l0_1).bind fun bt434 => ((impl_SureNumbers.f k bt434.1 bt434.2).bind fun bt438 => ((laws_eqIntS.f k bt438.1 t337).bind fun t442 => (if t442 = true then (if (bt438.2 != t340) = true then (some false) else ((laws_heldIntS.f k bt411.2 1).bind fun t445 => (if t445 < 0 then (some false) else (if t445 = bt411.1 then (some true) else (some false))))) else (some false))))) else (some false))))) else (some false)) = some true := H
  have A19 := Aside0.mk A190
  clear A190
  by_cases c20 : t384 = true
  rotate_left
  ·replace c20 := Bool.eq_false_iff.mpr c20
   subst c20
   have H1 : (some false) = some true := by first | (rw [if_neg (show ¬ (false = true) by decide)] at H; exact H) | rfl
   clear H
   have H := H1
   clear H1
   exact absurd H (by simp)
  subst c20
  have H1 : ((laws_markIntS.f k t346 1).bind fun bt411 => ((laws_heldIntS.f k bt411.2 1).bind fun t413 => (if t413 < 0 then (some false) else (if t413 = bt411.1 then ((laws_toPuzzle.f k a0_0 l0_1).bind fun bt434 => ((impl_SureNumbers.f k bt434.1 bt434.2).bind fun bt438 => ((laws_eqIntS.f k bt438.1 t337).bind fun t442 => (if t442 = true then (if (bt438.2 != t340) = true then (some false) else ((laws_heldIntS.f k bt411.2 1).bind fun t445 => (if t445 < 0 then (some false) else (if t445 = bt411.1 then (some true) else (some false))))) else (some false))))) else (some false))))) = some true := by first | (rw [if_pos rfl] at H; exact H) | rfl
  clear H
  have H := H1
  clear H1
  replace H := Option.bind_eq_some_iff.mp H
  obtain ⟨⟨t411, t412⟩, A210, H⟩ := H
  replace H : ((laws_heldIntS.f k t412 1).bind fun t413 => (if t413 < 0 then (some false) else (if t413 = t411 then ((laws_toPuzzle.f k a0_0 l0_1).bind fun bt434 => ((impl_SureNumbers.f k bt434.1 bt434.2).bind fun bt438 => ((laws_eqIntS.f k bt438.1 t337).bind fun t442 => (if t442 = true then (if (bt438.2 != t340) = true then (some false) else ((laws_heldIntS.f k t412 1).bind fun t445 => (if t445 < 0 then (some false) else (if t445 = t411 then (some true) else (some false))))) else (some false))))) else (some false)))) = some true := H
  have A21 := Aside0.mk A210
  clear A210
  replace H := Option.bind_eq_some_iff.mp H
  obtain ⟨t413, A220, H⟩ := H
  replace H : (if t413 < 0 then (some false) else (if t413 = t411 then ((laws_toPuzzle.f k a0_0 l0_1).bind fun bt434 => ((impl_SureNumbers.f k bt434.1 bt434.2).bind fun bt438 => ((laws_eqIntS.f k bt438.1 t337).bind fun t442 => (if t442 = true then (if (bt438.2 != t340) = true then (some false) else ((laws_heldIntS.f k t412 1).bind fun t445 => (if t445 < 0 then (some false) else (if t445 = t411 then (some true) else (some false))))) else (some false))))) else (some false))) = some true := H
  have A22 := Aside0.mk A220
  clear A220
  by_cases c23 : t413 < 0
  ·rw [if_pos c23] at H
   have c23b0 : decide (t413 < 0) = true := decide_eq_true c23
   clear c23
   exact absurd H (by simp)
  rw [if_neg c23] at H
  have c23b0 : decide (t413 < 0) = false := decide_eq_false c23
  clear c23
  by_cases c24 : t413 = t411
  rotate_left
  ·rw [if_neg c24] at H
   have c24b0 : (t413 == t411) = false := beq_eq_false_iff_ne.mpr c24
   have c24b1 : (t413 != t411) = true := bne_iff_ne.mpr c24
   exact absurd H (by simp)
  rw [if_pos c24] at H
  have c24b0 : (t413 == t411) = true := beq_iff_eq.mpr c24
  have c24b1 : (t413 != t411) = false := bne_eq_false_iff_eq.mpr c24
  clear c24
  replace H := Option.bind_eq_some_iff.mp H
  obtain ⟨⟨t434, t435⟩, A250, H⟩ := H
  replace H : ((impl_SureNumbers.f k t434 t435).bind fun bt438 => ((laws_eqIntS.f k bt438.1 t337).bind fun t442 => (if t442 = true then (if (bt438.2 != t340) = true then (some false) else ((laws_heldIntS.f k t412 1).bind fun t445 => (if t445 < 0 then (some false) else (if t445 = t411 then (some true) else (some false))))) else (some false)))) = some true := H
  have A25 := Aside0.mk A250
  clear A250
  replace H := Option.bind_eq_some_iff.mp H
  obtain ⟨⟨t438, t441⟩, A260, H⟩ := H
  replace H : ((laws_eqIntS.f k t438 t337).bind fun t442 => (if t442 = true then (if (t441 != t340) = true then (some false) else ((laws_heldIntS.f k t412 1).bind fun t445 => (if t445 < 0 then (some false) else (if t445 = t411 then (some true) else (some false))))) else (some false))) = some true := H
  have A26 := Aside0.mk A260
  clear A260
  replace H := Option.bind_eq_some_iff.mp H
  obtain ⟨t442, A270, H⟩ := H
  replace H : (if t442 = true then (if (t441 != t340) = true then (some false) else ((laws_heldIntS.f k t412 1).bind fun t445 => (if t445 < 0 then (some false) else (if t445 = t411 then (some true) else (some false))))) else (some false)) = some true := H
  have A27 := Aside0.mk A270
  clear A270
  by_cases c28 : t442 = true
  rotate_left
  ·replace c28 := Bool.eq_false_iff.mpr c28
   subst c28
   have H1 : (some false) = some true := by first | (rw [if_neg (show ¬ (false = true) by decide)] at H; exact H) | rfl
   clear H
   have H := H1
   clear H1
   exact absurd H (by simp)
  subst c28
  have H1 : (if (t441 != t340) = true then (some false) else ((laws_heldIntS.f k t412 1).bind fun t445 => (if t445 < 0 then (some false) else (if t445 = t411 then (some true) else (some false))))) = some true := by first | (rw [if_pos rfl] at H; exact H) | rfl
  clear H
  have H := H1
  clear H1
  by_cases c29 : (t441 != t340) = true
  ·rw [if_pos c29] at H
   have c29b0 : (t441 != t340) = true := c29
   (try (have c29b1 : decide (t441 = t340) = false := by simpa using c29))
   (try (have c29b2 : (t441 == t340) = false := by simpa using c29))
   (try (have c29b3 : ¬ (t441 = t340) := by simpa using c29))
   clear c29
   exact absurd H (by simp)
  rw [if_neg c29] at H
  have c29b0 : (t441 != t340) = false := by simpa using c29
  (try (have c29b1 : decide (t441 = t340) = true := by simpa using c29))
  (try (have c29b2 : (t441 == t340) = true := by simpa using c29))
  clear c29
  replace H := Option.bind_eq_some_iff.mp H
  obtain ⟨t445, A300, H⟩ := H
  replace H : (if t445 < 0 then (some false) else (if t445 = t411 then (some true) else (some false))) = some true := H
  have A30 := Aside0.mk A300
  clear A300
  by_cases c31 : t445 < 0
  ·rw [if_pos c31] at H
   have c31b0 : decide (t445 < 0) = true := decide_eq_true c31
   clear c31
   exact absurd H (by simp)
  rw [if_neg c31] at H
  have c31b0 : decide (t445 < 0) = false := decide_eq_false c31
  clear c31
  by_cases c32 : t445 = t411
  rotate_left
  ·rw [if_neg c32] at H
   have c32b0 : (t445 == t411) = false := beq_eq_false_iff_ne.mpr c32
   have c32b1 : (t445 != t411) = true := bne_iff_ne.mpr c32
   exact absurd H (by simp)
  rw [if_pos c32] at H
  have c32b0 : (t445 == t411) = true := beq_iff_eq.mpr c32
  have c32b1 : (t445 != t411) = false := bne_eq_false_iff_eq.mpr c32
  clear c32
  clear H
  go_enter Try.func16, Try.ntmps16
  try go_wp2_with (first | ((with_reducible refine gate_dst (N := 1) rfl ?_); refine box_event ?hg (N := 1) ?hd (cs := #[.int .i64 a0_0, .slice A0_1 l0_1.length c0_1]) (t := 31) ?hr ?_; (case hd => rfl); (case hg => rfl); (case hr => first | (go_simp; done) | (go_simp; rfl)); intro gb306 hg w33 hbox hb; have n0_ := Aside0.mk (below_step (by repeat (first | (with_reducible first | exact HB.out | apply below_alloc | apply pw_below_drewN | apply below_drew1) | exact HB.out)) hb); have n1_ := Aside0.mk (hbox); have n2_ := Aside0.mk ((by rw [hg]; exact (below_size (by repeat (first | (with_reducible first | exact HB.out | apply below_alloc | apply pw_below_drewN | apply below_drew1) | exact HB.out))) : w.heap.size ≤ gb306)); have n3_ := Aside0.mk ((by rw [hg]; exact (below_size (by repeat (first | (with_reducible first | exact HB.out | apply below_alloc | apply pw_below_drewN | apply below_drew1) | exact HB.out))) : w.heap.size ≤ gb306)); clear HB; have HB := n0_; have BK306 := n1_; have GW306 := n2_; have GE306 := n3_; clear n0_ n1_ n2_ n3_; clear hb hbox hg; have hcz34_0 : w33.cell? ⟨gb306, 0, none⟩ = some (.int .i64 a0_0) := (blk_cell BK306.out 0).trans rfl; have hcz34_1 : w33.cell? ⟨gb306, 1, none⟩ = some (.slice A0_1 l0_1.length c0_1) := (blk_cell BK306.out 1).trans rfl; have hfz34_0 := blk_frozen BK306.out 0; have hfz34_1 := blk_frozen BK306.out 1) | ((with_reducible refine gate_callee (f := 24) rfl ?_); refine goesL_ (some 16) rfl rfl Try.func24 (by kernel_rfl) rfl #[.agg #[.int .i64 a0_0, .slice A0_1 l0_1.length c0_1], .int .i64 1048576] rfl (by (try simp only [List.map_toArray, List.map_cons, List.map_nil]); first | done | rfl | (simp only [List.length_drop, List.length_take]; rfl)) ?_; (with_reducible refine (laws_szPuzzle.calls a0_0 _ _ l0_1 1048576 t307 _ ?side1 ?side2 A2.out).mono ?_); (case side1 => repeat (first | exact (Kd.C_below HR0_1.out HB.out) | (with_reducible refine Kd.C_alloc ?_ _) | (with_reducible refine Kd.C_drewN ?_ _) | (with_reducible refine Kd.C_drew ?_))); (case side2 => exact HC0_1.out); rintro e w35 ⟨rfl, hb⟩; refine ⟨_, rfl, ?_⟩; have n0_ := Aside0.mk (blk_below (g := gb306) (o := .cells #[.int .i64 a0_0, .slice A0_1 l0_1.length c0_1] 31 (0, 0)) (by (with_reducible repeat (first | refine bN ?_ _ | refine bD ?_ | refine bA ?_ _)); exact BK306.out) hb); have n1_ := Aside0.mk (below_step (by repeat (first | (with_reducible first | exact HB.out | apply below_alloc | apply pw_below_drewN | apply below_drew1) | exact HB.out)) hb); clear BK306; clear HB; have BK306 := n0_; have HB := n1_; clear n0_ n1_; (try clear hb); (try clear hb2); (try clear hk); (try clear hi); have hcz36_0 : w35.cell? ⟨gb306, 0, none⟩ = some (.int .i64 a0_0) := (blk_cell BK306.out 0).trans rfl; have hcz36_1 : w35.cell? ⟨gb306, 1, none⟩ = some (.slice A0_1 l0_1.length c0_1) := (blk_cell BK306.out 1).trans rfl; have hfz36_0 := blk_frozen BK306.out 0; have hfz36_1 := blk_frozen BK306.out 1) | ((with_reducible refine gate_callee (f := 26) rfl ?_); refine goesL_ (some 21) rfl rfl Try.func26 (by kernel_rfl) rfl #[.agg #[.int .i64 a0_0, .slice A0_1 l0_1.length c0_1]] rfl (by (try simp only [List.map_toArray, List.map_cons, List.map_nil]); first | done | rfl | (simp only [List.length_drop, List.length_take]; rfl)) ?_; (with_reducible refine (laws_toPuzzle.calls k a0_0 _ _ l0_1 t333 t334 _ ?side1 ?side2 A7.out).mono ?_); (case side1 => repeat (first | exact (Kd.C_below HR0_1.out HB.out) | (with_reducible refine Kd.C_alloc ?_ _) | (with_reducible refine Kd.C_drewN ?_ _) | (with_reducible refine Kd.C_drew ?_))); (case side2 => exact HC0_1.out); rintro e w37 ⟨v335, rfl, ho0, hb⟩; refine ⟨_, rfl, ?_⟩; have n0_ := Aside0.mk (Kd.R_lower ho0 (below_size (by repeat (first | (with_reducible first | exact HB.out | apply below_alloc | apply pw_below_drewN | apply below_drew1) | exact HB.out)))); have n1_ := Aside0.mk (blk_below (g := gb306) (o := .cells #[.int .i64 a0_0, .slice A0_1 l0_1.length c0_1] 31 (0, 0)) (by (with_reducible repeat (first | refine bN ?_ _ | refine bD ?_ | refine bA ?_ _)); exact BK306.out) hb); have n2_ := Aside0.mk (below_step (by repeat (first | (with_reducible first | exact HB.out | apply below_alloc | apply pw_below_drewN | apply below_drew1) | exact HB.out)) hb); clear BK306; clear HB; have HO336 := n0_; have BK306 := n1_; have HB := n2_; clear n0_ n1_ n2_; (try clear hb); (try clear hb2); (try clear hk); (try clear hi); (try clear ho0); obtain ⟨Ao38, co38, eo38⟩ := Kd.R_slice HO336.out; subst eo38) | ((with_reducible refine gate_callee (f := 63) rfl ?_); refine goesL_ (some 22) rfl rfl Try.func63 (by kernel_rfl) rfl #[.agg #[.int .i64 t333, .slice Ao38 t334.length co38]] rfl (by (try simp only [List.map_toArray, List.map_cons, List.map_nil]); first | done | rfl | (simp only [List.length_drop, List.length_take]; rfl)) ?_; (with_reducible refine (spec_SureNumbers.calls k t333 _ _ t334 t337 t340 _ ?side1 ?side2 A8.out).mono ?_); (case side1 => repeat (first | exact (Kd.R_reads' HO336.out).2.2 | (with_reducible refine Kd.C_alloc ?_ _) | (with_reducible refine Kd.C_drewN ?_ _) | (with_reducible refine Kd.C_drew ?_))); (case side2 => exact (Kd.R_reads' HO336.out).2.1); rintro e w39 ⟨v338, rfl, ho0, hb⟩; refine ⟨_, rfl, ?_⟩; have n0_ := Aside0.mk (Kd.R_below (by (with_reducible repeat (first | apply Kd.R_alloc | apply Kd.R_drewN | apply Kd.R_drew)); exact HO336.out) hb); have n1_ := Aside0.mk (Kd.R_lower ho0 (below_size (by repeat (first | (with_reducible first | exact HB.out | apply below_alloc | apply pw_below_drewN | apply below_drew1) | exact HB.out)))); have n2_ := Aside0.mk (blk_below (g := gb306) (o := .cells #[.int .i64 a0_0, .slice A0_1 l0_1.length c0_1] 31 (0, 0)) (by (with_reducible repeat (first | refine bN ?_ _ | refine bD ?_ | refine bA ?_ _)); exact BK306.out) hb); have n3_ := Aside0.mk (below_step (by repeat (first | (with_reducible first | exact HB.out | apply below_alloc | apply pw_below_drewN | apply below_drew1) | exact HB.out)) hb); clear HO336; clear BK306; clear HB; have HO336 := n0_; have HO339 := n1_; have BK306 := n2_; have HB := n3_; clear n0_ n1_ n2_ n3_; (try clear hb); (try clear hb2); (try clear hk); (try clear hi); (try clear ho0); have hcz40_0 : w39.cell? ⟨gb306, 0, none⟩ = some (.int .i64 a0_0) := (blk_cell BK306.out 0).trans rfl; have hcz40_1 : w39.cell? ⟨gb306, 1, none⟩ = some (.slice A0_1 l0_1.length c0_1) := (blk_cell BK306.out 1).trans rfl; have hfz40_0 := blk_frozen BK306.out 0; have hfz40_1 := blk_frozen BK306.out 1) | ((with_reducible refine gate_callee (f := 26) rfl ?_); refine goesL_ (some 26) rfl rfl Try.func26 (by kernel_rfl) rfl #[.agg #[.int .i64 a0_0, .slice A0_1 l0_1.length c0_1]] rfl (by (try simp only [List.map_toArray, List.map_cons, List.map_nil]); first | done | rfl | (simp only [List.length_drop, List.length_take]; rfl)) ?_; (with_reducible refine (laws_toPuzzle.calls k a0_0 _ _ l0_1 t341 t342 _ ?side1 ?side2 A9.out).mono ?_); (case side1 => repeat (first | exact (Kd.C_below HR0_1.out HB.out) | (with_reducible refine Kd.C_alloc ?_ _) | (with_reducible refine Kd.C_drewN ?_ _) | (with_reducible refine Kd.C_drew ?_))); (case side2 => exact HC0_1.out); rintro e w41 ⟨v343, rfl, ho0, hb⟩; refine ⟨_, rfl, ?_⟩; have n0_ := Aside0.mk (Kd.R_elder' (by (with_reducible repeat (first | apply Kd.R_alloc | apply Kd.R_drewN | apply Kd.R_drew)); exact HO336.out) (Kd.R_base ho0) hb); have n1_ := Aside0.mk (Kd.R_below (by (with_reducible repeat (first | apply Kd.R_alloc | apply Kd.R_drewN | apply Kd.R_drew)); exact HO339.out) hb); have n2_ := Aside0.mk (Kd.R_lower (Kd.R_new' ho0 (Kd.R_lt (by (with_reducible repeat (first | apply Kd.R_alloc | apply Kd.R_drewN | apply Kd.R_drew)); exact HO336.out))) (below_size (by repeat (first | (with_reducible first | exact HB.out | apply below_alloc | apply pw_below_drewN | apply below_drew1) | exact HB.out)))); have n3_ := Aside0.mk (blk_below (g := gb306) (o := .cells #[.int .i64 a0_0, .slice A0_1 l0_1.length c0_1] 31 (0, 0)) (by (with_reducible repeat (first | refine bN ?_ _ | refine bD ?_ | refine bA ?_ _)); exact BK306.out) hb); have n4_ := Aside0.mk (below_step (by repeat (first | (with_reducible first | exact HB.out | apply below_alloc | apply pw_below_drewN | apply below_drew1) | exact HB.out)) hb); clear HO336; clear HO339; clear BK306; clear HB; have HO336 := n0_; have HO339 := n1_; have HO344 := n2_; have BK306 := n3_; have HB := n4_; clear n0_ n1_ n2_ n3_ n4_; (try clear hb); (try clear hb2); (try clear hk); (try clear hi); (try clear ho0)) | ((with_reducible refine gate_dst (N := 6) rfl ?_); refine box_event ?hg (N := 6) ?hd (cs := #[.int .i64 0, .slice none 0 0]) (t := 36) ?hr ?_; (case hd => rfl); (case hg => rfl); (case hr => first | (go_simp; done) | (go_simp; rfl)); intro gb345 hg w42 hbox hb; have n0_ := Aside0.mk (Kd.R_below (by (with_reducible repeat (first | apply Kd.R_alloc | apply Kd.R_drewN | apply Kd.R_drew)); exact HO336.out) hb); have n1_ := Aside0.mk (Kd.R_below (by (with_reducible repeat (first | apply Kd.R_alloc | apply Kd.R_drewN | apply Kd.R_drew)); exact HO339.out) hb); have n2_ := Aside0.mk (Kd.R_below (by (with_reducible repeat (first | apply Kd.R_alloc | apply Kd.R_drewN | apply Kd.R_drew)); exact HO344.out) hb); have n3_ := Aside0.mk (blk_below (g := gb306) (o := .cells #[.int .i64 a0_0, .slice A0_1 l0_1.length c0_1] 31 (0, 0)) (by (with_reducible repeat (first | refine bN ?_ _ | refine bD ?_ | refine bA ?_ _)); exact BK306.out) hb); have n4_ := Aside0.mk (below_step (by repeat (first | (with_reducible first | exact HB.out | apply below_alloc | apply pw_below_drewN | apply below_drew1) | exact HB.out)) hb); have n5_ := Aside0.mk (hbox); have n6_ := Aside0.mk ((by rw [hg]; exact (below_size (by repeat (first | (with_reducible first | exact HB.out | apply below_alloc | apply pw_below_drewN | apply below_drew1) | exact HB.out))) : w.heap.size ≤ gb345)); have n7_ := Aside0.mk ((by rw [hg]; exact (below_size (by repeat (first | (with_reducible first | exact HB.out | apply below_alloc | apply pw_below_drewN | apply below_drew1) | exact HB.out))) : w.heap.size ≤ gb345)); have n8_ := Aside0.mk ((by rw [hg]; exact Nat.ne_of_lt (blk_lt (g := gb306) (o := .cells #[.int .i64 a0_0, .slice A0_1 l0_1.length c0_1] 31 (0, 0)) (by (with_reducible repeat (first | refine bN ?_ _ | refine bD ?_ | refine bA ?_ _)); exact BK306.out)) : gb306 ≠ gb345)); have n9_ := Aside0.mk ((by rw [hg]; exact Nat.ne_of_gt (blk_lt (g := gb306) (o := .cells #[.int .i64 a0_0, .slice A0_1 l0_1.length c0_1] 31 (0, 0)) (by (with_reducible repeat (first | refine bN ?_ _ | refine bD ?_ | refine bA ?_ _)); exact BK306.out)) : gb345 ≠ gb306)); clear HO336; clear HO339; clear HO344; clear BK306; clear HB; have HO336 := n0_; have HO339 := n1_; have HO344 := n2_; have BK306 := n3_; have HB := n4_; have BK345 := n5_; have GW345 := n6_; have GE345 := n7_; have NB306_345 := n8_; have NB345_306 := n9_; clear n0_ n1_ n2_ n3_ n4_ n5_ n6_ n7_ n8_ n9_; clear hb hbox hg; have hnb43 := NB345_306.out; have hnc43 := NB306_345.out; have hcz44_0 : w42.cell? ⟨gb345, 0, none⟩ = some (.int .i64 0) := (blk_cell BK345.out 0).trans rfl; have hcz44_1 : w42.cell? ⟨gb345, 1, none⟩ = some (.slice none 0 0) := (blk_cell BK345.out 1).trans rfl; have hfz44_0 := blk_frozen BK345.out 0; have hfz44_1 := blk_frozen BK345.out 1; obtain ⟨Ao45, co45, eo45⟩ := Kd.R_slice HO344.out; subst eo45) | ((with_reducible refine gate_callee (f := 64) rfl ?_); refine goesL_ (some 29) rfl rfl Try.func64 (by kernel_rfl) rfl #[.agg #[.int .i64 t341, .slice Ao45 t342.length co45]] rfl (by (try simp only [List.map_toArray, List.map_cons, List.map_nil]); first | done | rfl | (simp only [List.length_drop, List.length_take]; rfl)) ?_; (with_reducible refine (impl_SureNumbers.calls k t341 _ _ t342 t346 t349 _ ?side1 ?side2 A10.out).mono ?_); (case side1 => refine (Kd.R_reads' (e := 44) (base := w.heap.size) (ok := fun k_ => (True ∧ some k_ ≠ (.slice Ao38 t334.length co38 : Value).ownBlock)) (n := t342.length) (c := co45) ?_).2.2; exact (by (with_reducible repeat (first | apply Kd.R_alloc | apply Kd.R_drewN | apply Kd.R_drew)); exact (Kd.R_mono (Kd.R_far (p := ⟨gb345, 1, none⟩) (Kd.R_far (p := ⟨gb345, 0, none⟩) (Kd.R_types HO344.out BK345.out (by decide)) (fun _ hk => hk.2) (.int .i64 t341)) (fun _ hk => hk.2) (.slice Ao45 t342.length co45)) (fun _ h_ => h_.1)))); (case side2 => exact (Kd.R_reads' HO344.out).2.1); rintro e w46 ⟨v347, rfl, ho0, hb⟩; refine ⟨_, rfl, ?_⟩; have n0_ := Aside0.mk (Kd.R_below (by (with_reducible repeat (first | apply Kd.R_alloc | apply Kd.R_drewN | apply Kd.R_drew)); exact (Kd.R_mono (Kd.R_far (p := ⟨gb345, 1, none⟩) (Kd.R_far (p := ⟨gb345, 0, none⟩) (Kd.R_types HO336.out BK345.out (by decide)) (fun _ hk => hk.2) (.int .i64 t341)) (fun _ hk => hk.2) (.slice Ao45 t342.length co45)) (fun _ h_ => h_.1))) hb); have n1_ := Aside0.mk (Kd.R_elder' (by (with_reducible repeat (first | apply Kd.R_alloc | apply Kd.R_drewN | apply Kd.R_drew)); exact (Kd.R_mono (Kd.R_far (p := ⟨gb345, 1, none⟩) (Kd.R_far (p := ⟨gb345, 0, none⟩) (Kd.R_types HO339.out BK345.out (by decide)) (fun _ hk => hk.2) (.int .i64 t341)) (fun _ hk => hk.2) (.slice Ao45 t342.length co45)) (fun _ h_ => h_.1))) (Kd.R_base ho0) hb); have n2_ := Aside0.mk (Kd.R_below (by (with_reducible repeat (first | apply Kd.R_alloc | apply Kd.R_drewN | apply Kd.R_drew)); exact (Kd.R_mono (Kd.R_far (p := ⟨gb345, 1, none⟩) (Kd.R_far (p := ⟨gb345, 0, none⟩) (Kd.R_types HO344.out BK345.out (by decide)) (fun _ hk => hk.2) (.int .i64 t341)) (fun _ hk => hk.2) (.slice Ao45 t342.length co45)) (fun _ h_ => h_.1))) hb); have n3_ := Aside0.mk (Kd.R_lower (Kd.R_new' ho0 (Kd.R_lt (by (with_reducible repeat (first | apply Kd.R_alloc | apply Kd.R_drewN | apply Kd.R_drew)); exact (Kd.R_mono (Kd.R_far (p := ⟨gb345, 1, none⟩) (Kd.R_far (p := ⟨gb345, 0, none⟩) (Kd.R_types HO339.out BK345.out (by decide)) (fun _ hk => hk.2) (.int .i64 t341)) (fun _ hk => hk.2) (.slice Ao45 t342.length co45)) (fun _ h_ => h_.1))))) (below_size (by repeat (first | (with_reducible first | exact HB.out | apply below_alloc | apply pw_below_drewN | apply below_drew1 | refine below_set ?_ GE306.out | refine below_set ?_ GE345.out) | exact HB.out)))); have n4_ := Aside0.mk (blk_below (g := gb306) (o := .cells #[.int .i64 a0_0, .slice A0_1 l0_1.length c0_1] 31 (0, 0)) (by (with_reducible repeat (first | refine bN ?_ _ | refine bD ?_ | refine bA ?_ _)); refine blk_far ?_ NB306_345.out _; (with_reducible repeat (first | refine bN ?_ _ | refine bD ?_ | refine bA ?_ _)); refine blk_far ?_ NB306_345.out _; (with_reducible repeat (first | refine bN ?_ _ | refine bD ?_ | refine bA ?_ _)); exact BK306.out) hb); have n5_ := Aside0.mk (blk_below (g := gb345) (o := .cells #[.int .i64 t341, .slice Ao45 t342.length co45] 36 (0, 0)) (by (with_reducible repeat (first | refine bN ?_ _ | refine bD ?_ | refine bA ?_ _)); refine blk_put (cs := #[.int .i64 t341, .slice none 0 0]) ?_ 1 _ rfl; (with_reducible repeat (first | refine bN ?_ _ | refine bD ?_ | refine bA ?_ _)); refine blk_put (cs := #[.int .i64 0, .slice none 0 0]) ?_ 0 _ rfl; (with_reducible repeat (first | refine bN ?_ _ | refine bD ?_ | refine bA ?_ _)); exact BK345.out) hb); have n6_ := Aside0.mk (below_step (by repeat (first | (with_reducible first | exact HB.out | apply below_alloc | apply pw_below_drewN | apply below_drew1 | refine below_set ?_ GE306.out | refine below_set ?_ GE345.out) | exact HB.out)) hb); clear HO336; clear HO339; clear HO344; clear BK306; clear BK345; clear HB; have HO336 := n0_; have HO339 := n1_; have HO344 := n2_; have HO348 := n3_; have BK306 := n4_; have BK345 := n5_; have HB := n6_; clear n0_ n1_ n2_ n3_ n4_ n5_ n6_; (try clear hb); (try clear hb2); (try clear hk); (try clear hi); (try clear ho0); obtain ⟨Ao47, co47, eo47⟩ := Kd.R_slice HO348.out; subst eo47; obtain ⟨Ao48, co48, eo48⟩ := Kd.R_slice HO339.out; subst eo48) | ((with_reducible refine gate_callee (f := 43) rfl ?_); refine goesL_ (some 34) rfl rfl Try.func43 (by kernel_rfl) rfl #[.slice Ao47 t346.length co47, .slice Ao48 t337.length co48] rfl (by (try simp only [List.map_toArray, List.map_cons, List.map_nil]); first | done | rfl | (simp only [List.length_drop, List.length_take]; rfl)) ?_; (with_reducible refine (laws_eqIntS.calls k _ _ t346 _ _ t337 true _ ?side1 ?side2 ?side3 ?side4 A11.out).mono ?_); (case side1 => repeat (first | exact (Kd.R_reads' HO348.out).2.2 | (with_reducible refine Kd.C_alloc ?_ _) | (with_reducible refine Kd.C_drewN ?_ _) | (with_reducible refine Kd.C_drew ?_))); (case side2 => exact (Kd.R_reads' HO348.out).2.1); (case side3 => repeat (first | exact (Kd.R_reads' HO339.out).2.2 | (with_reducible refine Kd.C_alloc ?_ _) | (with_reducible refine Kd.C_drewN ?_ _) | (with_reducible refine Kd.C_drew ?_))); (case side4 => exact (Kd.R_reads' HO339.out).2.1); rintro e w' ⟨rfl, ⟨nd, rfl⟩⟩; refine ⟨_, rfl, ?_⟩))
  (try (rw [drewN_self w46]; generalize hq_ : World.drewN w46 _ = w46; have n0_ : Aside0 (Kd.R k44 44 w46 w.heap.size (fun k_ => some k_ ≠ (.slice Ao45 t342.length co45 : Value).ownBlock) (.slice Ao38 t334.length co38) t334) := ⟨by rw [← hq_]; exact (by (with_reducible repeat (first | apply Kd.R_alloc | apply Kd.R_drewN | apply Kd.R_drew)); exact Kd.R_mono HO336.out (fun _ hk => hk.2))⟩; have n1_ : Aside0 (Kd.R (Kd.int .i64) 3 w46 w.heap.size (fun k_ => some k_ ≠ (.slice Ao47 t346.length co47 : Value).ownBlock) (.slice Ao48 t337.length co48) t337) := ⟨by rw [← hq_]; exact (by (with_reducible repeat (first | apply Kd.R_alloc | apply Kd.R_drewN | apply Kd.R_drew)); exact Kd.R_mono HO339.out (fun _ hk => hk.2))⟩; have n2_ : Aside0 (Kd.R k44 44 w46 w.heap.size (fun k_ => some k_ ≠ (.slice Ao38 t334.length co38 : Value).ownBlock) (.slice Ao45 t342.length co45) t342) := ⟨by rw [← hq_]; exact (by (with_reducible repeat (first | apply Kd.R_alloc | apply Kd.R_drewN | apply Kd.R_drew)); exact Kd.R_mono HO344.out (fun _ hk => hk.2))⟩; have n3_ : Aside0 (Kd.R (Kd.int .i64) 3 w46 w.heap.size (fun k_ => some k_ ≠ (.slice Ao48 t337.length co48 : Value).ownBlock) (.slice Ao47 t346.length co47) t346) := ⟨by rw [← hq_]; exact (by (with_reducible repeat (first | apply Kd.R_alloc | apply Kd.R_drewN | apply Kd.R_drew)); exact Kd.R_mono HO348.out (fun _ hk => hk.2))⟩; have n4_ : Aside0 (w46.heap[gb306]? = some (.cells #[.int .i64 a0_0, .slice A0_1 l0_1.length c0_1] 31 (0, 0))) := ⟨by rw [← hq_]; exact (by (with_reducible repeat (first | refine bN ?_ _ | refine bD ?_ | refine bA ?_ _)); exact BK306.out)⟩; have n5_ : Aside0 (w46.heap[gb345]? = some (.cells #[.int .i64 t341, .slice Ao45 t342.length co45] 36 (0, 0))) := ⟨by rw [← hq_]; exact (by (with_reducible repeat (first | refine bN ?_ _ | refine bD ?_ | refine bA ?_ _)); exact BK345.out)⟩; have n6_ : Aside0 (Below w.heap.size w w46) := ⟨by rw [← hq_]; exact (by repeat (first | (with_reducible first | exact HB.out | apply below_alloc | apply pw_below_drewN | apply below_drew1) | exact HB.out))⟩; clear HO336 HO339 HO344 HO348 BK306 BK345 HB hq_; have HO336 := n0_; have HO339 := n1_; have HO344 := n2_; have HO348 := n3_; have BK306 := n4_; have BK345 := n5_; have HB := n6_; clear n0_ n1_ n2_ n3_ n4_ n5_ n6_))
  have n0_ := Aside0.mk (Kd.R_drew HO336.out)
  have n1_ := Aside0.mk (Kd.R_drew HO339.out)
  have n2_ := Aside0.mk (Kd.R_drew HO344.out)
  have n3_ := Aside0.mk (Kd.R_drew HO348.out)
  have n4_ := Aside0.mk (blk_drew BK306.out)
  have n5_ := Aside0.mk (blk_drew BK345.out)
  have n6_ := Aside0.mk (below_drew1 HB.out)
  clear HO336
  clear HO339
  clear HO344
  clear HO348
  clear BK306
  clear BK345
  clear HB
  have HO336 := n0_
  have HO339 := n1_
  have HO344 := n2_
  have HO348 := n3_
  have BK306 := n4_
  have BK345 := n5_
  have HB := n6_
  clear n0_ n1_ n2_ n3_ n4_ n5_ n6_
  refine start_ (n := 5) (S := fun w' => w'.cell? ⟨gb345, 0, none⟩ = some (.int .i64 t341) ∧ w'.cell? ⟨gb345, 1, none⟩ = some (.slice Ao45 t342.length co45) ∧ w'.cell? ⟨gb306, 0, none⟩ = some (.int .i64 a0_0) ∧ w'.cell? ⟨gb306, 1, none⟩ = some (.slice A0_1 l0_1.length c0_1)) (ds := []) #[false, false, false, false, false] (by kernel_rfl) rfl rfl ⟨(blk_cell BK345.out 0).trans rfl, (blk_cell BK345.out 1).trans rfl, (blk_cell BK306.out 0).trans rfl, (blk_cell BK306.out 1).trans rfl⟩ (fun hHeld => ?_)
  generalize w46.drew = w49 at HO336 HO339 HO344 HO348 BK306 BK345 HB hHeld ⊢
  refine take_ (i := 0) (N := some 41) (v := ?_) (a' := ?_) #[true, false, false, false, false] rfl rfl (by kernel_rfl) (fun _ _ _ h => h) (Or.inl ⟨by rfl, ?_⟩) hHeld ?_ ?_
  rotate_left
  ·rintro w' ⟨s0, s1, s2, s3⟩
   go_simp
   with_reducible rfl
  rotate_left
  ·simp only [Act.put, List.setIfInBounds_toArray, List.set_cons_zero, List.set_cons_succ, i64_w, i32_w]
   rfl
  refine take_ (i := 1) (N := some 42) (v := ?_) (a' := ?_) #[true, true, false, false, false] rfl rfl (by kernel_rfl) (fun _ _ _ h => h) (Or.inl ⟨by rfl, ?_⟩) hHeld ?_ ?_
  rotate_left
  ·rintro w' ⟨s0, s1, s2, s3⟩
   go_simp
   with_reducible rfl
  rotate_left
  ·simp only [Act.put, List.setIfInBounds_toArray, List.set_cons_zero, List.set_cons_succ, i64_w, i32_w]
   rfl
  refine one_ (i := 2) (N := some 43) #[true, true, true, false, false] rfl rfl (by kernel_rfl) (by decide) (fun K hK => ?_)
  refine goes_ Try.func26 (by kernel_rfl) rfl #[.agg #[.int .i64 a0_0, .slice A0_1 l0_1.length c0_1]] (by rfl) rfl rfl (by (try simp only [List.map_toArray, List.map_cons, List.map_nil]); first | done | rfl | (simp only [List.length_drop, List.length_take]; rfl)) ?_
  with_reducible refine (laws_toPuzzle.calls k a0_0 _ _ l0_1 t371 t372 _ ?side1 ?side2 A14.out).mono ?_
  (case side1 => repeat (first | exact (Kd.C_below HR0_1.out HB.out) | (with_reducible refine Kd.C_alloc ?_ _) | (with_reducible refine Kd.C_drewN ?_ _) | (with_reducible refine Kd.C_drew ?_)))
  (case side2 => exact HC0_1.out)
  rintro e w50 ⟨v373, rfl, ho0, hb⟩
  refine ⟨_, rfl, ?_⟩
  have n0_ := Aside0.mk (Kd.R_elder' (by (with_reducible repeat (first | apply Kd.R_alloc | apply Kd.R_drewN | apply Kd.R_drew)); exact HO336.out) (Kd.R_base ho0) hb)
  have n1_ := Aside0.mk (Kd.R_below (by (with_reducible repeat (first | apply Kd.R_alloc | apply Kd.R_drewN | apply Kd.R_drew)); exact HO339.out) hb)
  have n2_ := Aside0.mk (Kd.R_elder' (by (with_reducible repeat (first | apply Kd.R_alloc | apply Kd.R_drewN | apply Kd.R_drew)); exact HO344.out) (Kd.R_base ho0) hb)
  have n3_ := Aside0.mk (Kd.R_below (by (with_reducible repeat (first | apply Kd.R_alloc | apply Kd.R_drewN | apply Kd.R_drew)); exact HO348.out) hb)
  have n4_ := Aside0.mk (Kd.R_lower (Kd.R_new' (Kd.R_new' ho0 (Kd.R_lt (by (with_reducible repeat (first | apply Kd.R_alloc | apply Kd.R_drewN | apply Kd.R_drew)); exact HO336.out))) (Kd.R_lt (by (with_reducible repeat (first | apply Kd.R_alloc | apply Kd.R_drewN | apply Kd.R_drew)); exact HO344.out))) (below_size (by repeat (first | (with_reducible first | exact HB.out | apply below_alloc | apply pw_below_drewN | apply below_drew1) | exact HB.out))))
  have n5_ := Aside0.mk (blk_below (g := gb306) (o := .cells #[.int .i64 a0_0, .slice A0_1 l0_1.length c0_1] 31 (0, 0)) (by (with_reducible repeat (first | refine bN ?_ _ | refine bD ?_ | refine bA ?_ _)); exact BK306.out) hb)
  have n6_ := Aside0.mk (blk_below (g := gb345) (o := .cells #[.int .i64 t341, .slice Ao45 t342.length co45] 36 (0, 0)) (by (with_reducible repeat (first | refine bN ?_ _ | refine bD ?_ | refine bA ?_ _)); exact BK345.out) hb)
  have n7_ := Aside0.mk (below_step (by repeat (first | (with_reducible first | exact HB.out | apply below_alloc | apply pw_below_drewN | apply below_drew1) | exact HB.out)) hb)
  clear HO336
  clear HO339
  clear HO344
  clear HO348
  clear BK306
  clear BK345
  clear HB
  have HO336 := n0_
  have HO339 := n1_
  have HO344 := n2_
  have HO348 := n3_
  have HO374 := n4_
  have BK306 := n5_
  have BK345 := n6_
  have HB := n7_
  clear n0_ n1_ n2_ n3_ n4_ n5_ n6_ n7_
  (try clear hb)
  (try clear hb2)
  (try clear hk)
  (try clear hi)
  (try clear ho0)
  obtain ⟨Ao51, co51, eo51⟩ := Kd.R_slice HO374.out
  (first | subst eo51 | (injection eo51 with f1_ f2_ f3_; have f4_ := f1_.symm; have f5_ := f3_.symm; clear f1_ f2_ f3_; subst f4_; subst f5_))
  refine hK.out _ _ ⟨(blk_cell BK345.out 0).trans rfl, (blk_cell BK345.out 1).trans rfl, (blk_cell BK306.out 0).trans rfl, (blk_cell BK306.out 1).trans rfl⟩ (fun hHeld => ?_)
  clear hK K
  refine norm_ (a' := ?_) ?_ ?_
  rotate_left
  ·show Act.put _ (some 43) _ = _
   simp only [Act.put, List.setIfInBounds_toArray, List.set_cons_zero, List.set_cons_succ, i64_w, i32_w]
   rfl
  refine one_ (i := 3) (N := some 44) #[true, true, true, true, false] rfl rfl (by kernel_rfl) (by decide) (fun K hK => ?_)
  refine goes_ Try.func28 (by kernel_rfl) rfl #[.agg #[.int .i64 t341, .slice Ao45 t342.length co45], .agg #[.int .i64 t371, .slice Ao51 t372.length co51]] (by rfl) rfl rfl (by (try simp only [List.map_toArray, List.map_cons, List.map_nil]); first | done | rfl | (simp only [List.length_drop, List.length_take]; rfl)) ?_
  with_reducible refine (laws_eqPuzzle.calls k t341 _ _ t342 t371 _ _ t372 true _ ?side1 ?side2 ?side3 ?side4 A15.out).mono ?_
  (case side1 => repeat (first | exact (Kd.R_reads' HO344.out).2.2 | (with_reducible refine Kd.C_alloc ?_ _) | (with_reducible refine Kd.C_drewN ?_ _) | (with_reducible refine Kd.C_drew ?_)))
  (case side2 => exact (Kd.R_reads' HO344.out).2.1)
  (case side3 => repeat (first | exact (Kd.R_reads' HO374.out).2.2 | (with_reducible refine Kd.C_alloc ?_ _) | (with_reducible refine Kd.C_drewN ?_ _) | (with_reducible refine Kd.C_drew ?_)))
  (case side4 => exact (Kd.R_reads' HO374.out).2.1)
  rintro e w52 ⟨rfl, hb⟩
  refine ⟨_, rfl, ?_⟩
  have n0_ := Aside0.mk (Kd.R_below (by (with_reducible repeat (first | apply Kd.R_alloc | apply Kd.R_drewN | apply Kd.R_drew)); exact HO336.out) hb)
  have n1_ := Aside0.mk (Kd.R_below (by (with_reducible repeat (first | apply Kd.R_alloc | apply Kd.R_drewN | apply Kd.R_drew)); exact HO339.out) hb)
  have n2_ := Aside0.mk (Kd.R_below (by (with_reducible repeat (first | apply Kd.R_alloc | apply Kd.R_drewN | apply Kd.R_drew)); exact HO344.out) hb)
  have n3_ := Aside0.mk (Kd.R_below (by (with_reducible repeat (first | apply Kd.R_alloc | apply Kd.R_drewN | apply Kd.R_drew)); exact HO348.out) hb)
  have n4_ := Aside0.mk (Kd.R_below (by (with_reducible repeat (first | apply Kd.R_alloc | apply Kd.R_drewN | apply Kd.R_drew)); exact HO374.out) hb)
  have n5_ := Aside0.mk (blk_below (g := gb306) (o := .cells #[.int .i64 a0_0, .slice A0_1 l0_1.length c0_1] 31 (0, 0)) (by (with_reducible repeat (first | refine bN ?_ _ | refine bD ?_ | refine bA ?_ _)); exact BK306.out) hb)
  have n6_ := Aside0.mk (blk_below (g := gb345) (o := .cells #[.int .i64 t341, .slice Ao45 t342.length co45] 36 (0, 0)) (by (with_reducible repeat (first | refine bN ?_ _ | refine bD ?_ | refine bA ?_ _)); exact BK345.out) hb)
  have n7_ := Aside0.mk (below_step (by repeat (first | (with_reducible first | exact HB.out | apply below_alloc | apply pw_below_drewN | apply below_drew1) | exact HB.out)) hb)
  clear HO336
  clear HO339
  clear HO344
  clear HO348
  clear HO374
  clear BK306
  clear BK345
  clear HB
  have HO336 := n0_
  have HO339 := n1_
  have HO344 := n2_
  have HO348 := n3_
  have HO374 := n4_
  have BK306 := n5_
  have BK345 := n6_
  have HB := n7_
  clear n0_ n1_ n2_ n3_ n4_ n5_ n6_ n7_
  (try clear hb)
  (try clear hb2)
  (try clear hk)
  (try clear hi)
  refine hK.out _ _ ⟨(blk_cell BK345.out 0).trans rfl, (blk_cell BK345.out 1).trans rfl, (blk_cell BK306.out 0).trans rfl, (blk_cell BK306.out 1).trans rfl⟩ (fun hHeld => ?_)
  clear hK K
  refine norm_ (a' := ?_) ?_ ?_
  rotate_left
  ·show Act.put _ (some 44) _ = _
   simp only [Act.put, List.setIfInBounds_toArray, List.set_cons_zero, List.set_cons_succ, i64_w, i32_w]
   rfl
  refine pure_ (i := 4) (N := some 45) (v := ?_) (a' := ?_) #[true, true, true, true, true] rfl rfl (by kernel_rfl) (fun _ _ _ h => h) (Or.inl ⟨by rfl, ?_⟩) ?_ ?_
  rotate_left
  ·intro w'
   go_simp
   with_reducible rfl
  rotate_left
  ·simp only [Act.put, List.setIfInBounds_toArray, List.set_cons_zero, List.set_cons_succ, i64_w, i32_w]
   rfl
  refine done_ (by kernel_rfl) ?_
  have hcz53_0 : w52.cell? ⟨gb345, 0, none⟩ = some (.int .i64 t341) := (blk_cell BK345.out 0).trans rfl
  have hcz53_1 : w52.cell? ⟨gb345, 1, none⟩ = some (.slice Ao45 t342.length co45) := (blk_cell BK345.out 1).trans rfl
  have hfz53_0 := blk_frozen BK345.out 0
  have hfz53_1 := blk_frozen BK345.out 1
  try go_wp2_with (first | ((with_reducible refine gate_callee (f := 32) rfl ?_); refine goesL_ (some 48) rfl rfl Try.func32 (by kernel_rfl) rfl #[.agg #[.int .i64 t341, .slice Ao45 t342.length co45], .int .i64 1] rfl (by (try simp only [List.map_toArray, List.map_cons, List.map_nil]); first | done | rfl | (simp only [List.length_drop, List.length_take]; rfl)) ?_; (with_reducible refine (laws_markPuzzle.calls k t341 (fun k_ => some k_ = (.slice Ao45 t342.length co45 : Value).ownBlock) (.slice Ao45 t342.length co45) t342 1 t382 t383 w _ ?side1 ?side2 A17.out).mono ?_); (case side1 => repeat (first | (with_reducible first | exact HB.out | apply below_alloc | apply pw_below_drewN | apply below_drew1) | exact HB.out)); (case side2 => exact Kd.R_tight rfl HO344.out); rintro e w54 ⟨rfl, hy0, hb, hkp⟩; refine ⟨_, rfl, ?_⟩; have n0_ := Aside0.mk (blk_kept (by (with_reducible repeat (first | refine bN ?_ _ | refine bD ?_ | refine bA ?_ _)); exact BK306.out) hkp (fun hs_ => (fun e_ => (Kd.R_ne HO344.out BK306.out (by decide)) e_) hs_)); have n1_ := Aside0.mk (Kd.R_mono (ok' := fun k_ => some k_ ≠ (.slice Ao45 t342.length co45 : Value).ownBlock ∧ some k_ ≠ (.slice Ao51 t372.length co51 : Value).ownBlock) (Kd.R_keptB (HO336.out) hkp (fun k_ hk_ hs_ => by first | exact (hk_.1.2) hs_ | (revert hk_ hs_; simp +contextual))) (fun k_ hk_ => by first | exact ⟨hk_.1.1.2, hk_.1.2⟩ | (revert hk_; simp +contextual))); have n2_ := Aside0.mk (Kd.R_mono (ok' := fun k_ => some k_ ≠ (.slice Ao47 t346.length co47 : Value).ownBlock) (Kd.R_keptB ((Kd.R_apart' HO339.out (Kd.R_typed HO344.out) (by decide))) hkp (fun k_ hk_ hs_ => by first | exact (hk_.2) hs_ | (revert hk_ hs_; simp +contextual))) (fun k_ hk_ => by first | exact hk_.1.1.2 | (revert hk_; simp +contextual))); have n3_ := Aside0.mk (Kd.R_reok rfl hy0 (fun k_ e_ => HO344.out.1 k_ e_)); have n4_ := Aside0.mk (blk_kept (by (with_reducible repeat (first | refine bN ?_ _ | refine bD ?_ | refine bA ?_ _)); exact BK345.out) hkp (fun hs_ => (fun e_ => (Kd.R_ne HO344.out BK345.out (by decide)) e_) hs_)); have n5_ := Aside0.mk (Kd.R_mono (ok' := fun k_ => some k_ ≠ (.slice Ao48 t337.length co48 : Value).ownBlock) (Kd.R_keptB ((Kd.R_apart' HO348.out (Kd.R_typed HO344.out) (by decide))) hkp (fun k_ hk_ hs_ => by first | exact (hk_.2) hs_ | (revert hk_ hs_; simp +contextual))) (fun k_ hk_ => by first | exact hk_.1.1.2 | (revert hk_; simp +contextual))); have n6_ := Aside0.mk (Kd.R_mono (ok' := fun k_ => some k_ ≠ (.slice Ao38 t334.length co38 : Value).ownBlock ∧ some k_ ≠ (.slice Ao45 t342.length co45 : Value).ownBlock) (Kd.R_keptB (HO374.out) hkp (fun k_ hk_ hs_ => by first | exact (hk_.2) hs_ | (revert hk_ hs_; simp +contextual))) (fun k_ hk_ => by first | exact ⟨hk_.1.1.2, hk_.1.2⟩ | (revert hk_; simp +contextual))); have n7_ := Aside0.mk (hb); clear BK306; clear HO336; clear HO339; clear HO344; clear BK345; clear HO348; clear HO374; clear HB; have BK306 := n0_; have HO336 := n1_; have HO339 := n2_; have HO344 := n3_; have BK345 := n4_; have HO348 := n5_; have HO374 := n6_; have HB := n7_; clear n0_ n1_ n2_ n3_ n4_ n5_ n6_ n7_; (try clear hb); (try clear hkp); (try clear hy0)) | (go_at_call 43; (with_reducible refine (laws_eqIntS.calls k _ _ t346 _ _ t337 true _ ?side1 ?side2 ?side3 ?side4 A19.out).mono ?_); (case side1 => repeat (first | exact (Kd.R_reads' HO348.out).2.2 | (with_reducible refine Kd.C_alloc ?_ _) | (with_reducible refine Kd.C_drewN ?_ _) | (with_reducible refine Kd.C_drew ?_))); (case side2 => exact (Kd.R_reads' HO348.out).2.1); (case side3 => repeat (first | exact (Kd.R_reads' HO339.out).2.2 | (with_reducible refine Kd.C_alloc ?_ _) | (with_reducible refine Kd.C_drewN ?_ _) | (with_reducible refine Kd.C_drew ?_))); (case side4 => exact (Kd.R_reads' HO339.out).2.1); rintro e w' ⟨rfl, ⟨nd, rfl⟩⟩) | ((with_reducible refine gate_callee (f := 46) rfl ?_); refine goesL_ (some 64) rfl rfl Try.func46 (by kernel_rfl) rfl #[.slice Ao47 t346.length co47, .int .i64 1] rfl (by (try simp only [List.map_toArray, List.map_cons, List.map_nil]); first | done | rfl | (simp only [List.length_drop, List.length_take]; rfl)) ?_; (with_reducible refine (laws_markIntS.calls k (fun k_ => some k_ = (.slice Ao47 t346.length co47 : Value).ownBlock) (.slice Ao47 t346.length co47) t346 1 t411 t412 w _ ?side1 ?side2 A21.out).mono ?_); (case side1 => repeat (first | (with_reducible first | exact HB.out | apply below_alloc | apply pw_below_drewN | apply below_drew1) | exact HB.out)); (case side2 => exact Kd.R_tight rfl HO348.out); rintro e w55 ⟨rfl, hy0, hb, hkp⟩; refine ⟨_, rfl, ?_⟩; have n0_ := Aside0.mk (blk_kept (by (with_reducible repeat (first | refine bN ?_ _ | refine bD ?_ | refine bA ?_ _)); exact BK306.out) hkp (fun hs_ => (fun e_ => (Kd.R_ne HO348.out BK306.out (by decide)) e_) hs_)); have n1_ := Aside0.mk (Kd.R_mono (ok' := fun k_ => some k_ ≠ (.slice Ao45 t342.length co45 : Value).ownBlock ∧ some k_ ≠ (.slice Ao51 t372.length co51 : Value).ownBlock) (Kd.R_keptB ((Kd.R_apart' HO336.out (Kd.R_typed HO348.out) (by decide))) hkp (fun k_ hk_ hs_ => by first | exact (hk_.2) hs_ | (revert hk_ hs_; simp +contextual))) (fun k_ hk_ => by first | exact ⟨hk_.1.1.1, hk_.1.1.2⟩ | (revert hk_; simp +contextual))); have n2_ := Aside0.mk (Kd.R_mono (ok' := fun k_ => some k_ ≠ (.slice Ao47 t346.length co47 : Value).ownBlock) (Kd.R_keptB (HO339.out) hkp (fun k_ hk_ hs_ => (hk_) hs_)) (fun k_ hk_ => by first | exact hk_.1 | (revert hk_; simp +contextual))); have n3_ := Aside0.mk (Kd.R_mono (ok' := fun k_ => some k_ ≠ (.slice Ao38 t334.length co38 : Value).ownBlock ∧ some k_ ≠ (.slice Ao51 t372.length co51 : Value).ownBlock) (Kd.R_keptB ((Kd.R_apart' HO344.out (Kd.R_typed HO348.out) (by decide))) hkp (fun k_ hk_ hs_ => by first | exact (hk_.2) hs_ | (revert hk_ hs_; simp +contextual))) (fun k_ hk_ => by first | exact ⟨hk_.1.1.1.2, hk_.1.1.2⟩ | (revert hk_; simp +contextual))); have n4_ := Aside0.mk (blk_kept (by (with_reducible repeat (first | refine bN ?_ _ | refine bD ?_ | refine bA ?_ _)); exact BK345.out) hkp (fun hs_ => (fun e_ => (Kd.R_ne HO348.out BK345.out (by decide)) e_) hs_)); have n5_ := Aside0.mk (Kd.R_reok rfl hy0 (fun k_ e_ => HO348.out.1 k_ e_)); have n6_ := Aside0.mk (Kd.R_mono (ok' := fun k_ => some k_ ≠ (.slice Ao38 t334.length co38 : Value).ownBlock ∧ some k_ ≠ (.slice Ao45 t342.length co45 : Value).ownBlock) (Kd.R_keptB ((Kd.R_apart' HO374.out (Kd.R_typed HO348.out) (by decide))) hkp (fun k_ hk_ hs_ => by first | exact (hk_.2) hs_ | (revert hk_ hs_; simp +contextual))) (fun k_ hk_ => by first | exact ⟨hk_.1.1.1, hk_.1.1.2⟩ | (revert hk_; simp +contextual))); have n7_ := Aside0.mk (hb); clear BK306; clear HO336; clear HO339; clear HO344; clear BK345; clear HO348; clear HO374; clear HB; have BK306 := n0_; have HO336 := n1_; have HO339 := n2_; have HO344 := n3_; have BK345 := n4_; have HO348 := n5_; have HO374 := n6_; have HB := n7_; clear n0_ n1_ n2_ n3_ n4_ n5_ n6_ n7_; (try clear hb); (try clear hkp); (try clear hy0)) | ((with_reducible refine gate_callee (f := 55) rfl ?_); refine goesL_ (some 67) rfl rfl Try.func55 (by kernel_rfl) rfl #[.slice Ao47 t412.length co47, .int .i64 1] rfl (by (try simp only [List.map_toArray, List.map_cons, List.map_nil]); first | done | (rw [show t412.length = t346.length from (Kd.R_reads' HO348.out).1.symm] <;> rfl) | rfl | (simp only [List.length_drop, List.length_take]; rfl)) ?_; (with_reducible refine (laws_heldIntS.calls k _ _ t412 1 t413 _ ?side1 ?side2 A22.out).mono ?_); (case side1 => repeat (first | exact (Kd.R_reads' HO348.out).2.2 | (with_reducible refine Kd.C_alloc ?_ _) | (with_reducible refine Kd.C_drewN ?_ _) | (with_reducible refine Kd.C_drew ?_))); (case side2 => rw [show t412.length = t346.length from (Kd.R_reads' HO348.out).1.symm]; exact (Kd.R_reads' HO348.out).2.1); rintro e w' ⟨rfl, ⟨nd, rfl⟩⟩; refine ⟨_, rfl, ?_⟩; have hcz56_0 : w55.cell? ⟨gb306, 0, none⟩ = some (.int .i64 a0_0) := (blk_cell BK306.out 0).trans rfl; have hcz56_1 : w55.cell? ⟨gb306, 1, none⟩ = some (.slice A0_1 l0_1.length c0_1) := (blk_cell BK306.out 1).trans rfl; have hfz56_0 := blk_frozen BK306.out 0; have hfz56_1 := blk_frozen BK306.out 1) | ((with_reducible refine gate_callee (f := 26) rfl ?_); refine goesL_ (some 75) rfl rfl Try.func26 (by kernel_rfl) rfl #[.agg #[.int .i64 a0_0, .slice A0_1 l0_1.length c0_1]] rfl (by (try simp only [List.map_toArray, List.map_cons, List.map_nil]); first | done | rfl | (simp only [List.length_drop, List.length_take]; rfl)) ?_; (with_reducible refine (laws_toPuzzle.calls k a0_0 _ _ l0_1 t434 t435 _ ?side1 ?side2 A25.out).mono ?_); (case side1 => repeat (first | exact (Kd.C_below HR0_1.out (by repeat (first | (with_reducible first | exact HB.out | apply below_alloc | apply pw_below_drewN | apply below_drew1) | exact HB.out))) | (with_reducible refine Kd.C_alloc ?_ _) | (with_reducible refine Kd.C_drewN ?_ _) | (with_reducible refine Kd.C_drew ?_))); (case side2 => exact HC0_1.out); rintro e w57 ⟨v436, rfl, ho0, hb⟩; refine ⟨_, rfl, ?_⟩; have n0_ := Aside0.mk (Kd.R_elder' (by (with_reducible repeat (first | apply Kd.R_alloc | apply Kd.R_drewN | apply Kd.R_drew)); exact HO336.out) (Kd.R_base ho0) hb); have n1_ := Aside0.mk (Kd.R_below (by (with_reducible repeat (first | apply Kd.R_alloc | apply Kd.R_drewN | apply Kd.R_drew)); exact HO339.out) hb); have n2_ := Aside0.mk (Kd.R_elder' (by (with_reducible repeat (first | apply Kd.R_alloc | apply Kd.R_drewN | apply Kd.R_drew)); exact HO344.out) (Kd.R_base ho0) hb); have n3_ := Aside0.mk (Kd.R_below (by (with_reducible repeat (first | apply Kd.R_alloc | apply Kd.R_drewN | apply Kd.R_drew)); exact HO348.out) hb); have n4_ := Aside0.mk (Kd.R_elder' (by (with_reducible repeat (first | apply Kd.R_alloc | apply Kd.R_drewN | apply Kd.R_drew)); exact HO374.out) (Kd.R_base ho0) hb); have n5_ := Aside0.mk (Kd.R_lower (Kd.R_new' (Kd.R_new' (Kd.R_new' ho0 (Kd.R_lt (by (with_reducible repeat (first | apply Kd.R_alloc | apply Kd.R_drewN | apply Kd.R_drew)); exact HO336.out))) (Kd.R_lt (by (with_reducible repeat (first | apply Kd.R_alloc | apply Kd.R_drewN | apply Kd.R_drew)); exact HO344.out))) (Kd.R_lt (by (with_reducible repeat (first | apply Kd.R_alloc | apply Kd.R_drewN | apply Kd.R_drew)); exact HO374.out))) (below_size (by repeat (first | (with_reducible first | exact HB.out | apply below_alloc | apply pw_below_drewN | apply below_drew1) | exact HB.out)))); have n6_ := Aside0.mk (blk_below (g := gb306) (o := .cells #[.int .i64 a0_0, .slice A0_1 l0_1.length c0_1] 31 (0, 0)) (by (with_reducible repeat (first | refine bN ?_ _ | refine bD ?_ | refine bA ?_ _)); exact BK306.out) hb); have n7_ := Aside0.mk (blk_below (g := gb345) (o := .cells #[.int .i64 t341, .slice Ao45 t342.length co45] 36 (0, 0)) (by (with_reducible repeat (first | refine bN ?_ _ | refine bD ?_ | refine bA ?_ _)); exact BK345.out) hb); have n8_ := Aside0.mk (below_step (by repeat (first | (with_reducible first | exact HB.out | apply below_alloc | apply pw_below_drewN | apply below_drew1) | exact HB.out)) hb); clear HO336; clear HO339; clear HO344; clear HO348; clear HO374; clear BK306; clear BK345; clear HB; have HO336 := n0_; have HO339 := n1_; have HO344 := n2_; have HO348 := n3_; have HO374 := n4_; have HO437 := n5_; have BK306 := n6_; have BK345 := n7_; have HB := n8_; clear n0_ n1_ n2_ n3_ n4_ n5_ n6_ n7_ n8_; (try clear hb); (try clear hb2); (try clear hk); (try clear hi); (try clear ho0); obtain ⟨Ao58, co58, eo58⟩ := Kd.R_slice HO437.out; subst eo58) | ((with_reducible refine gate_callee (f := 64) rfl ?_); refine goesL_ (some 76) rfl rfl Try.func64 (by kernel_rfl) rfl #[.agg #[.int .i64 t434, .slice Ao58 t435.length co58]] rfl (by (try simp only [List.map_toArray, List.map_cons, List.map_nil]); first | done | rfl | (simp only [List.length_drop, List.length_take]; rfl)) ?_; (with_reducible refine (impl_SureNumbers.calls k t434 _ _ t435 t438 t441 _ ?side1 ?side2 A26.out).mono ?_); (case side1 => repeat (first | exact (Kd.R_reads' HO437.out).2.2 | (with_reducible refine Kd.C_alloc ?_ _) | (with_reducible refine Kd.C_drewN ?_ _) | (with_reducible refine Kd.C_drew ?_))); (case side2 => exact (Kd.R_reads' HO437.out).2.1); rintro e w59 ⟨v439, rfl, ho0, hb⟩; refine ⟨_, rfl, ?_⟩; have n0_ := Aside0.mk (Kd.R_below (by (with_reducible repeat (first | apply Kd.R_alloc | apply Kd.R_drewN | apply Kd.R_drew)); exact HO336.out) hb); have n1_ := Aside0.mk (Kd.R_elder' (by (with_reducible repeat (first | apply Kd.R_alloc | apply Kd.R_drewN | apply Kd.R_drew)); exact HO339.out) (Kd.R_base ho0) hb); have n2_ := Aside0.mk (Kd.R_below (by (with_reducible repeat (first | apply Kd.R_alloc | apply Kd.R_drewN | apply Kd.R_drew)); exact HO344.out) hb); have n3_ := Aside0.mk (Kd.R_elder' (by (with_reducible repeat (first | apply Kd.R_alloc | apply Kd.R_drewN | apply Kd.R_drew)); exact HO348.out) (Kd.R_base ho0) hb); have n4_ := Aside0.mk (Kd.R_below (by (with_reducible repeat (first | apply Kd.R_alloc | apply Kd.R_drewN | apply Kd.R_drew)); exact HO374.out) hb); have n5_ := Aside0.mk (Kd.R_below (by (with_reducible repeat (first | apply Kd.R_alloc | apply Kd.R_drewN | apply Kd.R_drew)); exact HO437.out) hb); have n6_ := Aside0.mk (Kd.R_lower (Kd.R_new' (Kd.R_new' ho0 (Kd.R_lt (by (with_reducible repeat (first | apply Kd.R_alloc | apply Kd.R_drewN | apply Kd.R_drew)); exact HO339.out))) (Kd.R_lt (by (with_reducible repeat (first | apply Kd.R_alloc | apply Kd.R_drewN | apply Kd.R_drew)); exact HO348.out))) (below_size (by repeat (first | (with_reducible first | exact HB.out | apply below_alloc | apply pw_below_drewN | apply below_drew1) | exact HB.out)))); have n7_ := Aside0.mk (blk_below (g := gb306) (o := .cells #[.int .i64 a0_0, .slice A0_1 l0_1.length c0_1] 31 (0, 0)) (by (with_reducible repeat (first | refine bN ?_ _ | refine bD ?_ | refine bA ?_ _)); exact BK306.out) hb); have n8_ := Aside0.mk (blk_below (g := gb345) (o := .cells #[.int .i64 t341, .slice Ao45 t342.length co45] 36 (0, 0)) (by (with_reducible repeat (first | refine bN ?_ _ | refine bD ?_ | refine bA ?_ _)); exact BK345.out) hb); have n9_ := Aside0.mk (below_step (by repeat (first | (with_reducible first | exact HB.out | apply below_alloc | apply pw_below_drewN | apply below_drew1) | exact HB.out)) hb); clear HO336; clear HO339; clear HO344; clear HO348; clear HO374; clear HO437; clear BK306; clear BK345; clear HB; have HO336 := n0_; have HO339 := n1_; have HO344 := n2_; have HO348 := n3_; have HO374 := n4_; have HO437 := n5_; have HO440 := n6_; have BK306 := n7_; have BK345 := n8_; have HB := n9_; clear n0_ n1_ n2_ n3_ n4_ n5_ n6_ n7_ n8_ n9_; (try clear hb); (try clear hb2); (try clear hk); (try clear hi); (try clear ho0); obtain ⟨Ao60, co60, eo60⟩ := Kd.R_slice HO440.out; subst eo60) | ((with_reducible refine gate_callee (f := 43) rfl ?_); refine goesL_ (some 81) rfl rfl Try.func43 (by kernel_rfl) rfl #[.slice Ao60 t438.length co60, .slice Ao48 t337.length co48] rfl (by (try simp only [List.map_toArray, List.map_cons, List.map_nil]); first | done | rfl | (simp only [List.length_drop, List.length_take]; rfl)) ?_; (with_reducible refine (laws_eqIntS.calls k _ _ t438 _ _ t337 true _ ?side1 ?side2 ?side3 ?side4 A27.out).mono ?_); (case side1 => repeat (first | exact (Kd.R_reads' HO440.out).2.2 | (with_reducible refine Kd.C_alloc ?_ _) | (with_reducible refine Kd.C_drewN ?_ _) | (with_reducible refine Kd.C_drew ?_))); (case side2 => exact (Kd.R_reads' HO440.out).2.1); (case side3 => repeat (first | exact (Kd.R_reads' HO339.out).2.2 | (with_reducible refine Kd.C_alloc ?_ _) | (with_reducible refine Kd.C_drewN ?_ _) | (with_reducible refine Kd.C_drew ?_))); (case side4 => exact (Kd.R_reads' HO339.out).2.1); rintro e w' ⟨rfl, ⟨nd, rfl⟩⟩; refine ⟨_, rfl, ?_⟩) | ((with_reducible refine gate_callee (f := 55) rfl ?_); refine goesL_ (some 90) rfl rfl Try.func55 (by kernel_rfl) rfl #[.slice Ao47 t412.length co47, .int .i64 1] rfl (by (try simp only [List.map_toArray, List.map_cons, List.map_nil]); first | done | (rw [show t412.length = t346.length from (Kd.R_reads' HO348.out).1.symm] <;> rfl) | rfl | (simp only [List.length_drop, List.length_take]; rfl)) ?_; (with_reducible refine (laws_heldIntS.calls k _ _ t412 1 t445 _ ?side1 ?side2 A30.out).mono ?_); (case side1 => repeat (first | exact (Kd.R_reads' HO348.out).2.2 | (with_reducible refine Kd.C_alloc ?_ _) | (with_reducible refine Kd.C_drewN ?_ _) | (with_reducible refine Kd.C_drew ?_))); (case side2 => rw [show t412.length = t346.length from (Kd.R_reads' HO348.out).1.symm]; exact (Kd.R_reads' HO348.out).2.1); rintro e w' ⟨rfl, ⟨nd, rfl⟩⟩; refine ⟨_, rfl, ?_⟩))
  go_ret
  exact ⟨by first | rfl | (simp [errW_none, errW_some] <;> rfl) | (simp [*, errW_none, errW_some] <;> rfl), by repeat (first | (with_reducible first | exact HB.out | apply below_alloc | apply pw_below_drewN | apply below_drew1) | exact HB.out)⟩

/-- THE ONE PURE STATEMENT of laws_FnExactSureNumbers: yours. -/
def laws_FnExactSureNumbers.Pure : Prop := ∀ (a0_0 : Int) (l0_1 : List (S41)), (Lit.int .i64 a0_0).wf = true → l0_1.length ≤ maxLen → (∀ x ∈ l0_1, (Lit.int .i64 x.f0).wf = true ∧ (Lit.int .i64 x.f1).wf = true ∧ (Lit.int .i64 x.f2).wf = true) → ∃ k, laws_FnExactSureNumbers.f k a0_0 l0_1 = some true
theorem laws_FnExactSureNumbers.walk : True := trivial

end Go.Proofs.Ytdddmkdidegngaa.PFnExactSureNumbers
