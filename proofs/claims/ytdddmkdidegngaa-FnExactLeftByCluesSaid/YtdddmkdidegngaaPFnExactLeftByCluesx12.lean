/- The functions that a law reaches, and proofs that the Go code comes to just their answers: written by a program of this session out of the translation. Conditions: those that each theorem states. -/
import Derived.Test.YtdddmkdidegngaaPFnExactLeftByCluesx0
import Derived.Test.YtdddmkdidegngaaPFnExactLeftByCluesx1
import Derived.Test.YtdddmkdidegngaaPFnExactLeftByCluesx2
import Derived.Test.YtdddmkdidegngaaPFnExactLeftByCluesx6
import Derived.Test.YtdddmkdidegngaaPFnExactLeftByCluesx11
namespace Go.Proofs.Ytdddmkdidegngaa.PFnExactLeftByClues
open Go.RowKit Go.Proofs.YtdddmkdidegngaaW.PrintWords Go.Proofs.YtdddmkdidegngaaW.PrintLast Go.Proofs.YtdddmkdidegngaaW.PrintMore
attribute [local go_sem] max2_int min2_int max_two min_two max_three min_three max_four min_four   -- for this text's walks alone
set_option linter.unusedVariables false
set_option linter.unusedSimpArgs false

/-! ### laws_FnExactLeftByClues: function 13 -/
def laws_FnExactLeftByClues.f (k : Nat) (a0_0 : Int) (l0_1 : List (S41)) : Option (Bool) := (laws_szPuzzle.f a0_0 l0_1 1048576).bind fun t303 => (if t303 < 0 then (some true) else ((laws_toPuzzle.f k a0_0 l0_1).bind fun bt329 => ((spec_LeftByClues.f k bt329.1 bt329.2).bind fun bt333 => ((laws_toPuzzle.f k a0_0 l0_1).bind fun bt337 => ((impl_LeftByClues.f k bt337.1 bt337.2).bind fun bt342 => ((laws_eqIntS.f k bt342.1 bt333.1).bind fun t346 => (if t346 = true then (if (bt342.2 != bt333.2) = true then (some false) else ((laws_toPuzzle.f k a0_0 l0_1).bind fun bt367 => ((laws_eqPuzzle.f k bt337.1 bt337.2 bt367.1 bt367.2).bind fun t371 => (if t371 = true then ((laws_markPuzzle.f k bt337.1 bt337.2 1).bind fun bt378 => (if bt378.1 < 0 then (some false) else ((laws_eqIntS.f k bt342.1 bt333.1).bind fun t380 => (if t380 = true then ((laws_markIntS.f k bt342.1 1).bind fun bt407 => ((laws_heldIntS.f k bt407.2 1).bind fun t409 => (if t409 < 0 then (some false) else (if t409 = bt407.1 then ((laws_toPuzzle.f k a0_0 l0_1).bind fun bt430 => ((impl_LeftByClues.f k bt430.1 bt430.2).bind fun bt434 => ((laws_eqIntS.f k bt434.1 bt333.1).bind fun t438 => (if t438 = true then (if (bt434.2 != bt333.2) = true then (some false) else ((laws_heldIntS.f k bt407.2 1).bind fun t441 => (if t441 < 0 then (some false) else (if t441 = bt407.1 then (some true) else (some false))))) else (some false))))) else (some false))))) else (some false))))) else (some false))))) else (some false))))))))
set_option maxHeartbeats 8000000 in
set_option maxRecDepth 100000 in
theorem laws_FnExactLeftByClues.calls (k : Nat) (a0_0 : Int) (A0_1 : Option Addr) (c0_1 : Nat) (l0_1 : List (S41)) (w : World) (hr0_1 : Kd.C k41 w A0_1 l0_1.length l0_1) (hc0_1 : l0_1.length ≤ c0_1) (h : laws_FnExactLeftByClues.f k a0_0 l0_1 = some true) :
    Calls Try.prog 13 #[.agg #[.int .i64 a0_0, .slice A0_1 l0_1.length c0_1]] w fun e w' => e = .returned (.bool true) ∧ Below w.heap.size w w' := by
 have hu31 := Try.underlying31
 have hu36 := Try.underlying36
 have HR0_1 := Aside0.mk hr0_1
 have HC0_1 := Aside0.mk hc0_1
 clear hr0_1 hc0_1
 have HB := Aside0.mk (Below.refl w.heap.size w)
 have H : ((laws_szPuzzle.f a0_0 l0_1 1048576).bind fun t303 => (if t303 < 0 then (some true) else ((laws_toPuzzle.f k a0_0 l0_1).bind fun bt329 => ((spec_LeftByClues.f k bt329.1 bt329.2).bind fun bt333 => ((laws_toPuzzle.f k a0_0 l0_1).bind fun bt337 => ((impl_LeftByClues.f k bt337.1 bt337.2).bind fun bt342 => ((laws_eqIntS.f k bt342.1 bt333.1).bind fun t346 => (if t346 = true then (if (bt342.2 != bt333.2) = true then (some false) else ((laws_toPuzzle.f k a0_0 l0_1).bind fun bt367 => ((laws_eqPuzzle.f k bt337.1 bt337.2 bt367.1 bt367.2).bind fun t371 => (if t371 = true then ((laws_markPuzzle.f k bt337.1 bt337.2 1).bind fun bt378 => (if bt378.1 < 0 then (some false) else ((laws_eqIntS.f k bt342.1 bt333.1).bind fun t380 => (if t380 = true then ((laws_markIntS.f k bt342.1 1).bind fun bt407 => ((laws_heldIntS.f k bt407.2 1).bind fun t409 => (if t409 < 0 then (some false) else (if t409 = bt407.1 then ((laws_toPuzzle.f k a0_0 l0_1).bind fun bt430 => ((impl_LeftByClues.f k bt430.1 bt430.2).bind fun bt434 => ((laws_eqIntS.f k bt434.1 bt333.1).bind fun t438 => (if t438 = true then (if (bt434.2 != bt333.2) = true then (some false) else ((laws_heldIntS.f k bt407.2 1).bind fun t441 => (if t441 < 0 then (some false) else (if t441 = bt407.1 then (some true) else (some false))))) else (some false))))) else (some false))))) else (some false))))) else (some false))))) else (some false))))))))) = some true := h
 clear h
 replace H := Option.bind_eq_some_iff.mp H
 obtain ⟨t303, A20, H⟩ := H
 replace H : (if t303 < 0 then (some true) else ((laws_toPuzzle.f k a0_0 l0_1).bind fun bt329 => ((spec_LeftByClues.f k bt329.1 bt329.2).bind fun bt333 => ((laws_toPuzzle.f k a0_0 l0_1).bind fun bt337 => ((impl_LeftByClues.f k bt337.1 bt337.2).bind fun bt342 => ((laws_eqIntS.f k bt342.1 bt333.1).bind fun t346 => (if t346 = true then (if (bt342.2 != bt333.2) = true then (some false) else ((laws_toPuzzle.f k a0_0 l0_1).bind fun bt367 => ((laws_eqPuzzle.f k bt337.1 bt337.2 bt367.1 bt367.2).bind fun t371 => (if t371 = true then ((laws_markPuzzle.f k bt337.1 bt337.2 1).bind fun bt378 => (if bt378.1 < 0 then (some false) else ((laws_eqIntS.f k bt342.1 bt333.1).bind fun t380 => (if t380 = true then ((laws_markIntS.f k bt342.1 1).bind fun bt407 => ((laws_heldIntS.f k bt407.2 1).bind fun t409 => (if t409 < 0 then (some false) else (if t409 = bt407.1 then ((laws_toPuzzle.f k a0_0 l0_1).bind fun bt430 => ((impl_LeftByClues.f k bt430.1 bt430.2).bind fun bt434 => ((laws_eqIntS.f k bt434.1 bt333.1).bind fun t438 => (if t438 = true then (if (bt434.2 != bt333.2) = true then (some false) else ((laws_heldIntS.f k bt407.2 1).bind fun t441 => (if t441 < 0 then (some false) else (if t441 = bt407.1 then (some true) else (some false))))) else (some false))))) else (some false))))) else (some false))))) else (some false))))) else (some false)))))))) = some true := H
 have A2 := Aside0.mk A20
 clear A20
 by_cases c3 : t303 < 0
 ·rw [if_pos c3] at H
  have c3b0 : decide (t303 < 0) = true := decide_eq_true c3
  clear c3
  clear H
  go_enter Try.func13, Try.ntmps13
  go_wp2_with (first | ((with_reducible refine gate_dst (N := 1) rfl ?_); refine box_event ?hg (N := 1) ?hd (cs := #[.int .i64 a0_0, .slice A0_1 l0_1.length c0_1]) (t := 31) ?hr ?_; (case hd => rfl); (case hg => rfl); (case hr => first | (go_simp; done) | (go_simp; rfl)); intro gb302 hg w4 hbox hb; have n0_ := Aside0.mk (below_step (by repeat (first | (with_reducible first | exact HB.out | apply below_alloc | apply pw_below_drewN | apply below_drew1) | exact HB.out)) hb); have n1_ := Aside0.mk (hbox); have n2_ := Aside0.mk ((by rw [hg]; exact (below_size (by repeat (first | (with_reducible first | exact HB.out | apply below_alloc | apply pw_below_drewN | apply below_drew1) | exact HB.out))) : w.heap.size ≤ gb302)); have n3_ := Aside0.mk ((by rw [hg]; exact (below_size (by repeat (first | (with_reducible first | exact HB.out | apply below_alloc | apply pw_below_drewN | apply below_drew1) | exact HB.out))) : w.heap.size ≤ gb302)); clear HB; have HB := n0_; have BK302 := n1_; have GW302 := n2_; have GE302 := n3_; clear n0_ n1_ n2_ n3_; clear hb hbox hg; have hcz5_0 : w4.cell? ⟨gb302, 0, none⟩ = some (.int .i64 a0_0) := (blk_cell BK302.out 0).trans rfl; have hcz5_1 : w4.cell? ⟨gb302, 1, none⟩ = some (.slice A0_1 l0_1.length c0_1) := (blk_cell BK302.out 1).trans rfl; have hfz5_0 := blk_frozen BK302.out 0; have hfz5_1 := blk_frozen BK302.out 1) | ((with_reducible refine gate_callee (f := 24) rfl ?_); refine goesL_ (some 16) rfl rfl Try.func24 (by kernel_rfl) rfl #[.agg #[.int .i64 a0_0, .slice A0_1 l0_1.length c0_1], .int .i64 1048576] rfl (by (try simp only [List.map_toArray, List.map_cons, List.map_nil]); first | done | rfl | (simp only [List.length_drop, List.length_take]; rfl)) ?_; (with_reducible refine (laws_szPuzzle.calls a0_0 _ _ l0_1 1048576 t303 _ ?side1 ?side2 A2.out).mono ?_); (case side1 => repeat (first | exact (Kd.C_below HR0_1.out HB.out) | (with_reducible refine Kd.C_alloc ?_ _) | (with_reducible refine Kd.C_drewN ?_ _) | (with_reducible refine Kd.C_drew ?_))); (case side2 => exact HC0_1.out); rintro e w6 ⟨rfl, hb⟩; refine ⟨_, rfl, ?_⟩; have n0_ := Aside0.mk (blk_below (g := gb302) (o := .cells #[.int .i64 a0_0, .slice A0_1 l0_1.length c0_1] 31 (0, 0)) (by (with_reducible repeat (first | refine bN ?_ _ | refine bD ?_ | refine bA ?_ _)); exact BK302.out) hb); have n1_ := Aside0.mk (below_step (by repeat (first | (with_reducible first | exact HB.out | apply below_alloc | apply pw_below_drewN | apply below_drew1) | exact HB.out)) hb); clear BK302; clear HB; have BK302 := n0_; have HB := n1_; clear n0_ n1_; (try clear hb); (try clear hb2); (try clear hk); (try clear hi)))
  go_ret
  exact ⟨by first | rfl | (simp [errW_none, errW_some] <;> rfl) | (simp [*, errW_none, errW_some] <;> rfl), by repeat (first | (with_reducible first | exact HB.out | apply below_alloc | apply pw_below_drewN | apply below_drew1) | exact HB.out)⟩
 ·rw [if_neg c3] at H
  have c3b0 : decide (t303 < 0) = false := decide_eq_false c3
  clear c3
  replace H := Option.bind_eq_some_iff.mp H
  obtain ⟨⟨t329, t330⟩, A70, H⟩ := H
  replace H : ((spec_LeftByClues.f k t329 t330).bind fun bt333 => ((laws_toPuzzle.f k a0_0 l0_1).bind fun bt337 => ((impl_LeftByClues.f k bt337.1 bt337.2).bind fun bt342 => ((laws_eqIntS.f k bt342.1 bt333.1).bind fun t346 => (if t346 = true then (if (bt342.2 != bt333.2) = true then (some false) else ((laws_toPuzzle.f k a0_0 l0_1).bind fun bt367 => ((laws_eqPuzzle.f k bt337.1 bt337.2 bt367.1 bt367.2).bind fun t371 => (if t371 = true then ((laws_markPuzzle.f k bt337.1 bt337.2 1).bind fun bt378 => (if bt378.1 < 0 then (some false) else ((laws_eqIntS.f k bt342.1 bt333.1).bind fun t380 => (if t380 = true then ((laws_markIntS.f k bt342.1 1).bind fun bt407 => ((laws_heldIntS.f k bt407.2 1).bind fun t409 => (if t409 < 0 then (some false) else (if t409 = bt407.1 then ((laws_toPuzzle.f k a0_0 l0_1).bind fun bt430 => ((impl_LeftByClues.f k bt430.1 bt430.2).bind fun bt434 => ((laws_eqIntS.f k bt434.1 bt333.1).bind fun t438 => (if t438 = true then (if (bt434.2 != bt333.2) = true then (some false) else ((laws_heldIntS.f k bt407.2 1).bind fun t441 => (if t441 < 0 then (some false) else (if t441 = bt407.1 then (some true) else (some false))))) else (some false))))) else (some false))))) else (some false))))) else (some false))))) else (some false)))))) = some true := H
  have A7 := Aside0.mk A70
  clear A70
  replace H := Option.bind_eq_some_iff.mp H
  obtain ⟨⟨t333, t336⟩, A80, H⟩ := H
  replace H : ((laws_toPuzzle.f k a0_0 l0_1).bind fun bt337 => ((impl_LeftByClues.f k bt337.1 bt337.2).bind fun bt342 => ((laws_eqIntS.f k bt342.1 t333).bind fun t346 => (if t346 = true then (if (bt342.2 != t336) = true then (some false) else ((laws_toPuzzle.f k a0_0 l0_1).bind fun bt367 => ((laws_eqPuzzle.f k bt337.1 bt337.2 bt367.1 bt367.2).bind fun t371 => (if t371 = true then ((laws_markPuzzle.f k bt337.1 bt337.2 1).bind fun bt378 => (if bt378.1 < 0 then (some false) else ((laws_eqIntS.f k bt342.1 t333).bind fun t380 => (if t380 = true then ((laws_markIntS.f k bt342.1 1).bind fun bt407 => ((laws_heldIntS.f k bt407.2 1).bind fun t409 => (if t409 < 0 then (some false) else (if t409 = bt407.1 then ((laws_toPuzzle.f k a0_0 l0_1).bind fun bt430 => ((impl_LeftByClues.f k bt430.1 bt430.2).bind fun bt434 => ((laws_eqIntS.f k bt434.1 t333).bind fun t438 => (if t438 = true then (if (bt434.2 != t336) = true then (some false) else ((laws_heldIntS.f k bt407.2 1).bind fun t441 => (if t441 < 0 then (some false) else (if t441 = bt407.1 then (some true) else (some false))))) else (some false))))) else (some false))))) else (some false))))) else (some false))))) else (some false))))) = some true := H
  have A8 := Aside0.mk A80
  clear A80
  replace H := Option.bind_eq_some_iff.mp H
  obtain ⟨⟨t337, t338⟩, A90, H⟩ := H
  replace H : ((impl_LeftByClues.f k t337 t338).bind fun bt342 => ((laws_eqIntS.f k bt342.1 t333).bind fun t346 => (if t346 = true then (if (bt342.2 != t336) = true then (some false) else ((laws_toPuzzle.f k a0_0 l0_1).bind fun bt367 => ((laws_eqPuzzle.f k t337 t338 bt367.1 bt367.2).bind fun t371 => (if t371 = true then ((laws_markPuzzle.f k t337 t338 1).bind fun bt378 => (if bt378.1 < 0 then (some false) else ((laws_eqIntS.f k bt342.1 t333).bind fun t380 => (if t380 = true then ((laws_markIntS.f k bt342.1 1).bind fun bt407 => ((laws_heldIntS.f k bt407.2 1).bind fun t409 => (if t409 < 0 then (some false) else (if t409 = bt407.1 then ((laws_toPuzzle.f k a0_0 l0_1).bind fun bt430 => ((impl_LeftByClues.f k bt430.1 bt430.2).bind fun bt434 => ((laws_eqIntS.f k bt434.1 t333).bind fun t438 => (if t438 = true then (if (bt434.2 != t336) = true then (some false) else ((laws_heldIntS.f k bt407.2 1).bind fun t441 => (if t441 < 0 then (some false) else (if t441 = bt407.1 then (some true) else (some false))))) else (some false))))) else (some false))))) else (some false))))) else (some false))))) else (some false)))) = some true := H
  have A9 := Aside0.mk A90
  clear A90
  replace H := Option.bind_eq_some_iff.mp H
  obtain ⟨⟨t342, t345⟩, A100, H⟩ := H
  replace H : ((laws_eqIntS.f k t342 t333).bind fun t346 => (if t346 = true then (if (t345 != t336) = true then (some false) else ((laws_toPuzzle.f k a0_0 l0_1).bind fun bt367 => ((laws_eqPuzzle.f k t337 t338 bt367.1 bt367.2).bind fun t371 => (if t371 = true then ((laws_markPuzzle.f k t337 t338 1).bind fun bt378 => (if bt378.1 < 0 then (some false) else ((laws_eqIntS.f k t342 t333).bind fun t380 => (if t380 = true then ((laws_markIntS.f k t342 1).bind fun bt407 => ((laws_heldIntS.f k bt407.2 1).bind fun t409 => (if t409 < 0 then (some false) else (if t409 = bt407.1 then ((laws_toPuzzle.f k a0_0 l0_1).bind fun bt430 => ((impl_LeftByClues.f k bt430.1 bt430.2).bind fun bt434 => ((laws_eqIntS.f k bt434.1 t333).bind fun t438 => (if t438 = true then (if (bt434.2 != t336) = true then (some false) else ((laws_heldIntS.f k bt407.2 1).bind fun t441 => (if t441 < 0 then (some false) else (if t441 = bt407.1 then (some true) else (some false))))) else (some false))))) else (some false))))) else (some false))))) else (some false))))) else (some false))) = some true := H
  have A10 := Aside0.mk A100
  clear A100
  replace H := Option.bind_eq_some_iff.mp H
  obtain ⟨t346, A110, H⟩ := H
  replace H : (if t346 = true then (if (t345 != t336) = true then (some false) else ((laws_toPuzzle.f k a0_0 l0_1).bind fun bt367 => ((laws_eqPuzzle.f k t337 t338 bt367.1 bt367.2).bind fun t371 => (if t371 = true then ((laws_markPuzzle.f k t337 t338 1).bind fun bt378 => (if bt378.1 < 0 then (some false) else ((laws_eqIntS.f k t342 t333).bind fun t380 => (if t380 = true then ((laws_markIntS.f k t342 1).bind fun bt407 => ((laws_heldIntS.f k bt407.2 1).bind fun t409 => (if t409 < 0 then (some false) else (if t409 = bt407.1 then ((laws_toPuzzle.f k a0_0 l0_1).bind fun bt430 => ((impl_LeftByClues.f k bt430.1 bt430.2).bind fun bt434 => ((laws_eqIntS.f k bt434.1 t333).bind fun t438 => (if t438 = true then (if (bt434.2 != t336) = true then (some false) else ((laws_heldIntS.f k bt407.2 1).bind fun t441 => (if t441 < 0 then (some false) else (if t441 = bt407.1 then (some true) else (some false))))) else (some false))))) else (some false))))) else (some false))))) else (some false))))) else (some false)) = some true := H
  have A11 := Aside0.mk A110
  clear A110
  by_cases c12 : t346 = true
  rotate_left
  ·replace c12 := Bool.eq_false_iff.mpr c12
   subst c12
   have H1 : (some false) = some true := by first | (rw [if_neg (show ¬ (false = true) by decide)] at H; exact H) | rfl
   clear H
   have H := H1
   clear H1
   exact absurd H (by simp)
  subst c12
  have H1 : (if (t345 != t336) = true then (some false) else ((laws_toPuzzle.f k a0_0 l0_1).bind fun bt367 => ((laws_eqPuzzle.f k t337 t338 bt367.1 bt367.2).bind fun t371 => (if t371 = true then ((laws_markPuzzle.f k t337 t338 1).bind fun bt378 => (if bt378.1 < 0 then (some false) else ((laws_eqIntS.f k t342 t333).bind fun t380 => (if t380 = true then ((laws_markIntS.f k t342 1).bind fun bt407 => ((laws_heldIntS.f k bt407.2 1).bind fun t409 => (if t409 < 0 then (some false) else (if t409 = bt407.1 then ((laws_toPuzzle.f k a0_0 l0_1).bind fun bt430 => ((impl_LeftByClues.f k bt430.1 bt430.2).bind fun bt434 => ((laws_eqIntS.f k bt434.1 t333).bind fun t438 => (if t438 = true then (if (bt434.2 != t336) = true then (some false) else ((laws_heldIntS.f k bt407.2 1).bind fun t441 => (if t441 < 0 then (some false) else (if t441 = bt407.1 then (some true) else (some false))))) else (some false))))) else (some false))))) else (some false))))) else (some false))))) = some true := by first | (rw [if_pos rfl] at H; exact H) | rfl
  clear H
  have H := H1
  clear H1
  by_cases c13 : (t345 != t336) = true
  ·rw [if_pos c13] at H
   have c13b0 : (t345 != t336) = true := c13
   (try (have c13b1 : decide (t345 = t336) = false := by simpa using c13))
   (try (have c13b2 : (t345 == t336) = false := by simpa using c13))
   (try (have c13b3 : ¬ (t345 = t336) := by simpa using c13))
   clear c13
   exact absurd H (by simp)
  rw [if_neg c13] at H
  have c13b0 : (t345 != t336) = false := by simpa using c13
  (try (have c13b1 : decide (t345 = t336) = true := by simpa using c13))
  (try (have c13b2 : (t345 == t336) = true := by simpa using c13))
  clear c13
  replace H := Option.bind_eq_some_iff.mp H
  obtain ⟨⟨t367, t368⟩, A140, H⟩ := H
  replace H : ((laws_eqPuzzle.f k t337 t338 t367 t368).bind fun t371 => (if t371 = true then ((laws_markPuzzle.f k t337 t338 1).bind fun bt378 => (if bt378.1 < 0 then (some false) else ((laws_eqIntS.f k t342 t333).bind fun t380 => (if t380 = true then ((laws_markIntS.f k t342 1).bind fun bt407 => ((laws_heldIntS.f k bt407.2 1).bind fun t409 => (if t409 < 0 then (some false) else (if t409 = bt407.1 then ((laws_toPuzzle.f k a0_0 l0_1).bind fun bt430 => ((impl_LeftByClues.f k bt430.1 bt430.2).bind fun bt434 => ((laws_eqIntS.f k bt434.1 t333).bind fun t438 => (if t438 = true then (if (bt434.2 != t336) = true then (some false) else ((laws_heldIntS.f k bt407.2 1).bind fun t441 => (if t441 < 0 then (some false) else (if t441 = bt407.1 then (some true) else (some false))))) else (some false))))) else (some false))))) else (some false))))) else (some false))) = some true := H
  have A14 := Aside0.mk A140
  clear A140
  replace H := Option.bind_eq_some_iff.mp H
  obtain ⟨t371, A150, H⟩ := H
  replace H : (if t371 = true then ((laws_markPuzzle.f k t337 t338 1).bind fun bt378 => (if bt378.1 < 0 then (some false) else ((laws_eqIntS.f k t342 t333).bind fun t380 => (if t380 = true then ((laws_markIntS.f k t342 1).bind fun bt407 => ((laws_heldIntS.f k bt407.2 1).bind fun t409 => (if t409 < 0 then (some false) else (if t409 = bt407.1 then ((laws_toPuzzle.f k a0_0 l0_1).bind fun bt430 => ((impl_LeftByClues.f k bt430.1 bt430.2).bind fun bt434 => ((laws_eqIntS.f k bt434.1 t333).bind fun t438 => (if t438 = true then (if (bt434.2 != t336) = true then (some false) else ((laws_heldIntS.f k bt407.2 1).bind fun t441 => (if t441 < 0 then (some false) else (if t441 = bt407.1 then (some true) else (some false))))) else (some false))))) else (some false))))) else (some false))))) else (some false)) = some true := H
  have A15 := Aside0.mk A150
  clear A150
  by_cases c16 : t371 = true
  rotate_left
  ·replace c16 := Bool.eq_false_iff.mpr c16
   subst c16
   have H1 : (some false) = some true := by first | (rw [if_neg (show ¬ (false = true) by decide)] at H; exact H) | rfl
   clear H
   have H := H1
   clear H1
   exact absurd H (by simp)
  subst c16
  have H1 : ((laws_markPuzzle.f k t337 t338 1).bind fun bt378 => (if bt378.1 < 0 then (some false) else ((laws_eqIntS.f k t342 t333).bind fun t380 => (if t380 = true then ((laws_markIntS.f k t342 1).bind fun bt407 => ((laws_heldIntS.f k bt407.2 1).bind fun t409 => (if t409 < 0 then (some false) else (if t409 = bt407.1 then ((laws_toPuzzle.f k a0_0 l0_1).bind fun bt430 => ((impl_LeftByClues.f k bt430.1 bt430.2).bind fun bt434 => ((laws_eqIntS.f k bt434.1 t333).bind fun t438 => (if t438 = true then (if (bt434.2 != t336) = true then (some false) else ((laws_heldIntS.f k bt407.2 1).bind fun t441 => (if t441 < 0 then (some false) else (if t441 = bt407.1 then (some true) else (some false))))) else (some false))))) else (some false))))) else (some false))))) = some true := by first | (rw [if_pos rfl] at H; exact H) | rfl
  clear H
  have H := H1
  clear H1
  replace H := Option.bind_eq_some_iff.mp H
  obtain ⟨⟨t378, t379⟩, A170, H⟩ := H
  replace H : (if t378 < 0 then (some false) else ((laws_eqIntS.f k t342 t333).bind fun t380 => (if t380 = true then ((laws_markIntS.f k t342 1).bind fun bt407 => ((laws_heldIntS.f k bt407.2 1).bind fun t409 => (if t409 < 0 then (some false) else (if t409 = bt407.1 then ((laws_toPuzzle.f k a0_0 l0_1).bind fun bt430 => ((impl_LeftByClues.f k bt430.1 bt430.2).bind fun bt434 => ((laws_eqIntS.f k bt434.1 t333).bind fun t438 => (if t438 = true then (if (bt434.2 != t336) = true then (some false) else ((laws_heldIntS.f k bt407.2 1).bind fun t441 => (if t441 < 0 then (some false) else (if t441 = bt407.1 then (some true) else (some false))))) else (some false))))) else (some false))))) else (some false)))) = some true := H
  have A17 := Aside0.mk A170
  clear A170
  by_cases c18 : t378 < 0
  ·rw [if_pos c18] at H
   have c18b0 : decide (t378 < 0) = true := decide_eq_true c18
   clear c18
   exact absurd H (by simp)
  rw [if_neg c18] at H
  have c18b0 : decide (t378 < 0) = false := decide_eq_false c18
  clear c18
  replace H := Option.bind_eq_some_iff.mp H
  obtain ⟨t380, A190, H⟩ := H
  replace H : (if t380 = true then ((laws_markIntS.f k t342 1).bind fun bt407 => ((laws_heldIntS.f k bt407.2 1).bind fun t409 => (if t409 < 0 then (some false) else (if t409 = bt407.1 then ((laws_toPuzzle.f k a0_0 l0_1).bind fun bt430 => ((impl_LeftByClues.f k bt430.1 bt430.2).bind fun bt434 => ((laws_eqIntS.f k bt434.1 t333).bind fun t438 => (if t438 = true then (if (bt434.2 != t336) = true then (some false) else ((laws_heldIntS.f k bt407.2 1).bind fun t441 => (if t441 < 0 then (some false) else (if t441 = bt407.1 then (some true) else (some false))))) else (some false))))) else (some false))))) else (some false)) = some true := H
  have A19 := Aside0.mk A190
  clear A190
  by_cases c20 : t380 = true
  rotate_left
  ·replace c20 := Bool.eq_false_iff.mpr c20
   subst c20
   have H1 : (some false) = some true := by first | (rw [if_neg (show ¬ (false = true) by decide)] at H; exact H) | rfl
   clear H
   have H := H1
   clear H1
   exact absurd H (by simp)
  subst c20
  have H1 : ((laws_markIntS.f k t342 1).bind fun bt407 => ((laws_heldIntS.f k bt407.2 1).bind fun t409 => (if t409 < 0 then (some false) else (if t409 = bt407.1 then ((laws_toPuzzle.f k a0_0 l0_1).bind fun bt430 => ((impl_LeftByClues.f k bt430.1 bt430.2).bind fun bt434 => ((laws_eqIntS.f k bt434.1 t333).bind fun t438 => (if t438 = true then (if (bt434.2 != t336) = true then (some false) else ((laws_heldIntS.f k bt407.2 1).bind fun t441 => (if t441 < 0 then (some false) else (if t441 = bt407.1 then (some true) else (some false))))) else (some false))))) else (some false))))) = some true := by first | (rw [if_pos rfl] at H; exact H) | rfl
  clear H
  have H := H1
  clear H1
  replace H := Option.bind_eq_some_iff.mp H
  obtain ⟨⟨t407, t408⟩, A210, H⟩ := H
  replace H : ((laws_heldIntS.f k t408 1).bind fun t409 => (if t409 < 0 then (some false) else (if t409 = t407 then ((laws_toPuzzle.f k a0_0 l0_1).bind fun bt430 => ((impl_LeftByClues.f k bt430.1 bt430.2).bind fun bt434 => ((laws_eqIntS.f k bt434.1 t333).bind fun t438 => (if t438 = true then (if (bt434.2 != t336) = true then (some false) else ((laws_heldIntS.f k t408 1).bind fun t441 => (if t441 < 0 then (some false) else (if t441 = t407 then (some true) else (some false))))) else (some false))))) else (some false)))) = some true := H
  have A21 := Aside0.mk A210
  clear A210
  replace H := Option.bind_eq_some_iff.mp H
  obtain ⟨t409, A220, H⟩ := H
  replace H : (if t409 < 0 then (some false) else (if t409 = t407 then ((laws_toPuzzle.f k a0_0 l0_1).bind fun bt430 => ((impl_LeftByClues.f k bt430.1 bt430.2).bind fun bt434 => ((laws_eqIntS.f k bt434.1 t333).bind fun t438 => (if t438 = true then (if (bt434.2 != t336) = true then (some false) else ((laws_heldIntS.f k t408 1).bind fun t441 => (if t441 < 0 then (some false) else (if t441 = t407 then (some true) else (some false))))) else (some false))))) else (some false))) = some true := H
  have A22 := Aside0.mk A220
  clear A220
  by_cases c23 : t409 < 0
  ·rw [if_pos c23] at H
   have c23b0 : decide (t409 < 0) = true := decide_eq_true c23
   clear c23
   exact absurd H (by simp)
  rw [if_neg c23] at H
  have c23b0 : decide (t409 < 0) = false := decide_eq_false c23
  clear c23
  by_cases c24 : t409 = t407
  rotate_left
  ·rw [if_neg c24] at H
   have c24b0 : (t409 == t407) = false := beq_eq_false_iff_ne.mpr c24
   have c24b1 : (t409 != t407) = true := bne_iff_ne.mpr c24
   exact absurd H (by simp)
  rw [if_pos c24] at H
  have c24b0 : (t409 == t407) = true := beq_iff_eq.mpr c24
  have c24b1 : (t409 != t407) = false := bne_eq_false_iff_eq.mpr c24
  clear c24
  replace H := Option.bind_eq_some_iff.mp H
  obtain ⟨⟨t430, t431⟩, A250, H⟩ := H
  replace H : ((impl_LeftByClues.f k t430 t431).bind fun bt434 => ((laws_eqIntS.f k bt434.1 t333).bind fun t438 => (if t438 = true then (if (bt434.2 != t336) = true then (some false) else ((laws_heldIntS.f k t408 1).bind fun t441 => (if t441 < 0 then (some false) else (if t441 = t407 then (some true) else (some false))))) else (some false)))) = some true := H
  have A25 := Aside0.mk A250
  clear A250
  replace H := Option.bind_eq_some_iff.mp H
  obtain ⟨⟨t434, t437⟩, A260, H⟩ := H
  replace H : ((laws_eqIntS.f k t434 t333).bind fun t438 => (if t438 = true then (if (t437 != t336) = true then (some false) else ((laws_heldIntS.f k t408 1).bind fun t441 => (if t441 < 0 then (some false) else (if t441 = t407 then (some true) else (some false))))) else (some false))) = some true := H
  have A26 := Aside0.mk A260
  clear A260
  replace H := Option.bind_eq_some_iff.mp H
  obtain ⟨t438, A270, H⟩ := H
  replace H : (if t438 = true then (if (t437 != t336) = true then (some false) else ((laws_heldIntS.f k t408 1).bind fun t441 => (if t441 < 0 then (some false) else (if t441 = t407 then (some true) else (some false))))) else (some false)) = some true := H
  have A27 := Aside0.mk A270
  clear A270
  by_cases c28 : t438 = true
  rotate_left
  ·replace c28 := Bool.eq_false_iff.mpr c28
   subst c28
   have H1 : (some false) = some true := by first | (rw [if_neg (show ¬ (false = true) by decide)] at H; exact H) | rfl
   clear H
   have H := H1
   clear H1
   exact absurd H (by simp)
  subst c28
  have H1 : (if (t437 != t336) = true then (some false) else ((laws_heldIntS.f k t408 1).bind fun t441 => (if t441 < 0 then (some false) else (if t441 = t407 then (some true) else (some false))))) = some true := by first | (rw [if_pos rfl] at H; exact H) | rfl
  clear H
  have H := H1
  clear H1
  by_cases c29 : (t437 != t336) = true
  ·rw [if_pos c29] at H
   have c29b0 : (t437 != t336) = true := c29
   (try (have c29b1 : decide (t437 = t336) = false := by simpa using c29))
   (try (have c29b2 : (t437 == t336) = false := by simpa using c29))
   (try (have c29b3 : ¬ (t437 = t336) := by simpa using c29))
   clear c29
   exact absurd H (by simp)
  rw [if_neg c29] at H
  have c29b0 : (t437 != t336) = false := by simpa using c29
  (try (have c29b1 : decide (t437 = t336) = true := by simpa using c29))
  (try (have c29b2 : (t437 == t336) = true := by simpa using c29))
  clear c29
  replace H := Option.bind_eq_some_iff.mp H
  obtain ⟨t441, A300, H⟩ := H
  replace H : (if t441 < 0 then (some false) else (if t441 = t407 then (some true) else (some false))) = some true := H
  have A30 := Aside0.mk A300
  clear A300
  by_cases c31 : t441 < 0
  ·rw [if_pos c31] at H
   have c31b0 : decide (t441 < 0) = true := decide_eq_true c31
   clear c31
   exact absurd H (by simp)
  rw [if_neg c31] at H
  have c31b0 : decide (t441 < 0) = false := decide_eq_false c31
  clear c31
  by_cases c32 : t441 = t407
  rotate_left
  ·rw [if_neg c32] at H
   have c32b0 : (t441 == t407) = false := beq_eq_false_iff_ne.mpr c32
   have c32b1 : (t441 != t407) = true := bne_iff_ne.mpr c32
   exact absurd H (by simp)
  rw [if_pos c32] at H
  have c32b0 : (t441 == t407) = true := beq_iff_eq.mpr c32
  have c32b1 : (t441 != t407) = false := bne_eq_false_iff_eq.mpr c32
  clear c32
  clear H
  go_enter Try.func13, Try.ntmps13
  try go_wp2_with (first | ((with_reducible refine gate_dst (N := 1) rfl ?_); refine box_event ?hg (N := 1) ?hd (cs := #[.int .i64 a0_0, .slice A0_1 l0_1.length c0_1]) (t := 31) ?hr ?_; (case hd => rfl); (case hg => rfl); (case hr => first | (go_simp; done) | (go_simp; rfl)); intro gb302 hg w33 hbox hb; have n0_ := Aside0.mk (below_step (by repeat (first | (with_reducible first | exact HB.out | apply below_alloc | apply pw_below_drewN | apply below_drew1) | exact HB.out)) hb); have n1_ := Aside0.mk (hbox); have n2_ := Aside0.mk ((by rw [hg]; exact (below_size (by repeat (first | (with_reducible first | exact HB.out | apply below_alloc | apply pw_below_drewN | apply below_drew1) | exact HB.out))) : w.heap.size ≤ gb302)); have n3_ := Aside0.mk ((by rw [hg]; exact (below_size (by repeat (first | (with_reducible first | exact HB.out | apply below_alloc | apply pw_below_drewN | apply below_drew1) | exact HB.out))) : w.heap.size ≤ gb302)); clear HB; have HB := n0_; have BK302 := n1_; have GW302 := n2_; have GE302 := n3_; clear n0_ n1_ n2_ n3_; clear hb hbox hg; have hcz34_0 : w33.cell? ⟨gb302, 0, none⟩ = some (.int .i64 a0_0) := (blk_cell BK302.out 0).trans rfl; have hcz34_1 : w33.cell? ⟨gb302, 1, none⟩ = some (.slice A0_1 l0_1.length c0_1) := (blk_cell BK302.out 1).trans rfl; have hfz34_0 := blk_frozen BK302.out 0; have hfz34_1 := blk_frozen BK302.out 1) | ((with_reducible refine gate_callee (f := 24) rfl ?_); refine goesL_ (some 16) rfl rfl Try.func24 (by kernel_rfl) rfl #[.agg #[.int .i64 a0_0, .slice A0_1 l0_1.length c0_1], .int .i64 1048576] rfl (by (try simp only [List.map_toArray, List.map_cons, List.map_nil]); first | done | rfl | (simp only [List.length_drop, List.length_take]; rfl)) ?_; (with_reducible refine (laws_szPuzzle.calls a0_0 _ _ l0_1 1048576 t303 _ ?side1 ?side2 A2.out).mono ?_); (case side1 => repeat (first | exact (Kd.C_below HR0_1.out HB.out) | (with_reducible refine Kd.C_alloc ?_ _) | (with_reducible refine Kd.C_drewN ?_ _) | (with_reducible refine Kd.C_drew ?_))); (case side2 => exact HC0_1.out); rintro e w35 ⟨rfl, hb⟩; refine ⟨_, rfl, ?_⟩; have n0_ := Aside0.mk (blk_below (g := gb302) (o := .cells #[.int .i64 a0_0, .slice A0_1 l0_1.length c0_1] 31 (0, 0)) (by (with_reducible repeat (first | refine bN ?_ _ | refine bD ?_ | refine bA ?_ _)); exact BK302.out) hb); have n1_ := Aside0.mk (below_step (by repeat (first | (with_reducible first | exact HB.out | apply below_alloc | apply pw_below_drewN | apply below_drew1) | exact HB.out)) hb); clear BK302; clear HB; have BK302 := n0_; have HB := n1_; clear n0_ n1_; (try clear hb); (try clear hb2); (try clear hk); (try clear hi); have hcz36_0 : w35.cell? ⟨gb302, 0, none⟩ = some (.int .i64 a0_0) := (blk_cell BK302.out 0).trans rfl; have hcz36_1 : w35.cell? ⟨gb302, 1, none⟩ = some (.slice A0_1 l0_1.length c0_1) := (blk_cell BK302.out 1).trans rfl; have hfz36_0 := blk_frozen BK302.out 0; have hfz36_1 := blk_frozen BK302.out 1) | ((with_reducible refine gate_callee (f := 26) rfl ?_); refine goesL_ (some 21) rfl rfl Try.func26 (by kernel_rfl) rfl #[.agg #[.int .i64 a0_0, .slice A0_1 l0_1.length c0_1]] rfl (by (try simp only [List.map_toArray, List.map_cons, List.map_nil]); first | done | rfl | (simp only [List.length_drop, List.length_take]; rfl)) ?_; (with_reducible refine (laws_toPuzzle.calls k a0_0 _ _ l0_1 t329 t330 _ ?side1 ?side2 A7.out).mono ?_); (case side1 => repeat (first | exact (Kd.C_below HR0_1.out HB.out) | (with_reducible refine Kd.C_alloc ?_ _) | (with_reducible refine Kd.C_drewN ?_ _) | (with_reducible refine Kd.C_drew ?_))); (case side2 => exact HC0_1.out); rintro e w37 ⟨v331, rfl, ho0, hb⟩; refine ⟨_, rfl, ?_⟩; have n0_ := Aside0.mk (Kd.R_lower ho0 (below_size (by repeat (first | (with_reducible first | exact HB.out | apply below_alloc | apply pw_below_drewN | apply below_drew1) | exact HB.out)))); have n1_ := Aside0.mk (blk_below (g := gb302) (o := .cells #[.int .i64 a0_0, .slice A0_1 l0_1.length c0_1] 31 (0, 0)) (by (with_reducible repeat (first | refine bN ?_ _ | refine bD ?_ | refine bA ?_ _)); exact BK302.out) hb); have n2_ := Aside0.mk (below_step (by repeat (first | (with_reducible first | exact HB.out | apply below_alloc | apply pw_below_drewN | apply below_drew1) | exact HB.out)) hb); clear BK302; clear HB; have HO332 := n0_; have BK302 := n1_; have HB := n2_; clear n0_ n1_ n2_; (try clear hb); (try clear hb2); (try clear hk); (try clear hi); (try clear ho0); obtain ⟨Ao38, co38, eo38⟩ := Kd.R_slice HO332.out; subst eo38) | ((with_reducible refine gate_callee (f := 53) rfl ?_); refine goesL_ (some 22) rfl rfl Try.func53 (by kernel_rfl) rfl #[.agg #[.int .i64 t329, .slice Ao38 t330.length co38]] rfl (by (try simp only [List.map_toArray, List.map_cons, List.map_nil]); first | done | rfl | (simp only [List.length_drop, List.length_take]; rfl)) ?_; (with_reducible refine (spec_LeftByClues.calls k t329 _ _ t330 t333 t336 _ ?side1 ?side2 A8.out).mono ?_); (case side1 => repeat (first | exact (Kd.R_reads' HO332.out).2.2 | (with_reducible refine Kd.C_alloc ?_ _) | (with_reducible refine Kd.C_drewN ?_ _) | (with_reducible refine Kd.C_drew ?_))); (case side2 => exact (Kd.R_reads' HO332.out).2.1); rintro e w39 ⟨v334, rfl, ho0, hb⟩; refine ⟨_, rfl, ?_⟩; have n0_ := Aside0.mk (Kd.R_below (by (with_reducible repeat (first | apply Kd.R_alloc | apply Kd.R_drewN | apply Kd.R_drew)); exact HO332.out) hb); have n1_ := Aside0.mk (Kd.R_lower ho0 (below_size (by repeat (first | (with_reducible first | exact HB.out | apply below_alloc | apply pw_below_drewN | apply below_drew1) | exact HB.out)))); have n2_ := Aside0.mk (blk_below (g := gb302) (o := .cells #[.int .i64 a0_0, .slice A0_1 l0_1.length c0_1] 31 (0, 0)) (by (with_reducible repeat (first | refine bN ?_ _ | refine bD ?_ | refine bA ?_ _)); exact BK302.out) hb); have n3_ := Aside0.mk (below_step (by repeat (first | (with_reducible first | exact HB.out | apply below_alloc | apply pw_below_drewN | apply below_drew1) | exact HB.out)) hb); clear HO332; clear BK302; clear HB; have HO332 := n0_; have HO335 := n1_; have BK302 := n2_; have HB := n3_; clear n0_ n1_ n2_ n3_; (try clear hb); (try clear hb2); (try clear hk); (try clear hi); (try clear ho0); have hcz40_0 : w39.cell? ⟨gb302, 0, none⟩ = some (.int .i64 a0_0) := (blk_cell BK302.out 0).trans rfl; have hcz40_1 : w39.cell? ⟨gb302, 1, none⟩ = some (.slice A0_1 l0_1.length c0_1) := (blk_cell BK302.out 1).trans rfl; have hfz40_0 := blk_frozen BK302.out 0; have hfz40_1 := blk_frozen BK302.out 1) | ((with_reducible refine gate_callee (f := 26) rfl ?_); refine goesL_ (some 26) rfl rfl Try.func26 (by kernel_rfl) rfl #[.agg #[.int .i64 a0_0, .slice A0_1 l0_1.length c0_1]] rfl (by (try simp only [List.map_toArray, List.map_cons, List.map_nil]); first | done | rfl | (simp only [List.length_drop, List.length_take]; rfl)) ?_; (with_reducible refine (laws_toPuzzle.calls k a0_0 _ _ l0_1 t337 t338 _ ?side1 ?side2 A9.out).mono ?_); (case side1 => repeat (first | exact (Kd.C_below HR0_1.out HB.out) | (with_reducible refine Kd.C_alloc ?_ _) | (with_reducible refine Kd.C_drewN ?_ _) | (with_reducible refine Kd.C_drew ?_))); (case side2 => exact HC0_1.out); rintro e w41 ⟨v339, rfl, ho0, hb⟩; refine ⟨_, rfl, ?_⟩; have n0_ := Aside0.mk (Kd.R_elder' (by (with_reducible repeat (first | apply Kd.R_alloc | apply Kd.R_drewN | apply Kd.R_drew)); exact HO332.out) (Kd.R_base ho0) hb); have n1_ := Aside0.mk (Kd.R_below (by (with_reducible repeat (first | apply Kd.R_alloc | apply Kd.R_drewN | apply Kd.R_drew)); exact HO335.out) hb); have n2_ := Aside0.mk (Kd.R_lower (Kd.R_new' ho0 (Kd.R_lt (by (with_reducible repeat (first | apply Kd.R_alloc | apply Kd.R_drewN | apply Kd.R_drew)); exact HO332.out))) (below_size (by repeat (first | (with_reducible first | exact HB.out | apply below_alloc | apply pw_below_drewN | apply below_drew1) | exact HB.out)))); have n3_ := Aside0.mk (blk_below (g := gb302) (o := .cells #[.int .i64 a0_0, .slice A0_1 l0_1.length c0_1] 31 (0, 0)) (by (with_reducible repeat (first | refine bN ?_ _ | refine bD ?_ | refine bA ?_ _)); exact BK302.out) hb); have n4_ := Aside0.mk (below_step (by repeat (first | (with_reducible first | exact HB.out | apply below_alloc | apply pw_below_drewN | apply below_drew1) | exact HB.out)) hb); clear HO332; clear HO335; clear BK302; clear HB; have HO332 := n0_; have HO335 := n1_; have HO340 := n2_; have BK302 := n3_; have HB := n4_; clear n0_ n1_ n2_ n3_ n4_; (try clear hb); (try clear hb2); (try clear hk); (try clear hi); (try clear ho0)) | ((with_reducible refine gate_dst (N := 6) rfl ?_); refine box_event ?hg (N := 6) ?hd (cs := #[.int .i64 0, .slice none 0 0]) (t := 36) ?hr ?_; (case hd => rfl); (case hg => rfl); (case hr => first | (go_simp; done) | (go_simp; rfl)); intro gb341 hg w42 hbox hb; have n0_ := Aside0.mk (Kd.R_below (by (with_reducible repeat (first | apply Kd.R_alloc | apply Kd.R_drewN | apply Kd.R_drew)); exact HO332.out) hb); have n1_ := Aside0.mk (Kd.R_below (by (with_reducible repeat (first | apply Kd.R_alloc | apply Kd.R_drewN | apply Kd.R_drew)); exact HO335.out) hb); have n2_ := Aside0.mk (Kd.R_below (by (with_reducible repeat (first | apply Kd.R_alloc | apply Kd.R_drewN | apply Kd.R_drew)); exact HO340.out) hb); have n3_ := Aside0.mk (blk_below (g := gb302) (o := .cells #[.int .i64 a0_0, .slice A0_1 l0_1.length c0_1] 31 (0, 0)) (by (with_reducible repeat (first | refine bN ?_ _ | refine bD ?_ | refine bA ?_ _)); exact BK302.out) hb); have n4_ := Aside0.mk (below_step (by repeat (first | (with_reducible first | exact HB.out | apply below_alloc | apply pw_below_drewN | apply below_drew1) | exact HB.out)) hb); have n5_ := Aside0.mk (hbox); have n6_ := Aside0.mk ((by rw [hg]; exact (below_size (by repeat (first | (with_reducible first | exact HB.out | apply below_alloc | apply pw_below_drewN | apply below_drew1) | exact HB.out))) : w.heap.size ≤ gb341)); have n7_ := Aside0.mk ((by rw [hg]; exact (below_size (by repeat (first | (with_reducible first | exact HB.out | apply below_alloc | apply pw_below_drewN | apply below_drew1) | exact HB.out))) : w.heap.size ≤ gb341)); have n8_ := Aside0.mk ((by rw [hg]; exact Nat.ne_of_lt (blk_lt (g := gb302) (o := .cells #[.int .i64 a0_0, .slice A0_1 l0_1.length c0_1] 31 (0, 0)) (by (with_reducible repeat (first | refine bN ?_ _ | refine bD ?_ | refine bA ?_ _)); exact BK302.out)) : gb302 ≠ gb341)); have n9_ := Aside0.mk ((by rw [hg]; exact Nat.ne_of_gt (blk_lt (g := gb302) (o := .cells #[.int .i64 a0_0, .slice A0_1 l0_1.length c0_1] 31 (0, 0)) (by (with_reducible repeat (first | refine bN ?_ _ | refine bD ?_ | refine bA ?_ _)); exact BK302.out)) : gb341 ≠ gb302)); clear HO332; clear HO335; clear HO340; clear BK302; clear HB; have HO332 := n0_; have HO335 := n1_; have HO340 := n2_; have BK302 := n3_; have HB := n4_; have BK341 := n5_; have GW341 := n6_; have GE341 := n7_; have NB302_341 := n8_; have NB341_302 := n9_; clear n0_ n1_ n2_ n3_ n4_ n5_ n6_ n7_ n8_ n9_; clear hb hbox hg; have hnb43 := NB341_302.out; have hnc43 := NB302_341.out; have hcz44_0 : w42.cell? ⟨gb341, 0, none⟩ = some (.int .i64 0) := (blk_cell BK341.out 0).trans rfl; have hcz44_1 : w42.cell? ⟨gb341, 1, none⟩ = some (.slice none 0 0) := (blk_cell BK341.out 1).trans rfl; have hfz44_0 := blk_frozen BK341.out 0; have hfz44_1 := blk_frozen BK341.out 1; obtain ⟨Ao45, co45, eo45⟩ := Kd.R_slice HO340.out; subst eo45) | ((with_reducible refine gate_callee (f := 54) rfl ?_); refine goesL_ (some 29) rfl rfl Try.func54 (by kernel_rfl) rfl #[.agg #[.int .i64 t337, .slice Ao45 t338.length co45]] rfl (by (try simp only [List.map_toArray, List.map_cons, List.map_nil]); first | done | rfl | (simp only [List.length_drop, List.length_take]; rfl)) ?_; (with_reducible refine (impl_LeftByClues.calls k t337 _ _ t338 t342 t345 _ ?side1 ?side2 A10.out).mono ?_); (case side1 => refine (Kd.R_reads' (e := 44) (base := w.heap.size) (ok := fun k_ => (True ∧ some k_ ≠ (.slice Ao38 t330.length co38 : Value).ownBlock)) (n := t338.length) (c := co45) ?_).2.2; exact (by (with_reducible repeat (first | apply Kd.R_alloc | apply Kd.R_drewN | apply Kd.R_drew)); exact (Kd.R_mono (Kd.R_far (p := ⟨gb341, 1, none⟩) (Kd.R_far (p := ⟨gb341, 0, none⟩) (Kd.R_types HO340.out BK341.out (by decide)) (fun _ hk => hk.2) (.int .i64 t337)) (fun _ hk => hk.2) (.slice Ao45 t338.length co45)) (fun _ h_ => h_.1)))); (case side2 => exact (Kd.R_reads' HO340.out).2.1); rintro e w46 ⟨v343, rfl, ho0, hb⟩; refine ⟨_, rfl, ?_⟩; have n0_ := Aside0.mk (Kd.R_below (by (with_reducible repeat (first | apply Kd.R_alloc | apply Kd.R_drewN | apply Kd.R_drew)); exact (Kd.R_mono (Kd.R_far (p := ⟨gb341, 1, none⟩) (Kd.R_far (p := ⟨gb341, 0, none⟩) (Kd.R_types HO332.out BK341.out (by decide)) (fun _ hk => hk.2) (.int .i64 t337)) (fun _ hk => hk.2) (.slice Ao45 t338.length co45)) (fun _ h_ => h_.1))) hb); have n1_ := Aside0.mk (Kd.R_elder' (by (with_reducible repeat (first | apply Kd.R_alloc | apply Kd.R_drewN | apply Kd.R_drew)); exact (Kd.R_mono (Kd.R_far (p := ⟨gb341, 1, none⟩) (Kd.R_far (p := ⟨gb341, 0, none⟩) (Kd.R_types HO335.out BK341.out (by decide)) (fun _ hk => hk.2) (.int .i64 t337)) (fun _ hk => hk.2) (.slice Ao45 t338.length co45)) (fun _ h_ => h_.1))) (Kd.R_base ho0) hb); have n2_ := Aside0.mk (Kd.R_below (by (with_reducible repeat (first | apply Kd.R_alloc | apply Kd.R_drewN | apply Kd.R_drew)); exact (Kd.R_mono (Kd.R_far (p := ⟨gb341, 1, none⟩) (Kd.R_far (p := ⟨gb341, 0, none⟩) (Kd.R_types HO340.out BK341.out (by decide)) (fun _ hk => hk.2) (.int .i64 t337)) (fun _ hk => hk.2) (.slice Ao45 t338.length co45)) (fun _ h_ => h_.1))) hb); have n3_ := Aside0.mk (Kd.R_lower (Kd.R_new' ho0 (Kd.R_lt (by (with_reducible repeat (first | apply Kd.R_alloc | apply Kd.R_drewN | apply Kd.R_drew)); exact (Kd.R_mono (Kd.R_far (p := ⟨gb341, 1, none⟩) (Kd.R_far (p := ⟨gb341, 0, none⟩) (Kd.R_types HO335.out BK341.out (by decide)) (fun _ hk => hk.2) (.int .i64 t337)) (fun _ hk => hk.2) (.slice Ao45 t338.length co45)) (fun _ h_ => h_.1))))) (below_size (by repeat (first | (with_reducible first | exact HB.out | apply below_alloc | apply pw_below_drewN | apply below_drew1 | refine below_set ?_ GE302.out | refine below_set ?_ GE341.out) | exact HB.out)))); have n4_ := Aside0.mk (blk_below (g := gb302) (o := .cells #[.int .i64 a0_0, .slice A0_1 l0_1.length c0_1] 31 (0, 0)) (by (with_reducible repeat (first | refine bN ?_ _ | refine bD ?_ | refine bA ?_ _)); refine blk_far ?_ NB302_341.out _; (with_reducible repeat (first | refine bN ?_ _ | refine bD ?_ | refine bA ?_ _)); refine blk_far ?_ NB302_341.out _; (with_reducible repeat (first | refine bN ?_ _ | refine bD ?_ | refine bA ?_ _)); exact BK302.out) hb); have n5_ := Aside0.mk (blk_below (g := gb341) (o := .cells #[.int .i64 t337, .slice Ao45 t338.length co45] 36 (0, 0)) (by (with_reducible repeat (first | refine bN ?_ _ | refine bD ?_ | refine bA ?_ _)); refine blk_put (cs := #[.int .i64 t337, .slice none 0 0]) ?_ 1 _ rfl; (with_reducible repeat (first | refine bN ?_ _ | refine bD ?_ | refine bA ?_ _)); refine blk_put (cs := #[.int .i64 0, .slice none 0 0]) ?_ 0 _ rfl; (with_reducible repeat (first | refine bN ?_ _ | refine bD ?_ | refine bA ?_ _)); exact BK341.out) hb); have n6_ := Aside0.mk (below_step (by repeat (first | (with_reducible first | exact HB.out | apply below_alloc | apply pw_below_drewN | apply below_drew1 | refine below_set ?_ GE302.out | refine below_set ?_ GE341.out) | exact HB.out)) hb); clear HO332; clear HO335; clear HO340; clear BK302; clear BK341; clear HB; have HO332 := n0_; have HO335 := n1_; have HO340 := n2_; have HO344 := n3_; have BK302 := n4_; have BK341 := n5_; have HB := n6_; clear n0_ n1_ n2_ n3_ n4_ n5_ n6_; (try clear hb); (try clear hb2); (try clear hk); (try clear hi); (try clear ho0); obtain ⟨Ao47, co47, eo47⟩ := Kd.R_slice HO344.out; subst eo47; obtain ⟨Ao48, co48, eo48⟩ := Kd.R_slice HO335.out; subst eo48) | ((with_reducible refine gate_callee (f := 43) rfl ?_); refine goesL_ (some 34) rfl rfl Try.func43 (by kernel_rfl) rfl #[.slice Ao47 t342.length co47, .slice Ao48 t333.length co48] rfl (by (try simp only [List.map_toArray, List.map_cons, List.map_nil]); first | done | rfl | (simp only [List.length_drop, List.length_take]; rfl)) ?_; (with_reducible refine (laws_eqIntS.calls k _ _ t342 _ _ t333 true _ ?side1 ?side2 ?side3 ?side4 A11.out).mono ?_); (case side1 => repeat (first | exact (Kd.R_reads' HO344.out).2.2 | (with_reducible refine Kd.C_alloc ?_ _) | (with_reducible refine Kd.C_drewN ?_ _) | (with_reducible refine Kd.C_drew ?_))); (case side2 => exact (Kd.R_reads' HO344.out).2.1); (case side3 => repeat (first | exact (Kd.R_reads' HO335.out).2.2 | (with_reducible refine Kd.C_alloc ?_ _) | (with_reducible refine Kd.C_drewN ?_ _) | (with_reducible refine Kd.C_drew ?_))); (case side4 => exact (Kd.R_reads' HO335.out).2.1); rintro e w' ⟨rfl, ⟨nd, rfl⟩⟩; refine ⟨_, rfl, ?_⟩))
  (try (rw [drewN_self w46]; generalize hq_ : World.drewN w46 _ = w46; have n0_ : Aside0 (Kd.R k44 44 w46 w.heap.size (fun k_ => some k_ ≠ (.slice Ao45 t338.length co45 : Value).ownBlock) (.slice Ao38 t330.length co38) t330) := ⟨by rw [← hq_]; exact (by (with_reducible repeat (first | apply Kd.R_alloc | apply Kd.R_drewN | apply Kd.R_drew)); exact Kd.R_mono HO332.out (fun _ hk => hk.2))⟩; have n1_ : Aside0 (Kd.R (Kd.int .i64) 3 w46 w.heap.size (fun k_ => some k_ ≠ (.slice Ao47 t342.length co47 : Value).ownBlock) (.slice Ao48 t333.length co48) t333) := ⟨by rw [← hq_]; exact (by (with_reducible repeat (first | apply Kd.R_alloc | apply Kd.R_drewN | apply Kd.R_drew)); exact Kd.R_mono HO335.out (fun _ hk => hk.2))⟩; have n2_ : Aside0 (Kd.R k44 44 w46 w.heap.size (fun k_ => some k_ ≠ (.slice Ao38 t330.length co38 : Value).ownBlock) (.slice Ao45 t338.length co45) t338) := ⟨by rw [← hq_]; exact (by (with_reducible repeat (first | apply Kd.R_alloc | apply Kd.R_drewN | apply Kd.R_drew)); exact Kd.R_mono HO340.out (fun _ hk => hk.2))⟩; have n3_ : Aside0 (Kd.R (Kd.int .i64) 3 w46 w.heap.size (fun k_ => some k_ ≠ (.slice Ao48 t333.length co48 : Value).ownBlock) (.slice Ao47 t342.length co47) t342) := ⟨by rw [← hq_]; exact (by (with_reducible repeat (first | apply Kd.R_alloc | apply Kd.R_drewN | apply Kd.R_drew)); exact Kd.R_mono HO344.out (fun _ hk => hk.2))⟩; have n4_ : Aside0 (w46.heap[gb302]? = some (.cells #[.int .i64 a0_0, .slice A0_1 l0_1.length c0_1] 31 (0, 0))) := ⟨by rw [← hq_]; exact (by (with_reducible repeat (first | refine bN ?_ _ | refine bD ?_ | refine bA ?_ _)); exact BK302.out)⟩; have n5_ : Aside0 (w46.heap[gb341]? = some (.cells #[.int .i64 t337, .slice Ao45 t338.length co45] 36 (0, 0))) := ⟨by rw [← hq_]; exact (by (with_reducible repeat (first | refine bN ?_ _ | refine bD ?_ | refine bA ?_ _)); exact BK341.out)⟩; have n6_ : Aside0 (Below w.heap.size w w46) := ⟨by rw [← hq_]; exact (by repeat (first | (with_reducible first | exact HB.out | apply below_alloc | apply pw_below_drewN | apply below_drew1) | exact HB.out))⟩; clear HO332 HO335 HO340 HO344 BK302 BK341 HB hq_; have HO332 := n0_; have HO335 := n1_; have HO340 := n2_; have HO344 := n3_; have BK302 := n4_; have BK341 := n5_; have HB := n6_; clear n0_ n1_ n2_ n3_ n4_ n5_ n6_))
  have n0_ := Aside0.mk (Kd.R_drew HO332.out)
  have n1_ := Aside0.mk (Kd.R_drew HO335.out)
  have n2_ := Aside0.mk (Kd.R_drew HO340.out)
  have n3_ := Aside0.mk (Kd.R_drew HO344.out)
  have n4_ := Aside0.mk (blk_drew BK302.out)
  have n5_ := Aside0.mk (blk_drew BK341.out)
  have n6_ := Aside0.mk (below_drew1 HB.out)
  clear HO332
  clear HO335
  clear HO340
  clear HO344
  clear BK302
  clear BK341
  clear HB
  have HO332 := n0_
  have HO335 := n1_
  have HO340 := n2_
  have HO344 := n3_
  have BK302 := n4_
  have BK341 := n5_
  have HB := n6_
  clear n0_ n1_ n2_ n3_ n4_ n5_ n6_
  refine start_ (n := 5) (S := fun w' => w'.cell? ⟨gb341, 0, none⟩ = some (.int .i64 t337) ∧ w'.cell? ⟨gb341, 1, none⟩ = some (.slice Ao45 t338.length co45) ∧ w'.cell? ⟨gb302, 0, none⟩ = some (.int .i64 a0_0) ∧ w'.cell? ⟨gb302, 1, none⟩ = some (.slice A0_1 l0_1.length c0_1)) (ds := []) #[false, false, false, false, false] (by kernel_rfl) rfl rfl ⟨(blk_cell BK341.out 0).trans rfl, (blk_cell BK341.out 1).trans rfl, (blk_cell BK302.out 0).trans rfl, (blk_cell BK302.out 1).trans rfl⟩ (fun hHeld => ?_)
  generalize w46.drew = w49 at HO332 HO335 HO340 HO344 BK302 BK341 HB hHeld ⊢
  refine take_ (i := 0) (N := some 41) (v := ?_) (a' := ?_) #[true, false, false, false, false] rfl rfl (by kernel_rfl) (fun _ _ _ h => h) (Or.inl ⟨by rfl, ?_⟩) hHeld ?_ ?_
  rotate_left
  ·rintro w' ⟨s0, s1, s2, s3⟩
   go_simp
   with_reducible rfl
  rotate_left
  ·simp only [Act.put, List.setIfInBounds_toArray, List.set_cons_zero, List.set_cons_succ, i64_w, i32_w]
   rfl
  refine take_ (i := 1) (N := some 42) (v := ?_) (a' := ?_) #[true, true, false, false, false] rfl rfl (by kernel_rfl) (fun _ _ _ h => h) (Or.inl ⟨by rfl, ?_⟩) hHeld ?_ ?_
  rotate_left
  ·rintro w' ⟨s0, s1, s2, s3⟩
   go_simp
   with_reducible rfl
  rotate_left
  ·simp only [Act.put, List.setIfInBounds_toArray, List.set_cons_zero, List.set_cons_succ, i64_w, i32_w]
   rfl
  refine one_ (i := 2) (N := some 43) #[true, true, true, false, false] rfl rfl (by kernel_rfl) (by decide) (fun K hK => ?_)
  refine goes_ Try.func26 (by kernel_rfl) rfl #[.agg #[.int .i64 a0_0, .slice A0_1 l0_1.length c0_1]] (by rfl) rfl rfl (by (try simp only [List.map_toArray, List.map_cons, List.map_nil]); first | done | rfl | (simp only [List.length_drop, List.length_take]; rfl)) ?_
  with_reducible refine (laws_toPuzzle.calls k a0_0 _ _ l0_1 t367 t368 _ ?side1 ?side2 A14.out).mono ?_
  (case side1 => repeat (first | exact (Kd.C_below HR0_1.out HB.out) | (with_reducible refine Kd.C_alloc ?_ _) | (with_reducible refine Kd.C_drewN ?_ _) | (with_reducible refine Kd.C_drew ?_)))
  (case side2 => exact HC0_1.out)
  rintro e w50 ⟨v369, rfl, ho0, hb⟩
  refine ⟨_, rfl, ?_⟩
  have n0_ := Aside0.mk (Kd.R_elder' (by (with_reducible repeat (first | apply Kd.R_alloc | apply Kd.R_drewN | apply Kd.R_drew)); exact HO332.out) (Kd.R_base ho0) hb)
  have n1_ := Aside0.mk (Kd.R_below (by (with_reducible repeat (first | apply Kd.R_alloc | apply Kd.R_drewN | apply Kd.R_drew)); exact HO335.out) hb)
  have n2_ := Aside0.mk (Kd.R_elder' (by (with_reducible repeat (first | apply Kd.R_alloc | apply Kd.R_drewN | apply Kd.R_drew)); exact HO340.out) (Kd.R_base ho0) hb)
  have n3_ := Aside0.mk (Kd.R_below (by (with_reducible repeat (first | apply Kd.R_alloc | apply Kd.R_drewN | apply Kd.R_drew)); exact HO344.out) hb)
  have n4_ := Aside0.mk (Kd.R_lower (Kd.R_new' (Kd.R_new' ho0 (Kd.R_lt (by (with_reducible repeat (first | apply Kd.R_alloc | apply Kd.R_drewN | apply Kd.R_drew)); exact HO332.out))) (Kd.R_lt (by (with_reducible repeat (first | apply Kd.R_alloc | apply Kd.R_drewN | apply Kd.R_drew)); exact HO340.out))) (below_size (by repeat (first | (with_reducible first | exact HB.out | apply below_alloc | apply pw_below_drewN | apply below_drew1) | exact HB.out))))
  have n5_ := Aside0.mk (blk_below (g := gb302) (o := .cells #[.int .i64 a0_0, .slice A0_1 l0_1.length c0_1] 31 (0, 0)) (by (with_reducible repeat (first | refine bN ?_ _ | refine bD ?_ | refine bA ?_ _)); exact BK302.out) hb)
  have n6_ := Aside0.mk (blk_below (g := gb341) (o := .cells #[.int .i64 t337, .slice Ao45 t338.length co45] 36 (0, 0)) (by (with_reducible repeat (first | refine bN ?_ _ | refine bD ?_ | refine bA ?_ _)); exact BK341.out) hb)
  have n7_ := Aside0.mk (below_step (by repeat (first | (with_reducible first | exact HB.out | apply below_alloc | apply pw_below_drewN | apply below_drew1) | exact HB.out)) hb)
  clear HO332
  clear HO335
  clear HO340
  clear HO344
  clear BK302
  clear BK341
  clear HB
  have HO332 := n0_
  have HO335 := n1_
  have HO340 := n2_
  have HO344 := n3_
  have HO370 := n4_
  have BK302 := n5_
  have BK341 := n6_
  have HB := n7_
  clear n0_ n1_ n2_ n3_ n4_ n5_ n6_ n7_
  (try clear hb)
  (try clear hb2)
  (try clear hk)
  (try clear hi)
  (try clear ho0)
  obtain ⟨Ao51, co51, eo51⟩ := Kd.R_slice HO370.out
  (first | subst eo51 | (injection eo51 with f1_ f2_ f3_; have f4_ := f1_.symm; have f5_ := f3_.symm; clear f1_ f2_ f3_; subst f4_; subst f5_))
  refine hK.out _ _ ⟨(blk_cell BK341.out 0).trans rfl, (blk_cell BK341.out 1).trans rfl, (blk_cell BK302.out 0).trans rfl, (blk_cell BK302.out 1).trans rfl⟩ (fun hHeld => ?_)
  clear hK K
  refine norm_ (a' := ?_) ?_ ?_
  rotate_left
  ·show Act.put _ (some 43) _ = _
   simp only [Act.put, List.setIfInBounds_toArray, List.set_cons_zero, List.set_cons_succ, i64_w, i32_w]
   rfl
  refine one_ (i := 3) (N := some 44) #[true, true, true, true, false] rfl rfl (by kernel_rfl) (by decide) (fun K hK => ?_)
  refine goes_ Try.func28 (by kernel_rfl) rfl #[.agg #[.int .i64 t337, .slice Ao45 t338.length co45], .agg #[.int .i64 t367, .slice Ao51 t368.length co51]] (by rfl) rfl rfl (by (try simp only [List.map_toArray, List.map_cons, List.map_nil]); first | done | rfl | (simp only [List.length_drop, List.length_take]; rfl)) ?_
  with_reducible refine (laws_eqPuzzle.calls k t337 _ _ t338 t367 _ _ t368 true _ ?side1 ?side2 ?side3 ?side4 A15.out).mono ?_
  (case side1 => repeat (first | exact (Kd.R_reads' HO340.out).2.2 | (with_reducible refine Kd.C_alloc ?_ _) | (with_reducible refine Kd.C_drewN ?_ _) | (with_reducible refine Kd.C_drew ?_)))
  (case side2 => exact (Kd.R_reads' HO340.out).2.1)
  (case side3 => repeat (first | exact (Kd.R_reads' HO370.out).2.2 | (with_reducible refine Kd.C_alloc ?_ _) | (with_reducible refine Kd.C_drewN ?_ _) | (with_reducible refine Kd.C_drew ?_)))
  (case side4 => exact (Kd.R_reads' HO370.out).2.1)
  rintro e w52 ⟨rfl, hb⟩
  refine ⟨_, rfl, ?_⟩
  have n0_ := Aside0.mk (Kd.R_below (by (with_reducible repeat (first | apply Kd.R_alloc | apply Kd.R_drewN | apply Kd.R_drew)); exact HO332.out) hb)
  have n1_ := Aside0.mk (Kd.R_below (by (with_reducible repeat (first | apply Kd.R_alloc | apply Kd.R_drewN | apply Kd.R_drew)); exact HO335.out) hb)
  have n2_ := Aside0.mk (Kd.R_below (by (with_reducible repeat (first | apply Kd.R_alloc | apply Kd.R_drewN | apply Kd.R_drew)); exact HO340.out) hb)
  have n3_ := Aside0.mk (Kd.R_below (by (with_reducible repeat (first | apply Kd.R_alloc | apply Kd.R_drewN | apply Kd.R_drew)); exact HO344.out) hb)
  have n4_ := Aside0.mk (Kd.R_below (by (with_reducible repeat (first | apply Kd.R_alloc | apply Kd.R_drewN | apply Kd.R_drew)); exact HO370.out) hb)
  have n5_ := Aside0.mk (blk_below (g := gb302) (o := .cells #[.int .i64 a0_0, .slice A0_1 l0_1.length c0_1] 31 (0, 0)) (by (with_reducible repeat (first | refine bN ?_ _ | refine bD ?_ | refine bA ?_ _)); exact BK302.out) hb)
  have n6_ := Aside0.mk (blk_below (g := gb341) (o := .cells #[.int .i64 t337, .slice Ao45 t338.length co45] 36 (0, 0)) (by (with_reducible repeat (first | refine bN ?_ _ | refine bD ?_ | refine bA ?_ _)); exact BK341.out) hb)
  have n7_ := Aside0.mk (below_step (by repeat (first | (with_reducible first | exact HB.out | apply below_alloc | apply pw_below_drewN | apply below_drew1) | exact HB.out)) hb)
  clear HO332
  clear HO335
  clear HO340
  clear HO344
  clear HO370
  clear BK302
  clear BK341
  clear HB
  have HO332 := n0_
  have HO335 := n1_
  have HO340 := n2_
  have HO344 := n3_
  have HO370 := n4_
  have BK302 := n5_
  have BK341 := n6_
  have HB := n7_
  clear n0_ n1_ n2_ n3_ n4_ n5_ n6_ n7_
  (try clear hb)
  (try clear hb2)
  (try clear hk)
  (try clear hi)
  refine hK.out _ _ ⟨(blk_cell BK341.out 0).trans rfl, (blk_cell BK341.out 1).trans rfl, (blk_cell BK302.out 0).trans rfl, (blk_cell BK302.out 1).trans rfl⟩ (fun hHeld => ?_)
  clear hK K
  refine norm_ (a' := ?_) ?_ ?_
  rotate_left
  ·show Act.put _ (some 44) _ = _
   simp only [Act.put, List.setIfInBounds_toArray, List.set_cons_zero, List.set_cons_succ, i64_w, i32_w]
   rfl
  refine pure_ (i := 4) (N := some 45) (v := ?_) (a' := ?_) #[true, true, true, true, true] rfl rfl (by kernel_rfl) (fun _ _ _ h => h) (Or.inl ⟨by rfl, ?_⟩) ?_ ?_
  rotate_left
  ·intro w'
   go_simp
   with_reducible rfl
  rotate_left
  ·simp only [Act.put, List.setIfInBounds_toArray, List.set_cons_zero, List.set_cons_succ, i64_w, i32_w]
   rfl
  refine done_ (by kernel_rfl) ?_
  have hcz53_0 : w52.cell? ⟨gb341, 0, none⟩ = some (.int .i64 t337) := (blk_cell BK341.out 0).trans rfl
  have hcz53_1 : w52.cell? ⟨gb341, 1, none⟩ = some (.slice Ao45 t338.length co45) := (blk_cell BK341.out 1).trans rfl
  have hfz53_0 := blk_frozen BK341.out 0
  have hfz53_1 := blk_frozen BK341.out 1
  try go_wp2_with (first | ((with_reducible refine gate_callee (f := 32) rfl ?_); refine goesL_ (some 48) rfl rfl Try.func32 (by kernel_rfl) rfl #[.agg #[.int .i64 t337, .slice Ao45 t338.length co45], .int .i64 1] rfl (by (try simp only [List.map_toArray, List.map_cons, List.map_nil]); first | done | rfl | (simp only [List.length_drop, List.length_take]; rfl)) ?_; (with_reducible refine (laws_markPuzzle.calls k t337 (fun k_ => some k_ = (.slice Ao45 t338.length co45 : Value).ownBlock) (.slice Ao45 t338.length co45) t338 1 t378 t379 w _ ?side1 ?side2 A17.out).mono ?_); (case side1 => repeat (first | (with_reducible first | exact HB.out | apply below_alloc | apply pw_below_drewN | apply below_drew1) | exact HB.out)); (case side2 => exact Kd.R_tight rfl HO340.out); rintro e w54 ⟨rfl, hy0, hb, hkp⟩; refine ⟨_, rfl, ?_⟩; have n0_ := Aside0.mk (blk_kept (by (with_reducible repeat (first | refine bN ?_ _ | refine bD ?_ | refine bA ?_ _)); exact BK302.out) hkp (fun hs_ => (fun e_ => (Kd.R_ne HO340.out BK302.out (by decide)) e_) hs_)); have n1_ := Aside0.mk (Kd.R_mono (ok' := fun k_ => some k_ ≠ (.slice Ao45 t338.length co45 : Value).ownBlock ∧ some k_ ≠ (.slice Ao51 t368.length co51 : Value).ownBlock) (Kd.R_keptB (HO332.out) hkp (fun k_ hk_ hs_ => by first | exact (hk_.1.2) hs_ | (revert hk_ hs_; simp +contextual))) (fun k_ hk_ => by first | exact ⟨hk_.1.1.2, hk_.1.2⟩ | (revert hk_; simp +contextual))); have n2_ := Aside0.mk (Kd.R_mono (ok' := fun k_ => some k_ ≠ (.slice Ao47 t342.length co47 : Value).ownBlock) (Kd.R_keptB ((Kd.R_apart' HO335.out (Kd.R_typed HO340.out) (by decide))) hkp (fun k_ hk_ hs_ => by first | exact (hk_.2) hs_ | (revert hk_ hs_; simp +contextual))) (fun k_ hk_ => by first | exact hk_.1.1.2 | (revert hk_; simp +contextual))); have n3_ := Aside0.mk (Kd.R_reok rfl hy0 (fun k_ e_ => HO340.out.1 k_ e_)); have n4_ := Aside0.mk (blk_kept (by (with_reducible repeat (first | refine bN ?_ _ | refine bD ?_ | refine bA ?_ _)); exact BK341.out) hkp (fun hs_ => (fun e_ => (Kd.R_ne HO340.out BK341.out (by decide)) e_) hs_)); have n5_ := Aside0.mk (Kd.R_mono (ok' := fun k_ => some k_ ≠ (.slice Ao48 t333.length co48 : Value).ownBlock) (Kd.R_keptB ((Kd.R_apart' HO344.out (Kd.R_typed HO340.out) (by decide))) hkp (fun k_ hk_ hs_ => by first | exact (hk_.2) hs_ | (revert hk_ hs_; simp +contextual))) (fun k_ hk_ => by first | exact hk_.1.1.2 | (revert hk_; simp +contextual))); have n6_ := Aside0.mk (Kd.R_mono (ok' := fun k_ => some k_ ≠ (.slice Ao38 t330.length co38 : Value).ownBlock ∧ some k_ ≠ (.slice Ao45 t338.length co45 : Value).ownBlock) (Kd.R_keptB (HO370.out) hkp (fun k_ hk_ hs_ => by first | exact (hk_.2) hs_ | (revert hk_ hs_; simp +contextual))) (fun k_ hk_ => by first | exact ⟨hk_.1.1.2, hk_.1.2⟩ | (revert hk_; simp +contextual))); have n7_ := Aside0.mk (hb); clear BK302; clear HO332; clear HO335; clear HO340; clear BK341; clear HO344; clear HO370; clear HB; have BK302 := n0_; have HO332 := n1_; have HO335 := n2_; have HO340 := n3_; have BK341 := n4_; have HO344 := n5_; have HO370 := n6_; have HB := n7_; clear n0_ n1_ n2_ n3_ n4_ n5_ n6_ n7_; (try clear hb); (try clear hkp); (try clear hy0)) | (go_at_call 43; (with_reducible refine (laws_eqIntS.calls k _ _ t342 _ _ t333 true _ ?side1 ?side2 ?side3 ?side4 A19.out).mono ?_); (case side1 => repeat (first | exact (Kd.R_reads' HO344.out).2.2 | (with_reducible refine Kd.C_alloc ?_ _) | (with_reducible refine Kd.C_drewN ?_ _) | (with_reducible refine Kd.C_drew ?_))); (case side2 => exact (Kd.R_reads' HO344.out).2.1); (case side3 => repeat (first | exact (Kd.R_reads' HO335.out).2.2 | (with_reducible refine Kd.C_alloc ?_ _) | (with_reducible refine Kd.C_drewN ?_ _) | (with_reducible refine Kd.C_drew ?_))); (case side4 => exact (Kd.R_reads' HO335.out).2.1); rintro e w' ⟨rfl, ⟨nd, rfl⟩⟩) | ((with_reducible refine gate_callee (f := 46) rfl ?_); refine goesL_ (some 64) rfl rfl Try.func46 (by kernel_rfl) rfl #[.slice Ao47 t342.length co47, .int .i64 1] rfl (by (try simp only [List.map_toArray, List.map_cons, List.map_nil]); first | done | rfl | (simp only [List.length_drop, List.length_take]; rfl)) ?_; (with_reducible refine (laws_markIntS.calls k (fun k_ => some k_ = (.slice Ao47 t342.length co47 : Value).ownBlock) (.slice Ao47 t342.length co47) t342 1 t407 t408 w _ ?side1 ?side2 A21.out).mono ?_); (case side1 => repeat (first | (with_reducible first | exact HB.out | apply below_alloc | apply pw_below_drewN | apply below_drew1) | exact HB.out)); (case side2 => exact Kd.R_tight rfl HO344.out); rintro e w55 ⟨rfl, hy0, hb, hkp⟩; refine ⟨_, rfl, ?_⟩; have n0_ := Aside0.mk (blk_kept (by (with_reducible repeat (first | refine bN ?_ _ | refine bD ?_ | refine bA ?_ _)); exact BK302.out) hkp (fun hs_ => (fun e_ => (Kd.R_ne HO344.out BK302.out (by decide)) e_) hs_)); have n1_ := Aside0.mk (Kd.R_mono (ok' := fun k_ => some k_ ≠ (.slice Ao45 t338.length co45 : Value).ownBlock ∧ some k_ ≠ (.slice Ao51 t368.length co51 : Value).ownBlock) (Kd.R_keptB ((Kd.R_apart' HO332.out (Kd.R_typed HO344.out) (by decide))) hkp (fun k_ hk_ hs_ => by first | exact (hk_.2) hs_ | (revert hk_ hs_; simp +contextual))) (fun k_ hk_ => by first | exact ⟨hk_.1.1.1, hk_.1.1.2⟩ | (revert hk_; simp +contextual))); have n2_ := Aside0.mk (Kd.R_mono (ok' := fun k_ => some k_ ≠ (.slice Ao47 t342.length co47 : Value).ownBlock) (Kd.R_keptB (HO335.out) hkp (fun k_ hk_ hs_ => (hk_) hs_)) (fun k_ hk_ => by first | exact hk_.1 | (revert hk_; simp +contextual))); have n3_ := Aside0.mk (Kd.R_mono (ok' := fun k_ => some k_ ≠ (.slice Ao38 t330.length co38 : Value).ownBlock ∧ some k_ ≠ (.slice Ao51 t368.length co51 : Value).ownBlock) (Kd.R_keptB ((Kd.R_apart' HO340.out (Kd.R_typed HO344.out) (by decide))) hkp (fun k_ hk_ hs_ => by first | exact (hk_.2) hs_ | (revert hk_ hs_; simp +contextual))) (fun k_ hk_ => by first | exact ⟨hk_.1.1.1.2, hk_.1.1.2⟩ | (revert hk_; simp +contextual))); have n4_ := Aside0.mk (blk_kept (by (with_reducible repeat (first | refine bN ?_ _ | refine bD ?_ | refine bA ?_ _)); exact BK341.out) hkp (fun hs_ => (fun e_ => (Kd.R_ne HO344.out BK341.out (by decide)) e_) hs_)); have n5_ := Aside0.mk (Kd.R_reok rfl hy0 (fun k_ e_ => HO344.out.1 k_ e_)); have n6_ := Aside0.mk (Kd.R_mono (ok' := fun k_ => some k_ ≠ (.slice Ao38 t330.length co38 : Value).ownBlock ∧ some k_ ≠ (.slice Ao45 t338.length co45 : Value).ownBlock) (Kd.R_keptB ((Kd.R_apart' HO370.out (Kd.R_typed HO344.out) (by decide))) hkp (fun k_ hk_ hs_ => by first | exact (hk_.2) hs_ | (revert hk_ hs_; simp +contextual))) (fun k_ hk_ => by first | exact ⟨hk_.1.1.1, hk_.1.1.2⟩ | (revert hk_; simp +contextual))); have n7_ := Aside0.mk (hb); clear BK302; clear HO332; clear HO335; clear HO340; clear BK341; clear HO344; clear HO370; clear HB; have BK302 := n0_; have HO332 := n1_; have HO335 := n2_; have HO340 := n3_; have BK341 := n4_; have HO344 := n5_; have HO370 := n6_; have HB := n7_; clear n0_ n1_ n2_ n3_ n4_ n5_ n6_ n7_; (try clear hb); (try clear hkp); (try clear hy0)) | ((with_reducible refine gate_callee (f := 55) rfl ?_); refine goesL_ (some 67) rfl rfl Try.func55 (by kernel_rfl) rfl #[.slice Ao47 t408.length co47, .int .i64 1] rfl (by (try simp only [List.map_toArray, List.map_cons, List.map_nil]); first | done | (rw [show t408.length = t342.length from (Kd.R_reads' HO344.out).1.symm] <;> rfl) | rfl | (simp only [List.length_drop, List.length_take]; rfl)) ?_; (with_reducible refine (laws_heldIntS.calls k _ _ t408 1 t409 _ ?side1 ?side2 A22.out).mono ?_); (case side1 => repeat (first | exact (Kd.R_reads' HO344.out).2.2 | (with_reducible refine Kd.C_alloc ?_ _) | (with_reducible refine Kd.C_drewN ?_ _) | (with_reducible refine Kd.C_drew ?_))); (case side2 => rw [show t408.length = t342.length from (Kd.R_reads' HO344.out).1.symm]; exact (Kd.R_reads' HO344.out).2.1); rintro e w' ⟨rfl, ⟨nd, rfl⟩⟩; refine ⟨_, rfl, ?_⟩; have hcz56_0 : w55.cell? ⟨gb302, 0, none⟩ = some (.int .i64 a0_0) := (blk_cell BK302.out 0).trans rfl; have hcz56_1 : w55.cell? ⟨gb302, 1, none⟩ = some (.slice A0_1 l0_1.length c0_1) := (blk_cell BK302.out 1).trans rfl; have hfz56_0 := blk_frozen BK302.out 0; have hfz56_1 := blk_frozen BK302.out 1) | ((with_reducible refine gate_callee (f := 26) rfl ?_); refine goesL_ (some 75) rfl rfl Try.func26 (by kernel_rfl) rfl #[.agg #[.int .i64 a0_0, .slice A0_1 l0_1.length c0_1]] rfl (by (try simp only [List.map_toArray, List.map_cons, List.map_nil]); first | done | rfl | (simp only [List.length_drop, List.length_take]; rfl)) ?_; (with_reducible refine (laws_toPuzzle.calls k a0_0 _ _ l0_1 t430 t431 _ ?side1 ?side2 A25.out).mono ?_); (case side1 => repeat (first | exact (Kd.C_below HR0_1.out (by repeat (first | (with_reducible first | exact HB.out | apply below_alloc | apply pw_below_drewN | apply below_drew1) | exact HB.out))) | (with_reducible refine Kd.C_alloc ?_ _) | (with_reducible refine Kd.C_drewN ?_ _) | (with_reducible refine Kd.C_drew ?_))); (case side2 => exact HC0_1.out); rintro e w57 ⟨v432, rfl, ho0, hb⟩; refine ⟨_, rfl, ?_⟩; have n0_ := Aside0.mk (Kd.R_elder' (by (with_reducible repeat (first | apply Kd.R_alloc | apply Kd.R_drewN | apply Kd.R_drew)); exact HO332.out) (Kd.R_base ho0) hb); have n1_ := Aside0.mk (Kd.R_below (by (with_reducible repeat (first | apply Kd.R_alloc | apply Kd.R_drewN | apply Kd.R_drew)); exact HO335.out) hb); have n2_ := Aside0.mk (Kd.R_elder' (by (with_reducible repeat (first | apply Kd.R_alloc | apply Kd.R_drewN | apply Kd.R_drew)); exact HO340.out) (Kd.R_base ho0) hb); have n3_ := Aside0.mk (Kd.R_below (by (with_reducible repeat (first | apply Kd.R_alloc | apply Kd.R_drewN | apply Kd.R_drew)); exact HO344.out) hb); have n4_ := Aside0.mk (Kd.R_elder' (by (with_reducible repeat (first | apply Kd.R_alloc | apply Kd.R_drewN | apply Kd.R_drew)); exact HO370.out) (Kd.R_base ho0) hb); have n5_ := Aside0.mk (Kd.R_lower (Kd.R_new' (Kd.R_new' (Kd.R_new' ho0 (Kd.R_lt (by (with_reducible repeat (first | apply Kd.R_alloc | apply Kd.R_drewN | apply Kd.R_drew)); exact HO332.out))) (Kd.R_lt (by (with_reducible repeat (first | apply Kd.R_alloc | apply Kd.R_drewN | apply Kd.R_drew)); exact HO340.out))) (Kd.R_lt (by (with_reducible repeat (first | apply Kd.R_alloc | apply Kd.R_drewN | apply Kd.R_drew)); exact HO370.out))) (below_size (by repeat (first | (with_reducible first | exact HB.out | apply below_alloc | apply pw_below_drewN | apply below_drew1) | exact HB.out)))); have n6_ := Aside0.mk (blk_below (g := gb302) (o := .cells #[.int .i64 a0_0, .slice A0_1 l0_1.length c0_1] 31 (0, 0)) (by (with_reducible repeat (first | refine bN ?_ _ | refine bD ?_ | refine bA ?_ _)); exact BK302.out) hb); have n7_ := Aside0.mk (blk_below (g := gb341) (o := .cells #[.int .i64 t337, .slice Ao45 t338.length co45] 36 (0, 0)) (by (with_reducible repeat (first | refine bN ?_ _ | refine bD ?_ | refine bA ?_ _)); exact BK341.out) hb); have n8_ := Aside0.mk (below_step (by repeat (first | (with_reducible first | exact HB.out | apply below_alloc | apply pw_below_drewN | apply below_drew1) | exact HB.out)) hb); clear HO332; clear HO335; clear HO340; clear HO344; clear HO370; clear BK302; clear BK341; clear HB; have HO332 := n0_; have HO335 := n1_; have HO340 := n2_; have HO344 := n3_; have HO370 := n4_; have HO433 := n5_; have BK302 := n6_; have BK341 := n7_; have HB := n8_; clear n0_ n1_ n2_ n3_ n4_ n5_ n6_ n7_ n8_; (try clear hb); (try clear hb2); (try clear hk); (try clear hi); (try clear ho0); obtain ⟨Ao58, co58, eo58⟩ := Kd.R_slice HO433.out; subst eo58) | ((with_reducible refine gate_callee (f := 54) rfl ?_); refine goesL_ (some 76) rfl rfl Try.func54 (by kernel_rfl) rfl #[.agg #[.int .i64 t430, .slice Ao58 t431.length co58]] rfl (by (try simp only [List.map_toArray, List.map_cons, List.map_nil]); first | done | rfl | (simp only [List.length_drop, List.length_take]; rfl)) ?_; (with_reducible refine (impl_LeftByClues.calls k t430 _ _ t431 t434 t437 _ ?side1 ?side2 A26.out).mono ?_); (case side1 => repeat (first | exact (Kd.R_reads' HO433.out).2.2 | (with_reducible refine Kd.C_alloc ?_ _) | (with_reducible refine Kd.C_drewN ?_ _) | (with_reducible refine Kd.C_drew ?_))); (case side2 => exact (Kd.R_reads' HO433.out).2.1); rintro e w59 ⟨v435, rfl, ho0, hb⟩; refine ⟨_, rfl, ?_⟩; have n0_ := Aside0.mk (Kd.R_below (by (with_reducible repeat (first | apply Kd.R_alloc | apply Kd.R_drewN | apply Kd.R_drew)); exact HO332.out) hb); have n1_ := Aside0.mk (Kd.R_elder' (by (with_reducible repeat (first | apply Kd.R_alloc | apply Kd.R_drewN | apply Kd.R_drew)); exact HO335.out) (Kd.R_base ho0) hb); have n2_ := Aside0.mk (Kd.R_below (by (with_reducible repeat (first | apply Kd.R_alloc | apply Kd.R_drewN | apply Kd.R_drew)); exact HO340.out) hb); have n3_ := Aside0.mk (Kd.R_elder' (by (with_reducible repeat (first | apply Kd.R_alloc | apply Kd.R_drewN | apply Kd.R_drew)); exact HO344.out) (Kd.R_base ho0) hb); have n4_ := Aside0.mk (Kd.R_below (by (with_reducible repeat (first | apply Kd.R_alloc | apply Kd.R_drewN | apply Kd.R_drew)); exact HO370.out) hb); have n5_ := Aside0.mk (Kd.R_below (by (with_reducible repeat (first | apply Kd.R_alloc | apply Kd.R_drewN | apply Kd.R_drew)); exact HO433.out) hb); have n6_ := Aside0.mk (Kd.R_lower (Kd.R_new' (Kd.R_new' ho0 (Kd.R_lt (by (with_reducible repeat (first | apply Kd.R_alloc | apply Kd.R_drewN | apply Kd.R_drew)); exact HO335.out))) (Kd.R_lt (by (with_reducible repeat (first | apply Kd.R_alloc | apply Kd.R_drewN | apply Kd.R_drew)); exact HO344.out))) (below_size (by repeat (first | (with_reducible first | exact HB.out | apply below_alloc | apply pw_below_drewN | apply below_drew1) | exact HB.out)))); have n7_ := Aside0.mk (blk_below (g := gb302) (o := .cells #[.int .i64 a0_0, .slice A0_1 l0_1.length c0_1] 31 (0, 0)) (by (with_reducible repeat (first | refine bN ?_ _ | refine bD ?_ | refine bA ?_ _)); exact BK302.out) hb); have n8_ := Aside0.mk (blk_below (g := gb341) (o := .cells #[.int .i64 t337, .slice Ao45 t338.length co45] 36 (0, 0)) (by (with_reducible repeat (first | refine bN ?_ _ | refine bD ?_ | refine bA ?_ _)); exact BK341.out) hb); have n9_ := Aside0.mk (below_step (by repeat (first | (with_reducible first | exact HB.out | apply below_alloc | apply pw_below_drewN | apply below_drew1) | exact HB.out)) hb); clear HO332; clear HO335; clear HO340; clear HO344; clear HO370; clear HO433; clear BK302; clear BK341; clear HB; have HO332 := n0_; have HO335 := n1_; have HO340 := n2_; have HO344 := n3_; have HO370 := n4_; have HO433 := n5_; have HO436 := n6_; have BK302 := n7_; have BK341 := n8_; have HB := n9_; clear n0_ n1_ n2_ n3_ n4_ n5_ n6_ n7_ n8_ n9_; (try clear hb); (try clear hb2); (try clear hk); (try clear hi); (try clear ho0); obtain ⟨Ao60, co60, eo60⟩ := Kd.R_slice HO436.out; subst eo60) | ((with_reducible refine gate_callee (f := 43) rfl ?_); refine goesL_ (some 81) rfl rfl Try.func43 (by kernel_rfl) rfl #[.slice Ao60 t434.length co60, .slice Ao48 t333.length co48] rfl (by (try simp only [List.map_toArray, List.map_cons, List.map_nil]); first | done | rfl | (simp only [List.length_drop, List.length_take]; rfl)) ?_; (with_reducible refine (laws_eqIntS.calls k _ _ t434 _ _ t333 true _ ?side1 ?side2 ?side3 ?side4 A27.out).mono ?_); (case side1 => repeat (first | exact (Kd.R_reads' HO436.out).2.2 | (with_reducible refine Kd.C_alloc ?_ _) | (with_reducible refine Kd.C_drewN ?_ _) | (with_reducible refine Kd.C_drew ?_))); (case side2 => exact (Kd.R_reads' HO436.out).2.1); (case side3 => repeat (first | exact (Kd.R_reads' HO335.out).2.2 | (with_reducible refine Kd.C_alloc ?_ _) | (with_reducible refine Kd.C_drewN ?_ _) | (with_reducible refine Kd.C_drew ?_))); (case side4 => exact (Kd.R_reads' HO335.out).2.1); rintro e w' ⟨rfl, ⟨nd, rfl⟩⟩; refine ⟨_, rfl, ?_⟩) | ((with_reducible refine gate_callee (f := 55) rfl ?_); refine goesL_ (some 90) rfl rfl Try.func55 (by kernel_rfl) rfl #[.slice Ao47 t408.length co47, .int .i64 1] rfl (by (try simp only [List.map_toArray, List.map_cons, List.map_nil]); first | done | (rw [show t408.length = t342.length from (Kd.R_reads' HO344.out).1.symm] <;> rfl) | rfl | (simp only [List.length_drop, List.length_take]; rfl)) ?_; (with_reducible refine (laws_heldIntS.calls k _ _ t408 1 t441 _ ?side1 ?side2 A30.out).mono ?_); (case side1 => repeat (first | exact (Kd.R_reads' HO344.out).2.2 | (with_reducible refine Kd.C_alloc ?_ _) | (with_reducible refine Kd.C_drewN ?_ _) | (with_reducible refine Kd.C_drew ?_))); (case side2 => rw [show t408.length = t342.length from (Kd.R_reads' HO344.out).1.symm]; exact (Kd.R_reads' HO344.out).2.1); rintro e w' ⟨rfl, ⟨nd, rfl⟩⟩; refine ⟨_, rfl, ?_⟩))
  go_ret
  exact ⟨by first | rfl | (simp [errW_none, errW_some] <;> rfl) | (simp [*, errW_none, errW_some] <;> rfl), by repeat (first | (with_reducible first | exact HB.out | apply below_alloc | apply pw_below_drewN | apply below_drew1) | exact HB.out)⟩

/-- THE ONE PURE STATEMENT of laws_FnExactLeftByClues: yours. -/
def laws_FnExactLeftByClues.Pure : Prop := ∀ (a0_0 : Int) (l0_1 : List (S41)), (Lit.int .i64 a0_0).wf = true → l0_1.length ≤ maxLen → (∀ x ∈ l0_1, (Lit.int .i64 x.f0).wf = true ∧ (Lit.int .i64 x.f1).wf = true ∧ (Lit.int .i64 x.f2).wf = true) → ∃ k, laws_FnExactLeftByClues.f k a0_0 l0_1 = some true
theorem laws_FnExactLeftByClues.walk : True := trivial

end Go.Proofs.Ytdddmkdidegngaa.PFnExactLeftByClues
