/- The functions that a law reaches, and proofs that the Go code comes to just their answers: written by a program of this session out of the translation. Conditions: those that each theorem states. -/
import Derived.Test.YtdddmkdidegngaaPFnExactSolutionsx0
import Derived.Test.YtdddmkdidegngaaPFnExactSolutionsx1
import Derived.Test.YtdddmkdidegngaaPFnExactSolutionsx2
import Derived.Test.YtdddmkdidegngaaPFnExactSolutionsx3
import Derived.Test.YtdddmkdidegngaaPFnExactSolutionsx4
import Derived.Test.YtdddmkdidegngaaPFnExactSolutionsx5
import Derived.Test.YtdddmkdidegngaaPFnExactSolutionsx6
import Derived.Test.YtdddmkdidegngaaPFnExactSolutionsx7
import Derived.Test.YtdddmkdidegngaaPFnExactSolutionsx8
import Derived.Test.YtdddmkdidegngaaPFnExactSolutionsx9
import Derived.Test.YtdddmkdidegngaaPFnExactSolutionsx10
import Derived.Test.YtdddmkdidegngaaPFnExactSolutionsx11
namespace Go.Proofs.Ytdddmkdidegngaa.PFnExactSolutions
open Go.RowKit Go.Proofs.YtdddmkdidegngaaW.PrintWords Go.Proofs.YtdddmkdidegngaaW.PrintLast Go.Proofs.YtdddmkdidegngaaW.PrintMore
attribute [local go_sem] max2_int min2_int max_two min_two max_three min_three max_four min_four   -- for this text's walks alone
set_option linter.unusedVariables false
set_option linter.unusedSimpArgs false

section
variable {W w1 : World} {base : Nat} {ok : Nat → Prop} {v u : Value} {xs : List (List Int)}
theorem laws_markIntSS.O_drew (h : laws_markIntSS.O W base ok v xs) : laws_markIntSS.O W.drew base ok v xs := laws_markIntSS.O_step h (fun _ _ _ => rfl)
theorem laws_markIntSS.O_drewN (h : laws_markIntSS.O W base ok v xs) (m : Nat) : laws_markIntSS.O (W.drewN m) base ok v xs := laws_markIntSS.O_step h (fun _ _ _ => rfl)
theorem laws_markIntSS.O_kept {S : Nat → Prop} (h : laws_markIntSS.O W base ok v xs) (hk : Kept W w1 S) (hne : ∀ k, ok k → ¬ S k) : laws_markIntSS.O w1 base ok v xs := laws_markIntSS.O_step h (fun k ho hlt => hk.2 k hlt (hne k ho))
theorem laws_markIntSS.O_apart' {e' : Nat} (h : laws_markIntSS.O W base ok v xs) (hty : ∀ k, u.ownBlock = some k → ∃ cells, W.heap[k]? = some (.cells cells e' (0, 0))) (ht : ∀ q, q ∈ 22 :: (Kd.slice 3 (Kd.int .i64)).E → q ≠ e') : laws_markIntSS.O W base (fun k => ok k ∧ some k ≠ u.ownBlock) v xs := by
  rcases h with h | ⟨g, c, x0, e, h⟩
  · exact .inl h
  · exact .inr ⟨g, c, x0, e, Kd.S_apart' h hty ht⟩
theorem laws_markIntSS.O_reads' {A : Option Addr} {n c : Nat} (h : laws_markIntSS.O W base ok (.slice A n c) xs) : n = xs.length ∧ n ≤ c ∧ Kd.C (Kd.slice 3 (Kd.int .i64)) W A xs.length xs := by
  obtain ⟨A', c', e, hl, hC⟩ := laws_markIntSS.O_slice h
  injection e with e1 e2 e3
  subst e1; subst e3
  exact ⟨e2, by omega, hC⟩
theorem laws_markIntSS.apart3 {v' : Value} {ys : List (List Int)} {g : Nat} (h : Kd.S (Kd.slice 3 (Kd.int .i64)) 22 W base ok v xs) (hb : Below W.heap.size W w1) (ho : impl_solve.Own w1 W.heap.size v' ys) (hl : base ≤ W.heap.size) (hg : g < W.heap.size) : ∃ N : Nat, Aside0 (Kd.S (Kd.slice 3 (Kd.int .i64)) 22 w1 base (fun k => k < N) v xs) ∧ Aside0 (laws_markIntSS.O w1 base (fun k => N ≤ k) v' ys) ∧ Aside0 (g < N) :=
  ⟨W.heap.size, ⟨Kd.S_mono (Kd.S_old h hb) (fun _ hk => hk.2)⟩, ⟨laws_markIntSS.O_lower (laws_markIntSS.O_mono (laws_markIntSS.O_bound (laws_markIntSS.O_of ho)) (fun _ hk => hk.2.1)) hl⟩, ⟨hg⟩⟩
end
/-! ### laws_FnExactSolutions: function 14 -/
def laws_FnExactSolutions.f (k : Nat) (a0_0 : Int) (l0_1 : List (S41)) : Option (Bool) := (laws_szPuzzle.f a0_0 l0_1 1048576).bind fun t282 => (if t282 < 0 then (some true) else ((laws_toPuzzle.f k a0_0 l0_1).bind fun bt308 => ((spec_Solutions.f k bt308.1 bt308.2).bind fun bt312 => ((laws_toPuzzle.f k a0_0 l0_1).bind fun bt316 => ((impl_Solutions.f k bt316.1 bt316.2).bind fun bt321 => ((laws_eqIntSS.f k bt321.1 bt312.1).bind fun t325 => (if t325 = true then (if (bt321.2 != bt312.2) = true then (some false) else ((laws_toPuzzle.f k a0_0 l0_1).bind fun bt346 => ((laws_eqPuzzle.f k bt316.1 bt316.2 bt346.1 bt346.2).bind fun t350 => (if t350 = true then ((laws_markPuzzle.f k bt316.1 bt316.2 1).bind fun bt357 => (if bt357.1 < 0 then (some false) else ((laws_eqIntSS.f k bt321.1 bt312.1).bind fun t359 => (if t359 = true then ((laws_markIntSS.f k bt321.1 1).bind fun bt386 => ((laws_heldIntSS.f k bt386.2 1).bind fun t388 => (if t388 < 0 then (some false) else (if t388 = bt386.1 then ((laws_toPuzzle.f k a0_0 l0_1).bind fun bt409 => ((impl_Solutions.f k bt409.1 bt409.2).bind fun bt413 => ((laws_eqIntSS.f k bt413.1 bt312.1).bind fun t417 => (if t417 = true then (if (bt413.2 != bt312.2) = true then (some false) else ((laws_heldIntSS.f k bt386.2 1).bind fun t420 => (if t420 < 0 then (some false) else (if t420 = bt386.1 then (some true) else (some false))))) else (some false))))) else (some false))))) else (some false))))) else (some false))))) else (some false))))))))
set_option maxHeartbeats 8000000 in
set_option maxRecDepth 100000 in
theorem laws_FnExactSolutions.calls (k : Nat) (a0_0 : Int) (A0_1 : Option Addr) (c0_1 : Nat) (l0_1 : List (S41)) (w : World) (hr0_1 : Kd.C k41 w A0_1 l0_1.length l0_1) (hc0_1 : l0_1.length ≤ c0_1) (h : laws_FnExactSolutions.f k a0_0 l0_1 = some true) :
    Calls Try.prog 15 #[.agg #[.int .i64 a0_0, .slice A0_1 l0_1.length c0_1]] w fun e w' => e = .returned (.bool true) ∧ Below w.heap.size w w' := by
 have hu31 := Try.underlying31
 have hu36 := Try.underlying36
 have HR0_1 := Aside0.mk hr0_1
 have HC0_1 := Aside0.mk hc0_1
 clear hr0_1 hc0_1
 have HB := Aside0.mk (Below.refl w.heap.size w)
 have H : ((laws_szPuzzle.f a0_0 l0_1 1048576).bind fun t282 => (if t282 < 0 then (some true) else ((laws_toPuzzle.f k a0_0 l0_1).bind fun bt308 => ((spec_Solutions.f k bt308.1 bt308.2).bind fun bt312 => ((laws_toPuzzle.f k a0_0 l0_1).bind fun bt316 => ((impl_Solutions.f k bt316.1 bt316.2).bind fun bt321 => ((laws_eqIntSS.f k bt321.1 bt312.1).bind fun t325 => (if t325 = true then (if (bt321.2 != bt312.2) = true then (some false) else ((laws_toPuzzle.f k a0_0 l0_1).bind fun bt346 => ((laws_eqPuzzle.f k bt316.1 bt316.2 bt346.1 bt346.2).bind fun t350 => (if t350 = true then ((laws_markPuzzle.f k bt316.1 bt316.2 1).bind fun bt357 => (if bt357.1 < 0 then (some false) else ((laws_eqIntSS.f k bt321.1 bt312.1).bind fun t359 => (if t359 = true then ((laws_markIntSS.f k bt321.1 1).bind fun bt386 => ((laws_heldIntSS.f k bt386.2 1).bind fun t388 => (if t388 < 0 then (some false) else (if t388 = bt386.1 then ((laws_toPuzzle.f k a0_0 l0_1).bind fun bt409 => ((impl_Solutions.f k bt409.1 bt409.2).bind fun bt413 => ((laws_eqIntSS.f k bt413.1 bt312.1).bind fun t417 => (if t417 = true then (if (bt413.2 != bt312.2) = true then (some false) else ((laws_heldIntSS.f k bt386.2 1).bind fun t420 => (if t420 < 0 then (some false) else (if t420 = bt386.1 then (some true) else (some false))))) else (some false))))) else (some false))))) else (some false))))) else (some false))))) else (some false))))))))) = some true := h
 clear h
 replace H := Option.bind_eq_some_iff.mp H
 obtain ⟨t282, A20, H⟩ := H
 replace H : (if t282 < 0 then (some true) else ((laws_toPuzzle.f k a0_0 l0_1).bind fun bt308 => ((spec_Solutions.f k bt308.1 bt308.2).bind fun bt312 => ((laws_toPuzzle.f k a0_0 l0_1).bind fun bt316 => ((impl_Solutions.f k bt316.1 bt316.2).bind fun bt321 => ((laws_eqIntSS.f k bt321.1 bt312.1).bind fun t325 => (if t325 = true then (if (bt321.2 != bt312.2) = true then (some false) else ((laws_toPuzzle.f k a0_0 l0_1).bind fun bt346 => ((laws_eqPuzzle.f k bt316.1 bt316.2 bt346.1 bt346.2).bind fun t350 => (if t350 = true then ((laws_markPuzzle.f k bt316.1 bt316.2 1).bind fun bt357 => (if bt357.1 < 0 then (some false) else ((laws_eqIntSS.f k bt321.1 bt312.1).bind fun t359 => (if t359 = true then ((laws_markIntSS.f k bt321.1 1).bind fun bt386 => ((laws_heldIntSS.f k bt386.2 1).bind fun t388 => (if t388 < 0 then (some false) else (if t388 = bt386.1 then ((laws_toPuzzle.f k a0_0 l0_1).bind fun bt409 => ((impl_Solutions.f k bt409.1 bt409.2).bind fun bt413 => ((laws_eqIntSS.f k bt413.1 bt312.1).bind fun t417 => (if t417 = true then (if (bt413.2 != bt312.2) = true then (some false) else ((laws_heldIntSS.f k bt386.2 1).bind fun t420 => (if t420 < 0 then (some false) else (if t420 = bt386.1 then (some true) else (some false))))) else (some false))))) else (some false))))) else (some false))))) else (some false))))) else (some false)))))))) = some true := H
 have A2 := Aside0.mk A20
 clear A20
 by_cases c3 : t282 < 0
 ·rw [if_pos c3] at H
  have c3b0 : decide (t282 < 0) = true := decide_eq_true c3
  clear c3
  clear H
  go_enter Try.func15, Try.ntmps15
  go_wp2_with (first | ((with_reducible refine gate_dst (N := 1) rfl ?_); refine box_event ?hg (N := 1) ?hd (cs := #[.int .i64 a0_0, .slice A0_1 l0_1.length c0_1]) (t := 31) ?hr ?_; (case hd => rfl); (case hg => rfl); (case hr => first | (go_simp; done) | (go_simp; rfl)); intro gb281 hg w4 hbox hb; have n0_ := Aside0.mk (below_step (by repeat (first | (with_reducible first | exact HB.out | apply below_alloc | apply pw_below_drewN | apply below_drew1) | exact HB.out)) hb); have n1_ := Aside0.mk (hbox); have n2_ := Aside0.mk ((by rw [hg]; exact (below_size (by repeat (first | (with_reducible first | exact HB.out | apply below_alloc | apply pw_below_drewN | apply below_drew1) | exact HB.out))) : w.heap.size ≤ gb281)); have n3_ := Aside0.mk ((by rw [hg]; exact (below_size (by repeat (first | (with_reducible first | exact HB.out | apply below_alloc | apply pw_below_drewN | apply below_drew1) | exact HB.out))) : w.heap.size ≤ gb281)); clear HB; have HB := n0_; have BK281 := n1_; have GW281 := n2_; have GE281 := n3_; clear n0_ n1_ n2_ n3_; clear hb hbox hg; have hcz5_0 : w4.cell? ⟨gb281, 0, none⟩ = some (.int .i64 a0_0) := (blk_cell BK281.out 0).trans rfl; have hcz5_1 : w4.cell? ⟨gb281, 1, none⟩ = some (.slice A0_1 l0_1.length c0_1) := (blk_cell BK281.out 1).trans rfl; have hfz5_0 := blk_frozen BK281.out 0; have hfz5_1 := blk_frozen BK281.out 1) | ((with_reducible refine gate_callee (f := 24) rfl ?_); refine goesL_ (some 16) rfl rfl Try.func24 (by kernel_rfl) rfl #[.agg #[.int .i64 a0_0, .slice A0_1 l0_1.length c0_1], .int .i64 1048576] rfl (by (try simp only [List.map_toArray, List.map_cons, List.map_nil]); first | done | rfl | (simp only [List.length_drop, List.length_take]; rfl)) ?_; (with_reducible refine (laws_szPuzzle.calls a0_0 _ _ l0_1 1048576 t282 _ ?side1 ?side2 A2.out).mono ?_); (case side1 => repeat (first | exact (Kd.C_below HR0_1.out HB.out) | (with_reducible refine Kd.C_alloc ?_ _) | (with_reducible refine Kd.C_drewN ?_ _) | (with_reducible refine Kd.C_drew ?_))); (case side2 => exact HC0_1.out); rintro e w6 ⟨rfl, hb⟩; refine ⟨_, rfl, ?_⟩; have n0_ := Aside0.mk (below_step (by repeat (first | (with_reducible first | exact HB.out | apply below_alloc | apply pw_below_drewN | apply below_drew1) | exact HB.out)) hb); clear HB; have HB := n0_; clear n0_; (try clear hb); (try clear hb2); (try clear hk); (try clear hi)))
  go_ret
  exact ⟨by first | rfl | (simp [errW_none, errW_some] <;> rfl) | (simp [*, errW_none, errW_some] <;> rfl), by repeat (first | (with_reducible first | exact HB.out | apply below_alloc | apply pw_below_drewN | apply below_drew1) | exact HB.out)⟩
 ·rw [if_neg c3] at H
  have c3b0 : decide (t282 < 0) = false := decide_eq_false c3
  clear c3
  replace H := Option.bind_eq_some_iff.mp H
  obtain ⟨⟨t308, t309⟩, A70, H⟩ := H
  replace H : ((spec_Solutions.f k t308 t309).bind fun bt312 => ((laws_toPuzzle.f k a0_0 l0_1).bind fun bt316 => ((impl_Solutions.f k bt316.1 bt316.2).bind fun bt321 => ((laws_eqIntSS.f k bt321.1 bt312.1).bind fun t325 => (if t325 = true then (if (bt321.2 != bt312.2) = true then (some false) else ((laws_toPuzzle.f k a0_0 l0_1).bind fun bt346 => ((laws_eqPuzzle.f k bt316.1 bt316.2 bt346.1 bt346.2).bind fun t350 => (if t350 = true then ((laws_markPuzzle.f k bt316.1 bt316.2 1).bind fun bt357 => (if bt357.1 < 0 then (some false) else ((laws_eqIntSS.f k bt321.1 bt312.1).bind fun t359 => (if t359 = true then ((laws_markIntSS.f k bt321.1 1).bind fun bt386 => ((laws_heldIntSS.f k bt386.2 1).bind fun t388 => (if t388 < 0 then (some false) else (if t388 = bt386.1 then ((laws_toPuzzle.f k a0_0 l0_1).bind fun bt409 => ((impl_Solutions.f k bt409.1 bt409.2).bind fun bt413 => ((laws_eqIntSS.f k bt413.1 bt312.1).bind fun t417 => (if t417 = true then (if (bt413.2 != bt312.2) = true then (some false) else ((laws_heldIntSS.f k bt386.2 1).bind fun t420 => (if t420 < 0 then (some false) else (if t420 = bt386.1 then (some true) else (some false))))) else (some false))))) else (some false))))) else (some false))))) else (some false))))) else (some false)))))) = some true := H
  have A7 := Aside0.mk A70
  clear A70
  replace H := Option.bind_eq_some_iff.mp H
  obtain ⟨⟨t312, t315⟩, A80, H⟩ := H
  replace H : ((laws_toPuzzle.f k a0_0 l0_1).bind fun bt316 => ((impl_Solutions.f k bt316.1 bt316.2).bind fun bt321 => ((laws_eqIntSS.f k bt321.1 t312).bind fun t325 => (if t325 = true then (if (bt321.2 != t315) = true then (some false) else ((laws_toPuzzle.f k a0_0 l0_1).bind fun bt346 => ((laws_eqPuzzle.f k bt316.1 bt316.2 bt346.1 bt346.2).bind fun t350 => (if t350 = true then ((laws_markPuzzle.f k bt316.1 bt316.2 1).bind fun bt357 => (if bt357.1 < 0 then (some false) else ((laws_eqIntSS.f k bt321.1 t312).bind fun t359 => (if t359 = true then ((laws_markIntSS.f k bt321.1 1).bind fun bt386 => ((laws_heldIntSS.f k bt386.2 1).bind fun t388 => (if t388 < 0 then (some false) else (if t388 = bt386.1 then ((laws_toPuzzle.f k a0_0 l0_1).bind fun bt409 => ((impl_Solutions.f k bt409.1 bt409.2).bind fun bt413 => ((laws_eqIntSS.f k bt413.1 t312).bind fun t417 => (if t417 = true then (if (bt413.2 != t315) = true then (some false) else ((laws_heldIntSS.f k bt386.2 1).bind fun t420 => (if t420 < 0 then (some false) else (if t420 = bt386.1 then (some true) else (some false))))) else (some false))))) else (some false))))) else (some false))))) else (some false))))) else (some false))))) = some true := H
  have A8 := Aside0.mk A80
  clear A80
  replace H := Option.bind_eq_some_iff.mp H
  obtain ⟨⟨t316, t317⟩, A90, H⟩ := H
  replace H : ((impl_Solutions.f k t316 t317).bind fun bt321 => ((laws_eqIntSS.f k bt321.1 t312).bind fun t325 => (if t325 = true then (if (bt321.2 != t315) = true then (some false) else ((laws_toPuzzle.f k a0_0 l0_1).bind fun bt346 => ((laws_eqPuzzle.f k t316 t317 bt346.1 bt346.2).bind fun t350 => (if t350 = true then ((laws_markPuzzle.f k t316 t317 1).bind fun bt357 => (if bt357.1 < 0 then (some false) else ((laws_eqIntSS.f k bt321.1 t312).bind fun t359 => (if t359 = true then ((laws_markIntSS.f k bt321.1 1).bind fun bt386 => ((laws_heldIntSS.f k bt386.2 1).bind fun t388 => (if t388 < 0 then (some false) else (if t388 = bt386.1 then ((laws_toPuzzle.f k a0_0 l0_1).bind fun bt409 => ((impl_Solutions.f k bt409.1 bt409.2).bind fun bt413 => ((laws_eqIntSS.f k bt413.1 t312).bind fun t417 => (if t417 = true then (if (bt413.2 != t315) = true then (some false) else ((laws_heldIntSS.f k bt386.2 1).bind fun t420 => (if t420 < 0 then (some false) else (if t420 = bt386.1 then (some true) else (some false))))) else (some false))))) else (some false))))) else (some false))))) else (some false))))) else (some false)))) = some true := H
  have A9 := Aside0.mk A90
  clear A90
  replace H := Option.bind_eq_some_iff.mp H
  obtain ⟨⟨t321, t324⟩, A100, H⟩ := H
  replace H : ((laws_eqIntSS.f k t321 t312).bind fun t325 => (if t325 = true then (if (t324 != t315) = true then (some false) else ((laws_toPuzzle.f k a0_0 l0_1).bind fun bt346 => ((laws_eqPuzzle.f k t316 t317 bt346.1 bt346.2).bind fun t350 => (if t350 = true then ((laws_markPuzzle.f k t316 t317 1).bind fun bt357 => (if bt357.1 < 0 then (some false) else ((laws_eqIntSS.f k t321 t312).bind fun t359 => (if t359 = true then ((laws_markIntSS.f k t321 1).bind fun bt386 => ((laws_heldIntSS.f k bt386.2 1).bind fun t388 => (if t388 < 0 then (some false) else (if t388 = bt386.1 then ((laws_toPuzzle.f k a0_0 l0_1).bind fun bt409 => ((impl_Solutions.f k bt409.1 bt409.2).bind fun bt413 => ((laws_eqIntSS.f k bt413.1 t312).bind fun t417 => (if t417 = true then (if (bt413.2 != t315) = true then (some false) else ((laws_heldIntSS.f k bt386.2 1).bind fun t420 => (if t420 < 0 then (some false) else (if t420 = bt386.1 then (some true) else (some false))))) else (some false))))) else (some false))))) else (some false))))) else (some false))))) else (some false))) = some true := H
  have A10 := Aside0.mk A100
  clear A100
  replace H := Option.bind_eq_some_iff.mp H
  obtain ⟨t325, A110, H⟩ := H
  replace H : (if t325 = true then (if (t324 != t315) = true then (some false) else ((laws_toPuzzle.f k a0_0 l0_1).bind fun bt346 => ((laws_eqPuzzle.f k t316 t317 bt346.1 bt346.2).bind fun t350 => (if t350 = true then ((laws_markPuzzle.f k t316 t317 1).bind fun bt357 => (if bt357.1 < 0 then (some false) else ((laws_eqIntSS.f k t321 t312).bind fun t359 => (if t359 = true then ((laws_markIntSS.f k t321 1).bind fun bt386 => ((laws_heldIntSS.f k bt386.2 1).bind fun t388 => (if t388 < 0 then (some false) else (if t388 = bt386.1 then ((laws_toPuzzle.f k a0_0 l0_1).bind fun bt409 => ((impl_Solutions.f k bt409.1 bt409.2).bind fun bt413 => ((laws_eqIntSS.f k bt413.1 t312).bind fun t417 => (if t417 = true then (if (bt413.2 != t315) = true then (some false) else ((laws_heldIntSS.f k bt386.2 1).bind fun t420 => (if t420 < 0 then (some false) else (if t420 = bt386.1 then (some true) else (some false))))) else (some false))))) else (some false))))) else (some false))))) else (some false))))) else (some false)) = some true := H
  have A11 := Aside0.mk A110
  clear A110
  by_cases c12 : t325 = true
  rotate_left
  ·replace c12 := Bool.eq_false_iff.mpr c12
   subst c12
   have H1 : (some false) = some true := by first | (rw [if_neg (show ¬ (false = true) by decide)] at H; exact H) | rfl
   clear H
   have H := H1
   clear H1
   exact absurd H (by simp)
  subst c12
  have H1 : (if (t324 != t315) = true then (some false) else ((laws_toPuzzle.f k a0_0 l0_1).bind fun bt346 => ((laws_eqPuzzle.f k t316 t317 bt346.1 bt346.2).bind fun t350 => (if t350 = true then ((laws_markPuzzle.f k t316 t317 1).bind fun bt357 => (if bt357.1 < 0 then (some false) else ((laws_eqIntSS.f k t321 t312).bind fun t359 => (if t359 = true then ((laws_markIntSS.f k t321 1).bind fun bt386 => ((laws_heldIntSS.f k bt386.2 1).bind fun t388 => (if t388 < 0 then (some false) else (if t388 = bt386.1 then ((laws_toPuzzle.f k a0_0 l0_1).bind fun bt409 => ((impl_Solutions.f k bt409.1 bt409.2).bind fun bt413 => ((laws_eqIntSS.f k bt413.1 t312).bind fun t417 => (if t417 = true then (if (bt413.2 != t315) = true then (some false) else ((laws_heldIntSS.f k bt386.2 1).bind fun t420 => (if t420 < 0 then (some false) else (if t420 = bt386.1 then (some true) else (some false))))) else (some false))))) else (some false))))) else (some false))))) else (some false))))) = some true := by first | (rw [if_pos rfl] at H; exact H) | rfl
  clear H
  have H := H1
  clear H1
  by_cases c13 : (t324 != t315) = true
  ·rw [if_pos c13] at H
   have c13b0 : (t324 != t315) = true := c13
   (try (have c13b1 : decide (t324 = t315) = false := by simpa using c13))
   (try (have c13b2 : (t324 == t315) = false := by simpa using c13))
   (try (have c13b3 : ¬ (t324 = t315) := by simpa using c13))
   clear c13
   exact absurd H (by simp)
  rw [if_neg c13] at H
  have c13b0 : (t324 != t315) = false := by simpa using c13
  (try (have c13b1 : decide (t324 = t315) = true := by simpa using c13))
  (try (have c13b2 : (t324 == t315) = true := by simpa using c13))
  clear c13
  replace H := Option.bind_eq_some_iff.mp H
  obtain ⟨⟨t346, t347⟩, A140, H⟩ := H
  replace H : ((laws_eqPuzzle.f k t316 t317 t346 t347).bind fun t350 => (if t350 = true then ((laws_markPuzzle.f k t316 t317 1).bind fun bt357 => (if bt357.1 < 0 then (some false) else ((laws_eqIntSS.f k t321 t312).bind fun t359 => (if t359 = true then ((laws_markIntSS.f k t321 1).bind fun bt386 => ((laws_heldIntSS.f k bt386.2 1).bind fun t388 => (if t388 < 0 then (some false) else (if t388 = bt386.1 then ((laws_toPuzzle.f k a0_0 l0_1).bind fun bt409 => ((impl_Solutions.f k bt409.1 bt409.2).bind fun bt413 => ((laws_eqIntSS.f k bt413.1 t312).bind fun t417 => (if t417 = true then (if (bt413.2 != t315) = true then (some false) else ((laws_heldIntSS.f k bt386.2 1).bind fun t420 => (if t420 < 0 then (some false) else (if t420 = bt386.1 then (some true) else (some false))))) else (some false))))) else (some false))))) else (some false))))) else (some false))) = some true := H
  have A14 := Aside0.mk A140
  clear A140
  replace H := Option.bind_eq_some_iff.mp H
  obtain ⟨t350, A150, H⟩ := H
  replace H : (if t350 = true then ((laws_markPuzzle.f k t316 t317 1).bind fun bt357 => (if bt357.1 < 0 then (some false) else ((laws_eqIntSS.f k t321 t312).bind fun t359 => (if t359 = true then ((laws_markIntSS.f k t321 1).bind fun bt386 => ((laws_heldIntSS.f k bt386.2 1).bind fun t388 => (if t388 < 0 then (some false) else (if t388 = bt386.1 then ((laws_toPuzzle.f k a0_0 l0_1).bind fun bt409 => ((impl_Solutions.f k bt409.1 bt409.2).bind fun bt413 => ((laws_eqIntSS.f k bt413.1 t312).bind fun t417 => (if t417 = true then (if (bt413.2 != t315) = true then (some false) else ((laws_heldIntSS.f k bt386.2 1).bind fun t420 => (if t420 < 0 then (some false) else (if t420 = bt386.1 then (some true) else (some false))))) else (some false))))) else (some false))))) else (some false))))) else (some false)) = some true := H
  have A15 := Aside0.mk A150
  clear A150
  by_cases c16 : t350 = true
  rotate_left
  ·replace c16 := Bool.eq_false_iff.mpr c16
   subst c16
   have H1 : (some false) = some true := by first | (rw [if_neg (show ¬ (false = true) by decide)] at H; exact H) | rfl
   clear H
   have H := H1
   clear H1
   exact absurd H (by simp)
  subst c16
  have H1 : ((laws_markPuzzle.f k t316 t317 1).bind fun bt357 => (if bt357.1 < 0 then (some false) else ((laws_eqIntSS.f k t321 t312).bind fun t359 => (if t359 = true then ((laws_markIntSS.f k t321 1).bind fun bt386 => ((laws_heldIntSS.f k bt386.2 1).bind fun t388 => (if t388 < 0 then (some false) else (if t388 = bt386.1 then ((laws_toPuzzle.f k a0_0 l0_1).bind fun bt409 => ((impl_Solutions.f k bt409.1 bt409.2).bind fun bt413 => ((laws_eqIntSS.f k bt413.1 t312).bind fun t417 => (if t417 = true then (if (bt413.2 != t315) = true then (some false) else ((laws_heldIntSS.f k bt386.2 1).bind fun t420 => (if t420 < 0 then (some false) else (if t420 = bt386.1 then (some true) else (some false))))) else (some false))))) else (some false))))) else (some false))))) = some true := by first | (rw [if_pos rfl] at H; exact H) | rfl
  clear H
  have H := H1
  clear H1
  replace H := Option.bind_eq_some_iff.mp H
  obtain ⟨⟨t357, t358⟩, A170, H⟩ := H
  replace H : (if t357 < 0 then (some false) else ((laws_eqIntSS.f k t321 t312).bind fun t359 => (if t359 = true then ((laws_markIntSS.f k t321 1).bind fun bt386 => ((laws_heldIntSS.f k bt386.2 1).bind fun t388 => (if t388 < 0 then (some false) else (if t388 = bt386.1 then ((laws_toPuzzle.f k a0_0 l0_1).bind fun bt409 => ((impl_Solutions.f k bt409.1 bt409.2).bind fun bt413 => ((laws_eqIntSS.f k bt413.1 t312).bind fun t417 => (if t417 = true then (if (bt413.2 != t315) = true then (some false) else ((laws_heldIntSS.f k bt386.2 1).bind fun t420 => (if t420 < 0 then (some false) else (if t420 = bt386.1 then (some true) else (some false))))) else (some false))))) else (some false))))) else (some false)))) = some true := H
  have A17 := Aside0.mk A170
  clear A170
  by_cases c18 : t357 < 0
  ·rw [if_pos c18] at H
   have c18b0 : decide (t357 < 0) = true := decide_eq_true c18
   clear c18
   exact absurd H (by simp)
  rw [if_neg c18] at H
  have c18b0 : decide (t357 < 0) = false := decide_eq_false c18
  clear c18
  replace H := Option.bind_eq_some_iff.mp H
  obtain ⟨t359, A190, H⟩ := H
  replace H : (if t359 = true then ((laws_markIntSS.f k t321 1).bind fun bt386 => ((laws_heldIntSS.f k bt386.2 1).bind fun t388 => (if t388 < 0 then (some false) else (if t388 = bt386.1 then ((laws_toPuzzle.f k a0_0 l0_1).bind fun bt409 => ((impl_Solutions.f k bt409.1 bt409.2).bind fun bt413 => ((laws_eqIntSS.f k bt413.1 t312).bind fun t417 => (if t417 = true then (if (bt413.2 != t315) = true then (some false) else ((laws_heldIntSS.f k bt386.2 1).bind fun t420 => (if t420 < 0 then (some false) else (if t420 = bt386.1 then (some true) else (some false))))) else (some false))))) else (some false))))) else (some false)) = some true := H
  have A19 := Aside0.mk A190
  clear A190
  by_cases c20 : t359 = true
  rotate_left
  ·replace c20 := Bool.eq_false_iff.mpr c20
   subst c20
   have H1 : (some false) = some true := by first | (rw [if_neg (show ¬ (false = true) by decide)] at H; exact H) | rfl
   clear H
   have H := H1
   clear H1
   exact absurd H (by simp)
  subst c20
  have H1 : ((laws_markIntSS.f k t321 1).bind fun bt386 => ((laws_heldIntSS.f k bt386.2 1).bind fun t388 => (if t388 < 0 then (some false) else (if t388 = bt386.1 then ((laws_toPuzzle.f k a0_0 l0_1).bind fun bt409 => ((impl_Solutions.f k bt409.1 bt409.2).bind fun bt413 => ((laws_eqIntSS.f k bt413.1 t312).bind fun t417 => (if t417 = true then (if (bt413.2 != t315) = true then (some false) else ((laws_heldIntSS.f k bt386.2 1).bind fun t420 => (if t420 < 0 then (some false) else (if t420 = bt386.1 then (some true) else (some false))))) else (some false))))) else (some false))))) = some true := by first | (rw [if_pos rfl] at H; exact H) | rfl
  clear H
  have H := H1
  clear H1
  replace H := Option.bind_eq_some_iff.mp H
  obtain ⟨⟨t386, t387⟩, A210, H⟩ := H
  replace H : ((laws_heldIntSS.f k t387 1).bind fun t388 => (if t388 < 0 then (some false) else (if t388 = t386 then ((laws_toPuzzle.f k a0_0 l0_1).bind fun bt409 => ((impl_Solutions.f k bt409.1 bt409.2).bind fun bt413 => ((laws_eqIntSS.f k bt413.1 t312).bind fun t417 => (if t417 = true then (if (bt413.2 != t315) = true then (some false) else ((laws_heldIntSS.f k t387 1).bind fun t420 => (if t420 < 0 then (some false) else (if t420 = t386 then (some true) else (some false))))) else (some false))))) else (some false)))) = some true := H
  have A21 := Aside0.mk A210
  clear A210
  replace H := Option.bind_eq_some_iff.mp H
  obtain ⟨t388, A220, H⟩ := H
  replace H : (if t388 < 0 then (some false) else (if t388 = t386 then ((laws_toPuzzle.f k a0_0 l0_1).bind fun bt409 => ((impl_Solutions.f k bt409.1 bt409.2).bind fun bt413 => ((laws_eqIntSS.f k bt413.1 t312).bind fun t417 => (if t417 = true then (if (bt413.2 != t315) = true then (some false) else ((laws_heldIntSS.f k t387 1).bind fun t420 => (if t420 < 0 then (some false) else (if t420 = t386 then (some true) else (some false))))) else (some false))))) else (some false))) = some true := H
  have A22 := Aside0.mk A220
  clear A220
  by_cases c23 : t388 < 0
  ·rw [if_pos c23] at H
   have c23b0 : decide (t388 < 0) = true := decide_eq_true c23
   clear c23
   exact absurd H (by simp)
  rw [if_neg c23] at H
  have c23b0 : decide (t388 < 0) = false := decide_eq_false c23
  clear c23
  by_cases c24 : t388 = t386
  rotate_left
  ·rw [if_neg c24] at H
   have c24b0 : (t388 == t386) = false := beq_eq_false_iff_ne.mpr c24
   have c24b1 : (t388 != t386) = true := bne_iff_ne.mpr c24
   exact absurd H (by simp)
  rw [if_pos c24] at H
  have c24b0 : (t388 == t386) = true := beq_iff_eq.mpr c24
  have c24b1 : (t388 != t386) = false := bne_eq_false_iff_eq.mpr c24
  clear c24
  replace H := Option.bind_eq_some_iff.mp H
  obtain ⟨⟨t409, t410⟩, A250, H⟩ := H
  replace H : ((impl_Solutions.f k t409 t410).bind fun bt413 => ((laws_eqIntSS.f k bt413.1 t312).bind fun t417 => (if t417 = true then (if (bt413.2 != t315) = true then (some false) else ((laws_heldIntSS.f k t387 1).bind fun t420 => (if t420 < 0 then (some false) else (if t420 = t386 then (some true) else (some false))))) else (some false)))) = some true := H
  have A25 := Aside0.mk A250
  clear A250
  replace H := Option.bind_eq_some_iff.mp H
  obtain ⟨⟨t413, t416⟩, A260, H⟩ := H
  replace H : ((laws_eqIntSS.f k t413 t312).bind fun t417 => (if t417 = true then (if (t416 != t315) = true then (some false) else ((laws_heldIntSS.f k t387 1).bind fun t420 => (if t420 < 0 then (some false) else (if t420 = t386 then (some true) else (some false))))) else (some false))) = some true := H
  have A26 := Aside0.mk A260
  clear A260
  replace H := Option.bind_eq_some_iff.mp H
  obtain ⟨t417, A270, H⟩ := H
  replace H : (if t417 = true then (if (t416 != t315) = true then (some false) else ((laws_heldIntSS.f k t387 1).bind fun t420 => (if t420 < 0 then (some false) else (if t420 = t386 then (some true) else (some false))))) else (some false)) = some true := H
  have A27 := Aside0.mk A270
  clear A270
  by_cases c28 : t417 = true
  rotate_left
  ·replace c28 := Bool.eq_false_iff.mpr c28
   subst c28
   have H1 : (some false) = some true := by first | (rw [if_neg (show ¬ (false = true) by decide)] at H; exact H) | rfl
   clear H
   have H := H1
   clear H1
   exact absurd H (by simp)
  subst c28
  have H1 : (if (t416 != t315) = true then (some false) else ((laws_heldIntSS.f k t387 1).bind fun t420 => (if t420 < 0 then (some false) else (if t420 = t386 then (some true) else (some false))))) = some true := by first | (rw [if_pos rfl] at H; exact H) | rfl
  clear H
  have H := H1
  clear H1
  by_cases c29 : (t416 != t315) = true
  ·rw [if_pos c29] at H
   have c29b0 : (t416 != t315) = true := c29
   (try (have c29b1 : decide (t416 = t315) = false := by simpa using c29))
   (try (have c29b2 : (t416 == t315) = false := by simpa using c29))
   (try (have c29b3 : ¬ (t416 = t315) := by simpa using c29))
   clear c29
   exact absurd H (by simp)
  rw [if_neg c29] at H
  have c29b0 : (t416 != t315) = false := by simpa using c29
  (try (have c29b1 : decide (t416 = t315) = true := by simpa using c29))
  (try (have c29b2 : (t416 == t315) = true := by simpa using c29))
  clear c29
  replace H := Option.bind_eq_some_iff.mp H
  obtain ⟨t420, A300, H⟩ := H
  replace H : (if t420 < 0 then (some false) else (if t420 = t386 then (some true) else (some false))) = some true := H
  have A30 := Aside0.mk A300
  clear A300
  by_cases c31 : t420 < 0
  ·rw [if_pos c31] at H
   have c31b0 : decide (t420 < 0) = true := decide_eq_true c31
   clear c31
   exact absurd H (by simp)
  rw [if_neg c31] at H
  have c31b0 : decide (t420 < 0) = false := decide_eq_false c31
  clear c31
  by_cases c32 : t420 = t386
  rotate_left
  ·rw [if_neg c32] at H
   have c32b0 : (t420 == t386) = false := beq_eq_false_iff_ne.mpr c32
   have c32b1 : (t420 != t386) = true := bne_iff_ne.mpr c32
   exact absurd H (by simp)
  rw [if_pos c32] at H
  have c32b0 : (t420 == t386) = true := beq_iff_eq.mpr c32
  have c32b1 : (t420 != t386) = false := bne_eq_false_iff_eq.mpr c32
  clear c32
  clear H
  go_enter Try.func15, Try.ntmps15
  try go_wp2_with (first | ((with_reducible refine gate_dst (N := 1) rfl ?_); refine box_event ?hg (N := 1) ?hd (cs := #[.int .i64 a0_0, .slice A0_1 l0_1.length c0_1]) (t := 31) ?hr ?_; (case hd => rfl); (case hg => rfl); (case hr => first | (go_simp; done) | (go_simp; rfl)); intro gb281 hg w33 hbox hb; have n0_ := Aside0.mk (below_step (by repeat (first | (with_reducible first | exact HB.out | apply below_alloc | apply pw_below_drewN | apply below_drew1) | exact HB.out)) hb); have n1_ := Aside0.mk (hbox); have n2_ := Aside0.mk ((by rw [hg]; exact (below_size (by repeat (first | (with_reducible first | exact HB.out | apply below_alloc | apply pw_below_drewN | apply below_drew1) | exact HB.out))) : w.heap.size ≤ gb281)); have n3_ := Aside0.mk ((by rw [hg]; exact (below_size (by repeat (first | (with_reducible first | exact HB.out | apply below_alloc | apply pw_below_drewN | apply below_drew1) | exact HB.out))) : w.heap.size ≤ gb281)); clear HB; have HB := n0_; have BK281 := n1_; have GW281 := n2_; have GE281 := n3_; clear n0_ n1_ n2_ n3_; clear hb hbox hg; have hcz34_0 : w33.cell? ⟨gb281, 0, none⟩ = some (.int .i64 a0_0) := (blk_cell BK281.out 0).trans rfl; have hcz34_1 : w33.cell? ⟨gb281, 1, none⟩ = some (.slice A0_1 l0_1.length c0_1) := (blk_cell BK281.out 1).trans rfl; have hfz34_0 := blk_frozen BK281.out 0; have hfz34_1 := blk_frozen BK281.out 1) | ((with_reducible refine gate_callee (f := 24) rfl ?_); refine goesL_ (some 16) rfl rfl Try.func24 (by kernel_rfl) rfl #[.agg #[.int .i64 a0_0, .slice A0_1 l0_1.length c0_1], .int .i64 1048576] rfl (by (try simp only [List.map_toArray, List.map_cons, List.map_nil]); first | done | rfl | (simp only [List.length_drop, List.length_take]; rfl)) ?_; (with_reducible refine (laws_szPuzzle.calls a0_0 _ _ l0_1 1048576 t282 _ ?side1 ?side2 A2.out).mono ?_); (case side1 => repeat (first | exact (Kd.C_below HR0_1.out HB.out) | (with_reducible refine Kd.C_alloc ?_ _) | (with_reducible refine Kd.C_drewN ?_ _) | (with_reducible refine Kd.C_drew ?_))); (case side2 => exact HC0_1.out); rintro e w35 ⟨rfl, hb⟩; refine ⟨_, rfl, ?_⟩; have n0_ := Aside0.mk (blk_below (g := gb281) (o := .cells #[.int .i64 a0_0, .slice A0_1 l0_1.length c0_1] 31 (0, 0)) (by (with_reducible repeat (first | refine bN ?_ _ | refine bD ?_ | refine bA ?_ _)); exact BK281.out) hb); have n1_ := Aside0.mk (below_step (by repeat (first | (with_reducible first | exact HB.out | apply below_alloc | apply pw_below_drewN | apply below_drew1) | exact HB.out)) hb); clear BK281; clear HB; have BK281 := n0_; have HB := n1_; clear n0_ n1_; (try clear hb); (try clear hb2); (try clear hk); (try clear hi); have hcz36_0 : w35.cell? ⟨gb281, 0, none⟩ = some (.int .i64 a0_0) := (blk_cell BK281.out 0).trans rfl; have hcz36_1 : w35.cell? ⟨gb281, 1, none⟩ = some (.slice A0_1 l0_1.length c0_1) := (blk_cell BK281.out 1).trans rfl; have hfz36_0 := blk_frozen BK281.out 0; have hfz36_1 := blk_frozen BK281.out 1) | ((with_reducible refine gate_callee (f := 26) rfl ?_); refine goesL_ (some 21) rfl rfl Try.func26 (by kernel_rfl) rfl #[.agg #[.int .i64 a0_0, .slice A0_1 l0_1.length c0_1]] rfl (by (try simp only [List.map_toArray, List.map_cons, List.map_nil]); first | done | rfl | (simp only [List.length_drop, List.length_take]; rfl)) ?_; (with_reducible refine (laws_toPuzzle.calls k a0_0 _ _ l0_1 t308 t309 _ ?side1 ?side2 A7.out).mono ?_); (case side1 => repeat (first | exact (Kd.C_below HR0_1.out HB.out) | (with_reducible refine Kd.C_alloc ?_ _) | (with_reducible refine Kd.C_drewN ?_ _) | (with_reducible refine Kd.C_drew ?_))); (case side2 => exact HC0_1.out); rintro e w37 ⟨v310, rfl, ho0, hb⟩; refine ⟨_, rfl, ?_⟩; have n0_ := Aside0.mk (Kd.R_lower ho0 (below_size (by repeat (first | (with_reducible first | exact HB.out | apply below_alloc | apply pw_below_drewN | apply below_drew1) | exact HB.out)))); have n1_ := Aside0.mk (blk_below (g := gb281) (o := .cells #[.int .i64 a0_0, .slice A0_1 l0_1.length c0_1] 31 (0, 0)) (by (with_reducible repeat (first | refine bN ?_ _ | refine bD ?_ | refine bA ?_ _)); exact BK281.out) hb); have n2_ := Aside0.mk (below_step (by repeat (first | (with_reducible first | exact HB.out | apply below_alloc | apply pw_below_drewN | apply below_drew1) | exact HB.out)) hb); clear BK281; clear HB; have HO311 := n0_; have BK281 := n1_; have HB := n2_; clear n0_ n1_ n2_; (try clear hb); (try clear hb2); (try clear hk); (try clear hi); (try clear ho0); obtain ⟨Ao38, co38, eo38⟩ := Kd.R_slice HO311.out; subst eo38) | ((with_reducible refine gate_callee (f := 58) rfl ?_); refine goesL_ (some 22) rfl rfl Try.func58 (by kernel_rfl) rfl #[.agg #[.int .i64 t308, .slice Ao38 t309.length co38]] rfl (by (try simp only [List.map_toArray, List.map_cons, List.map_nil]); first | done | rfl | (simp only [List.length_drop, List.length_take]; rfl)) ?_; (with_reducible refine (spec_Solutions.calls k t308 _ _ t309 t312 t315 _ ?side1 ?side2 A8.out).mono ?_); (case side1 => repeat (first | exact (Kd.R_reads' HO311.out).2.2 | (with_reducible refine Kd.C_alloc ?_ _) | (with_reducible refine Kd.C_drewN ?_ _) | (with_reducible refine Kd.C_drew ?_))); (case side2 => exact (Kd.R_reads' HO311.out).2.1); rintro e w39 ⟨v313, rfl, ho0, hb⟩; refine ⟨_, rfl, ?_⟩; have n0_ := Aside0.mk (Kd.R_below (by (with_reducible repeat (first | apply Kd.R_alloc | apply Kd.R_drewN | apply Kd.R_drew)); exact HO311.out) hb); have n1_ := Aside0.mk (Kd.S_lower ho0 (below_size (by repeat (first | (with_reducible first | exact HB.out | apply below_alloc | apply pw_below_drewN | apply below_drew1) | exact HB.out)))); have n2_ := Aside0.mk (blk_below (g := gb281) (o := .cells #[.int .i64 a0_0, .slice A0_1 l0_1.length c0_1] 31 (0, 0)) (by (with_reducible repeat (first | refine bN ?_ _ | refine bD ?_ | refine bA ?_ _)); exact BK281.out) hb); have n3_ := Aside0.mk (below_step (by repeat (first | (with_reducible first | exact HB.out | apply below_alloc | apply pw_below_drewN | apply below_drew1) | exact HB.out)) hb); clear HO311; clear BK281; clear HB; have HO311 := n0_; have HO314 := n1_; have BK281 := n2_; have HB := n3_; clear n0_ n1_ n2_ n3_; (try clear hb); (try clear hb2); (try clear hk); (try clear hi); (try clear ho0); have hcz40_0 : w39.cell? ⟨gb281, 0, none⟩ = some (.int .i64 a0_0) := (blk_cell BK281.out 0).trans rfl; have hcz40_1 : w39.cell? ⟨gb281, 1, none⟩ = some (.slice A0_1 l0_1.length c0_1) := (blk_cell BK281.out 1).trans rfl; have hfz40_0 := blk_frozen BK281.out 0; have hfz40_1 := blk_frozen BK281.out 1) | ((with_reducible refine gate_callee (f := 26) rfl ?_); refine goesL_ (some 26) rfl rfl Try.func26 (by kernel_rfl) rfl #[.agg #[.int .i64 a0_0, .slice A0_1 l0_1.length c0_1]] rfl (by (try simp only [List.map_toArray, List.map_cons, List.map_nil]); first | done | rfl | (simp only [List.length_drop, List.length_take]; rfl)) ?_; (with_reducible refine (laws_toPuzzle.calls k a0_0 _ _ l0_1 t316 t317 _ ?side1 ?side2 A9.out).mono ?_); (case side1 => repeat (first | exact (Kd.C_below HR0_1.out HB.out) | (with_reducible refine Kd.C_alloc ?_ _) | (with_reducible refine Kd.C_drewN ?_ _) | (with_reducible refine Kd.C_drew ?_))); (case side2 => exact HC0_1.out); rintro e w41 ⟨v318, rfl, ho0, hb⟩; refine ⟨_, rfl, ?_⟩; have n0_ := Aside0.mk (Kd.S_below (by (with_reducible repeat (first | apply Kd.S_alloc | apply Kd.S_drewN | apply Kd.S_drew)); exact HO314.out) hb); have n1_ := Aside0.mk (Kd.R_lower ho0 (below_size (by repeat (first | (with_reducible first | exact HB.out | apply below_alloc | apply pw_below_drewN | apply below_drew1) | exact HB.out)))); have n2_ := Aside0.mk (blk_below (g := gb281) (o := .cells #[.int .i64 a0_0, .slice A0_1 l0_1.length c0_1] 31 (0, 0)) (by (with_reducible repeat (first | refine bN ?_ _ | refine bD ?_ | refine bA ?_ _)); exact BK281.out) hb); have n3_ := Aside0.mk (below_step (by repeat (first | (with_reducible first | exact HB.out | apply below_alloc | apply pw_below_drewN | apply below_drew1) | exact HB.out)) hb); clear HO314; clear BK281; clear HB; have HO314 := n0_; have HO319 := n1_; have BK281 := n2_; have HB := n3_; clear n0_ n1_ n2_ n3_; (try clear hb); (try clear hb2); (try clear hk); (try clear hi); (try clear ho0)) | ((with_reducible refine gate_dst (N := 6) rfl ?_); refine box_event ?hg (N := 6) ?hd (cs := #[.int .i64 0, .slice none 0 0]) (t := 36) ?hr ?_; (case hd => rfl); (case hg => rfl); (case hr => first | (go_simp; done) | (go_simp; rfl)); intro gb320 hg w42 hbox hb; have n0_ := Aside0.mk (Kd.S_below (by (with_reducible repeat (first | apply Kd.S_alloc | apply Kd.S_drewN | apply Kd.S_drew)); exact HO314.out) hb); have n1_ := Aside0.mk (Kd.R_below (by (with_reducible repeat (first | apply Kd.R_alloc | apply Kd.R_drewN | apply Kd.R_drew)); exact HO319.out) hb); have n2_ := Aside0.mk (blk_below (g := gb281) (o := .cells #[.int .i64 a0_0, .slice A0_1 l0_1.length c0_1] 31 (0, 0)) (by (with_reducible repeat (first | refine bN ?_ _ | refine bD ?_ | refine bA ?_ _)); exact BK281.out) hb); have n3_ := Aside0.mk (below_step (by repeat (first | (with_reducible first | exact HB.out | apply below_alloc | apply pw_below_drewN | apply below_drew1) | exact HB.out)) hb); have n4_ := Aside0.mk (hbox); have n5_ := Aside0.mk ((by rw [hg]; exact (below_size (by repeat (first | (with_reducible first | exact HB.out | apply below_alloc | apply pw_below_drewN | apply below_drew1) | exact HB.out))) : w.heap.size ≤ gb320)); have n6_ := Aside0.mk ((by rw [hg]; exact (below_size (by repeat (first | (with_reducible first | exact HB.out | apply below_alloc | apply pw_below_drewN | apply below_drew1) | exact HB.out))) : w.heap.size ≤ gb320)); have n7_ := Aside0.mk ((by rw [hg]; exact Nat.ne_of_lt (blk_lt (g := gb281) (o := .cells #[.int .i64 a0_0, .slice A0_1 l0_1.length c0_1] 31 (0, 0)) (by (with_reducible repeat (first | refine bN ?_ _ | refine bD ?_ | refine bA ?_ _)); exact BK281.out)) : gb281 ≠ gb320)); have n8_ := Aside0.mk ((by rw [hg]; exact Nat.ne_of_gt (blk_lt (g := gb281) (o := .cells #[.int .i64 a0_0, .slice A0_1 l0_1.length c0_1] 31 (0, 0)) (by (with_reducible repeat (first | refine bN ?_ _ | refine bD ?_ | refine bA ?_ _)); exact BK281.out)) : gb320 ≠ gb281)); clear HO314; clear HO319; clear BK281; clear HB; have HO314 := n0_; have HO319 := n1_; have BK281 := n2_; have HB := n3_; have BK320 := n4_; have GW320 := n5_; have GE320 := n6_; have NB281_320 := n7_; have NB320_281 := n8_; clear n0_ n1_ n2_ n3_ n4_ n5_ n6_ n7_ n8_; clear hb hbox hg; have hnb43 := NB320_281.out; have hnc43 := NB281_320.out; have hcz44_0 : w42.cell? ⟨gb320, 0, none⟩ = some (.int .i64 0) := (blk_cell BK320.out 0).trans rfl; have hcz44_1 : w42.cell? ⟨gb320, 1, none⟩ = some (.slice none 0 0) := (blk_cell BK320.out 1).trans rfl; have hfz44_0 := blk_frozen BK320.out 0; have hfz44_1 := blk_frozen BK320.out 1; obtain ⟨Ao45, co45, eo45⟩ := Kd.R_slice HO319.out; subst eo45) | ((with_reducible refine gate_callee (f := 59) rfl ?_); refine goesL_ (some 29) rfl rfl Try.func59 (by kernel_rfl) rfl #[.agg #[.int .i64 t316, .slice Ao45 t317.length co45]] rfl (by (try simp only [List.map_toArray, List.map_cons, List.map_nil]); first | done | rfl | (simp only [List.length_drop, List.length_take]; rfl)) ?_; (with_reducible refine (impl_Solutions.calls k t316 _ _ t317 t321 t324 _ ?side1 ?side2 A10.out).mono ?_); (case side1 => refine (Kd.R_reads' (e := 44) (base := w.heap.size) (ok := fun k_ => True) (n := t317.length) (c := co45) ?_).2.2; exact (by (with_reducible repeat (first | apply Kd.R_alloc | apply Kd.R_drewN | apply Kd.R_drew)); exact (Kd.R_mono (Kd.R_far (p := ⟨gb320, 1, none⟩) (Kd.R_far (p := ⟨gb320, 0, none⟩) (Kd.R_types HO319.out BK320.out (by decide)) (fun _ hk => hk.2) (.int .i64 t316)) (fun _ hk => hk.2) (.slice Ao45 t317.length co45)) (fun _ h_ => h_.1)))); (case side2 => exact (Kd.R_reads' HO319.out).2.1); rintro e w46 ⟨v322, rfl, ho0, how_, hb⟩; refine ⟨_, rfl, ?_⟩; obtain ⟨N3, HS3, HO3, HG3⟩ := laws_markIntSS.apart3 (by (with_reducible repeat (first | apply Kd.S_alloc | apply Kd.S_drewN | apply Kd.S_drew)); exact (Kd.S_mono (Kd.S_far (p := ⟨gb320, 1, none⟩) (Kd.S_far (p := ⟨gb320, 0, none⟩) (Kd.S_types HO314.out BK320.out (by decide)) (fun _ hk => hk.2) (.int .i64 t316)) (fun _ hk => hk.2) (.slice Ao45 t317.length co45)) (fun _ h_ => h_.1))) hb how_ (below_size (by repeat (first | (with_reducible first | exact HB.out | apply below_alloc | apply pw_below_drewN | apply below_drew1 | refine below_set ?_ GE281.out | refine below_set ?_ GE320.out) | exact HB.out))) (blk_lt (g := gb281) (o := .cells #[.int .i64 a0_0, .slice A0_1 l0_1.length c0_1] 31 (0, 0)) (by (with_reducible repeat (first | refine bN ?_ _ | refine bD ?_ | refine bA ?_ _)); refine blk_far ?_ NB281_320.out _; (with_reducible repeat (first | refine bN ?_ _ | refine bD ?_ | refine bA ?_ _)); refine blk_far ?_ NB281_320.out _; (with_reducible repeat (first | refine bN ?_ _ | refine bD ?_ | refine bA ?_ _)); exact BK281.out)); clear how_; have n0_ := HS3; have n1_ := Aside0.mk (Kd.R_below (by (with_reducible repeat (first | apply Kd.R_alloc | apply Kd.R_drewN | apply Kd.R_drew)); exact (Kd.R_mono (Kd.R_far (p := ⟨gb320, 1, none⟩) (Kd.R_far (p := ⟨gb320, 0, none⟩) (Kd.R_types HO319.out BK320.out (by decide)) (fun _ hk => hk.2) (.int .i64 t316)) (fun _ hk => hk.2) (.slice Ao45 t317.length co45)) (fun _ h_ => h_.1))) hb); have n2_ := HO3; have n3_ := Aside0.mk (blk_below (g := gb281) (o := .cells #[.int .i64 a0_0, .slice A0_1 l0_1.length c0_1] 31 (0, 0)) (by (with_reducible repeat (first | refine bN ?_ _ | refine bD ?_ | refine bA ?_ _)); refine blk_far ?_ NB281_320.out _; (with_reducible repeat (first | refine bN ?_ _ | refine bD ?_ | refine bA ?_ _)); refine blk_far ?_ NB281_320.out _; (with_reducible repeat (first | refine bN ?_ _ | refine bD ?_ | refine bA ?_ _)); exact BK281.out) hb); have n4_ := Aside0.mk (blk_below (g := gb320) (o := .cells #[.int .i64 t316, .slice Ao45 t317.length co45] 36 (0, 0)) (by (with_reducible repeat (first | refine bN ?_ _ | refine bD ?_ | refine bA ?_ _)); refine blk_put (cs := #[.int .i64 t316, .slice none 0 0]) ?_ 1 _ rfl; (with_reducible repeat (first | refine bN ?_ _ | refine bD ?_ | refine bA ?_ _)); refine blk_put (cs := #[.int .i64 0, .slice none 0 0]) ?_ 0 _ rfl; (with_reducible repeat (first | refine bN ?_ _ | refine bD ?_ | refine bA ?_ _)); exact BK320.out) hb); have n5_ := Aside0.mk (below_step (by repeat (first | (with_reducible first | exact HB.out | apply below_alloc | apply pw_below_drewN | apply below_drew1 | refine below_set ?_ GE281.out | refine below_set ?_ GE320.out) | exact HB.out)) hb); clear HO314; clear HO319; clear BK281; clear BK320; clear HB; have HO314 := n0_; have HO319 := n1_; have HO323 := n2_; have BK281 := n3_; have BK320 := n4_; have HB := n5_; clear HS3 HO3 n0_ n1_ n2_ n3_ n4_ n5_; (try clear hb); (try clear hb2); (try clear hk); (try clear hi); (try clear ho0); obtain ⟨Ao47, co47, eo47, _, _⟩ := laws_markIntSS.O_slice HO323.out; subst eo47; obtain ⟨Ao48, co48, eo48⟩ := Kd.S_slice HO314.out; subst eo48) | ((with_reducible refine gate_callee (f := 60) rfl ?_); refine goesL_ (some 34) rfl rfl Try.func60 (by kernel_rfl) rfl #[.slice Ao47 t321.length co47, .slice Ao48 t312.length co48] rfl (by (try simp only [List.map_toArray, List.map_cons, List.map_nil]); first | done | rfl | (simp only [List.length_drop, List.length_take]; rfl)) ?_; (with_reducible refine (laws_eqIntSS.calls k _ _ t321 _ _ t312 true _ ?side1 ?side2 ?side3 ?side4 A11.out).mono ?_); (case side1 => repeat (first | exact (laws_markIntSS.O_reads' HO323.out).2.2 | (with_reducible refine Kd.C_alloc ?_ _) | (with_reducible refine Kd.C_drewN ?_ _) | (with_reducible refine Kd.C_drew ?_))); (case side2 => exact (laws_markIntSS.O_reads' HO323.out).2.1); (case side3 => repeat (first | exact (Kd.S_reads' HO314.out).2.2 | (with_reducible refine Kd.C_alloc ?_ _) | (with_reducible refine Kd.C_drewN ?_ _) | (with_reducible refine Kd.C_drew ?_))); (case side4 => exact (Kd.S_reads' HO314.out).2.1); rintro e w' ⟨rfl, ⟨nd, rfl⟩⟩; refine ⟨_, rfl, ?_⟩))
  (try (rw [drewN_self w46]; generalize hq_ : World.drewN w46 _ = w46; have n0_ : Aside0 (Kd.S (Kd.slice 3 (Kd.int .i64)) 22 w46 w.heap.size (fun k_ => k_ < N3) (.slice Ao48 t312.length co48) t312) := ⟨by rw [← hq_]; exact (by (with_reducible repeat (first | apply Kd.S_alloc | apply Kd.S_drewN | apply Kd.S_drew)); exact HO314.out)⟩; have n1_ : Aside0 (Kd.R k44 44 w46 w.heap.size (fun _ => True) (.slice Ao45 t317.length co45) t317) := ⟨by rw [← hq_]; exact (by (with_reducible repeat (first | apply Kd.R_alloc | apply Kd.R_drewN | apply Kd.R_drew)); exact HO319.out)⟩; have n2_ : Aside0 (laws_markIntSS.O w46 w.heap.size (fun k_ => N3 ≤ k_) (.slice Ao47 t321.length co47) t321) := ⟨by rw [← hq_]; exact (by (with_reducible repeat (first | apply laws_markIntSS.O_drewN | apply laws_markIntSS.O_drew)); exact HO323.out)⟩; have n3_ : Aside0 (w46.heap[gb281]? = some (.cells #[.int .i64 a0_0, .slice A0_1 l0_1.length c0_1] 31 (0, 0))) := ⟨by rw [← hq_]; exact (by (with_reducible repeat (first | refine bN ?_ _ | refine bD ?_ | refine bA ?_ _)); exact BK281.out)⟩; have n4_ : Aside0 (w46.heap[gb320]? = some (.cells #[.int .i64 t316, .slice Ao45 t317.length co45] 36 (0, 0))) := ⟨by rw [← hq_]; exact (by (with_reducible repeat (first | refine bN ?_ _ | refine bD ?_ | refine bA ?_ _)); exact BK320.out)⟩; have n5_ : Aside0 (Below w.heap.size w w46) := ⟨by rw [← hq_]; exact (by repeat (first | (with_reducible first | exact HB.out | apply below_alloc | apply pw_below_drewN | apply below_drew1) | exact HB.out))⟩; clear HO314 HO319 HO323 BK281 BK320 HB hq_; have HO314 := n0_; have HO319 := n1_; have HO323 := n2_; have BK281 := n3_; have BK320 := n4_; have HB := n5_; clear n0_ n1_ n2_ n3_ n4_ n5_))
  have n0_ := Aside0.mk (Kd.S_drew HO314.out)
  have n1_ := Aside0.mk (Kd.R_drew HO319.out)
  have n2_ := Aside0.mk (laws_markIntSS.O_drew HO323.out)
  have n3_ := Aside0.mk (blk_drew BK281.out)
  have n4_ := Aside0.mk (blk_drew BK320.out)
  have n5_ := Aside0.mk (below_drew1 HB.out)
  clear HO314
  clear HO319
  clear HO323
  clear BK281
  clear BK320
  clear HB
  have HO314 := n0_
  have HO319 := n1_
  have HO323 := n2_
  have BK281 := n3_
  have BK320 := n4_
  have HB := n5_
  clear n0_ n1_ n2_ n3_ n4_ n5_
  refine start_ (n := 5) (S := fun w' => w'.cell? ⟨gb320, 0, none⟩ = some (.int .i64 t316) ∧ w'.cell? ⟨gb320, 1, none⟩ = some (.slice Ao45 t317.length co45) ∧ w'.cell? ⟨gb281, 0, none⟩ = some (.int .i64 a0_0) ∧ w'.cell? ⟨gb281, 1, none⟩ = some (.slice A0_1 l0_1.length c0_1)) (ds := []) #[false, false, false, false, false] (by kernel_rfl) rfl rfl ⟨(blk_cell BK320.out 0).trans rfl, (blk_cell BK320.out 1).trans rfl, (blk_cell BK281.out 0).trans rfl, (blk_cell BK281.out 1).trans rfl⟩ (fun hHeld => ?_)
  generalize w46.drew = w49 at HO314 HO319 HO323 BK281 BK320 HB hHeld ⊢
  refine take_ (i := 0) (N := some 41) (v := ?_) (a' := ?_) #[true, false, false, false, false] rfl rfl (by kernel_rfl) (fun _ _ _ h => h) (Or.inl ⟨by rfl, ?_⟩) hHeld ?_ ?_
  rotate_left
  ·rintro w' ⟨s0, s1, s2, s3⟩
   go_simp
   with_reducible rfl
  rotate_left
  ·simp only [Act.put, List.setIfInBounds_toArray, List.set_cons_zero, List.set_cons_succ, i64_w, i32_w]
   rfl
  refine take_ (i := 1) (N := some 42) (v := ?_) (a' := ?_) #[true, true, false, false, false] rfl rfl (by kernel_rfl) (fun _ _ _ h => h) (Or.inl ⟨by rfl, ?_⟩) hHeld ?_ ?_
  rotate_left
  ·rintro w' ⟨s0, s1, s2, s3⟩
   go_simp
   with_reducible rfl
  rotate_left
  ·simp only [Act.put, List.setIfInBounds_toArray, List.set_cons_zero, List.set_cons_succ, i64_w, i32_w]
   rfl
  refine one_ (i := 2) (N := some 43) #[true, true, true, false, false] rfl rfl (by kernel_rfl) (by decide) (fun K hK => ?_)
  refine goes_ Try.func26 (by kernel_rfl) rfl #[.agg #[.int .i64 a0_0, .slice A0_1 l0_1.length c0_1]] (by rfl) rfl rfl (by (try simp only [List.map_toArray, List.map_cons, List.map_nil]); first | done | rfl | (simp only [List.length_drop, List.length_take]; rfl)) ?_
  with_reducible refine (laws_toPuzzle.calls k a0_0 _ _ l0_1 t346 t347 _ ?side1 ?side2 A14.out).mono ?_
  (case side1 => repeat (first | exact (Kd.C_below HR0_1.out HB.out) | (with_reducible refine Kd.C_alloc ?_ _) | (with_reducible refine Kd.C_drewN ?_ _) | (with_reducible refine Kd.C_drew ?_)))
  (case side2 => exact HC0_1.out)
  rintro e w50 ⟨v348, rfl, ho0, hb⟩
  refine ⟨_, rfl, ?_⟩
  have n0_ := Aside0.mk (Kd.S_below (by (with_reducible repeat (first | apply Kd.S_alloc | apply Kd.S_drewN | apply Kd.S_drew)); exact HO314.out) hb)
  have n1_ := Aside0.mk (Kd.R_elder' (by (with_reducible repeat (first | apply Kd.R_alloc | apply Kd.R_drewN | apply Kd.R_drew)); exact HO319.out) (Kd.R_base ho0) hb)
  have n2_ := Aside0.mk (laws_markIntSS.O_below (by (with_reducible repeat (first | apply laws_markIntSS.O_drewN | apply laws_markIntSS.O_drew)); exact HO323.out) hb)
  have n3_ := Aside0.mk (Kd.R_lower (Kd.R_new' ho0 (Kd.R_lt (by (with_reducible repeat (first | apply Kd.R_alloc | apply Kd.R_drewN | apply Kd.R_drew)); exact HO319.out))) (below_size (by repeat (first | (with_reducible first | exact HB.out | apply below_alloc | apply pw_below_drewN | apply below_drew1) | exact HB.out))))
  have n4_ := Aside0.mk (blk_below (g := gb281) (o := .cells #[.int .i64 a0_0, .slice A0_1 l0_1.length c0_1] 31 (0, 0)) (by (with_reducible repeat (first | refine bN ?_ _ | refine bD ?_ | refine bA ?_ _)); exact BK281.out) hb)
  have n5_ := Aside0.mk (blk_below (g := gb320) (o := .cells #[.int .i64 t316, .slice Ao45 t317.length co45] 36 (0, 0)) (by (with_reducible repeat (first | refine bN ?_ _ | refine bD ?_ | refine bA ?_ _)); exact BK320.out) hb)
  have n6_ := Aside0.mk (below_step (by repeat (first | (with_reducible first | exact HB.out | apply below_alloc | apply pw_below_drewN | apply below_drew1) | exact HB.out)) hb)
  clear HO314
  clear HO319
  clear HO323
  clear BK281
  clear BK320
  clear HB
  have HO314 := n0_
  have HO319 := n1_
  have HO323 := n2_
  have HO349 := n3_
  have BK281 := n4_
  have BK320 := n5_
  have HB := n6_
  clear n0_ n1_ n2_ n3_ n4_ n5_ n6_
  (try clear hb)
  (try clear hb2)
  (try clear hk)
  (try clear hi)
  (try clear ho0)
  obtain ⟨Ao51, co51, eo51⟩ := Kd.R_slice HO349.out
  (first | subst eo51 | (injection eo51 with f1_ f2_ f3_; have f4_ := f1_.symm; have f5_ := f3_.symm; clear f1_ f2_ f3_; subst f4_; subst f5_))
  refine hK.out _ _ ⟨(blk_cell BK320.out 0).trans rfl, (blk_cell BK320.out 1).trans rfl, (blk_cell BK281.out 0).trans rfl, (blk_cell BK281.out 1).trans rfl⟩ (fun hHeld => ?_)
  clear hK K
  refine norm_ (a' := ?_) ?_ ?_
  rotate_left
  ·show Act.put _ (some 43) _ = _
   simp only [Act.put, List.setIfInBounds_toArray, List.set_cons_zero, List.set_cons_succ, i64_w, i32_w]
   rfl
  refine one_ (i := 3) (N := some 44) #[true, true, true, true, false] rfl rfl (by kernel_rfl) (by decide) (fun K hK => ?_)
  refine goes_ Try.func28 (by kernel_rfl) rfl #[.agg #[.int .i64 t316, .slice Ao45 t317.length co45], .agg #[.int .i64 t346, .slice Ao51 t347.length co51]] (by rfl) rfl rfl (by (try simp only [List.map_toArray, List.map_cons, List.map_nil]); first | done | rfl | (simp only [List.length_drop, List.length_take]; rfl)) ?_
  with_reducible refine (laws_eqPuzzle.calls k t316 _ _ t317 t346 _ _ t347 true _ ?side1 ?side2 ?side3 ?side4 A15.out).mono ?_
  (case side1 => repeat (first | exact (Kd.R_reads' HO319.out).2.2 | (with_reducible refine Kd.C_alloc ?_ _) | (with_reducible refine Kd.C_drewN ?_ _) | (with_reducible refine Kd.C_drew ?_)))
  (case side2 => exact (Kd.R_reads' HO319.out).2.1)
  (case side3 => repeat (first | exact (Kd.R_reads' HO349.out).2.2 | (with_reducible refine Kd.C_alloc ?_ _) | (with_reducible refine Kd.C_drewN ?_ _) | (with_reducible refine Kd.C_drew ?_)))
  (case side4 => exact (Kd.R_reads' HO349.out).2.1)
  rintro e w52 ⟨rfl, hb⟩
  refine ⟨_, rfl, ?_⟩
  have n0_ := Aside0.mk (Kd.S_below (by (with_reducible repeat (first | apply Kd.S_alloc | apply Kd.S_drewN | apply Kd.S_drew)); exact HO314.out) hb)
  have n1_ := Aside0.mk (Kd.R_below (by (with_reducible repeat (first | apply Kd.R_alloc | apply Kd.R_drewN | apply Kd.R_drew)); exact HO319.out) hb)
  have n2_ := Aside0.mk (laws_markIntSS.O_below (by (with_reducible repeat (first | apply laws_markIntSS.O_drewN | apply laws_markIntSS.O_drew)); exact HO323.out) hb)
  have n3_ := Aside0.mk (Kd.R_below (by (with_reducible repeat (first | apply Kd.R_alloc | apply Kd.R_drewN | apply Kd.R_drew)); exact HO349.out) hb)
  have n4_ := Aside0.mk (blk_below (g := gb281) (o := .cells #[.int .i64 a0_0, .slice A0_1 l0_1.length c0_1] 31 (0, 0)) (by (with_reducible repeat (first | refine bN ?_ _ | refine bD ?_ | refine bA ?_ _)); exact BK281.out) hb)
  have n5_ := Aside0.mk (blk_below (g := gb320) (o := .cells #[.int .i64 t316, .slice Ao45 t317.length co45] 36 (0, 0)) (by (with_reducible repeat (first | refine bN ?_ _ | refine bD ?_ | refine bA ?_ _)); exact BK320.out) hb)
  have n6_ := Aside0.mk (below_step (by repeat (first | (with_reducible first | exact HB.out | apply below_alloc | apply pw_below_drewN | apply below_drew1) | exact HB.out)) hb)
  clear HO314
  clear HO319
  clear HO323
  clear HO349
  clear BK281
  clear BK320
  clear HB
  have HO314 := n0_
  have HO319 := n1_
  have HO323 := n2_
  have HO349 := n3_
  have BK281 := n4_
  have BK320 := n5_
  have HB := n6_
  clear n0_ n1_ n2_ n3_ n4_ n5_ n6_
  (try clear hb)
  (try clear hb2)
  (try clear hk)
  (try clear hi)
  refine hK.out _ _ ⟨(blk_cell BK320.out 0).trans rfl, (blk_cell BK320.out 1).trans rfl, (blk_cell BK281.out 0).trans rfl, (blk_cell BK281.out 1).trans rfl⟩ (fun hHeld => ?_)
  clear hK K
  refine norm_ (a' := ?_) ?_ ?_
  rotate_left
  ·show Act.put _ (some 44) _ = _
   simp only [Act.put, List.setIfInBounds_toArray, List.set_cons_zero, List.set_cons_succ, i64_w, i32_w]
   rfl
  refine pure_ (i := 4) (N := some 45) (v := ?_) (a' := ?_) #[true, true, true, true, true] rfl rfl (by kernel_rfl) (fun _ _ _ h => h) (Or.inl ⟨by rfl, ?_⟩) ?_ ?_
  rotate_left
  ·intro w'
   go_simp
   with_reducible rfl
  rotate_left
  ·simp only [Act.put, List.setIfInBounds_toArray, List.set_cons_zero, List.set_cons_succ, i64_w, i32_w]
   rfl
  refine done_ (by kernel_rfl) ?_
  have hcz53_0 : w52.cell? ⟨gb320, 0, none⟩ = some (.int .i64 t316) := (blk_cell BK320.out 0).trans rfl
  have hcz53_1 : w52.cell? ⟨gb320, 1, none⟩ = some (.slice Ao45 t317.length co45) := (blk_cell BK320.out 1).trans rfl
  have hfz53_0 := blk_frozen BK320.out 0
  have hfz53_1 := blk_frozen BK320.out 1
  try go_wp2_with (first | ((with_reducible refine gate_callee (f := 32) rfl ?_); refine goesL_ (some 48) rfl rfl Try.func32 (by kernel_rfl) rfl #[.agg #[.int .i64 t316, .slice Ao45 t317.length co45], .int .i64 1] rfl (by (try simp only [List.map_toArray, List.map_cons, List.map_nil]); first | done | rfl | (simp only [List.length_drop, List.length_take]; rfl)) ?_; (with_reducible refine (laws_markPuzzle.calls k t316 (fun k_ => some k_ = (.slice Ao45 t317.length co45 : Value).ownBlock) (.slice Ao45 t317.length co45) t317 1 t357 t358 w _ ?side1 ?side2 A17.out).mono ?_); (case side1 => repeat (first | (with_reducible first | exact HB.out | apply below_alloc | apply pw_below_drewN | apply below_drew1) | exact HB.out)); (case side2 => exact Kd.R_tight rfl HO319.out); rintro e w54 ⟨rfl, hy0, hb, hkp⟩; refine ⟨_, rfl, ?_⟩; have n0_ := Aside0.mk (blk_kept (by (with_reducible repeat (first | refine bN ?_ _ | refine bD ?_ | refine bA ?_ _)); exact BK281.out) hkp (fun hs_ => (fun e_ => (Kd.R_ne HO319.out BK281.out (by decide)) e_) hs_)); have n1_ := Aside0.mk (Kd.S_mono (Kd.S_kept (Kd.S_apart' HO314.out (Kd.R_typed HO319.out) (by decide)) hkp (fun k_ hk_ hs_ => hk_.2 hs_)) (fun _ hk_ => hk_.1)); have n2_ := Aside0.mk (Kd.R_reok rfl hy0 (fun k_ e_ => HO319.out.1 k_ e_)); have n3_ := Aside0.mk (laws_markIntSS.O_mono (laws_markIntSS.O_kept (laws_markIntSS.O_apart' HO323.out (Kd.R_typed HO319.out) (by decide)) hkp (fun k_ hk_ hs_ => hk_.2 hs_)) (fun _ hk_ => hk_.1)); have n4_ := Aside0.mk (hb); clear BK281; clear HO314; clear HO319; clear HO323; clear HB; have BK281 := n0_; have HO314 := n1_; have HO319 := n2_; have HO323 := n3_; have HB := n4_; clear n0_ n1_ n2_ n3_ n4_; (try clear hb); (try clear hkp); (try clear hy0)) | (go_at_call 60; (with_reducible refine (laws_eqIntSS.calls k _ _ t321 _ _ t312 true _ ?side1 ?side2 ?side3 ?side4 A19.out).mono ?_); (case side1 => repeat (first | exact (laws_markIntSS.O_reads' HO323.out).2.2 | (with_reducible refine Kd.C_alloc ?_ _) | (with_reducible refine Kd.C_drewN ?_ _) | (with_reducible refine Kd.C_drew ?_))); (case side2 => exact (laws_markIntSS.O_reads' HO323.out).2.1); (case side3 => repeat (first | exact (Kd.S_reads' HO314.out).2.2 | (with_reducible refine Kd.C_alloc ?_ _) | (with_reducible refine Kd.C_drewN ?_ _) | (with_reducible refine Kd.C_drew ?_))); (case side4 => exact (Kd.S_reads' HO314.out).2.1); rintro e w' ⟨rfl, ⟨nd, rfl⟩⟩) | ((with_reducible refine gate_callee (f := 61) rfl ?_); refine goesL_ (some 64) rfl rfl Try.func61 (by kernel_rfl) rfl #[.slice Ao47 t321.length co47, .int .i64 1] rfl (by (try simp only [List.map_toArray, List.map_cons, List.map_nil]); first | done | rfl | (simp only [List.length_drop, List.length_take]; rfl)) ?_; (with_reducible refine (laws_markIntSS.calls k (fun k_ => N3 ≤ k_) (.slice Ao47 t321.length co47) t321 1 t386 t387 w _ ?side1 ?side2 A21.out).mono ?_); (case side1 => repeat (first | (with_reducible first | exact HB.out | apply below_alloc | apply pw_below_drewN | apply below_drew1) | exact HB.out)); (case side2 => exact HO323.out); rintro e w55 ⟨rfl, hy0, hb, hkp⟩; refine ⟨_, rfl, ?_⟩; have n0_ := Aside0.mk (blk_kept (by (with_reducible repeat (first | refine bN ?_ _ | refine bD ?_ | refine bA ?_ _)); exact BK281.out) hkp (fun hs_ => absurd hs_ (Nat.not_le_of_lt HG3.out))); have n1_ := Aside0.mk (Kd.S_kept HO314.out hkp (fun k_ hk_ hs_ => absurd hs_ (Nat.not_le_of_lt hk_))); have n2_ := Aside0.mk (laws_markIntSS.O_mono (ok' := fun _ => True) hy0 (fun _ _ => trivial)); have n3_ := Aside0.mk (hb); clear BK281; clear HO314; clear HO323; clear HB; have BK281 := n0_; have HO314 := n1_; have HO323 := n2_; have HB := n3_; clear n0_ n1_ n2_ n3_; (try clear hb); (try clear hkp); (try clear hy0)) | ((with_reducible refine gate_callee (f := 62) rfl ?_); refine goesL_ (some 67) rfl rfl Try.func62 (by kernel_rfl) rfl #[.slice Ao47 t387.length co47, .int .i64 1] rfl (by (try simp only [List.map_toArray, List.map_cons, List.map_nil]); first | done | (rw [show t387.length = t321.length from (laws_markIntSS.O_reads' HO323.out).1.symm] <;> rfl) | rfl | (simp only [List.length_drop, List.length_take]; rfl)) ?_; (with_reducible refine (laws_heldIntSS.calls k _ _ t387 1 t388 _ ?side1 ?side2 A22.out).mono ?_); (case side1 => repeat (first | exact (laws_markIntSS.O_reads' HO323.out).2.2 | (with_reducible refine Kd.C_alloc ?_ _) | (with_reducible refine Kd.C_drewN ?_ _) | (with_reducible refine Kd.C_drew ?_))); (case side2 => rw [show t387.length = t321.length from (laws_markIntSS.O_reads' HO323.out).1.symm]; exact (laws_markIntSS.O_reads' HO323.out).2.1); rintro e w' ⟨rfl, ⟨nd, rfl⟩⟩; refine ⟨_, rfl, ?_⟩; have hcz56_0 : w55.cell? ⟨gb281, 0, none⟩ = some (.int .i64 a0_0) := (blk_cell BK281.out 0).trans rfl; have hcz56_1 : w55.cell? ⟨gb281, 1, none⟩ = some (.slice A0_1 l0_1.length c0_1) := (blk_cell BK281.out 1).trans rfl; have hfz56_0 := blk_frozen BK281.out 0; have hfz56_1 := blk_frozen BK281.out 1) | ((with_reducible refine gate_callee (f := 26) rfl ?_); refine goesL_ (some 75) rfl rfl Try.func26 (by kernel_rfl) rfl #[.agg #[.int .i64 a0_0, .slice A0_1 l0_1.length c0_1]] rfl (by (try simp only [List.map_toArray, List.map_cons, List.map_nil]); first | done | rfl | (simp only [List.length_drop, List.length_take]; rfl)) ?_; (with_reducible refine (laws_toPuzzle.calls k a0_0 _ _ l0_1 t409 t410 _ ?side1 ?side2 A25.out).mono ?_); (case side1 => repeat (first | exact (Kd.C_below HR0_1.out (by repeat (first | (with_reducible first | exact HB.out | apply below_alloc | apply pw_below_drewN | apply below_drew1) | exact HB.out))) | (with_reducible refine Kd.C_alloc ?_ _) | (with_reducible refine Kd.C_drewN ?_ _) | (with_reducible refine Kd.C_drew ?_))); (case side2 => exact HC0_1.out); rintro e w57 ⟨v411, rfl, ho0, hb⟩; refine ⟨_, rfl, ?_⟩; have n0_ := Aside0.mk (Kd.S_below (by (with_reducible repeat (first | apply Kd.S_alloc | apply Kd.S_drewN | apply Kd.S_drew)); exact HO314.out) hb); have n1_ := Aside0.mk (laws_markIntSS.O_below (by (with_reducible repeat (first | apply laws_markIntSS.O_drewN | apply laws_markIntSS.O_drew)); exact HO323.out) hb); have n2_ := Aside0.mk (Kd.R_lower ho0 (below_size (by repeat (first | (with_reducible first | exact HB.out | apply below_alloc | apply pw_below_drewN | apply below_drew1) | exact HB.out)))); have n3_ := Aside0.mk (below_step (by repeat (first | (with_reducible first | exact HB.out | apply below_alloc | apply pw_below_drewN | apply below_drew1) | exact HB.out)) hb); clear HO314; clear HO323; clear HB; have HO314 := n0_; have HO323 := n1_; have HO412 := n2_; have HB := n3_; clear n0_ n1_ n2_ n3_; (try clear hb); (try clear hb2); (try clear hk); (try clear hi); (try clear ho0); obtain ⟨Ao58, co58, eo58⟩ := Kd.R_slice HO412.out; subst eo58) | ((with_reducible refine gate_callee (f := 59) rfl ?_); refine goesL_ (some 76) rfl rfl Try.func59 (by kernel_rfl) rfl #[.agg #[.int .i64 t409, .slice Ao58 t410.length co58]] rfl (by (try simp only [List.map_toArray, List.map_cons, List.map_nil]); first | done | rfl | (simp only [List.length_drop, List.length_take]; rfl)) ?_; (with_reducible refine (impl_Solutions.calls k t409 _ _ t410 t413 t416 _ ?side1 ?side2 A26.out).mono ?_); (case side1 => repeat (first | exact (Kd.R_reads' HO412.out).2.2 | (with_reducible refine Kd.C_alloc ?_ _) | (with_reducible refine Kd.C_drewN ?_ _) | (with_reducible refine Kd.C_drew ?_))); (case side2 => exact (Kd.R_reads' HO412.out).2.1); rintro e w59 ⟨v414, rfl, ho0, how_, hb⟩; refine ⟨_, rfl, ?_⟩; have n0_ := Aside0.mk (Kd.S_below (by (with_reducible repeat (first | apply Kd.S_alloc | apply Kd.S_drewN | apply Kd.S_drew)); exact HO314.out) hb); have n1_ := Aside0.mk (laws_markIntSS.O_below (by (with_reducible repeat (first | apply laws_markIntSS.O_drewN | apply laws_markIntSS.O_drew)); exact HO323.out) hb); have n2_ := Aside0.mk (Kd.R_below (by (with_reducible repeat (first | apply Kd.R_alloc | apply Kd.R_drewN | apply Kd.R_drew)); exact HO412.out) hb); have n3_ := Aside0.mk (laws_markIntSS.O_of how_); have n4_ := Aside0.mk (below_step (by repeat (first | (with_reducible first | exact HB.out | apply below_alloc | apply pw_below_drewN | apply below_drew1) | exact HB.out)) hb); clear HO314; clear HO323; clear HO412; clear HB; have HO314 := n0_; have HO323 := n1_; have HO412 := n2_; have HO415 := n3_; have HB := n4_; clear n0_ n1_ n2_ n3_ n4_; (try clear hb); (try clear hb2); (try clear hk); (try clear hi); (try clear ho0); (try clear how_); obtain ⟨Ao60, co60, eo60, _, _⟩ := laws_markIntSS.O_slice HO415.out; subst eo60) | ((with_reducible refine gate_callee (f := 60) rfl ?_); refine goesL_ (some 81) rfl rfl Try.func60 (by kernel_rfl) rfl #[.slice Ao60 t413.length co60, .slice Ao48 t312.length co48] rfl (by (try simp only [List.map_toArray, List.map_cons, List.map_nil]); first | done | rfl | (simp only [List.length_drop, List.length_take]; rfl)) ?_; (with_reducible refine (laws_eqIntSS.calls k _ _ t413 _ _ t312 true _ ?side1 ?side2 ?side3 ?side4 A27.out).mono ?_); (case side1 => repeat (first | exact (laws_markIntSS.O_reads' HO415.out).2.2 | (with_reducible refine Kd.C_alloc ?_ _) | (with_reducible refine Kd.C_drewN ?_ _) | (with_reducible refine Kd.C_drew ?_))); (case side2 => exact (laws_markIntSS.O_reads' HO415.out).2.1); (case side3 => repeat (first | exact (Kd.S_reads' HO314.out).2.2 | (with_reducible refine Kd.C_alloc ?_ _) | (with_reducible refine Kd.C_drewN ?_ _) | (with_reducible refine Kd.C_drew ?_))); (case side4 => exact (Kd.S_reads' HO314.out).2.1); rintro e w' ⟨rfl, ⟨nd, rfl⟩⟩; refine ⟨_, rfl, ?_⟩) | ((with_reducible refine gate_callee (f := 62) rfl ?_); refine goesL_ (some 90) rfl rfl Try.func62 (by kernel_rfl) rfl #[.slice Ao47 t387.length co47, .int .i64 1] rfl (by (try simp only [List.map_toArray, List.map_cons, List.map_nil]); first | done | (rw [show t387.length = t321.length from (laws_markIntSS.O_reads' HO323.out).1.symm] <;> rfl) | rfl | (simp only [List.length_drop, List.length_take]; rfl)) ?_; (with_reducible refine (laws_heldIntSS.calls k _ _ t387 1 t420 _ ?side1 ?side2 A30.out).mono ?_); (case side1 => repeat (first | exact (laws_markIntSS.O_reads' HO323.out).2.2 | (with_reducible refine Kd.C_alloc ?_ _) | (with_reducible refine Kd.C_drewN ?_ _) | (with_reducible refine Kd.C_drew ?_))); (case side2 => rw [show t387.length = t321.length from (laws_markIntSS.O_reads' HO323.out).1.symm]; exact (laws_markIntSS.O_reads' HO323.out).2.1); rintro e w' ⟨rfl, ⟨nd, rfl⟩⟩; refine ⟨_, rfl, ?_⟩))
  go_ret
  exact ⟨by first | rfl | (simp [errW_none, errW_some] <;> rfl) | (simp [*, errW_none, errW_some] <;> rfl), by repeat (first | (with_reducible first | exact HB.out | apply below_alloc | apply pw_below_drewN | apply below_drew1) | exact HB.out)⟩

/-- THE ONE PURE STATEMENT of laws_FnExactSolutions: yours. -/
def laws_FnExactSolutions.Pure : Prop := ∀ (a0_0 : Int) (l0_1 : List (S41)), (Lit.int .i64 a0_0).wf = true → l0_1.length ≤ maxLen → (∀ x ∈ l0_1, (Lit.int .i64 x.f0).wf = true ∧ (Lit.int .i64 x.f1).wf = true ∧ (Lit.int .i64 x.f2).wf = true) → ∃ k, laws_FnExactSolutions.f k a0_0 l0_1 = some true
theorem laws_FnExactSolutions.walk : True := trivial

end Go.Proofs.Ytdddmkdidegngaa.PFnExactSolutions
