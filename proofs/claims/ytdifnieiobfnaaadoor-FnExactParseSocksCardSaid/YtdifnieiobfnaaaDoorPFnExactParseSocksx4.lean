/- The functions that a law reaches, and proofs that the Go code comes to just their answers: written by a program of this session out of the translation. Conditions: those that each theorem states. -/
import Derived.Test.YtdifnieiobfnaaaDoorPFnExactParseSocksx0
import Derived.Test.YtdifnieiobfnaaaDoorPFnExactParseSocksx1
import Derived.Test.YtdifnieiobfnaaaDoorPFnExactParseSocksx2
import Derived.Test.YtdifnieiobfnaaaDoorPFnExactParseSocksx3
namespace Go.Proofs.YtdifnieiobfnaaaDoor.PFnExactParseSocks
open Go.RowKit Go.Proofs.YtdifnieiobfnaaaDoorW.PrintWords Go.Proofs.YtdifnieiobfnaaaDoorW.PrintLast Go.Proofs.YtdifnieiobfnaaaDoorW.PrintMore
attribute [local go_sem] max2_int min2_int max_two min_two max_three min_three max_four min_four   -- for this text's walks alone
set_option linter.unusedVariables false
set_option linter.unusedSimpArgs false

/-! ### laws_FnExactParseSocks: function 6 -/
def laws_FnExactParseSocks.f (k : Nat) (a0 : ByteArray) : Option (Bool) := if (a0.size : Int) > 1048576 then (some true) else ((spec_ParseSocks.f k a0).bind fun bt179 => ((impl_ParseSocks.f k a0).bind fun bt183 => ((laws_eqIntS.f k bt183.1 bt179.1).bind fun t187 => (if t187 = true then (if (bt183.2 != bt179.2) = true then (some false) else ((laws_markIntS.f k bt183.1 1).bind fun bt206 => ((laws_heldIntS.f k bt206.2 1).bind fun t208 => (if t208 < 0 then (some false) else (if t208 = bt206.1 then ((impl_ParseSocks.f k a0).bind fun bt221 => ((laws_eqIntS.f k bt221.1 bt179.1).bind fun t225 => (if t225 = true then (if (bt221.2 != bt179.2) = true then (some false) else ((laws_heldIntS.f k bt206.2 1).bind fun t228 => (if t228 < 0 then (some false) else (if t228 = bt206.1 then (some true) else (some false))))) else (some false)))) else (some false)))))) else (some false)))))
set_option maxHeartbeats 8000000 in
set_option maxRecDepth 100000 in
theorem laws_FnExactParseSocks.calls (k : Nat) (a0 : ByteArray) (w : World) (hG : ∃ m : Int, w.cell? ⟨0, 0, none⟩ = some (.int .i64 m)) (h : laws_FnExactParseSocks.f k a0 = some true) :
    Calls Tryd.prog 6 #[.string a0] w fun e w' => e = .returned (.bool true) ∧ Below w.heap.size w w' := by
 have HB := Aside0.mk (Below.refl w.heap.size w)
 have HG := Aside0.mk hG
 clear hG
 have H : (if (a0.size : Int) > 1048576 then (some true) else ((spec_ParseSocks.f k a0).bind fun bt179 => ((impl_ParseSocks.f k a0).bind fun bt183 => ((laws_eqIntS.f k bt183.1 bt179.1).bind fun t187 => (if t187 = true then (if (bt183.2 != bt179.2) = true then (some false) else ((laws_markIntS.f k bt183.1 1).bind fun bt206 => ((laws_heldIntS.f k bt206.2 1).bind fun t208 => (if t208 < 0 then (some false) else (if t208 = bt206.1 then ((impl_ParseSocks.f k a0).bind fun bt221 => ((laws_eqIntS.f k bt221.1 bt179.1).bind fun t225 => (if t225 = true then (if (bt221.2 != bt179.2) = true then (some false) else ((laws_heldIntS.f k bt206.2 1).bind fun t228 => (if t228 < 0 then (some false) else (if t228 = bt206.1 then (some true) else (some false))))) else (some false)))) else (some false)))))) else (some false)))))) = some true := h
 clear h
 by_cases c2 : (a0.size : Int) > 1048576
 ·rw [if_pos c2] at H
  have c2b0 : decide (1048576 < (a0.size : Int)) = true := decide_eq_true c2
  have c2b1 : decide (1048576 < a0.size) = true := decide_eq_true (by omega)
  clear c2
  clear H
  go_enter Tryd.func6, Tryd.ntmps6
  go_wp2
  go_ret
  exact ⟨by first | rfl | (simp [errW_none, errW_some] <;> rfl) | (simp [*, errW_none, errW_some] <;> rfl), by repeat (first | (with_reducible first | exact HB.out | apply below_alloc | apply pw_below_drewN | apply below_drew1) | exact HB.out)⟩
 ·rw [if_neg c2] at H
  have c2b0 : decide (1048576 < (a0.size : Int)) = false := decide_eq_false c2
  have c2b1 : decide (1048576 < a0.size) = false := decide_eq_false (by omega)
  clear c2
  replace H := Option.bind_eq_some_iff.mp H
  obtain ⟨⟨t179, t180⟩, A30, H⟩ := H
  replace H : ((impl_ParseSocks.f k a0).bind fun bt183 => ((laws_eqIntS.f k bt183.1 t179).bind fun t187 => (if t187 = true then (if (bt183.2 != t180) = true then (some false) else ((laws_markIntS.f k bt183.1 1).bind fun bt206 => ((laws_heldIntS.f k bt206.2 1).bind fun t208 => (if t208 < 0 then (some false) else (if t208 = bt206.1 then ((impl_ParseSocks.f k a0).bind fun bt221 => ((laws_eqIntS.f k bt221.1 t179).bind fun t225 => (if t225 = true then (if (bt221.2 != t180) = true then (some false) else ((laws_heldIntS.f k bt206.2 1).bind fun t228 => (if t228 < 0 then (some false) else (if t228 = bt206.1 then (some true) else (some false))))) else (some false)))) else (some false)))))) else (some false)))) = some true := H
  have A3 := Aside0.mk A30
  clear A30
  replace H := Option.bind_eq_some_iff.mp H
  obtain ⟨⟨t183, t184⟩, A40, H⟩ := H
  replace H : ((laws_eqIntS.f k t183 t179).bind fun t187 => (if t187 = true then (if (t184 != t180) = true then (some false) else ((laws_markIntS.f k t183 1).bind fun bt206 => ((laws_heldIntS.f k bt206.2 1).bind fun t208 => (if t208 < 0 then (some false) else (if t208 = bt206.1 then ((impl_ParseSocks.f k a0).bind fun bt221 => ((laws_eqIntS.f k bt221.1 t179).bind fun t225 => (if t225 = true then (if (bt221.2 != t180) = true then (some false) else ((laws_heldIntS.f k bt206.2 1).bind fun t228 => (if t228 < 0 then (some false) else (if t228 = bt206.1 then (some true) else (some false))))) else (some false)))) else (some false)))))) else (some false))) = some true := H
  have A4 := Aside0.mk A40
  clear A40
  replace H := Option.bind_eq_some_iff.mp H
  obtain ⟨t187, A50, H⟩ := H
  replace H : (if t187 = true then (if (t184 != t180) = true then (some false) else ((laws_markIntS.f k t183 1).bind fun bt206 => ((laws_heldIntS.f k bt206.2 1).bind fun t208 => (if t208 < 0 then (some false) else (if t208 = bt206.1 then ((impl_ParseSocks.f k a0).bind fun bt221 => ((laws_eqIntS.f k bt221.1 t179).bind fun t225 => (if t225 = true then (if (bt221.2 != t180) = true then (some false) else ((laws_heldIntS.f k bt206.2 1).bind fun t228 => (if t228 < 0 then (some false) else (if t228 = bt206.1 then (some true) else (some false))))) else (some false)))) else (some false)))))) else (some false)) = some true := H
  have A5 := Aside0.mk A50
  clear A50
  by_cases c6 : t187 = true
  rotate_left
  ·replace c6 := Bool.eq_false_iff.mpr c6
   subst c6
   have H1 : (some false) = some true := by first | (rw [if_neg (show ¬ (false = true) by decide)] at H; exact H) | rfl
   clear H
   have H := H1
   clear H1
   exact absurd H (by simp)
  subst c6
  have H1 : (if (t184 != t180) = true then (some false) else ((laws_markIntS.f k t183 1).bind fun bt206 => ((laws_heldIntS.f k bt206.2 1).bind fun t208 => (if t208 < 0 then (some false) else (if t208 = bt206.1 then ((impl_ParseSocks.f k a0).bind fun bt221 => ((laws_eqIntS.f k bt221.1 t179).bind fun t225 => (if t225 = true then (if (bt221.2 != t180) = true then (some false) else ((laws_heldIntS.f k bt206.2 1).bind fun t228 => (if t228 < 0 then (some false) else (if t228 = bt206.1 then (some true) else (some false))))) else (some false)))) else (some false)))))) = some true := by first | (rw [if_pos rfl] at H; exact H) | rfl
  clear H
  have H := H1
  clear H1
  by_cases c7 : (t184 != t180) = true
  ·rw [if_pos c7] at H
   have c7b0 : (t184 != t180) = true := c7
   (try (have c7b1 : decide (t184 = t180) = false := by simpa using c7))
   (try (have c7b2 : (t184 == t180) = false := by simpa using c7))
   (try (have c7b3 : ¬ (t184 = t180) := by simpa using c7))
   clear c7
   exact absurd H (by simp)
  rw [if_neg c7] at H
  have c7b0 : (t184 != t180) = false := by simpa using c7
  (try (have c7b1 : decide (t184 = t180) = true := by simpa using c7))
  (try (have c7b2 : (t184 == t180) = true := by simpa using c7))
  clear c7
  replace H := Option.bind_eq_some_iff.mp H
  obtain ⟨⟨t206, t207⟩, A80, H⟩ := H
  replace H : ((laws_heldIntS.f k t207 1).bind fun t208 => (if t208 < 0 then (some false) else (if t208 = t206 then ((impl_ParseSocks.f k a0).bind fun bt221 => ((laws_eqIntS.f k bt221.1 t179).bind fun t225 => (if t225 = true then (if (bt221.2 != t180) = true then (some false) else ((laws_heldIntS.f k t207 1).bind fun t228 => (if t228 < 0 then (some false) else (if t228 = t206 then (some true) else (some false))))) else (some false)))) else (some false)))) = some true := H
  have A8 := Aside0.mk A80
  clear A80
  replace H := Option.bind_eq_some_iff.mp H
  obtain ⟨t208, A90, H⟩ := H
  replace H : (if t208 < 0 then (some false) else (if t208 = t206 then ((impl_ParseSocks.f k a0).bind fun bt221 => ((laws_eqIntS.f k bt221.1 t179).bind fun t225 => (if t225 = true then (if (bt221.2 != t180) = true then (some false) else ((laws_heldIntS.f k t207 1).bind fun t228 => (if t228 < 0 then (some false) else (if t228 = t206 then (some true) else (some false))))) else (some false)))) else (some false))) = some true := H
  have A9 := Aside0.mk A90
  clear A90
  by_cases c10 : t208 < 0
  ·rw [if_pos c10] at H
   have c10b0 : decide (t208 < 0) = true := decide_eq_true c10
   clear c10
   exact absurd H (by simp)
  rw [if_neg c10] at H
  have c10b0 : decide (t208 < 0) = false := decide_eq_false c10
  clear c10
  by_cases c11 : t208 = t206
  rotate_left
  ·rw [if_neg c11] at H
   have c11b0 : (t208 == t206) = false := beq_eq_false_iff_ne.mpr c11
   have c11b1 : (t208 != t206) = true := bne_iff_ne.mpr c11
   exact absurd H (by simp)
  rw [if_pos c11] at H
  have c11b0 : (t208 == t206) = true := beq_iff_eq.mpr c11
  have c11b1 : (t208 != t206) = false := bne_eq_false_iff_eq.mpr c11
  clear c11
  replace H := Option.bind_eq_some_iff.mp H
  obtain ⟨⟨t221, t222⟩, A120, H⟩ := H
  replace H : ((laws_eqIntS.f k t221 t179).bind fun t225 => (if t225 = true then (if (t222 != t180) = true then (some false) else ((laws_heldIntS.f k t207 1).bind fun t228 => (if t228 < 0 then (some false) else (if t228 = t206 then (some true) else (some false))))) else (some false))) = some true := H
  have A12 := Aside0.mk A120
  clear A120
  replace H := Option.bind_eq_some_iff.mp H
  obtain ⟨t225, A130, H⟩ := H
  replace H : (if t225 = true then (if (t222 != t180) = true then (some false) else ((laws_heldIntS.f k t207 1).bind fun t228 => (if t228 < 0 then (some false) else (if t228 = t206 then (some true) else (some false))))) else (some false)) = some true := H
  have A13 := Aside0.mk A130
  clear A130
  by_cases c14 : t225 = true
  rotate_left
  ·replace c14 := Bool.eq_false_iff.mpr c14
   subst c14
   have H1 : (some false) = some true := by first | (rw [if_neg (show ¬ (false = true) by decide)] at H; exact H) | rfl
   clear H
   have H := H1
   clear H1
   exact absurd H (by simp)
  subst c14
  have H1 : (if (t222 != t180) = true then (some false) else ((laws_heldIntS.f k t207 1).bind fun t228 => (if t228 < 0 then (some false) else (if t228 = t206 then (some true) else (some false))))) = some true := by first | (rw [if_pos rfl] at H; exact H) | rfl
  clear H
  have H := H1
  clear H1
  by_cases c15 : (t222 != t180) = true
  ·rw [if_pos c15] at H
   have c15b0 : (t222 != t180) = true := c15
   (try (have c15b1 : decide (t222 = t180) = false := by simpa using c15))
   (try (have c15b2 : (t222 == t180) = false := by simpa using c15))
   (try (have c15b3 : ¬ (t222 = t180) := by simpa using c15))
   clear c15
   exact absurd H (by simp)
  rw [if_neg c15] at H
  have c15b0 : (t222 != t180) = false := by simpa using c15
  (try (have c15b1 : decide (t222 = t180) = true := by simpa using c15))
  (try (have c15b2 : (t222 == t180) = true := by simpa using c15))
  clear c15
  replace H := Option.bind_eq_some_iff.mp H
  obtain ⟨t228, A160, H⟩ := H
  replace H : (if t228 < 0 then (some false) else (if t228 = t206 then (some true) else (some false))) = some true := H
  have A16 := Aside0.mk A160
  clear A160
  by_cases c17 : t228 < 0
  ·rw [if_pos c17] at H
   have c17b0 : decide (t228 < 0) = true := decide_eq_true c17
   clear c17
   exact absurd H (by simp)
  rw [if_neg c17] at H
  have c17b0 : decide (t228 < 0) = false := decide_eq_false c17
  clear c17
  by_cases c18 : t228 = t206
  rotate_left
  ·rw [if_neg c18] at H
   have c18b0 : (t228 == t206) = false := beq_eq_false_iff_ne.mpr c18
   have c18b1 : (t228 != t206) = true := bne_iff_ne.mpr c18
   exact absurd H (by simp)
  rw [if_pos c18] at H
  have c18b0 : (t228 == t206) = true := beq_iff_eq.mpr c18
  have c18b1 : (t228 != t206) = false := bne_eq_false_iff_eq.mpr c18
  clear c18
  clear H
  go_enter Tryd.func6, Tryd.ntmps6
  go_wp2_with (first | ((with_reducible refine gate_callee (f := 23) rfl ?_); refine goesL_ (some 16) rfl rfl Tryd.func23 (by kernel_rfl) rfl #[.string a0] rfl (by (try simp only [List.map_toArray, List.map_cons, List.map_nil]); first | done | rfl | (simp only [List.length_drop, List.length_take]; rfl)) ?_; (with_reducible refine (spec_ParseSocks.calls k a0 t179 t180 _ A3.out).mono ?_); rintro e w19 ⟨v181, rfl, ho0, hb⟩; refine ⟨_, rfl, ?_⟩; have n0_ := Aside0.mk (Kd.R_lower ho0 (below_size (by repeat (first | (with_reducible first | exact HB.out | apply below_alloc | apply pw_below_drewN | apply below_drew1) | exact HB.out)))); have n1_ := Aside0.mk (below_step (by repeat (first | (with_reducible first | exact HB.out | apply below_alloc | apply pw_below_drewN | apply below_drew1) | exact HB.out)) hb); clear HB; have HO182 := n0_; have HB := n1_; clear n0_ n1_; (try clear hb); (try clear hb2); (try clear hk); (try clear hi); (try clear ho0)) | ((with_reducible refine gate_callee (f := 24) rfl ?_); refine goesL_ (some 21) rfl rfl Tryd.func24 (by kernel_rfl) rfl #[.string a0] rfl (by (try simp only [List.map_toArray, List.map_cons, List.map_nil]); first | done | rfl | (simp only [List.length_drop, List.length_take]; rfl)) ?_; (with_reducible refine (impl_ParseSocks.calls k a0 t183 t184 _ ?sideG A4.out).mono ?_); (case sideG => exact (let ⟨m, hm⟩ := HG.out; ⟨m, (((by repeat (first | (with_reducible first | exact HB.out | apply below_alloc | apply pw_below_drewN | apply below_drew1) | exact HB.out)) : Below w.heap.size w _).cell (World.block_lt_of_cell? w _ hm)).trans hm⟩)); rintro e w20 ⟨v185, rfl, ho0, hb⟩; refine ⟨_, rfl, ?_⟩; have n0_ := Aside0.mk (Kd.R_elder' (by (with_reducible repeat (first | apply Kd.R_alloc | apply Kd.R_drewN | apply Kd.R_drew)); exact HO182.out) (Kd.R_base ho0) hb); have n1_ := Aside0.mk (Kd.R_lower (Kd.R_new' ho0 (Kd.R_lt (by (with_reducible repeat (first | apply Kd.R_alloc | apply Kd.R_drewN | apply Kd.R_drew)); exact HO182.out))) (below_size (by repeat (first | (with_reducible first | exact HB.out | apply below_alloc | apply pw_below_drewN | apply below_drew1) | exact HB.out)))); have n2_ := Aside0.mk (below_step (by repeat (first | (with_reducible first | exact HB.out | apply below_alloc | apply pw_below_drewN | apply below_drew1) | exact HB.out)) hb); clear HO182; clear HB; have HO182 := n0_; have HO186 := n1_; have HB := n2_; clear n0_ n1_ n2_; (try clear hb); (try clear hb2); (try clear hk); (try clear hi); (try clear ho0); obtain ⟨Ao21, co21, eo21⟩ := Kd.R_slice HO186.out; subst eo21; obtain ⟨Ao22, co22, eo22⟩ := Kd.R_slice HO182.out; subst eo22) | ((with_reducible refine gate_callee (f := 12) rfl ?_); refine goesL_ (some 26) rfl rfl Tryd.func12 (by kernel_rfl) rfl #[.slice Ao21 t183.length co21, .slice Ao22 t179.length co22] rfl (by (try simp only [List.map_toArray, List.map_cons, List.map_nil]); first | done | rfl | (simp only [List.length_drop, List.length_take]; rfl)) ?_; (with_reducible refine (laws_eqIntS.calls k _ _ t183 _ _ t179 true _ ?side1 ?side2 ?side3 ?side4 A5.out).mono ?_); (case side1 => repeat (first | exact (Kd.R_reads' HO186.out).2.2 | (with_reducible refine Kd.C_alloc ?_ _) | (with_reducible refine Kd.C_drewN ?_ _) | (with_reducible refine Kd.C_drew ?_))); (case side2 => exact (Kd.R_reads' HO186.out).2.1); (case side3 => repeat (first | exact (Kd.R_reads' HO182.out).2.2 | (with_reducible refine Kd.C_alloc ?_ _) | (with_reducible refine Kd.C_drewN ?_ _) | (with_reducible refine Kd.C_drew ?_))); (case side4 => exact (Kd.R_reads' HO182.out).2.1); rintro e w' ⟨rfl, ⟨nd, rfl⟩⟩; refine ⟨_, rfl, ?_⟩) | ((with_reducible refine gate_callee (f := 13) rfl ?_); refine goesL_ (some 35) rfl rfl Tryd.func13 (by kernel_rfl) rfl #[.slice Ao21 t183.length co21, .int .i64 1] rfl (by (try simp only [List.map_toArray, List.map_cons, List.map_nil]); first | done | rfl | (simp only [List.length_drop, List.length_take]; rfl)) ?_; (with_reducible refine (laws_markIntS.calls k (fun k_ => some k_ = (.slice Ao21 t183.length co21 : Value).ownBlock) (.slice Ao21 t183.length co21) t183 1 t206 t207 w _ ?side1 ?side2 A8.out).mono ?_); (case side1 => repeat (first | (with_reducible first | exact HB.out | apply below_alloc | apply pw_below_drewN | apply below_drew1) | exact HB.out)); (case side2 => exact Kd.R_tight rfl HO186.out); rintro e w23 ⟨rfl, hy0, hb, hkp⟩; refine ⟨_, rfl, ?_⟩; have n0_ := Aside0.mk (Kd.R_mono (ok' := fun k_ => some k_ ≠ (.slice Ao21 t183.length co21 : Value).ownBlock) (Kd.R_keptB (HO182.out) hkp (fun k_ hk_ hs_ => by first | exact (hk_.2) hs_ | (revert hk_ hs_; simp +contextual))) (fun k_ hk_ => by first | exact hk_.1.2 | (revert hk_; simp +contextual))); have n1_ := Aside0.mk (Kd.R_reok rfl hy0 (fun k_ e_ => HO186.out.1 k_ e_)); have n2_ := Aside0.mk (hb); clear HO182; clear HO186; clear HB; have HO182 := n0_; have HO186 := n1_; have HB := n2_; clear n0_ n1_ n2_; (try clear hb); (try clear hkp); (try clear hy0)) | ((with_reducible refine gate_callee (f := 14) rfl ?_); refine goesL_ (some 38) rfl rfl Tryd.func14 (by kernel_rfl) rfl #[.slice Ao21 t207.length co21, .int .i64 1] rfl (by (try simp only [List.map_toArray, List.map_cons, List.map_nil]); first | done | (rw [show t207.length = t183.length from (Kd.R_reads' HO186.out).1.symm] <;> rfl) | rfl | (simp only [List.length_drop, List.length_take]; rfl)) ?_; (with_reducible refine (laws_heldIntS.calls k _ _ t207 1 t208 _ ?side1 ?side2 A9.out).mono ?_); (case side1 => repeat (first | exact (Kd.R_reads' HO186.out).2.2 | (with_reducible refine Kd.C_alloc ?_ _) | (with_reducible refine Kd.C_drewN ?_ _) | (with_reducible refine Kd.C_drew ?_))); (case side2 => rw [show t207.length = t183.length from (Kd.R_reads' HO186.out).1.symm]; exact (Kd.R_reads' HO186.out).2.1); rintro e w' ⟨rfl, ⟨nd, rfl⟩⟩; refine ⟨_, rfl, ?_⟩) | ((with_reducible refine gate_callee (f := 24) rfl ?_); refine goesL_ (some 46) rfl rfl Tryd.func24 (by kernel_rfl) rfl #[.string a0] rfl (by (try simp only [List.map_toArray, List.map_cons, List.map_nil]); first | done | rfl | (simp only [List.length_drop, List.length_take]; rfl)) ?_; (with_reducible refine (impl_ParseSocks.calls k a0 t221 t222 _ ?sideG A12.out).mono ?_); (case sideG => exact (let ⟨m, hm⟩ := HG.out; ⟨m, (((by repeat (first | (with_reducible first | exact HB.out | apply below_alloc | apply pw_below_drewN | apply below_drew1) | exact HB.out)) : Below w.heap.size w _).cell (World.block_lt_of_cell? w _ hm)).trans hm⟩)); rintro e w24 ⟨v223, rfl, ho0, hb⟩; refine ⟨_, rfl, ?_⟩; have n0_ := Aside0.mk (Kd.R_elder' (by (with_reducible repeat (first | apply Kd.R_alloc | apply Kd.R_drewN | apply Kd.R_drew)); exact HO182.out) (Kd.R_base ho0) hb); have n1_ := Aside0.mk (Kd.R_elder' (by (with_reducible repeat (first | apply Kd.R_alloc | apply Kd.R_drewN | apply Kd.R_drew)); exact HO186.out) (Kd.R_base ho0) hb); have n2_ := Aside0.mk (Kd.R_lower (Kd.R_new' (Kd.R_new' ho0 (Kd.R_lt (by (with_reducible repeat (first | apply Kd.R_alloc | apply Kd.R_drewN | apply Kd.R_drew)); exact HO182.out))) (Kd.R_lt (by (with_reducible repeat (first | apply Kd.R_alloc | apply Kd.R_drewN | apply Kd.R_drew)); exact HO186.out))) (below_size (by repeat (first | (with_reducible first | exact HB.out | apply below_alloc | apply pw_below_drewN | apply below_drew1) | exact HB.out)))); have n3_ := Aside0.mk (below_step (by repeat (first | (with_reducible first | exact HB.out | apply below_alloc | apply pw_below_drewN | apply below_drew1) | exact HB.out)) hb); clear HO182; clear HO186; clear HB; have HO182 := n0_; have HO186 := n1_; have HO224 := n2_; have HB := n3_; clear n0_ n1_ n2_ n3_; (try clear hb); (try clear hb2); (try clear hk); (try clear hi); (try clear ho0); obtain ⟨Ao25, co25, eo25⟩ := Kd.R_slice HO224.out; subst eo25) | ((with_reducible refine gate_callee (f := 12) rfl ?_); refine goesL_ (some 51) rfl rfl Tryd.func12 (by kernel_rfl) rfl #[.slice Ao25 t221.length co25, .slice Ao22 t179.length co22] rfl (by (try simp only [List.map_toArray, List.map_cons, List.map_nil]); first | done | rfl | (simp only [List.length_drop, List.length_take]; rfl)) ?_; (with_reducible refine (laws_eqIntS.calls k _ _ t221 _ _ t179 true _ ?side1 ?side2 ?side3 ?side4 A13.out).mono ?_); (case side1 => repeat (first | exact (Kd.R_reads' HO224.out).2.2 | (with_reducible refine Kd.C_alloc ?_ _) | (with_reducible refine Kd.C_drewN ?_ _) | (with_reducible refine Kd.C_drew ?_))); (case side2 => exact (Kd.R_reads' HO224.out).2.1); (case side3 => repeat (first | exact (Kd.R_reads' HO182.out).2.2 | (with_reducible refine Kd.C_alloc ?_ _) | (with_reducible refine Kd.C_drewN ?_ _) | (with_reducible refine Kd.C_drew ?_))); (case side4 => exact (Kd.R_reads' HO182.out).2.1); rintro e w' ⟨rfl, ⟨nd, rfl⟩⟩; refine ⟨_, rfl, ?_⟩) | ((with_reducible refine gate_callee (f := 14) rfl ?_); refine goesL_ (some 60) rfl rfl Tryd.func14 (by kernel_rfl) rfl #[.slice Ao21 t207.length co21, .int .i64 1] rfl (by (try simp only [List.map_toArray, List.map_cons, List.map_nil]); first | done | (rw [show t207.length = t183.length from (Kd.R_reads' HO186.out).1.symm] <;> rfl) | rfl | (simp only [List.length_drop, List.length_take]; rfl)) ?_; (with_reducible refine (laws_heldIntS.calls k _ _ t207 1 t228 _ ?side1 ?side2 A16.out).mono ?_); (case side1 => repeat (first | exact (Kd.R_reads' HO186.out).2.2 | (with_reducible refine Kd.C_alloc ?_ _) | (with_reducible refine Kd.C_drewN ?_ _) | (with_reducible refine Kd.C_drew ?_))); (case side2 => rw [show t207.length = t183.length from (Kd.R_reads' HO186.out).1.symm]; exact (Kd.R_reads' HO186.out).2.1); rintro e w' ⟨rfl, ⟨nd, rfl⟩⟩; refine ⟨_, rfl, ?_⟩))
  go_ret
  exact ⟨by first | rfl | (simp [errW_none, errW_some] <;> rfl) | (simp [*, errW_none, errW_some] <;> rfl), by repeat (first | (with_reducible first | exact HB.out | apply below_alloc | apply pw_below_drewN | apply below_drew1) | exact HB.out)⟩

/-- THE ONE PURE STATEMENT of laws_FnExactParseSocks: yours. -/
def laws_FnExactParseSocks.Pure : Prop := ∀ (a0 : ByteArray), a0.size ≤ 140737488351232 → ∃ k, laws_FnExactParseSocks.f k a0 = some true
theorem laws_FnExactParseSocks.walk (P : laws_FnExactParseSocks.Pure) (a0 : ByteArray) (w : World) (hG : ∃ m : Int, w.cell? ⟨0, 0, none⟩ = some (.int .i64 m)) (w0 : a0.size ≤ 140737488351232) :
    Calls Tryd.prog 6 #[.string a0] w fun e w' => e = .returned (.bool true) ∧ Below w.heap.size w w' := by
 obtain ⟨k, h⟩ := P a0 w0
 refine (laws_FnExactParseSocks.calls k a0 w hG h).mono ?_
 rintro e w' ⟨rfl, hd⟩
 exact ⟨rfl, hd⟩

end Go.Proofs.YtdifnieiobfnaaaDoor.PFnExactParseSocks
