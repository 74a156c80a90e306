/- The law FnGlovesPaired as a plain statement of plain functions: it answers true, whatever comes in. No condition. -/
import Derived.Test.YtmhcdiiiiklplaaGreatDoorVQFnGlovesPairedx1
namespace Go.Proofs.YtmhcdiiiiklplaaGreatDoorV.Law
set_option linter.unusedVariables false
set_option linter.unusedSimpArgs false
open Go.Proofs.YtmhcdiiiiklplaaGreatDoorV
noncomputable def sgOk (k : Nat) (y90 : (Int × Bool × Unit) × Unit) (y100 : (Int × Int × Bool × Unit) × Unit) (y152 : (ByteArray × Bool × Unit) × Unit) (j1 : GT × GT × GT × GT × Bool × Unit) : Option ((GT × GT × Unit) ⊕ ((Bool × Unit) × Unit)) :=
  (cond y90.1.2.1 (Option.bind (impl_PairsOfGloves_f k (j1.2.2.2.1.1, j1.2.2.2.1.2.1)) (fun y298 => (Option.bind (impl_TurnHands_f k (j1.2.2.2.1.1, j1.2.2.2.1.2.1)) (fun y303 => (Option.bind (impl_ParseGloves_f k y152.1.1) (fun y308 => (met (Option.bind (laws_mSum_f k j1.1.1) (fun y314 => (cond (y100.1.1 != y314.1.1) (some (.inl ((j1.2.1.1, j1.2.1.2.1, ()), (j1.2.2.1.1, j1.2.2.1.2.1, ()), true, ()))) (Option.bind (laws_mSum_f k j1.1.2.1) (fun y320 => (cond (y100.1.2.1 != y320.1.1) (some (.inl ((j1.2.1.1, j1.2.1.2.1, ()), (j1.2.2.1.1, j1.2.2.1.2.1, ()), true, ()))) (cond (decide (y90.1.1 < 0)) (some (.inl ((j1.2.1.1, j1.2.1.2.1, ()), (j1.2.2.1.1, j1.2.2.1.2.1, ()), true, ()))) (cond (decide (y90.1.1 > y100.1.1)) (some (.inl ((j1.2.1.1, j1.2.1.2.1, ()), (j1.2.2.1.1, j1.2.2.1.2.1, ()), true, ()))) (cond (decide (y90.1.1 > y100.1.2.1)) (some (.inl ((j1.2.1.1, j1.2.1.2.1, ()), (j1.2.2.1.1, j1.2.2.1.2.1, ()), true, ()))) (cond (!y298.1.2.1) (some (.inl ((j1.2.1.1, j1.2.1.2.1, ()), (j1.2.2.1.1, j1.2.2.1.2.1, ()), true, ()))) (cond (y298.1.1 != y90.1.1) (some (.inl ((j1.2.1.1, j1.2.1.2.1, ()), (j1.2.2.1.1, j1.2.2.1.2.1, ()), true, ()))) (cond (!y303.1.2.1) (some (.inl ((j1.2.1.1, j1.2.1.2.1, ()), (j1.2.2.1.1, j1.2.2.1.2.1, ()), true, ()))) (Option.bind (laws_mGloves_f k (y303.1.1.1, y303.1.1.2.1) (j1.1.1, j1.1.2.1)) (fun y353 => (cond (!y353.1.1) (some (.inl ((j1.2.1.1, j1.2.1.2.1, ()), (j1.2.2.1.1, j1.2.2.1.2.1, ()), true, ()))) (cond (!y308.1.2.1) (some (.inl ((j1.2.1.1, j1.2.1.2.1, ()), (j1.2.2.1.1, j1.2.2.1.2.1, ()), true, ()))) (Option.bind (laws_mGloves_f k (y308.1.1.1, y308.1.1.2.1) (j1.1.1, j1.1.2.1)) (fun y363 => (some (.inl ((j1.2.1.1, j1.2.1.2.1, ()), (j1.2.2.1.1, j1.2.2.1.2.1, ()), (!y363.1.1), ()))))))))))))))))))))) (fun j2 => (cond j2.2.2.1 (some (.inr ((false, ()), ()))) (some (.inl ((j2.1.1, j2.1.2.1, ()), (j2.2.1.1, j2.2.1.2.1, ()), ())))))))))))) (some (.inl ((j1.2.1.1, j1.2.1.2.1, ()), (j1.2.2.1.1, j1.2.2.1.2.1, ()), ()))))
noncomputable def sgLoose (k : Nat) (y90 : (Int × Bool × Unit) × Unit) (y100 : (Int × Int × Bool × Unit) × Unit) (y112 : (GT × Bool × Unit) × Unit) (j3 : GT × GT × Unit) : Option (Unit ⊕ ((Bool × Unit) × Unit)) :=
  (cond y112.1.2.1 (Option.bind (impl_PairsOfGloves_f k (j3.1.1, j3.1.2.1)) (fun y369 => (Option.bind (impl_CountGloves_f k (j3.1.1, j3.1.2.1)) (fun y374 => (Option.bind (impl_CountGloves_f k (j3.2.1.1, j3.2.1.2.1)) (fun y380 => (met (cond (!y369.1.2.1) (some (.inl (true, ()))) (cond (y369.1.1 != 0) (some (.inl (true, ()))) (cond (!y374.1.2.2.1) (some (.inl (true, ()))) (cond (y374.1.1 != (iw (y100.1.1 - y90.1.1))) (some (.inl (true, ()))) (cond (y374.1.2.1 != (iw (y100.1.2.1 - y90.1.1))) (some (.inl (true, ()))) (cond (!y380.1.2.2.1) (some (.inl (true, ()))) (cond (y380.1.1 != y374.1.2.1) (some (.inl (true, ()))) (some (.inl ((y380.1.2.1 != y374.1.1), ())))))))))) (fun j4 => (cond j4.1 (some (.inr ((false, ()), ()))) (some (.inl ()))))))))))) (some (.inl ())))
noncomputable def sgSure (k : Nat) (y424 : (GT × Int × Unit) × Unit) (y430 : (Int × Bool × Unit) × Unit) (j6 : GT × GT × GT × GT × GT × GT × Bool × Unit) : Option ((GT × GT × GT × GT × Unit) ⊕ ((Bool × Unit) × Unit)) :=
  (cond y430.1.2.1 (Option.bind (impl_PairsOfGloves_f k (j6.2.1.1, j6.2.1.2.1)) (fun y531 => (Option.bind (impl_CountGloves_f k (j6.2.1.1, j6.2.1.2.1)) (fun y536 => (met (cond (!y531.1.2.1) (some (.inl ((j6.1.1, j6.1.2.1, ()), (j6.2.2.1.1, j6.2.2.1.2.1, ()), (j6.2.2.2.1.1, j6.2.2.2.1.2.1, ()), (j6.2.2.2.2.1.1, j6.2.2.2.2.1.2.1, ()), (j6.2.2.2.2.2.1.1, j6.2.2.2.2.2.1.2.1, ()), true, ()))) (cond (y531.1.1 != (iw (y424.1.2.1 - 1))) (some (.inl ((j6.1.1, j6.1.2.1, ()), (j6.2.2.1.1, j6.2.2.1.2.1, ()), (j6.2.2.2.1.1, j6.2.2.2.1.2.1, ()), (j6.2.2.2.2.1.1, j6.2.2.2.2.1.2.1, ()), (j6.2.2.2.2.2.1.1, j6.2.2.2.2.2.1.2.1, ()), true, ()))) (cond (!y536.1.2.2.1) (some (.inl ((j6.1.1, j6.1.2.1, ()), (j6.2.2.1.1, j6.2.2.1.2.1, ()), (j6.2.2.2.1.1, j6.2.2.2.1.2.1, ()), (j6.2.2.2.2.1.1, j6.2.2.2.2.1.2.1, ()), (j6.2.2.2.2.2.1.1, j6.2.2.2.2.2.1.2.1, ()), true, ()))) (some (.inl ((j6.1.1, j6.1.2.1, ()), (j6.2.2.1.1, j6.2.2.1.2.1, ()), (j6.2.2.2.1.1, j6.2.2.2.1.2.1, ()), (j6.2.2.2.2.1.1, j6.2.2.2.2.1.2.1, ()), (j6.2.2.2.2.2.1.1, j6.2.2.2.2.2.1.2.1, ()), ((iw (y536.1.1 + y536.1.2.1)) != (iw (y430.1.1 - 1))), ())))))) (fun j7 => (cond j7.2.2.2.2.2.1 (some (.inr ((false, ()), ()))) (met (cond (decide (y424.1.2.1 > 1)) (Option.bind (impl_SureGlovePairs_f k (j7.1.1, j7.1.2.1) (iw (y424.1.2.1 - 1))) (fun y566 => (met (cond (!y566.1.2.1) (some (.inl ((j7.2.1.1, j7.2.1.2.1, ()), (j7.2.2.1.1, j7.2.2.1.2.1, ()), (j7.2.2.2.1.1, j7.2.2.2.1.2.1, ()), (j7.2.2.2.2.1.1, j7.2.2.2.2.1.2.1, ()), true, ()))) (some (.inl ((j7.2.1.1, j7.2.1.2.1, ()), (j7.2.2.1.1, j7.2.2.1.2.1, ()), (j7.2.2.2.1.1, j7.2.2.2.1.2.1, ()), (j7.2.2.2.2.1.1, j7.2.2.2.2.1.2.1, ()), (y566.1.1 != (iw (y430.1.1 - 1))), ())))) (fun j8 => (cond j8.2.2.2.2.1 (some (.inr (.inr ((false, ()), ())))) (some (.inl ((j8.1.1, j8.1.2.1, ()), (j8.2.1.1, j8.2.1.2.1, ()), (j8.2.2.1.1, j8.2.2.1.2.1, ()), (j8.2.2.2.1.1, j8.2.2.2.1.2.1, ()), ())))))))) (some (.inl ((j7.2.1.1, j7.2.1.2.1, ()), (j7.2.2.1.1, j7.2.2.1.2.1, ()), (j7.2.2.2.1.1, j7.2.2.2.1.2.1, ()), (j7.2.2.2.2.1.1, j7.2.2.2.2.1.2.1, ()), ())))) (fun j9 => (some (.inl ((j9.1.1, j9.1.2.1, ()), (j9.2.1.1, j9.2.1.2.1, ()), (j9.2.2.1.1, j9.2.2.1.2.1, ()), (j9.2.2.2.1.1, j9.2.2.2.1.2.1, ()), ())))))))))))) (some (.inl ((j6.2.2.1.1, j6.2.2.1.2.1, ()), (j6.2.2.2.1.1, j6.2.2.2.1.2.1, ()), (j6.2.2.2.2.1.1, j6.2.2.2.2.1.2.1, ()), (j6.2.2.2.2.2.1.1, j6.2.2.2.2.2.1.2.1, ()), ()))))
noncomputable def sgJoin (k : Nat) (y459 : (GT × Bool × Unit) × Unit) (j10 : GT × GT × GT × GT × Unit) : Option ((GT × Unit) ⊕ ((Bool × Unit) × Unit)) :=
  (cond y459.1.2.1 (Option.bind (impl_CountGloves_f k (j10.2.2.1.1, j10.2.2.1.2.1)) (fun y580 => (met (cond (!y580.1.2.2.1) (some (.inl ((j10.2.2.2.1.1, j10.2.2.2.1.2.1, ()), true, ()))) (Option.bind (laws_mSum_f k j10.1.1) (fun y592 => (Option.bind (laws_mSum_f k j10.1.2.1) (fun y595 => (Option.bind (laws_mSum_f k j10.2.1.1) (fun y599 => (Option.bind (laws_mSum_f k j10.2.1.2.1) (fun y603 => (some (.inl ((j10.2.2.2.1.1, j10.2.2.2.1.2.1, ()), ((iw (y580.1.1 + y580.1.2.1)) != (iw ((iw ((iw (y592.1.1 + y595.1.1)) + y599.1.1)) + y603.1.1))), ())))))))))))) (fun j11 => (cond j11.2.1 (some (.inr ((false, ()), ()))) (some (.inl ((j11.1.1, j11.1.2.1, ()), ())))))))) (some (.inl ((j10.2.2.2.1.1, j10.2.2.2.1.2.1, ()), ()))))
noncomputable def sgRead (k : Nat) (y469 : (ByteArray × Unit) × Unit) (y472 : (GT × Bool × Unit) × Unit) (j12 : GT × Unit) : Option (((Bool × Unit) × Unit)) :=
  (cond y472.1.2.1 (Option.bind (impl_GlovesText_f k (j12.1.1, j12.1.2.1)) (fun y610 => (met (cond y610.1.2.1 (some (.inl ((y610.1.1.toList == y469.1.1.toList), ()))) (some (.inl (false, ())))) (fun j13 => (some ((j13.1, ()), ())))))) (some ((true, ()), ())))
noncomputable def law4_f (k : Nat) (p1 : List Int) : Option (((Bool × Unit) × Unit)) :=
  (Option.bind (spec_DrawSureGlovePairs_f k p1) (fun y424 => (Option.bind (impl_SureGlovePairs_f k (y424.1.1.1, y424.1.1.2.1) y424.1.2.1) (fun y430 => (Option.bind (spec_SureGlovePairs_f k (y424.1.1.1, y424.1.1.2.1) y424.1.2.1) (fun y436 => (Option.bind (impl_WorstGloves_f k (y424.1.1.1, y424.1.1.2.1) y424.1.2.1) (fun y442 => (Option.bind (spec_WorstGloves_f k (y424.1.1.1, y424.1.1.2.1) y424.1.2.1) (fun y448 => (Option.bind (spec_DrawJoinGloves_f k p1) (fun y453 => (Option.bind (impl_JoinGloves_f k (y453.1.1.1, y453.1.1.2.1) (y453.1.2.1.1, y453.1.2.1.2.1)) (fun y459 => (Option.bind (spec_JoinGloves_f k (y453.1.1.1, y453.1.1.2.1) (y453.1.2.1.1, y453.1.2.1.2.1)) (fun y465 => (Option.bind (spec_DrawParseGloves_f k p1) (fun y469 => (Option.bind (impl_ParseGloves_f k y469.1.1) (fun y472 => (Option.bind (spec_ParseGloves_f k y469.1.1) (fun y477 => (met (cond (!(y430.1.2.1 == y436.1.2.1)) (some (.inl ((y424.1.1.1, y424.1.1.2.1, ()), (y442.1.1.1, y442.1.1.2.1, ()), (y453.1.1.1, y453.1.1.2.1, ()), (y453.1.2.1.1, y453.1.2.1.2.1, ()), (y459.1.1.1, y459.1.1.2.1, ()), (y472.1.1.1, y472.1.1.2.1, ()), true, ()))) (cond (y430.1.1 != y436.1.1) (some (.inl ((y424.1.1.1, y424.1.1.2.1, ()), (y442.1.1.1, y442.1.1.2.1, ()), (y453.1.1.1, y453.1.1.2.1, ()), (y453.1.2.1.1, y453.1.2.1.2.1, ()), (y459.1.1.1, y459.1.1.2.1, ()), (y472.1.1.1, y472.1.1.2.1, ()), true, ()))) (cond (!(y442.1.2.1 == y448.1.2.1)) (some (.inl ((y424.1.1.1, y424.1.1.2.1, ()), (y442.1.1.1, y442.1.1.2.1, ()), (y453.1.1.1, y453.1.1.2.1, ()), (y453.1.2.1.1, y453.1.2.1.2.1, ()), (y459.1.1.1, y459.1.1.2.1, ()), (y472.1.1.1, y472.1.1.2.1, ()), true, ()))) (Option.bind (laws_mGloves_f k (y442.1.1.1, y442.1.1.2.1) (y448.1.1.1, y448.1.1.2.1)) (fun y496 => (cond (!y496.1.1) (some (.inl ((y424.1.1.1, y424.1.1.2.1, ()), (y442.1.1.1, y442.1.1.2.1, ()), (y453.1.1.1, y453.1.1.2.1, ()), (y453.1.2.1.1, y453.1.2.1.2.1, ()), (y459.1.1.1, y459.1.1.2.1, ()), (y472.1.1.1, y472.1.1.2.1, ()), true, ()))) (cond (!(y459.1.2.1 == y465.1.2.1)) (some (.inl ((y424.1.1.1, y424.1.1.2.1, ()), (y442.1.1.1, y442.1.1.2.1, ()), (y453.1.1.1, y453.1.1.2.1, ()), (y453.1.2.1.1, y453.1.2.1.2.1, ()), (y459.1.1.1, y459.1.1.2.1, ()), (y472.1.1.1, y472.1.1.2.1, ()), true, ()))) (Option.bind (laws_mGloves_f k (y459.1.1.1, y459.1.1.2.1) (y465.1.1.1, y465.1.1.2.1)) (fun y507 => (cond (!y507.1.1) (some (.inl ((y424.1.1.1, y424.1.1.2.1, ()), (y442.1.1.1, y442.1.1.2.1, ()), (y453.1.1.1, y453.1.1.2.1, ()), (y453.1.2.1.1, y453.1.2.1.2.1, ()), (y459.1.1.1, y459.1.1.2.1, ()), (y472.1.1.1, y472.1.1.2.1, ()), true, ()))) (cond (!(y472.1.2.1 == y477.1.2.1)) (some (.inl ((y424.1.1.1, y424.1.1.2.1, ()), (y442.1.1.1, y442.1.1.2.1, ()), (y453.1.1.1, y453.1.1.2.1, ()), (y453.1.2.1.1, y453.1.2.1.2.1, ()), (y459.1.1.1, y459.1.1.2.1, ()), (y472.1.1.1, y472.1.1.2.1, ()), true, ()))) (Option.bind (laws_mGloves_f k (y472.1.1.1, y472.1.1.2.1) (y477.1.1.1, y477.1.1.2.1)) (fun y518 => (cond (!y518.1.1) (some (.inl ((y424.1.1.1, y424.1.1.2.1, ()), (y442.1.1.1, y442.1.1.2.1, ()), (y453.1.1.1, y453.1.1.2.1, ()), (y453.1.2.1.1, y453.1.2.1.2.1, ()), (y459.1.1.1, y459.1.1.2.1, ()), (y472.1.1.1, y472.1.1.2.1, ()), true, ()))) (cond y430.1.2.1 (some (.inl ((y424.1.1.1, y424.1.1.2.1, ()), (y442.1.1.1, y442.1.1.2.1, ()), (y453.1.1.1, y453.1.1.2.1, ()), (y453.1.2.1.1, y453.1.2.1.2.1, ()), (y459.1.1.1, y459.1.1.2.1, ()), (y472.1.1.1, y472.1.1.2.1, ()), (!y442.1.2.1), ()))) (some (.inl ((y424.1.1.1, y424.1.1.2.1, ()), (y442.1.1.1, y442.1.1.2.1, ()), (y453.1.1.1, y453.1.1.2.1, ()), (y453.1.2.1.1, y453.1.2.1.2.1, ()), (y459.1.1.1, y459.1.1.2.1, ()), (y472.1.1.1, y472.1.1.2.1, ()), false, ())))))))))))))))))) (fun j6 => (cond j6.2.2.2.2.2.2.1 (some ((false, ()), ())) (met (cond y430.1.2.1 (Option.bind (impl_PairsOfGloves_f k (j6.2.1.1, j6.2.1.2.1)) (fun y531 => (Option.bind (impl_CountGloves_f k (j6.2.1.1, j6.2.1.2.1)) (fun y536 => (met (cond (!y531.1.2.1) (some (.inl ((j6.1.1, j6.1.2.1, ()), (j6.2.2.1.1, j6.2.2.1.2.1, ()), (j6.2.2.2.1.1, j6.2.2.2.1.2.1, ()), (j6.2.2.2.2.1.1, j6.2.2.2.2.1.2.1, ()), (j6.2.2.2.2.2.1.1, j6.2.2.2.2.2.1.2.1, ()), true, ()))) (cond (y531.1.1 != (iw (y424.1.2.1 - 1))) (some (.inl ((j6.1.1, j6.1.2.1, ()), (j6.2.2.1.1, j6.2.2.1.2.1, ()), (j6.2.2.2.1.1, j6.2.2.2.1.2.1, ()), (j6.2.2.2.2.1.1, j6.2.2.2.2.1.2.1, ()), (j6.2.2.2.2.2.1.1, j6.2.2.2.2.2.1.2.1, ()), true, ()))) (cond (!y536.1.2.2.1) (some (.inl ((j6.1.1, j6.1.2.1, ()), (j6.2.2.1.1, j6.2.2.1.2.1, ()), (j6.2.2.2.1.1, j6.2.2.2.1.2.1, ()), (j6.2.2.2.2.1.1, j6.2.2.2.2.1.2.1, ()), (j6.2.2.2.2.2.1.1, j6.2.2.2.2.2.1.2.1, ()), true, ()))) (some (.inl ((j6.1.1, j6.1.2.1, ()), (j6.2.2.1.1, j6.2.2.1.2.1, ()), (j6.2.2.2.1.1, j6.2.2.2.1.2.1, ()), (j6.2.2.2.2.1.1, j6.2.2.2.2.1.2.1, ()), (j6.2.2.2.2.2.1.1, j6.2.2.2.2.2.1.2.1, ()), ((iw (y536.1.1 + y536.1.2.1)) != (iw (y430.1.1 - 1))), ())))))) (fun j7 => (cond j7.2.2.2.2.2.1 (some (.inr ((false, ()), ()))) (met (cond (decide (y424.1.2.1 > 1)) (Option.bind (impl_SureGlovePairs_f k (j7.1.1, j7.1.2.1) (iw (y424.1.2.1 - 1))) (fun y566 => (met (cond (!y566.1.2.1) (some (.inl ((j7.2.1.1, j7.2.1.2.1, ()), (j7.2.2.1.1, j7.2.2.1.2.1, ()), (j7.2.2.2.1.1, j7.2.2.2.1.2.1, ()), (j7.2.2.2.2.1.1, j7.2.2.2.2.1.2.1, ()), true, ()))) (some (.inl ((j7.2.1.1, j7.2.1.2.1, ()), (j7.2.2.1.1, j7.2.2.1.2.1, ()), (j7.2.2.2.1.1, j7.2.2.2.1.2.1, ()), (j7.2.2.2.2.1.1, j7.2.2.2.2.1.2.1, ()), (y566.1.1 != (iw (y430.1.1 - 1))), ())))) (fun j8 => (cond j8.2.2.2.2.1 (some (.inr (.inr ((false, ()), ())))) (some (.inl ((j8.1.1, j8.1.2.1, ()), (j8.2.1.1, j8.2.1.2.1, ()), (j8.2.2.1.1, j8.2.2.1.2.1, ()), (j8.2.2.2.1.1, j8.2.2.2.1.2.1, ()), ())))))))) (some (.inl ((j7.2.1.1, j7.2.1.2.1, ()), (j7.2.2.1.1, j7.2.2.1.2.1, ()), (j7.2.2.2.1.1, j7.2.2.2.1.2.1, ()), (j7.2.2.2.2.1.1, j7.2.2.2.2.1.2.1, ()), ())))) (fun j9 => (some (.inl ((j9.1.1, j9.1.2.1, ()), (j9.2.1.1, j9.2.1.2.1, ()), (j9.2.2.1.1, j9.2.2.1.2.1, ()), (j9.2.2.2.1.1, j9.2.2.2.1.2.1, ()), ())))))))))))) (some (.inl ((j6.2.2.1.1, j6.2.2.1.2.1, ()), (j6.2.2.2.1.1, j6.2.2.2.1.2.1, ()), (j6.2.2.2.2.1.1, j6.2.2.2.2.1.2.1, ()), (j6.2.2.2.2.2.1.1, j6.2.2.2.2.2.1.2.1, ()), ())))) (fun j10 => (met (cond y459.1.2.1 (Option.bind (impl_CountGloves_f k (j10.2.2.1.1, j10.2.2.1.2.1)) (fun y580 => (met (cond (!y580.1.2.2.1) (some (.inl ((j10.2.2.2.1.1, j10.2.2.2.1.2.1, ()), true, ()))) (Option.bind (laws_mSum_f k j10.1.1) (fun y592 => (Option.bind (laws_mSum_f k j10.1.2.1) (fun y595 => (Option.bind (laws_mSum_f k j10.2.1.1) (fun y599 => (Option.bind (laws_mSum_f k j10.2.1.2.1) (fun y603 => (some (.inl ((j10.2.2.2.1.1, j10.2.2.2.1.2.1, ()), ((iw (y580.1.1 + y580.1.2.1)) != (iw ((iw ((iw (y592.1.1 + y595.1.1)) + y599.1.1)) + y603.1.1))), ())))))))))))) (fun j11 => (cond j11.2.1 (some (.inr ((false, ()), ()))) (some (.inl ((j11.1.1, j11.1.2.1, ()), ())))))))) (some (.inl ((j10.2.2.2.1.1, j10.2.2.2.1.2.1, ()), ())))) (fun j12 => (cond y472.1.2.1 (Option.bind (impl_GlovesText_f k (j12.1.1, j12.1.2.1)) (fun y610 => (met (cond y610.1.2.1 (some (.inl ((y610.1.1.toList == y469.1.1.toList), ()))) (some (.inl (false, ())))) (fun j13 => (some ((j13.1, ()), ())))))) (some ((true, ()), ()))))))))))))))))))))))))))))))))

theorem met_goG {α β : Type} {o : Option (β ⊕ α)} {K : β → Option α} {r : Option α} (v : β) (h : o = some (.inl v)) (h2 : K v = r) : met o K = r := by rw [h]; exact h2
theorem mSame_self (k : Nat) (hk : 100 ≤ k) (a : List Int) (ha : a.length ≤ 20) : laws_mSame_f k a a = some ((true, ()), ()) := by
  unfold laws_mSame_f
  have e0 : ((a.length : Int) != (a.length : Int)) = false := by simp
  rw [e0]
  have h : laws_mSame_l1 k a a 0 = some (.inl ()) := by
    unfold laws_mSame_l1
    refine iter_to (fun j => ((j : Int), ())) a.length _ (fun j hj rec => ?_) (fun rec => ?_) k (by omega)
    · simp only [laws_mSame_l1_b]
      rw [cond_dec, if_pos (by omega), ixk_in (by omega) (by omega), ixk_in (by omega) (by omega), iw_nat (by omega)]
      simp
    · simp only [laws_mSame_l1_b]
      rw [cond_dec, if_neg (by omega)]
  rw [cond_false, h]; rfl
theorem mGloves_self (k : Nat) (hk : 100 ≤ k) (a b : List Int) (ha : a.length ≤ 20) (hb : b.length ≤ 20) : laws_mGloves_f k (a, b) (a, b) = some ((true, ()), ()) := by
  unfold laws_mGloves_f
  simp only [mSame_self k hk a ha, mSame_self k hk b hb, Option.bind_some, cond_true, met_inl]
theorem mSum_is (k : Nat) (l : List Int) (hk : l.length < k) (hl : l.length ≤ 1000) : laws_mSum_f k l = some ((sumW l, ()), ()) := total_is k l hk hl
theorem mkG_len {b : Bool} {X Y : List Int} (h : X.length ≤ 20) (h' : Y.length ≤ 20) : (mkG b X Y).1.1.1.length ≤ 20 ∧ (mkG b X Y).1.1.2.1.length ≤ 20 := by
  unfold mkG
  cases b with
  | true => exact ⟨h, h'⟩
  | false => exact ⟨Nat.zero_le _, Nat.zero_le _⟩
/-! ### Loose gloves -/
theorem tot_d {L R : List Int} (G : GoodG L R) : total (nats' (dG L R)) + minG L R = total (nats' L) ∧ total (nats' (eG L R)) + minG L R = total (nats' R) ∧ minG (dG L R) (eG L R) = 0 := by
  have len := G.len
  have d1 : (dG L R).length = L.length := row_len _ _
  have d2 : (eG L R).length = L.length := row_len _ _
  refine ⟨?_, ?_, ?_⟩
  · rw [total_at, total_at, d1]
    unfold minG
    rw [← sumN_add]
    refine sumN_congr _ fun i hi => ?_
    show at' (row _ _) i + _ = _
    rw [at_row _ _ i hi]; omega
  · rw [total_at, total_at, d2, len]
    unfold minG
    rw [← sumN_add]
    refine sumN_congr _ fun i hi => ?_
    show at' (row _ _) i + _ = _
    rw [at_row _ _ i hi]; omega
  · unfold minG
    rw [d1]
    refine sumN_zero _ fun i hi => ?_
    show min (at' (row _ _) i) (at' (row _ _) i) = 0
    rw [at_row _ _ i hi, at_row _ _ i hi]; omega
theorem dG_good {L R : List Int} (G : GoodG L R) : goodG (dG L R) (eG L R) = decide (2 * minG L R < total (nats' L) + total (nats' R)) := by
  obtain ⟨t1, t2, _⟩ := tot_d G
  have iL : in20 (dG L R) := in20_row fun i _ => by have := at_le G.inL i; omega
  have iR : in20 (eG L R) := in20_row fun i _ => by have := at_le G.inR i; omega
  have d1 : (dG L R).length = L.length := row_len _ _
  have d2 : (eG L R).length = L.length := row_len _ _
  by_cases h : 2 * minG L R < total (nats' L) + total (nats' R)
  · rw [decide_eq_true h]
    exact goodG_mk (by rw [d1]; exact G.l0) (by rw [d1]; exact G.l8) (by rw [d1, d2]) iL iR (by omega)
  · rw [decide_eq_false h, ← Bool.not_eq_true]
    intro hg
    have := (goodG_is hg).tot
    omega
theorem good_eq {L R : List Int} : goodG R L = goodG L R := by
  cases h : goodG L R with
  | true => exact goodG_swap h
  | false =>
    rw [← Bool.not_eq_true] at h ⊢
    exact fun x => h (goodG_swap x)
theorem minG_comm {L R : List Int} (h : R.length = L.length) : minG R L = minG L R := by
  unfold minG
  rw [h]
  exact sumN_congr _ fun i _ => Nat.min_comm _ _
theorem sgOk_is (k : Nat) (hk : 2000 ≤ k) (L R : List Int) (hL : L.length ≤ 10) (hR : R.length ≤ 10) (A B : GT) (b : Bool) : sgOk k (pgVal L R) (cgVal L R) (gxVal L R) ((L, R, ()), A, B, (tVal L R).1.1, b, ()) = some (.inl (A, B, ())) := by
  unfold sgOk pgVal
  cases hg : goodG L R with
  | false => rfl
  | true =>
    have G := goodG_is hg
    have t := G.tot
    have m := minG_le G
    have tl : tVal L R = (((R, L, ()), true, ()), ()) := by unfold tVal; rw [hg]; rfl
    have tr : tVal R L = (((L, R, ()), true, ()), ()) := by unfold tVal; rw [good_eq, hg]; rfl
    have cl : cgVal L R = (((total (nats' L) : Int), (total (nats' R) : Int), true, ()), ()) := by unfold cgVal; rw [if_pos hg]
    have gx : gxVal L R = ((lit (gtl (nats' L) (nats' R)), true, ()), ()) := by unfold gxVal; rw [if_pos hg]
    have pr : pgVal R L = (((minG L R : Int), true, ()), ()) := by unfold pgVal; rw [good_eq, if_pos hg, minG_comm G.len]
    have sz : (lit (gtl (nats' L) (nats' R))).size ≤ 48 := by
      rw [lit_size]
      have := gtl_len (nats' L) (nats' R)
      have := nats_len L
      have := G.l8
      omega
    obtain ⟨v, ev, pv⟩ := implPG2_is k hk _ sz
    have ev2 := pv.2 L R hg rfl
    simp only [if_true, cond_true, tl, cl, gx]
    rw [implPG_is k (by omega) R L hR hL, pr]
    simp only [Option.bind_some]
    rw [implTurn_is k (by omega) R L hR hL, tr]
    simp only [Option.bind_some]
    rw [ev, ev2]
    simp only [Option.bind_some]
    rw [mSum_is k L (by omega) (by omega), sumL G]
    simp only [Option.bind_some, bne_self_eq_false, cond_false]
    rw [mSum_is k R (by omega) (by omega), sumR G]
    simp only [Option.bind_some, bne_self_eq_false, cond_false, Bool.not_true]
    rw [decide_eq_false (show ¬ ((minG L R : Nat) : Int) < 0 by omega), decide_eq_false (show ¬ ((minG L R : Nat) : Int) > ((total (nats' L) : Nat) : Int) by omega), decide_eq_false (show ¬ ((minG L R : Nat) : Int) > ((total (nats' R) : Nat) : Int) by omega)]
    simp only [cond_false]
    rw [mGloves_self k (by omega) L R (by omega) (by omega)]
    rfl
theorem sgLoose_is (k : Nat) (hk : 2000 ≤ k) (L R : List Int) (hL : L.length ≤ 10) (hR : R.length ≤ 10) : sgLoose k (pgVal L R) (cgVal L R) (lzVal L R) ((lzVal L R).1.1, (msVal L R).1.1, ()) = some (.inl ()) := by
  unfold sgLoose
  cases hb : goodG L R && goodG (dG L R) (eG L R) with
  | false =>
    have : lzVal L R = ((([], [], ()), false, ()), ()) := by unfold lzVal; rw [hb]; rfl
    rw [this]; rfl
  | true =>
    have e1 : lzVal L R = (((dG L R, eG L R, ()), true, ()), ()) := by unfold lzVal; rw [hb]; rfl
    have hb' := hb
    simp only [Bool.and_eq_true] at hb
    have e2 : msVal L R = (((eG L R, dG L R, ()), true, ()), ()) := by unfold msVal; rw [good_eq (L := dG L R), hb']; rfl
    have G := goodG_is hb.1
    have H := goodG_is hb.2
    have t := G.tot
    obtain ⟨t1, t2, t3⟩ := tot_d G
    have d1 : (dG L R).length ≤ 10 := by unfold dG; rw [row_len]; exact hL
    have d2 : (eG L R).length ≤ 10 := by unfold eG; rw [row_len]; exact hL
    rw [e1, e2]
    unfold pgVal cgVal
    rw [hb.1]
    simp only [if_true, cond_true]
    rw [implPG_is k (by omega) _ _ d1 d2]
    unfold pgVal
    rw [hb.2]
    simp only [if_true, Option.bind_some]
    rw [implCountG_is k (by omega) _ _ d1 d2, implCountG_is k (by omega) _ _ d2 d1]
    unfold cgVal
    rw [good_eq (L := dG L R), hb.2, t3]
    simp only [if_true, Option.bind_some, Bool.not_true, cond_false, bne_self_eq_false]
    rw [iw_id (by omega) (by omega), iw_id (by omega) (by omega), show ((total (nats' L) : Nat) : Int) - ((minG L R : Nat) : Int) = ((total (nats' (dG L R)) : Nat) : Int) by omega, show ((total (nats' R) : Nat) : Int) - ((minG L R : Nat) : Int) = ((total (nats' (eG L R)) : Nat) : Int) by omega]
    simp
/-! ### Sure pairs -/
theorem wG_facts {L R : List Int} (G : GoodG L R) (p : Nat) (hp : p ≤ minG L R) : minG (wGL L R p) (wGR L R p) = p ∧ total (nats' (wGL L R p)) + total (nats' (wGR L R p)) = maxG L R + p := by
  have d1 : (wGL L R p).length = L.length := row_len _ _
  have d2 : (wGR L R p).length = L.length := row_len _ _
  have hs := wc_sum L R p L.length
  rw [wm_all L R p L.length hp] at hs
  have hs : sumN (wm L R p) L.length = p := by omega
  constructor
  · unfold minG
    rw [d1]
    refine Eq.trans (sumN_congr _ fun i hi => ?_) hs
    show min (at' (row _ _) i) (at' (row _ _) i) = _
    rw [at_row _ _ i hi, at_row _ _ i hi]; exact (wLR L R p i).1
  · rw [total_at, total_at, d1, d2, ← sumN_add]
    unfold maxG
    rw [← hs, ← sumN_add]
    refine sumN_congr _ fun i hi => ?_
    show at' (row _ _) i + at' (row _ _) i = _
    rw [at_row _ _ i hi, at_row _ _ i hi, hs]; exact (wLR L R p i).2.1
theorem sgSure_is (k : Nat) (hk : 2000 ≤ k) (L R : List Int) (hL : L.length ≤ 10) (hR : R.length ≤ 10) (p : Int) (A B C D : GT) (b : Bool) : sgSure k (((L, R, ()), p, ()), ()) (sgVal L R p) ((L, R, ()), (woVal L R p).1.1, A, B, C, D, b, ()) = some (.inl (A, B, C, D, ())) := by
  unfold sgSure sgVal
  cases hb : sgB L R p with
  | false => rfl
  | true =>
    have hb' := hb
    unfold sgB at hb
    simp only [Bool.and_eq_true, decide_eq_true_eq] at hb
    obtain ⟨hg, h1, h2⟩ := hb
    have G := goodG_is hg
    have t := G.tot
    have m := minG_le G
    have x := maxG_le G
    obtain ⟨n, rfl⟩ : ∃ n : Nat, p = (n : Int) + 1 := ⟨(p - 1).toNat, by omega⟩
    have e1 : woVal L R ((n : Int) + 1) = (((wGL L R n, wGR L R n, ()), true, ()), ()) := by
      unfold woVal
      rw [hg, decide_eq_true h1, show (n : Int) + 1 - 1 = (n : Int) by omega, Int.toNat_natCast]
      rfl
    have d1 : (wGL L R n).length ≤ 10 := by unfold wGL; rw [row_len]; exact hL
    have d2 : (wGR L R n).length ≤ 10 := by unfold wGR; rw [row_len]; exact hL
    obtain ⟨f1, f2⟩ := wG_facts G n (by omega)
    rw [e1]
    simp only [if_true, cond_true]
    rw [implPG_is k (by omega) _ _ d1 d2]
    unfold pgVal
    rw [wG_good G, f1]
    simp only [if_true, Option.bind_some]
    rw [implCountG_is k (by omega) _ _ d1 d2]
    unfold cgVal
    rw [wG_good G]
    simp only [if_true, Option.bind_some, Bool.not_true, cond_false]
    rw [iw_id (x := (n : Int) + 1 - 1) (by omega) (by omega), show (n : Int) + 1 - 1 = (n : Int) by omega, bne_self_eq_false, cond_false, iw_id (x := ((total (nats' (wGL L R n)) : Nat) : Int) + _) (by omega) (by omega), iw_id (x := ((maxG L R : Nat) : Int) + ((n : Int) + 1) - 1) (by omega) (by omega),
      show ((total (nats' (wGL L R n)) : Nat) : Int) + ((total (nats' (wGR L R n)) : Nat) : Int) = ((maxG L R : Nat) : Int) + ((n : Int) + 1) - 1 by omega, bne_self_eq_false]
    simp only [met_inl, cond_false]
    by_cases hn : n = 0
    · rw [decide_eq_false (show ¬ ((n : Int) + 1 > 1) by omega)]; rfl
    · rw [decide_eq_true (show (n : Int) + 1 > 1 by omega), cond_true, implSG_is k (by omega) L R hL hR]
      unfold sgVal sgB
      rw [hg, decide_eq_true (show (1 : Int) ≤ (n : Int) by omega), decide_eq_true (show (n : Int) ≤ ((minG L R : Nat) : Int) by omega)]
      simp only [Bool.and_self, if_true, Option.bind_some, Bool.not_true, cond_false]
      rw [show ((maxG L R : Nat) : Int) + ((n : Int) + 1) - 1 = ((maxG L R : Nat) : Int) + (n : Int) by omega, bne_self_eq_false]
      rfl
theorem tot_j {L C : List Int} (n : Nat) (hl : L.length = n) (hc : C.length = n) : total (nats' (jn n L C)) = total (nats' L) + total (nats' C) := by
  rw [total_at, total_at, total_at, hl, hc, show (jn n L C).length = n from row_len _ _, ← sumN_add]
  refine sumN_congr _ fun i hi => ?_
  show at' (row _ _) i = _
  rw [at_row _ _ i hi]
theorem sgJoin_is (k : Nat) (hk : 2000 ≤ k) (L R C D : List Int) (hL : L.length ≤ 10) (hR : R.length ≤ 10) (hC : C.length ≤ 10) (hD : D.length ≤ 10) (A : GT) : sgJoin k (joVal L R C D) ((L, R, ()), (C, D, ()), (joVal L R C D).1.1, A, ()) = some (.inl (A, ())) := by
  unfold sgJoin
  cases hb : jB L R C D && goodG (jn L.length L C) (jn L.length R D) with
  | false =>
    have : joVal L R C D = ((([], [], ()), false, ()), ()) := by unfold joVal; rw [hb]; rfl
    rw [this]; rfl
  | true =>
    have e1 : joVal L R C D = (((jn L.length L C, jn L.length R D, ()), true, ()), ()) := by unfold joVal; rw [hb]; rfl
    unfold jB at hb
    simp only [Bool.and_eq_true, decide_eq_true_eq] at hb
    obtain ⟨⟨g1, g2, g3⟩, g4⟩ := hb
    have G := goodG_is g1
    have H := goodG_is g2
    have t1 := G.tot
    have t2 := H.tot
    rw [e1]
    simp only [cond_true]
    rw [implCountG_is k (by omega) _ _ (by unfold jn; rw [row_len]; exact hL) (by unfold jn; rw [row_len]; exact hL)]
    unfold cgVal
    rw [g4, tot_j _ rfl g3.symm, tot_j _ G.len (by rw [H.len, g3])]
    simp only [if_true, Option.bind_some, Bool.not_true, cond_false]
    rw [mSum_is k L (by omega) (by omega), mSum_is k R (by omega) (by omega), mSum_is k C (by omega) (by omega), mSum_is k D (by omega) (by omega), sumL G, sumR G, sumL H, sumR H]
    simp only [Option.bind_some]
    have e : iw (((total (nats' L) + total (nats' C) : Nat) : Int) + ((total (nats' R) + total (nats' D) : Nat) : Int)) = iw (iw (iw (((total (nats' L) : Nat) : Int) + ((total (nats' R) : Nat) : Int)) + ((total (nats' C) : Nat) : Int)) + ((total (nats' D) : Nat) : Int)) := by
      rw [iw_id (x := ((total (nats' L) : Nat) : Int) + ((total (nats' R) : Nat) : Int)) (by omega) (by omega), iw_id (x := ((total (nats' L) : Nat) : Int) + ((total (nats' R) : Nat) : Int) + ((total (nats' C) : Nat) : Int)) (by omega) (by omega), iw_id (by omega) (by omega), iw_id (by omega) (by omega)]
      omega
    rw [e, bne_self_eq_false]
    rfl
theorem sgRead_is (k : Nat) (hk : 2000 ≤ k) (s : ByteArray) (v : (GT × Bool × Unit) × Unit) (h : PgOk s v) : sgRead k ((s, ()), ()) v (v.1.1, ()) = some ((true, ()), ()) := by
  unfold sgRead
  rcases h.1 with rfl | ⟨L, R, hg, t, rfl⟩
  · rfl
  · have G := goodG_is hg
    have l8 := G.l8
    have len := G.len
    simp only [cond_true]
    rw [implGX_is k (by omega) L R (by omega) (by omega)]
    unfold gxVal
    rw [hg]
    simp only [if_true, Option.bind_some, cond_true]
    rw [← t, beq_self_eq_true]
    rfl
theorem law4_is (k : Nat) (hk : 2000 ≤ k) (l : List Int) (h : ∀ x ∈ l, 0 ≤ x ∧ x ≤ 255) : law4_f k l = some ((true, ()), ()) := by
  unfold law4_f
  obtain ⟨L, R, p, e1, d1, hp⟩ := drawSGP_is k (by omega) l h
  obtain ⟨A, B, C, D, e2, d2, d3⟩ := drawJG_is k (by omega) l h
  obtain ⟨s, e3, hs⟩ := drawPG_is k (by omega) l h
  obtain ⟨v, ev, pv⟩ := implPG2_is k hk s (by omega)
  obtain ⟨v', ev', pv'⟩ := specPG2_is k hk s (by omega)
  obtain rfl := pv.uniq pv'
  have w1 : (wGL L R (p - 1).toNat).length ≤ 20 := by unfold wGL; rw [row_len]; have := d1.1; omega
  have w2 : (wGR L R (p - 1).toNat).length ≤ 20 := by unfold wGR; rw [row_len]; have := d1.1; omega
  have j1 : (jn A.length A C).length ≤ 20 := by unfold jn; rw [row_len]; have := d2.1; omega
  have j2 : (jn A.length B D).length ≤ 20 := by unfold jn; rw [row_len]; have := d2.1; omega
  have lw := mkG_len (b := goodG L R && decide (1 ≤ p)) w1 w2
  have lj := mkG_len (b := jB A B C D && goodG (jn A.length A C) (jn A.length B D)) j1 j2
  have lv : v.1.1.1.length ≤ 20 ∧ v.1.1.2.1.length ≤ 20 := by
    rcases pv.1 with rfl | ⟨X, Y, hg, _, rfl⟩
    · exact ⟨Nat.zero_le _, Nat.zero_le _⟩
    · have G := goodG_is hg
      have := G.l8
      have := G.len
      exact ⟨by show X.length ≤ 20; omega, by show Y.length ≤ 20; omega⟩
  simp only [e1, e2, e3, ev, ev', Option.bind_some, implSG_is k (by omega) L R d1.1 d1.2.1, specSG_is k (by omega) L R d1.1 d1.2.1, implWorst_is k (by omega) L R d1.1 d1.2.1 p hp, specWorst_is k (by omega) L R d1.1 d1.2.1 p hp,
    implJoin_is k (by omega) A B C D d2.1 d2.2.1 d3.1 d3.2.1, specJoin_is k (by omega) A B C D d2.1 d2.2.1 d3.1 d3.2.1, mGloves_self k (by omega) (woVal L R p).1.1.1 (woVal L R p).1.1.2.1 lw.1 lw.2, mGloves_self k (by omega) (joVal A B C D).1.1.1 (joVal A B C D).1.1.2.1 lj.1 lj.2, mGloves_self k (by omega) v.1.1.1 v.1.1.2.1 lv.1 lv.2,
    beq_self_eq_true, bne_self_eq_false, Bool.not_true, cond_false]
  refine met_goG ((L, R, ()), (woVal L R p).1.1, (A, B, ()), (C, D, ()), (joVal A B C D).1.1, v.1.1, false, ()) ?_ ?_
  · cases hb : sgB L R p with
    | false =>
      have : (sgVal L R p).1.2.1 = false := by unfold sgVal; rw [hb]; rfl
      rw [this]; rfl
    | true =>
      have e4 : (sgVal L R p).1.2.1 = true := by unfold sgVal; rw [hb]; rfl
      have e5 : (woVal L R p).1.2.1 = true := by
        unfold sgB at hb
        simp only [Bool.and_eq_true, decide_eq_true_eq] at hb
        unfold woVal
        rw [hb.1, decide_eq_true hb.2.1]; rfl
      rw [e4, e5]; rfl
  · simp only [cond_false]
    refine met_goG ((A, B, ()), (C, D, ()), (joVal A B C D).1.1, v.1.1, ()) (sgSure_is k hk L R d1.1 d1.2.1 p (A, B, ()) (C, D, ()) (joVal A B C D).1.1 v.1.1 false) ?_
    refine met_goG (v.1.1, ()) (sgJoin_is k hk A B C D d2.1 d2.2.1 d3.1 d3.2.1 v.1.1) ?_
    exact sgRead_is k hk s v pv
theorem law_FnGlovesPaired (k : Nat) (hk : 2000 ≤ k) (l0 l1 : List Int) (h0 : ∀ x ∈ l0, 0 ≤ x ∧ x ≤ 255) (h1 : ∀ x ∈ l1, 0 ≤ x ∧ x ≤ 255) : laws_FnGlovesPaired_f k l0 l1 = some ((true, ()), ()) := by
  unfold laws_FnGlovesPaired_f
  obtain ⟨b, eb⟩ := big_is k l0 l1
  obtain ⟨L, R, ed, d⟩ := drawAreG_is k (by omega) l0 h0
  rw [eb]
  simp only [Option.bind_some]
  cases b with
  | true => rfl
  | false =>
    have hL := d.1
    have hR := d.2.1
    have l1' := mkG_len (b := goodG L R && goodG (dG L R) (eG L R)) (X := dG L R) (Y := eG L R) (by unfold dG; rw [row_len]; omega) (by unfold eG; rw [row_len]; omega)
    have l2' := mkG_len (b := goodG L R && goodG (eG L R) (dG L R)) (X := eG L R) (Y := dG L R) (by unfold eG; rw [row_len]; omega) (by unfold dG; rw [row_len]; omega)
    have l3' := mkG_len (b := goodG L R) (X := R) (Y := L) (by omega) (by omega)
    simp only [cond_false, ed, Option.bind_some, implPG_is k (by omega) L R hL hR, specPG_is k (by omega) L R hL hR, implCountG_is k (by omega) L R hL hR, specCountG_is k (by omega) L R hL hR, implLoose_is k (by omega) L R hL hR, specLoose_is k (by omega) L R hL hR,
      implMiss_is k (by omega) L R hL hR, specMiss_is k (by omega) L R hL hR, implTurn_is k (by omega) L R hL hR, specTurn_is k (by omega) L R hL hR, implSB_is k (by omega) L R hL hR, specSB_is k (by omega) L R hL hR, implGX_is k (by omega) L R hL hR, specGX_is k (by omega) L R hL hR, areGloves_is k (by omega) L R hL hR,
      show spec_AreGloves_f k (L, R) = some ((goodG L R, ()), ()) by unfold spec_AreGloves_f; rw [gvGood_is k (by omega) L R hL hR]; rfl,
      mGloves_self k (by omega) (lzVal L R).1.1.1 (lzVal L R).1.1.2.1 l1'.1 l1'.2, mGloves_self k (by omega) (msVal L R).1.1.1 (msVal L R).1.1.2.1 l2'.1 l2'.2, mGloves_self k (by omega) (tVal L R).1.1.1 (tVal L R).1.1.2.1 l3'.1 l3'.2,
      beq_self_eq_true, bne_self_eq_false, Bool.not_true]
    refine met_goG ((L, R, ()), (lzVal L R).1.1, (msVal L R).1.1, (tVal L R).1.1, false, ()) ?_ ?_
    · cases hg : goodG L R with
      | false =>
        have a1 : pgVal L R = ((0, false, ()), ()) := by unfold pgVal; rw [hg]; rfl
        have a2 : cgVal L R = ((0, 0, false, ()), ()) := by unfold cgVal; rw [hg]; rfl
        have a3 : lzVal L R = ((([], [], ()), false, ()), ()) := by unfold lzVal; rw [hg]; rfl
        have a4 : msVal L R = ((([], [], ()), false, ()), ()) := by unfold msVal; rw [hg]; rfl
        have a5 : tVal L R = ((([], [], ()), false, ()), ()) := by unfold tVal; rw [hg]; rfl
        have a6 : sbVal L R = ((0, false, ()), ()) := by unfold sbVal sbB; rw [hg]; rfl
        have a7 : gxVal L R = ((ByteArray.empty, false, ()), ()) := by unfold gxVal; rw [hg]; rfl
        rw [a1, a2, a3, a4, a5, a6, a7]; rfl
      | true =>
        have G := goodG_is hg
        have t := G.tot
        have m := minG_le G
        have a1 : pgVal L R = (((minG L R : Int), true, ()), ()) := by unfold pgVal; rw [hg]; rfl
        have a2 : cgVal L R = (((total (nats' L) : Int), (total (nats' R) : Int), true, ()), ()) := by unfold cgVal; rw [hg]; rfl
        have a5 : tVal L R = (((R, L, ()), true, ()), ()) := by unfold tVal; rw [hg]; rfl
        have a7 : gxVal L R = ((lit (gtl (nats' L) (nats' R)), true, ()), ()) := by unfold gxVal; rw [hg]; rfl
        have b3 : (lzVal L R).1.2.1 = decide (2 * minG L R < total (nats' L) + total (nats' R)) := by
          unfold lzVal; rw [hg, Bool.true_and, dG_good G]
          cases decide (2 * minG L R < total (nats' L) + total (nats' R)) <;> rfl
        have b4 : (msVal L R).1.2.1 = decide (2 * minG L R < total (nats' L) + total (nats' R)) := by
          unfold msVal; rw [hg, Bool.true_and, good_eq (L := dG L R), dG_good G]
          cases decide (2 * minG L R < total (nats' L) + total (nats' R)) <;> rfl
        have b6 : (sbVal L R).1.2.1 = (decide (0 < total (nats' L)) && decide (0 < total (nats' R))) := by
          unfold sbVal sbB; rw [hg, Bool.true_and]
          cases (decide (0 < total (nats' L)) && decide (0 < total (nats' R))) <;> rfl
        have e1 : decide (iw (((total (nats' L) : Nat) : Int) + ((total (nats' R) : Nat) : Int)) > iw (2 * ((minG L R : Nat) : Int))) = decide (2 * minG L R < total (nats' L) + total (nats' R)) := by
          rw [iw_id (by omega) (by omega), iw_id (by omega) (by omega)]
          exact decide_eq_decide.2 (by omega)
        have e2 : decide (((total (nats' L) : Nat) : Int) > 0) = decide (0 < total (nats' L)) := decide_eq_decide.2 (by omega)
        have e3 : decide (((total (nats' R) : Nat) : Int) > 0) = decide (0 < total (nats' R)) := decide_eq_decide.2 (by omega)
        rw [a1, a2, a5, a7]
        simp only [b3, b4, b6, e1, e2, e3, beq_self_eq_true, Bool.not_true, cond_false, cond_true]
        cases decide (0 < total (nats' L)) with
        | false => rfl
        | true =>
          cases decide (0 < total (nats' R)) <;> rfl
    · simp only [cond_false]
      refine met_goG ((lzVal L R).1.1, (msVal L R).1.1, ()) (sgOk_is k hk L R hL hR (lzVal L R).1.1 (msVal L R).1.1 false) ?_
      refine met_goG () (sgLoose_is k hk L R hL hR) ?_
      exact law4_is k hk l1 h1
theorem pure_FnGlovesPaired : Law laws_FnGlovesPaired_f := fun l0 l1 _ h0 _ h1 => ⟨2000, law_FnGlovesPaired 2000 (Nat.le_refl _) l0 l1 (byte_in h0) (byte_in h1)⟩

end Go.Proofs.YtmhcdiiiiklplaaGreatDoorV.Law
