/- The functions that a law reaches, and proofs that the Go code comes to just their answers: written by a program of this session out of the translation. Conditions: those that each theorem states. -/
import Derived.Test.YtapimfgiideojaaPFnLaundryLostx0
import Derived.Test.YtapimfgiideojaaPFnLaundryLostx1
import Derived.Test.YtapimfgiideojaaPFnLaundryLostx2
import Derived.Test.YtapimfgiideojaaPFnLaundryLostx3
import Derived.Test.YtapimfgiideojaaPFnLaundryLostx4
namespace Go.Proofs.Ytapimfgiideojaa.PFnLaundryLost
open Go.RowKit Go.Proofs.YtapimfgiideojaaW.PrintWords Go.Proofs.YtapimfgiideojaaW.PrintLast Go.Proofs.YtapimfgiideojaaW.PrintMore
attribute [local go_sem] max2_int min2_int max_two min_two max_three min_three max_four min_four   -- for this text's walks alone
set_option linter.unusedVariables false
set_option linter.unusedSimpArgs false

/-! ### A cut that forgets its slots by one list of marks: k: kept; f: forgotten; n: named by the relation -/
inductive CM where
  | k
  | f
  | n
def cutG : List CM → List Value → List Value → (Nat → Value) → Nat → List Value
  | .k :: ms, v :: vs, ns, g, i => v :: cutG ms vs ns g (i + 1)
  | .f :: ms, _ :: vs, ns, g, i => g i :: cutG ms vs ns g (i + 1)
  | .n :: ms, _ :: vs, n :: ns, g, i => n :: cutG ms vs ns g (i + 1)
  | _, _, _, _, _ => []
def cutM : List CM → List Value → List Value → List Value → List Value
  | .k :: ms, v :: vs, ns, _ :: us => v :: cutM ms vs ns us
  | .f :: ms, _ :: vs, ns, u :: us => u :: cutM ms vs ns us
  | .n :: ms, _ :: vs, n :: ns, _ :: us => n :: cutM ms vs ns us
  | _, _, _, _ => []
def pickM : List CM → List Value → List Value
  | .n :: ms, u :: us => u :: pickM ms us
  | .k :: ms, _ :: us => pickM ms us
  | .f :: ms, _ :: us => pickM ms us
  | _, _ => []
theorem cutM_G : ∀ (ms : List CM) (vs ns us : List Value) (g : Nat → Value) (i : Nat), us.length = vs.length → (∀ j, j < us.length → g (i + j) = us.getD j undef) → cutM ms vs ns us = cutG ms vs ns g i := by
  intro ms
  induction ms with
  | nil => intro vs ns us g i _ _; cases vs <;> cases us <;> simp [cutM, cutG]
  | cons m ms ih =>
    intro vs ns us g i hl h
    cases us with
    | nil => cases vs with
      | nil => cases m <;> simp [cutM, cutG]
      | cons v vs => simp at hl
    | cons u us => cases vs with
      | nil => simp at hl
      | cons v vs =>
        have hl' : us.length = vs.length := by simpa using hl
        have h' : ∀ j, j < us.length → g (i + 1 + j) = us.getD j undef := by
          intro j hj
          have := h (j + 1) (by simpa using hj)
          rw [show i + (j + 1) = i + 1 + j by omega] at this
          simpa using this
        have h0 : g i = u := by simpa using h 0 (by simp)
        cases m with
        | k => simp only [cutM, cutG]; rw [ih vs ns us g (i + 1) hl' h']
        | f => simp only [cutM, cutG]; rw [ih vs ns us g (i + 1) hl' h', h0]
        | n => cases ns with
          | nil => simp only [cutM, cutG]
          | cons n ns => simp only [cutM, cutG]; rw [ih vs ns us g (i + 1) hl' h']
theorem wp_cutM {P : Program} {s : Code} {K : Act → World → Prop} {Q' : Exit → Act → World → Prop} {vs : List Value} {ds : List Deferred} {w : World} (ms : List CM) (R : List Value → World → Prop)
    (first : ∀ (J K' : Act → World → Prop), (∀ us w', us.length = vs.length → cutM ms vs (pickM ms us) us = us → R (pickM ms us) w' → J ⟨us.toArray, ds⟩ w') → (∀ a' w', Met J a' w' → K' a' w') → s.wp P (Exit.then K' Q') ⟨vs.toArray, ds⟩ w)
    (rest : ∀ ns (g : Nat → Value) w', R ns w' → K ⟨(cutG ms vs ns g 0).toArray, ds⟩ w') : s.wp P (Exit.then K Q') ⟨vs.toArray, ds⟩ w := by
  refine wp_cut (fun a' w' => ∃ ns g, R ns w' ∧ a' = ⟨(cutG ms vs ns g 0).toArray, ds⟩) (fun a' w' h => ?_) (fun J K' hj hk => first J K' (fun us w' hl hc hr => hj _ _ ⟨pickM ms us, fun i => us.getD i undef, hr, ?_⟩) hk)
  · obtain ⟨ns, g, hr, rfl⟩ := h; exact rest ns g w' hr
  · rw [← cutM_G ms vs (pickM ms us) us (fun i => us.getD i undef) 0 hl (fun j _ => by simp), hc]
def cutMarks0 : List CM := [.k, .k, .k, .k, .f, .k, .k, .k, .k, .k, .k, .k, .k, .k, .k, .k, .k, .k, .k, .k, .k, .k, .k, .k, .k, .f, .f, .f, .f, .f, .f, .f, .f, .f, .f, .f, .f, .f, .f, .f, .f, .f, .k, .k, .k, .k, .k, .k, .k, .k, .k, .k, .k, .k, .k, .k, .k, .k, .k, .k, .k, .k, .k, .k, .k, .k, .k, .k, .k, .k, .k, .k, .k, .k, .k, .k, .k, .k, .k, .k, .k, .k, .k, .k, .k, .k, .f, .f, .f, .f, .f, .f, .f, .f, .f, .f, .f, .f, .f, .f, .f, .f, .f, .f, .f, .f, .f, .f, .f, .f, .f, .f, .f, .f, .f, .f, .f, .f, .f, .f, .f, .f, .f, .f, .f, .f, .f, .f, .f, .f, .f, .f, .f, .f, .f, .f, .f, .f, .f, .f, .f, .f, .f, .f, .f, .f, .f, .f, .f, .f, .f, .f, .f, .f, .f, .f, .f, .f, .f, .f, .f, .f, .f, .f, .f, .f, .f, .f, .f, .f, .f, .f, .f, .f, .f, .f, .f, .f, .f, .f, .f, .f, .f, .f, .f, .f, .f, .f, .f, .f, .f, .f, .f, .f, .f, .f, .f, .f, .f, .f, .f, .f, .f, .f, .f, .f, .f, .f, .f, .f, .f, .f, .f, .f, .f, .f, .f, .f, .f, .f, .f, .f, .f, .f, .f, .f, .f, .f, .f, .f, .f, .f, .f, .f, .f, .f, .f, .f, .f, .f, .f, .f, .f, .f, .f, .f, .f, .f, .f, .f, .f, .f, .f, .f, .f, .f, .f, .f, .f, .f, .f, .f, .f, .f, .f, .f, .f, .f, .f, .f, .f, .f, .f, .f, .f, .f, .f, .f, .f, .f, .f, .f, .f, .f, .f, .f, .f, .f, .f, .f, .f, .f, .f, .f, .f, .f, .f, .f, .f, .f, .f, .f, .f, .f, .f, .f, .f, .f, .f, .f, .f, .f, .f, .f, .f, .f, .f, .f, .f, .f, .f, .f, .f, .f, .f, .f, .f, .f, .f, .f, .f, .f, .f, .f, .f, .f, .f, .f, .f, .f, .f, .f, .f, .f, .f, .f, .f, .f, .f, .f, .f, .f, .f, .f, .f, .f, .f, .f, .f, .f, .f, .f, .f, .f, .f, .f, .f, .f, .f, .f, .f, .f, .f, .f, .f, .f, .f, .f, .f, .f, .f, .f, .f, .f, .f, .f, .f, .f, .f, .f, .f, .f, .f, .f, .f, .f, .f, .f, .f, .f, .f, .f, .f, .f, .f, .f, .f, .f, .f, .f, .f, .f, .f, .f, .f, .f, .f, .f, .f, .f, .f, .f, .f, .f, .f, .f, .f, .f, .f, .f, .f, .f, .f, .f, .f, .f, .f, .f, .f, .f, .f, .f, .f, .f, .f, .f, .f, .f, .f, .f, .f, .f, .f, .f, .f, .f, .f, .f, .f, .f, .f, .f, .f, .f, .f, .f, .f, .f, .f, .f, .f, .f, .f, .f, .f, .f, .f, .f, .f, .f, .f, .f, .f, .f, .f, .f, .f, .f, .f, .f, .f, .f, .f, .f, .f, .f, .f, .f, .f, .f, .f, .f, .f, .f, .f, .f, .f, .f, .f, .f, .f, .f, .f, .f, .f, .f, .f, .f, .f, .f, .f, .f, .f, .f, .f, .f, .f, .f, .f, .f, .f, .f, .f, .f, .f, .f, .f, .f, .f, .f, .f, .f, .f, .f, .f, .f, .f, .f, .f, .f, .f, .f, .f, .f, .f, .f, .f, .f, .f, .f, .f, .f, .f, .f, .f, .f, .f, .f, .f, .f, .f, .f, .f, .f, .f, .f, .f, .f, .f, .f, .f, .f, .f, .f, .f, .f, .f, .f, .f, .f, .f, .f, .f, .f, .f, .f, .f, .f, .f, .f, .f, .f, .f, .f, .f, .f, .f, .f, .f, .f, .f, .f, .f, .f, .f, .f, .f, .f, .f, .f, .f, .f, .f, .f, .f, .f, .f, .f, .f, .f, .f, .f, .f, .f, .f, .f, .f, .f, .f, .f, .f, .f, .f, .f, .f, .f, .f, .f, .f, .f, .f]
def cutMarks1 : List CM := [.k, .k, .k, .k, .k, .k, .k, .k, .k, .k, .k, .k, .k, .k, .k, .k, .k, .k, .k, .k, .k, .k, .k, .k, .k, .k, .k, .k, .k, .k, .k, .k, .k, .k, .k, .k, .k, .k, .k, .k, .k, .k, .k, .k, .k, .k, .k, .k, .k, .k, .k, .k, .k, .k, .k, .k, .k, .k, .k, .k, .k, .k, .k, .k, .k, .k, .k, .k, .k, .k, .k, .k, .k, .k, .k, .k, .k, .k, .k, .k, .k, .k, .k, .k, .k, .k, .k, .k, .k, .k, .k, .k, .k, .k, .k, .k, .k, .k, .k, .k, .k, .k, .k, .k, .k, .k, .k, .k, .k, .k, .k, .k, .k, .k, .k, .k, .k, .k, .k, .k, .k, .k, .k, .k, .k, .k, .k, .k, .k, .k, .k, .k, .k, .k, .k, .k, .k, .k, .k, .k, .k, .k, .k, .k, .k, .k, .k, .k, .k, .k, .k, .k, .k, .k, .k, .k, .k, .k, .k, .k, .k, .k, .k, .k, .k, .k, .k, .k, .k, .k, .k, .k, .k, .k, .k, .k, .k, .k, .k, .k, .k, .k, .k, .k, .k, .k, .k, .k, .k, .k, .k, .k, .k, .k, .k, .k, .k, .k, .k, .k, .k, .k, .k, .f, .f, .f, .f, .f, .f, .f, .f, .f, .f, .f, .f, .f, .f, .f, .f, .f, .f, .f, .f, .f, .f, .f, .f, .f, .f, .n, .f, .f, .f, .f, .f, .f, .f, .f, .f, .f, .f, .f, .k, .k, .k, .k, .k, .k, .k, .k, .k, .k, .k, .k, .k, .k, .k, .k, .k, .k, .k, .k, .k, .k, .k, .k, .k, .k, .k, .k, .k, .k, .k, .k, .k, .k, .k, .k, .k, .k, .k, .k, .k, .k, .k, .k, .k, .k, .k, .k, .k, .k, .k, .k, .k, .k, .k, .k, .k, .k, .k, .k, .k, .k, .k, .k, .k, .k, .k, .k, .k, .k, .k, .k, .k, .k, .k, .k, .k, .k, .k, .k, .k, .k, .k, .k, .k, .k, .k, .k, .k, .k, .k, .k, .k, .k, .k, .k, .k, .k, .k, .k, .k, .k, .k, .k, .k, .k, .k, .k, .k, .k, .k, .k, .k, .k, .k, .k, .k, .k, .k, .k, .k, .k, .k, .k, .k, .k, .k, .k, .k, .k, .k, .k, .k, .k, .k, .k, .k, .k, .k, .k, .k, .k, .k, .k, .k, .k, .k, .k, .k, .k, .k, .k, .k, .k, .k, .k, .k, .k, .k, .k, .k, .k, .k, .k, .k, .k, .k, .k, .k, .k, .k, .k, .k, .k, .k, .k, .k, .k, .k, .k, .k, .k, .k, .k, .k, .k, .k, .k, .k, .k, .k, .k, .k, .k, .k, .k, .k, .k, .k, .k, .k, .k, .k, .k, .k, .k, .k, .k, .k, .k, .k, .k, .k, .k, .k, .k, .k, .k, .k, .k, .k, .k, .k, .k, .k, .k, .k, .k, .k, .k, .k, .k, .k, .k, .k, .k, .k, .k, .k, .k, .k, .k, .k, .k, .k, .k, .k, .k, .k, .k, .k, .k, .k, .k, .k, .k, .k, .k, .k, .k, .k, .k, .k, .k, .k, .k, .k, .k, .k, .k, .k, .k, .k, .k, .k, .k, .k, .k, .k, .k, .k, .k, .k, .k, .k, .k, .k, .k, .k, .k, .k, .k, .k, .k, .k, .k, .k, .k, .k, .k, .k, .k, .k, .k, .k, .k, .k, .k, .k, .k, .k, .k, .k, .k, .k, .k, .k, .k, .k, .k, .k, .k, .k, .k, .k, .k, .k, .k, .k, .k, .k, .k, .k, .k, .k, .k, .k, .k, .k, .k, .k, .k, .k, .k, .k, .k, .k, .k, .k, .k, .k, .k, .k, .k, .k, .k, .k, .k, .k, .k, .k, .k, .k, .k, .k, .k, .k, .k, .k, .k, .k, .k, .k, .k, .k, .k, .k, .k, .k, .k, .k, .k, .k, .k, .k, .k, .k, .k, .k, .k, .k, .k, .k, .k, .k, .k, .k, .k, .k, .k, .k, .k, .k, .k, .k, .k, .k, .k, .k]
def cutMarks2 : List CM := [.k, .k, .k, .k, .f, .k, .k, .k, .k, .k, .k, .k, .k, .k, .k, .k, .k, .k, .k, .k, .k, .k, .k, .k, .k, .k, .k, .k, .k, .k, .k, .k, .k, .k, .k, .k, .k, .k, .k, .k, .k, .k, .k, .k, .k, .k, .k, .k, .k, .k, .k, .k, .k, .k, .k, .k, .k, .k, .k, .k, .k, .k, .k, .k, .k, .k, .k, .k, .k, .k, .k, .k, .k, .k, .k, .k, .f, .f, .f, .f, .k, .k, .k, .k, .k, .k, .f, .f, .f, .f, .f, .f, .f, .f, .f, .f, .f, .f, .f, .f, .f, .f, .f, .f, .f, .f, .f, .f, .f, .f, .f, .f, .f, .f, .f, .f, .f, .f, .f, .f, .f, .f, .f, .f, .f, .f, .f, .f, .f, .f, .f, .f, .f, .f, .f, .f, .f, .f, .f, .f, .f, .f, .f, .f, .f, .f, .f, .f, .f, .f, .f, .f, .f, .f, .f, .f, .f, .f, .f, .f, .f, .f, .f, .f, .f, .f, .f, .f, .f, .f, .f, .f, .f, .f, .f, .f, .f, .f, .f, .f, .f, .f, .f, .f, .f, .f, .f, .f, .f, .f, .f, .f, .f, .f, .f, .f, .f, .f, .f, .f, .f, .f, .f, .f, .f, .f, .f, .f, .f, .f, .f, .f, .f, .f, .f, .f, .f, .f, .f, .f, .f, .f, .f, .f, .f, .f, .f, .f, .f, .f, .f, .f, .f, .f, .f, .f, .f, .f, .f, .f, .f, .f, .f, .f, .f, .f, .f, .f, .f, .f, .f, .f, .f, .f, .f, .f, .f, .f, .f, .f, .f, .f, .f, .f, .f, .f, .f, .f, .f, .f, .f, .f, .f, .f, .f, .f, .f, .f, .f, .f, .f, .f, .f, .f, .f, .f, .f, .f, .f, .f, .f, .f, .f, .f, .f, .f, .f, .f, .f, .f, .f, .f, .f, .f, .f, .f, .f, .f, .f, .f, .f, .f, .f, .f, .f, .f, .f, .f, .f, .f, .f, .f, .f, .f, .f, .f, .f, .f, .f, .f, .f, .f, .f, .f, .f, .f, .f, .f, .f, .f, .f, .f, .f, .f, .f, .f, .f, .f, .f, .f, .f, .f, .f, .f, .f, .f, .f, .f, .f, .f, .f, .f, .f, .f, .f, .f, .f, .f, .f, .f, .f, .f, .f, .f, .f, .f, .f, .f, .f, .f, .f, .f, .f, .f, .f, .f, .f, .f, .f, .f, .f, .f, .f, .f, .f, .f, .f, .f, .f, .f, .f, .f, .f, .f, .f, .f, .f, .f, .f, .f, .f, .f, .f, .f, .f, .f, .f, .f, .f, .f, .f, .f, .f, .f, .f, .f, .f, .f, .f, .f, .f, .f, .f, .f, .f, .f, .f, .f, .f, .f, .f, .f, .f, .f, .f, .f, .f, .f, .f, .f, .f, .f, .f, .f, .f, .f, .f, .f, .f, .f, .f, .f, .f, .f, .f, .f, .f, .f, .f, .f, .f, .f, .f, .f, .f, .f, .f, .f, .f, .f, .f, .f, .f, .f, .f, .f, .f, .f, .f, .f, .f, .f, .f, .f, .f, .f, .f, .f, .f, .f, .f, .f, .f, .f, .f, .f, .f, .f, .f, .f, .f, .f, .f, .f, .f, .f, .f, .f, .f, .f, .f, .f, .f, .f, .f, .f, .f, .f, .f, .f, .f, .f, .f, .f, .f, .f, .f, .f, .f, .f, .f, .f, .f, .f, .f, .f, .f, .f, .f, .f, .f, .f, .f, .f, .f, .f, .f, .f, .f, .f, .f, .f, .f, .f, .f, .f, .f, .f, .f, .f, .f, .f, .f, .f, .f, .f, .f, .f, .f, .f, .f, .f, .f, .f, .f, .f, .f, .f, .f, .f, .f, .f, .f, .f, .f, .f, .f, .f, .f, .f, .f, .f, .f, .f, .f, .f, .f, .f, .f, .f, .f, .f, .f, .f, .f, .f, .f, .f, .f, .f, .f, .f, .f, .f, .f, .f, .f, .f, .f, .f, .f, .f, .f, .f, .f, .f, .f, .f, .f, .f, .f, .f, .f, .f, .f, .f, .f, .f, .f, .f, .f]
def cutMarks3 : List CM := [.k, .k, .k, .k, .k, .k, .k, .k, .k, .k, .k, .k, .k, .k, .k, .k, .k, .k, .k, .k, .k, .k, .k, .k, .k, .k, .k, .k, .k, .k, .k, .k, .k, .k, .k, .k, .k, .k, .k, .k, .k, .k, .k, .k, .k, .k, .k, .k, .k, .k, .k, .k, .k, .k, .k, .k, .k, .k, .k, .k, .k, .k, .k, .k, .k, .k, .k, .k, .k, .k, .k, .k, .k, .k, .k, .k, .k, .k, .k, .k, .k, .k, .k, .k, .k, .k, .f, .f, .f, .f, .f, .f, .f, .f, .f, .f, .f, .f, .f, .f, .f, .f, .f, .f, .f, .f, .f, .f, .f, .f, .f, .f, .f, .f, .f, .f, .f, .f, .f, .f, .f, .f, .f, .f, .f, .f, .f, .f, .f, .f, .f, .f, .f, .f, .f, .f, .f, .f, .f, .f, .f, .f, .f, .f, .f, .f, .f, .f, .f, .f, .f, .f, .f, .f, .f, .f, .f, .f, .f, .f, .f, .f, .f, .f, .f, .f, .f, .f, .f, .f, .f, .f, .f, .f, .f, .f, .f, .f, .f, .f, .f, .f, .f, .f, .f, .f, .f, .f, .f, .f, .f, .f, .f, .f, .f, .f, .f, .f, .f, .f, .f, .f, .f, .f, .f, .f, .f, .f, .f, .f, .f, .f, .f, .f, .f, .f, .f, .f, .f, .f, .f, .f, .f, .f, .f, .f, .f, .f, .f, .f, .f, .f, .f, .f, .f, .f, .f, .f, .f, .f, .f, .f, .f, .f, .f, .f, .f, .f, .f, .f, .f, .f, .f, .f, .f, .f, .f, .f, .f, .f, .f, .f, .f, .f, .f, .f, .f, .f, .f, .f, .f, .f, .f, .f, .f, .f, .f, .f, .f, .f, .f, .f, .f, .f, .f, .f, .f, .f, .f, .f, .f, .f, .f, .f, .f, .f, .f, .f, .f, .f, .f, .f, .f, .f, .f, .f, .f, .f, .f, .f, .f, .f, .f, .f, .f, .f, .f, .f, .f, .f, .f, .f, .f, .f, .f, .f, .f, .f, .f, .f, .f, .f, .f, .f, .f, .f, .f, .f, .f, .f, .f, .f, .f, .f, .f, .f, .f, .f, .f, .f, .f, .f, .f, .f, .f, .f, .f, .f, .f, .f, .f, .f, .f, .f, .f, .f, .f, .f, .f, .f, .f, .f, .f, .f, .f, .f, .f, .f, .f, .f, .f, .f, .f, .f, .f, .f, .f, .f, .f, .f, .f, .f, .f, .f, .f, .f, .f, .f, .f, .f, .f, .f, .f, .f, .f, .f, .f, .f, .f, .f, .f, .f, .f, .f, .f, .f, .f, .f, .f, .f, .f, .f, .f, .f, .f, .f, .f, .f, .f, .f, .f, .f, .f, .f, .f, .f, .f, .f, .f, .f, .f, .f, .f, .f, .f, .f, .f, .f, .f, .f, .f, .f, .f, .f, .f, .f, .f, .f, .f, .f, .f, .f, .f, .f, .f, .f, .f, .f, .f, .f, .f, .f, .f, .f, .f, .f, .f, .f, .f, .f, .f, .f, .f, .f, .f, .f, .f, .f, .f, .f, .f, .f, .f, .f, .f, .f, .f, .f, .f, .f, .f, .f, .f, .f, .f, .f, .f, .f, .f, .f, .f, .f, .f, .f, .f, .f, .f, .f, .f, .f, .f, .f, .f, .f, .f, .f, .f, .f, .f, .f, .f, .f, .f, .f, .f, .f, .f, .f, .f, .f, .f, .f, .f, .f, .f, .f, .n, .f, .f, .f, .f, .f, .f, .f, .f, .f, .f, .f, .f, .f, .f, .f, .f, .f, .f, .f, .f, .f, .f, .f, .f, .f, .f, .f, .f, .f, .f, .f, .f, .f, .f, .f, .f, .f, .f, .f, .f, .f, .f, .f, .f, .f, .f, .f, .f, .f, .f, .f, .f, .f, .f, .f, .f, .f, .f, .f, .f, .f, .f, .f, .f, .f, .f, .f, .f, .f, .f, .f, .f, .f, .f, .f, .f, .f, .f, .f, .f, .f, .f, .f, .f, .f, .f, .f, .f, .f, .f, .f, .f, .f, .f, .f, .f, .f, .f, .f, .f, .f, .f, .f, .f]
def cutMarks4 : List CM := [.k, .k, .k, .k, .k, .k, .k, .k, .k, .k, .k, .k, .k, .k, .k, .k, .k, .k, .k, .k, .k, .k, .k, .k, .k, .k, .k, .k, .k, .k, .k, .k, .k, .k, .k, .k, .k, .k, .k, .k, .k, .k, .k, .k, .k, .k, .k, .k, .k, .k, .k, .k, .k, .k, .k, .k, .k, .k, .k, .k, .k, .k, .k, .k, .k, .k, .k, .k, .k, .k, .k, .k, .k, .k, .k, .k, .k, .k, .k, .k, .k, .k, .k, .k, .k, .k, .f, .f, .f, .f, .f, .f, .f, .f, .f, .f, .f, .f, .f, .f, .f, .f, .f, .f, .f, .f, .f, .f, .f, .f, .f, .f, .f, .f, .f, .f, .f, .f, .f, .f, .f, .f, .f, .f, .f, .f, .f, .f, .f, .f, .f, .f, .f, .f, .f, .f, .f, .f, .f, .f, .f, .f, .f, .f, .f, .f, .f, .f, .f, .f, .f, .f, .f, .f, .f, .f, .f, .f, .f, .f, .f, .f, .f, .f, .f, .f, .f, .f, .f, .f, .f, .f, .f, .f, .f, .f, .f, .f, .f, .f, .f, .f, .f, .f, .f, .f, .f, .f, .f, .f, .f, .f, .f, .f, .f, .f, .f, .f, .f, .f, .f, .f, .f, .f, .f, .f, .f, .f, .f, .f, .f, .f, .f, .f, .f, .f, .f, .f, .f, .f, .f, .f, .f, .f, .f, .f, .f, .f, .f, .f, .f, .f, .f, .f, .f, .f, .f, .f, .f, .f, .f, .f, .f, .f, .f, .f, .f, .f, .f, .f, .f, .f, .f, .f, .f, .f, .f, .f, .f, .f, .f, .f, .f, .f, .f, .f, .f, .f, .f, .f, .f, .f, .f, .f, .f, .f, .f, .f, .f, .f, .f, .f, .f, .f, .f, .f, .f, .f, .f, .f, .f, .f, .f, .f, .f, .f, .f, .f, .f, .f, .f, .f, .f, .f, .f, .f, .f, .f, .f, .f, .f, .f, .f, .f, .f, .f, .f, .f, .f, .f, .f, .f, .f, .f, .f, .f, .f, .f, .f, .f, .f, .f, .f, .f, .f, .f, .f, .f, .f, .f, .f, .f, .f, .f, .f, .f, .f, .f, .f, .f, .f, .f, .f, .f, .f, .f, .f, .f, .f, .f, .f, .f, .f, .f, .f, .f, .f, .f, .f, .f, .f, .f, .f, .f, .f, .f, .f, .f, .f, .f, .f, .f, .f, .f, .f, .f, .f, .f, .f, .f, .f, .f, .f, .f, .f, .f, .f, .f, .f, .f, .f, .f, .f, .f, .f, .f, .f, .f, .f, .f, .f, .f, .f, .f, .f, .f, .f, .f, .f, .f, .f, .f, .f, .f, .f, .f, .f, .f, .f, .f, .f, .f, .f, .f, .f, .f, .f, .f, .f, .f, .f, .f, .f, .f, .f, .f, .f, .f, .f, .f, .f, .f, .f, .f, .f, .f, .f, .f, .f, .f, .f, .f, .f, .f, .f, .f, .f, .f, .f, .f, .f, .f, .f, .f, .f, .f, .f, .f, .f, .f, .f, .f, .f, .f, .f, .f, .f, .f, .f, .f, .f, .f, .f, .f, .f, .f, .f, .f, .f, .f, .f, .f, .f, .f, .f, .f, .f, .f, .f, .f, .f, .f, .f, .f, .f, .f, .f, .f, .f, .f, .f, .f, .f, .f, .f, .f, .f, .f, .f, .f, .f, .f, .f, .f, .f, .f, .f, .f, .f, .f, .f, .f, .f, .f, .f, .f, .f, .f, .f, .f, .f, .f, .n, .f, .f, .f, .f, .f, .f, .f, .f, .f, .f, .f, .f, .f, .f, .f, .f, .f, .f, .f, .f, .f, .f, .f, .f, .f, .f, .f, .f, .f, .f, .f, .f, .f, .f, .f, .f, .f, .f, .f, .f, .f, .f, .f, .f, .f, .f, .f, .f, .f, .f, .f, .f, .f, .f, .f, .f, .f, .f, .f, .f, .f, .f, .f, .f, .f, .f, .f, .f, .f, .f, .f, .f, .f, .f, .f, .f, .f, .f, .f, .f, .f, .f, .f, .f, .f, .f, .f, .f, .f, .f, .f, .f, .f, .f, .f, .f, .f, .f]
def cutMarks5 : List CM := [.k, .k, .k, .k, .f, .k, .k, .k, .k, .k, .k, .k, .k, .k, .k, .k, .k, .k, .k, .k, .k, .k, .k, .k, .k, .k, .k, .k, .k, .k, .k, .k, .k, .k, .k, .k, .k, .k, .k, .k, .k, .k, .k, .k, .k, .k, .k, .k, .k, .k, .k, .k, .k, .k, .k, .k, .k, .k, .k, .k, .k, .k, .k, .k, .k, .k, .k, .k, .k, .k, .k, .k, .k, .k, .k, .k, .f, .f, .k, .k, .k, .k, .k, .k, .k, .k, .f, .f, .f, .f, .f, .f, .f, .f, .f, .f, .f, .f, .f, .f, .f, .f, .f, .f, .f, .f, .f, .f, .f, .f, .f, .f, .f, .f, .f, .f, .f, .f, .f, .f, .f, .f, .f, .f, .f, .f, .f, .f, .f, .f, .f, .f, .f, .f, .f, .f, .f, .f, .f, .f, .f, .f, .f, .f, .f, .f, .f, .f, .f, .f, .f, .f, .f, .f, .f, .f, .f, .f, .f, .f, .f, .f, .f, .f, .f, .f, .f, .f, .f, .f, .f, .f, .f, .f, .f, .f, .f, .f, .f, .f, .f, .f, .f, .f, .f, .f, .f, .f, .f, .f, .f, .f, .f, .f, .f, .f, .f, .f, .f, .f, .f, .f, .f, .f, .f, .f, .f, .f, .f, .f, .f, .f, .f, .f, .f, .f, .f, .f, .f, .f, .f, .f, .f, .f, .f, .f, .f, .f, .f, .f, .f, .f, .f, .f, .f, .f, .f, .f, .f, .f, .f, .f, .f, .f, .f, .f, .f, .f, .f, .f, .f, .f, .f, .f, .f, .f, .f, .f, .f, .f, .f, .f, .f, .f, .f, .f, .f, .f, .f, .f, .f, .f, .f, .f, .f, .f, .f, .f, .f, .f, .f, .f, .f, .f, .f, .f, .f, .f, .f, .f, .f, .f, .f, .f, .f, .f, .f, .f, .f, .f, .f, .f, .f, .f, .f, .f, .f, .f, .f, .f, .f, .f, .f, .f, .f, .f, .f, .f, .f, .f, .f, .f, .f, .f, .f, .f, .f, .f, .f, .f, .f, .f, .f, .f, .f, .f, .f, .f, .f, .f, .f, .f, .f, .f, .f, .f, .f, .f, .f, .f, .f, .f, .f, .f, .f, .f, .f, .f, .f, .f, .f, .f, .f, .f, .f, .f, .f, .f, .f, .f, .f, .f, .f, .f, .f, .f, .f, .f, .f, .f, .f, .f, .f, .f, .f, .f, .f, .f, .f, .f, .f, .f, .f, .f, .f, .f, .f, .f, .f, .f, .f, .f, .f, .f, .f, .f, .f, .f, .f, .f, .f, .f, .f, .f, .f, .f, .f, .f, .f, .f, .f, .f, .f, .f, .f, .f, .f, .f, .f, .f, .f, .f, .f, .f, .f, .f, .f, .f, .f, .f, .f, .f, .f, .f, .f, .f, .f, .f, .f, .f, .f, .f, .f, .f, .f, .f, .f, .f, .f, .f, .f, .f, .f, .f, .f, .f, .f, .f, .f, .f, .f, .f, .f, .f, .f, .f, .f, .f, .f, .f, .f, .f, .f, .f, .f, .f, .f, .f, .f, .f, .f, .f, .f, .f, .f, .f, .f, .f, .f, .f, .f, .f, .f, .f, .f, .f, .f, .f, .f, .f, .f, .f, .f, .f, .f, .f, .f, .f, .f, .f, .f, .f, .f, .f, .f, .f, .f, .f, .f, .f, .f, .f, .f, .f, .f, .f, .f, .f, .f, .f, .f, .f, .f, .f, .f, .f, .f, .f, .f, .f, .f, .f, .f, .f, .f, .f, .f, .f, .f, .f, .f, .f, .f, .f, .f, .f, .f, .f, .f, .f, .f, .f, .f, .f, .f, .f, .f, .f, .f, .f, .f, .f, .f, .f, .f, .f, .f, .f, .f, .f, .f, .f, .f, .f, .f, .f, .f, .f, .f, .f, .f, .f, .f, .f, .f, .f, .f, .f, .f, .f, .f, .f, .f, .f, .f, .f, .f, .f, .f, .f, .f, .f, .f, .f, .f, .f, .f, .f, .f, .f, .f, .f, .f, .f, .f, .f, .f, .f, .f, .f, .f, .f, .f, .f, .f, .f, .f, .f, .f, .f, .f]
def cutMarks6 : List CM := [.k, .k, .k, .k, .k, .k, .k, .k, .k, .k, .k, .k, .k, .k, .k, .k, .k, .k, .k, .k, .k, .k, .k, .k, .k, .k, .k, .k, .k, .k, .k, .k, .k, .k, .k, .k, .k, .k, .k, .k, .k, .k, .k, .k, .k, .k, .k, .k, .k, .k, .k, .k, .k, .k, .k, .k, .k, .k, .k, .k, .k, .k, .k, .k, .k, .k, .k, .k, .k, .k, .k, .k, .k, .k, .k, .k, .k, .k, .k, .k, .k, .k, .k, .k, .k, .k, .f, .f, .f, .f, .f, .f, .f, .f, .f, .f, .f, .f, .f, .f, .f, .f, .f, .f, .f, .f, .f, .f, .f, .f, .f, .f, .f, .f, .f, .f, .f, .f, .f, .f, .f, .f, .f, .f, .f, .f, .f, .f, .f, .f, .f, .f, .f, .f, .f, .f, .f, .f, .f, .f, .f, .f, .f, .f, .f, .f, .f, .f, .f, .f, .f, .f, .f, .f, .f, .f, .f, .f, .f, .f, .f, .f, .f, .f, .f, .f, .f, .f, .f, .f, .f, .f, .f, .f, .f, .f, .f, .f, .f, .f, .f, .f, .f, .f, .f, .f, .f, .f, .f, .f, .f, .f, .f, .f, .f, .f, .f, .f, .f, .f, .f, .f, .f, .f, .f, .f, .f, .f, .f, .f, .f, .f, .f, .f, .f, .f, .f, .f, .f, .f, .f, .f, .f, .f, .f, .f, .f, .f, .f, .f, .f, .f, .f, .f, .f, .f, .f, .f, .f, .f, .f, .f, .f, .f, .f, .f, .f, .f, .f, .f, .f, .f, .f, .f, .f, .f, .f, .f, .f, .f, .f, .f, .f, .f, .f, .f, .f, .f, .f, .f, .f, .f, .f, .f, .f, .f, .f, .f, .f, .f, .f, .f, .f, .f, .f, .f, .f, .f, .f, .f, .f, .f, .f, .f, .f, .f, .f, .f, .f, .f, .f, .f, .f, .f, .f, .f, .f, .f, .f, .f, .f, .f, .f, .f, .f, .f, .f, .f, .f, .f, .f, .f, .f, .f, .f, .f, .f, .f, .f, .f, .f, .f, .f, .f, .f, .f, .f, .f, .f, .f, .f, .f, .f, .f, .f, .f, .f, .f, .f, .f, .f, .f, .f, .f, .f, .f, .f, .f, .f, .f, .f, .f, .f, .f, .f, .f, .f, .f, .f, .f, .f, .f, .f, .f, .f, .f, .f, .f, .f, .f, .f, .f, .f, .f, .f, .f, .f, .f, .f, .f, .f, .f, .f, .f, .f, .f, .f, .f, .f, .f, .f, .f, .f, .f, .f, .f, .f, .f, .f, .f, .f, .f, .f, .f, .f, .f, .f, .f, .f, .f, .f, .f, .f, .f, .f, .f, .f, .f, .f, .f, .f, .f, .f, .f, .f, .f, .f, .f, .f, .f, .f, .f, .f, .f, .f, .f, .f, .f, .f, .f, .f, .f, .f, .f, .f, .f, .f, .f, .f, .f, .f, .f, .f, .f, .f, .f, .f, .f, .f, .f, .f, .f, .f, .f, .f, .f, .f, .f, .f, .f, .f, .f, .f, .f, .f, .f, .f, .f, .f, .f, .f, .f, .f, .f, .f, .f, .f, .f, .f, .f, .f, .f, .f, .f, .f, .f, .f, .f, .f, .f, .f, .f, .f, .f, .f, .f, .f, .f, .f, .f, .f, .f, .f, .f, .f, .f, .f, .f, .f, .f, .f, .f, .f, .f, .f, .f, .f, .f, .f, .f, .f, .f, .f, .f, .f, .f, .f, .f, .f, .f, .f, .f, .f, .f, .f, .f, .f, .f, .f, .f, .f, .f, .f, .f, .f, .f, .f, .f, .f, .f, .f, .f, .n, .f, .f, .f, .f, .f, .f, .f, .f, .f, .f, .f, .f, .f, .f, .f, .f, .f, .f, .f, .f, .f, .f, .f, .f, .f, .f, .f, .f, .f, .f, .f, .f, .f, .f, .f, .f, .f, .f, .f, .f, .f, .f, .f, .f, .f, .f, .f, .f, .f, .f, .f, .f, .f, .f, .f, .f, .f, .f, .f, .f, .f, .f, .f, .f, .f, .f, .f, .f, .f, .f, .f, .f, .f, .f, .f, .f, .f, .f]
/-! ### laws_FnLaundryLost: function 3 -/
mutual
def laws_FnLaundryLost.j4 : Nat → List Int → Option (Bool)
  | 0, _ => none
  | k + 1, x1 => (spec_DrawChanceComplete.f x1).bind fun bt407 => ((impl_ChanceComplete.f k bt407.1 bt407.2.1 bt407.2.2).bind fun bt410 => ((spec_ChanceComplete.f k bt407.1 bt407.2.1 bt407.2.2).bind fun bt413 => ((impl_CountLosses.f k bt407.1 bt407.2.1 bt407.2.2).bind fun bt416 => ((spec_CountLosses.f k bt407.1 bt407.2.1 bt407.2.2).bind fun bt418 => ((spec_DrawPairsToBuy.f x1).bind fun bt420 => ((impl_PairsToBuy.f bt420.1 bt420.2).bind fun bt422 => ((spec_PairsToBuy.f bt420.1 bt420.2).bind fun bt424 => ((impl_AlikeToBuy.f bt420.1 bt420.2).bind fun bt426 => ((spec_AlikeToBuy.f bt420.1 bt420.2).bind fun bt428 => ((spec_DrawWashingsAtWorst.f x1).bind fun bt430 => ((impl_WashingsAtWorst.f k bt430.1 bt430.2.1 bt430.2.2).bind fun bt433 => ((spec_WashingsAtWorst.f bt430.1 bt430.2.1 bt430.2.2).bind fun bt435 => ((impl_WashingsAtBest.f k bt430.1 bt430.2.1 bt430.2.2).bind fun bt437 => ((spec_WashingsAtBest.f bt430.1 bt430.2.1 bt430.2.2).bind fun bt439 => (if (bt410.2.2 != bt413.2.2) = true then (some false) else (if bt410.1 = bt413.1 then (if bt410.2.1 = bt413.2.1 then (if (bt416.2 != bt418.2) = true then (some false) else (if bt416.1 = bt418.1 then (if (bt416.2 != bt410.2.2) = true then (some false) else (if (bt422.2 != bt424.2) = true then (some false) else (if bt422.1 = bt424.1 then (if (bt426.2 != bt428.2) = true then (some false) else (if bt426.1 = bt428.1 then (if (bt426.2 != bt422.2) = true then (some false) else (if (bt433.2 != bt435.2) = true then (some false) else (if bt433.1 = bt435.1 then (if (bt437.2 != bt439.2) = true then (some false) else (if bt437.1 = bt439.1 then (if (bt437.2 != bt433.2) = true then (some false) else (if bt422.2 = true then (if bt426.1 > (wrap64 (bt422.1 + 1)) then (if bt420.2 > 0 then (some false) else (if (wrap64 (2 * bt422.1)) < bt420.1 then (some false) else (laws_FnLaundryLost.j5 k bt420.1 bt420.2 bt422.1 bt430.1 bt430.2.1 bt430.2.2 bt433.1 bt433.2 bt437.1 (decide ((wrap64 (2 * bt426.1)) < bt420.1))))) else (if (wrap64 (2 * bt422.1)) < bt420.1 then (some false) else (laws_FnLaundryLost.j5 k bt420.1 bt420.2 bt422.1 bt430.1 bt430.2.1 bt430.2.2 bt433.1 bt433.2 bt437.1 (decide ((wrap64 (2 * bt426.1)) < bt420.1))))) else (laws_FnLaundryLost.j9 k bt430.1 bt430.2.1 bt430.2.2 bt433.1 bt433.2 bt437.1))) else (some false))) else (some false)))) else (some false))) else (some false)))) else (some false))) else (some false)) else (some false)))))))))))))))))
def laws_FnLaundryLost.j9 : Nat → Int → Int → Int → Int → Bool → Int → Option (Bool)
  | 0, _, _, _, _, _, _ => none
  | k + 1, x65, x66, x67, x68, x69, x72 => if x69 = true then ((impl_LeastComplete.f x65 (wrap64 (x68 * x67))).bind fun bt533 => ((impl_MostComplete.f x65 (wrap64 (x72 * x67))).bind fun bt535 => (if x68 > x72 then (some false) else (if bt533.2 = true then (if bt533.1 < x66 then (some false) else (if bt535.2 = true then (if bt535.1 < x66 then (some false) else (if (wrap64 ((wrap64 (x68 + 1)) * x67)) ≤ (wrap64 (2 * x65)) then ((impl_LeastComplete.f x65 (wrap64 ((wrap64 (x68 + 1)) * x67))).bind fun bt541 => (if bt541.2 = true then (if bt541.1 ≥ x66 then (if x66 > 0 then (some false) else (some true)) else (some true)) else (some false))) else (some true))) else (some false))) else (some false))))) else (some true)
def laws_FnLaundryLost.j5 : Nat → Int → Int → Int → Int → Int → Int → Int → Bool → Int → Bool → Option (Bool)
  | 0, _, _, _, _, _, _, _, _, _, _ => none
  | k + 1, x55, x56, x57, x65, x66, x67, x68, x69, x72, x546 => if x546 = true then (some false) else (if x57 ≥ 1 then (laws_FnLaundryLost.j6 k x55 x56 x57 x65 x66 x67 x68 x69 x72 (decide (x57 ≤ 20))) else (laws_FnLaundryLost.j6 k x55 x56 x57 x65 x66 x67 x68 x69 x72 false))
def laws_FnLaundryLost.j6 : Nat → Int → Int → Int → Int → Int → Int → Int → Bool → Int → Bool → Option (Bool)
  | 0, _, _, _, _, _, _, _, _, _, _ => none
  | k + 1, x55, x56, x57, x65, x66, x67, x68, x69, x72, x552 => if x552 = true then ((impl_LeastComplete.f x57 x55).bind fun bt455 => (if bt455.2 = true then (if bt455.1 < x56 then (some false) else (laws_FnLaundryLost.j7 k x55 x56 x57 x65 x66 x67 x68 x69 x72)) else (some false))) else (laws_FnLaundryLost.j7 k x55 x56 x57 x65 x66 x67 x68 x69 x72)
def laws_FnLaundryLost.j7 : Nat → Int → Int → Int → Int → Int → Int → Int → Bool → Int → Option (Bool)
  | 0, _, _, _, _, _, _, _, _, _ => none
  | k + 1, x55, x56, x57, x65, x66, x67, x68, x69, x72 => if x57 ≥ 2 then (laws_FnLaundryLost.j8 k x55 x56 x57 x65 x66 x67 x68 x69 x72 (decide ((wrap64 (x57 - 1)) ≤ 20))) else (laws_FnLaundryLost.j8 k x55 x56 x57 x65 x66 x67 x68 x69 x72 false)
def laws_FnLaundryLost.j8 : Nat → Int → Int → Int → Int → Int → Int → Int → Bool → Int → Bool → Option (Bool)
  | 0, _, _, _, _, _, _, _, _, _, _ => none
  | k + 1, x55, x56, x57, x65, x66, x67, x68, x69, x72, x572 => if x572 = true then ((impl_LeastComplete.f (wrap64 (x57 - 1)) x55).bind fun bt463 => (if bt463.2 = true then (if bt463.1 ≥ x56 then (some false) else (laws_FnLaundryLost.j9 k x65 x66 x67 x68 x69 x72)) else (laws_FnLaundryLost.j9 k x65 x66 x67 x68 x69 x72))) else (laws_FnLaundryLost.j9 k x65 x66 x67 x68 x69 x72)
def laws_FnLaundryLost.l0 : Nat → List Int → Int → Int → Int → Int → Int → Int → Int → Int → Int → Int → Int → Option (Bool)
  | 0, _, _, _, _, _, _, _, _, _, _, _, _ => none
  | k + 1, x1, x5, x6, x7, x8, x13, x17, x21, x25, x26, x27, x28 => if x28 ≤ x5 then ((impl_CountLosses.f k x5 x6 x28).bind fun bt296 => (if bt296.2 = true then (if x28 ≥ x17 then (laws_FnLaundryLost.j1 k x1 x5 x6 x7 x8 x13 x17 x21 x25 x26 x27 x28 bt296.1 ((decide (bt296.1 > 0)) != (decide (x28 ≤ x13)))) else (laws_FnLaundryLost.j1 k x1 x5 x6 x7 x8 x13 x17 x21 x25 x26 x27 x28 bt296.1 ((decide (bt296.1 > 0)) != false))) else (some false))) else ((impl_CountLosses.f k x5 x6 x21).bind fun bt301 => ((laws_zLow.f k x7 x8).bind fun t303 => (if t303 = true then (if x25 < 1 then (some false) else (if x8 = 0 then (none) else (if (Int.tmod x25 x8) = 0 then (if (wrap64 (x7 * (wrap64 (Int.tdiv x25 x8)))) = x26 then (if bt301.2 = true then (if bt301.1 = x27 then (laws_FnLaundryLost.l1 k x1 x5 x6 x25 x27 (wrap64 (x21 + 1))) else (some false)) else (some false)) else (some false)) else (some false)))) else (some false))))
def laws_FnLaundryLost.j1 : Nat → List Int → Int → Int → Int → Int → Int → Int → Int → Int → Int → Int → Int → Int → Bool → Option (Bool)
  | 0, _, _, _, _, _, _, _, _, _, _, _, _, _, _ => none
  | k + 1, x1, x5, x6, x7, x8, x13, x17, x21, x25, x26, x27, x28, x29, x229 => if x229 = true then (some false) else (if x29 > x27 then (laws_FnLaundryLost.l0 k x1 x5 x6 x7 x8 x13 x17 x21 (wrap64 (x25 + x29)) (wrap64 (x26 + (wrap64 (x28 * x29)))) x29 (wrap64 (x28 + 1))) else (laws_FnLaundryLost.l0 k x1 x5 x6 x7 x8 x13 x17 x21 (wrap64 (x25 + x29)) (wrap64 (x26 + (wrap64 (x28 * x29)))) x27 (wrap64 (x28 + 1))))
def laws_FnLaundryLost.l1 : Nat → List Int → Int → Int → Int → Int → Int → Option (Bool)
  | 0, _, _, _, _, _, _ => none
  | k + 1, x1, x5, x6, x25, x27, x33 => if x33 ≤ x5 then ((impl_CountLosses.f k x5 x6 x33).bind fun bt312 => (if bt312.2 = true then (if bt312.1 = x27 then (some false) else (laws_FnLaundryLost.l1 k x1 x5 x6 x25 x27 (wrap64 (x33 + 1)))) else (some false))) else (laws_FnLaundryLost.l2 k x1 x5 x6 x25 0)
def laws_FnLaundryLost.l2 : Nat → List Int → Int → Int → Int → Int → Option (Bool)
  | 0, _, _, _, _, _ => none
  | k + 1, x1, x5, x6, x25, x36 => if x36 ≤ x5 then ((impl_CountLosses.f k x5 x6 x36).bind fun bt326 => ((impl_ChanceComplete.f k x5 x6 x36).bind fun bt328 => (if bt326.2 = true then (if bt328.2.2 = true then ((laws_zLow.f k bt328.1 bt328.2.1).bind fun t331 => (if t331 = true then (if bt328.2.1 = 0 then (none) else (if (Int.tmod x25 bt328.2.1) = 0 then (if (wrap64 (bt328.1 * (wrap64 (Int.tdiv x25 bt328.2.1)))) = bt326.1 then (laws_FnLaundryLost.l2 k x1 x5 x6 x25 (wrap64 (x36 + 1))) else (some false)) else (some false))) else (some false))) else (some false)) else (some false)))) else (laws_FnLaundryLost.j4 k x1)
end
def laws_FnLaundryLost.f (k : Nat) (l0 : List Int) (l1 : List Int) : Option (Bool) := (laws_big.f l0 l1).bind fun t253 => (if t253 = true then (some true) else ((spec_DrawMeanComplete.f l0).bind fun bt270 => ((impl_MeanComplete.f k bt270.1 bt270.2).bind fun bt272 => ((spec_MeanComplete.f k bt270.1 bt270.2).bind fun bt275 => ((impl_MostComplete.f bt270.1 bt270.2).bind fun bt278 => ((spec_MostComplete.f bt270.1 bt270.2).bind fun bt280 => ((impl_LeastComplete.f bt270.1 bt270.2).bind fun bt282 => ((spec_LeastComplete.f bt270.1 bt270.2).bind fun bt284 => ((impl_LikeliestComplete.f k bt270.1 bt270.2).bind fun bt286 => ((spec_LikeliestComplete.f k bt270.1 bt270.2).bind fun bt288 => (if (bt272.2.2 != bt275.2.2) = true then (some false) else (if bt272.1 = bt275.1 then (if bt272.2.1 = bt275.2.1 then (if (bt278.2 != bt280.2) = true then (some false) else (if bt278.1 = bt280.1 then (if (bt282.2 != bt284.2) = true then (some false) else (if bt282.1 = bt284.1 then (if (bt286.2 != bt288.2) = true then (some false) else (if bt286.1 = bt288.1 then (if (bt278.2 != bt272.2.2) = true then (some false) else (if (bt282.2 != bt272.2.2) = true then (some false) else (if (bt286.2 != bt272.2.2) = true then (some false) else (if bt272.2.2 = true then (laws_FnLaundryLost.l0 k l1 bt270.1 bt270.2 bt272.1 bt272.2.1 bt278.1 bt282.1 bt286.1 0 0 0 0) else (laws_FnLaundryLost.j4 k l1))))) else (some false))) else (some false))) else (some false))) else (some false)) else (some false)))))))))))))
set_option maxHeartbeats 60000000 in
set_option maxRecDepth 100000 in
theorem laws_FnLaundryLost.calls (k : Nat) (A0 : Option Addr) (c0 : Nat) (l0 : List Int) (A1 : Option Addr) (c1 : Nat) (l1 : List Int) (w : World) (hr0 : Kd.C (Kd.int .u8) w A0 l0.length l0) (hc0 : l0.length ≤ c0) (hr1 : Kd.C (Kd.int .u8) w A1 l1.length l1) (hc1 : l1.length ≤ c1) (h : laws_FnLaundryLost.f k l0 l1 = some true) :
    Calls Try.prog 3 #[.slice A0 l0.length c0, .slice A1 l1.length c1] w fun e w' => e = .returned (.bool true) ∧ Below w.heap.size w w' := by
 have HR0 := Aside0.mk hr0
 have HC0 := Aside0.mk hc0
 clear hr0 hc0
 have HR1 := Aside0.mk hr1
 have HC1 := Aside0.mk hc1
 clear hr1 hc1
 have HB := Aside0.mk (Below.refl w.heap.size w)
 have H : ((laws_big.f l0 l1).bind fun t253 => (if t253 = true then (some true) else ((spec_DrawMeanComplete.f l0).bind fun bt270 => ((impl_MeanComplete.f k bt270.1 bt270.2).bind fun bt272 => ((spec_MeanComplete.f k bt270.1 bt270.2).bind fun bt275 => ((impl_MostComplete.f bt270.1 bt270.2).bind fun bt278 => ((spec_MostComplete.f bt270.1 bt270.2).bind fun bt280 => ((impl_LeastComplete.f bt270.1 bt270.2).bind fun bt282 => ((spec_LeastComplete.f bt270.1 bt270.2).bind fun bt284 => ((impl_LikeliestComplete.f k bt270.1 bt270.2).bind fun bt286 => ((spec_LikeliestComplete.f k bt270.1 bt270.2).bind fun bt288 => (if (bt272.2.2 != bt275.2.2) = true then (some false) else (if bt272.1 = bt275.1 then (if bt272.2.1 = bt275.2.1 then (if (bt278.2 != bt280.2) = true then (some false) else (if bt278.1 = bt280.1 then (if (bt282.2 != bt284.2) = true then (some false) else (if bt282.1 = bt284.1 then (if (bt286.2 != bt288.2) = true then (some false) else (if bt286.1 = bt288.1 then (if (bt278.2 != bt272.2.2) = true then (some false) else (if (bt282.2 != bt272.2.2) = true then (some false) else (if (bt286.2 != bt272.2.2) = true then (some false) else (if bt272.2.2 = true then (laws_FnLaundryLost.l0 k l1 bt270.1 bt270.2 bt272.1 bt272.2.1 bt278.1 bt282.1 bt286.1 0 0 0 0) else (laws_FnLaundryLost.j4 k l1))))) else (some false))) else (some false))) else (some false))) else (some false)) else (some false)))))))))))))) = some true := h
 clear h
 replace H := Option.bind_eq_some_iff.mp H
 obtain ⟨t253, A30, H⟩ := H
 replace H : (if t253 = true then (some true) else ((spec_DrawMeanComplete.f l0).bind fun bt270 => ((impl_MeanComplete.f k bt270.1 bt270.2).bind fun bt272 => ((spec_MeanComplete.f k bt270.1 bt270.2).bind fun bt275 => ((impl_MostComplete.f bt270.1 bt270.2).bind fun bt278 => ((spec_MostComplete.f bt270.1 bt270.2).bind fun bt280 => ((impl_LeastComplete.f bt270.1 bt270.2).bind fun bt282 => ((spec_LeastComplete.f bt270.1 bt270.2).bind fun bt284 => ((impl_LikeliestComplete.f k bt270.1 bt270.2).bind fun bt286 => ((spec_LikeliestComplete.f k bt270.1 bt270.2).bind fun bt288 => (if (bt272.2.2 != bt275.2.2) = true then (some false) else (if bt272.1 = bt275.1 then (if bt272.2.1 = bt275.2.1 then (if (bt278.2 != bt280.2) = true then (some false) else (if bt278.1 = bt280.1 then (if (bt282.2 != bt284.2) = true then (some false) else (if bt282.1 = bt284.1 then (if (bt286.2 != bt288.2) = true then (some false) else (if bt286.1 = bt288.1 then (if (bt278.2 != bt272.2.2) = true then (some false) else (if (bt282.2 != bt272.2.2) = true then (some false) else (if (bt286.2 != bt272.2.2) = true then (some false) else (if bt272.2.2 = true then (laws_FnLaundryLost.l0 k l1 bt270.1 bt270.2 bt272.1 bt272.2.1 bt278.1 bt282.1 bt286.1 0 0 0 0) else (laws_FnLaundryLost.j4 k l1))))) else (some false))) else (some false))) else (some false))) else (some false)) else (some false))))))))))))) = some true := H
 have A3 := Aside0.mk A30
 clear A30
 by_cases c4 : t253 = true
 ·subst c4
  have H1 : (some true) = some true := by first | (rw [if_pos rfl] at H; exact H) | rfl
  clear H
  have H := H1
  clear H1
  clear H
  go_enter Try.func3, Try.ntmps3
  go_wp2_with (first | ((with_reducible refine gate_callee (f := 7) rfl ?_); refine goesL_ (some 88) rfl rfl Try.func7 (by kernel_rfl) rfl #[.slice A0 l0.length c0, .slice A1 l1.length c1] rfl (by (try simp only [List.map_toArray, List.map_cons, List.map_nil]); first | done | rfl | (simp only [List.length_drop, List.length_take]; rfl)) ?_; (with_reducible refine (laws_big.calls _ _ l0 _ _ l1 true _ ?side1 ?side2 ?side3 ?side4 A3.out).mono ?_); (case side1 => repeat (first | exact HR0.out | (with_reducible refine Kd.C_alloc ?_ _) | (with_reducible refine Kd.C_drewN ?_ _) | (with_reducible refine Kd.C_drew ?_))); (case side2 => exact HC0.out); (case side3 => repeat (first | exact HR1.out | (with_reducible refine Kd.C_alloc ?_ _) | (with_reducible refine Kd.C_drewN ?_ _) | (with_reducible refine Kd.C_drew ?_))); (case side4 => exact HC1.out); rintro e w' ⟨rfl, ⟨nd, rfl⟩⟩; refine ⟨_, rfl, ?_⟩))
  go_ret
  exact ⟨by first | rfl | (simp [errW_none, errW_some] <;> rfl) | (simp [*, errW_none, errW_some] <;> rfl), by repeat (first | (with_reducible first | exact HB.out | apply below_alloc | apply pw_below_drewN | apply below_drew1) | exact HB.out)⟩
 ·replace c4 := Bool.eq_false_iff.mpr c4
  subst c4
  have H1 : ((spec_DrawMeanComplete.f l0).bind fun bt270 => ((impl_MeanComplete.f k bt270.1 bt270.2).bind fun bt272 => ((spec_MeanComplete.f k bt270.1 bt270.2).bind fun bt275 => ((impl_MostComplete.f bt270.1 bt270.2).bind fun bt278 => ((spec_MostComplete.f bt270.1 bt270.2).bind fun bt280 => ((impl_LeastComplete.f bt270.1 bt270.2).bind fun bt282 => ((spec_LeastComplete.f bt270.1 bt270.2).bind fun bt284 => ((impl_LikeliestComplete.f k bt270.1 bt270.2).bind fun bt286 => ((spec_LikeliestComplete.f k bt270.1 bt270.2).bind fun bt288 => (if (bt272.2.2 != bt275.2.2) = true then (some false) else (if bt272.1 = bt275.1 then (if bt272.2.1 = bt275.2.1 then (if (bt278.2 != bt280.2) = true then (some false) else (if bt278.1 = bt280.1 then (if (bt282.2 != bt284.2) = true then (some false) else (if bt282.1 = bt284.1 then (if (bt286.2 != bt288.2) = true then (some false) else (if bt286.1 = bt288.1 then (if (bt278.2 != bt272.2.2) = true then (some false) else (if (bt282.2 != bt272.2.2) = true then (some false) else (if (bt286.2 != bt272.2.2) = true then (some false) else (if bt272.2.2 = true then (laws_FnLaundryLost.l0 k l1 bt270.1 bt270.2 bt272.1 bt272.2.1 bt278.1 bt282.1 bt286.1 0 0 0 0) else (laws_FnLaundryLost.j4 k l1))))) else (some false))) else (some false))) else (some false))) else (some false)) else (some false)))))))))))) = some true := by first | (rw [if_neg (show ¬ (false = true) by decide)] at H; exact H) | rfl
  clear H
  have H := H1
  clear H1
  replace H := Option.bind_eq_some_iff.mp H
  obtain ⟨⟨t270, t271⟩, A50, H⟩ := H
  replace H : ((impl_MeanComplete.f k t270 t271).bind fun bt272 => ((spec_MeanComplete.f k t270 t271).bind fun bt275 => ((impl_MostComplete.f t270 t271).bind fun bt278 => ((spec_MostComplete.f t270 t271).bind fun bt280 => ((impl_LeastComplete.f t270 t271).bind fun bt282 => ((spec_LeastComplete.f t270 t271).bind fun bt284 => ((impl_LikeliestComplete.f k t270 t271).bind fun bt286 => ((spec_LikeliestComplete.f k t270 t271).bind fun bt288 => (if (bt272.2.2 != bt275.2.2) = true then (some false) else (if bt272.1 = bt275.1 then (if bt272.2.1 = bt275.2.1 then (if (bt278.2 != bt280.2) = true then (some false) else (if bt278.1 = bt280.1 then (if (bt282.2 != bt284.2) = true then (some false) else (if bt282.1 = bt284.1 then (if (bt286.2 != bt288.2) = true then (some false) else (if bt286.1 = bt288.1 then (if (bt278.2 != bt272.2.2) = true then (some false) else (if (bt282.2 != bt272.2.2) = true then (some false) else (if (bt286.2 != bt272.2.2) = true then (some false) else (if bt272.2.2 = true then (laws_FnLaundryLost.l0 k l1 t270 t271 bt272.1 bt272.2.1 bt278.1 bt282.1 bt286.1 0 0 0 0) else (laws_FnLaundryLost.j4 k l1))))) else (some false))) else (some false))) else (some false))) else (some false)) else (some false))))))))))) = some true := H
  have A5 := Aside0.mk A50
  clear A50
  replace H := Option.bind_eq_some_iff.mp H
  obtain ⟨⟨t272, t273, t274⟩, A60, H⟩ := H
  replace H : ((spec_MeanComplete.f k t270 t271).bind fun bt275 => ((impl_MostComplete.f t270 t271).bind fun bt278 => ((spec_MostComplete.f t270 t271).bind fun bt280 => ((impl_LeastComplete.f t270 t271).bind fun bt282 => ((spec_LeastComplete.f t270 t271).bind fun bt284 => ((impl_LikeliestComplete.f k t270 t271).bind fun bt286 => ((spec_LikeliestComplete.f k t270 t271).bind fun bt288 => (if (t274 != bt275.2.2) = true then (some false) else (if t272 = bt275.1 then (if t273 = bt275.2.1 then (if (bt278.2 != bt280.2) = true then (some false) else (if bt278.1 = bt280.1 then (if (bt282.2 != bt284.2) = true then (some false) else (if bt282.1 = bt284.1 then (if (bt286.2 != bt288.2) = true then (some false) else (if bt286.1 = bt288.1 then (if (bt278.2 != t274) = true then (some false) else (if (bt282.2 != t274) = true then (some false) else (if (bt286.2 != t274) = true then (some false) else (if t274 = true then (laws_FnLaundryLost.l0 k l1 t270 t271 t272 t273 bt278.1 bt282.1 bt286.1 0 0 0 0) else (laws_FnLaundryLost.j4 k l1))))) else (some false))) else (some false))) else (some false))) else (some false)) else (some false)))))))))) = some true := H
  have A6 := Aside0.mk A60
  clear A60
  replace H := Option.bind_eq_some_iff.mp H
  obtain ⟨⟨t275, t276, t277⟩, A70, H⟩ := H
  replace H : ((impl_MostComplete.f t270 t271).bind fun bt278 => ((spec_MostComplete.f t270 t271).bind fun bt280 => ((impl_LeastComplete.f t270 t271).bind fun bt282 => ((spec_LeastComplete.f t270 t271).bind fun bt284 => ((impl_LikeliestComplete.f k t270 t271).bind fun bt286 => ((spec_LikeliestComplete.f k t270 t271).bind fun bt288 => (if (t274 != t277) = true then (some false) else (if t272 = t275 then (if t273 = t276 then (if (bt278.2 != bt280.2) = true then (some false) else (if bt278.1 = bt280.1 then (if (bt282.2 != bt284.2) = true then (some false) else (if bt282.1 = bt284.1 then (if (bt286.2 != bt288.2) = true then (some false) else (if bt286.1 = bt288.1 then (if (bt278.2 != t274) = true then (some false) else (if (bt282.2 != t274) = true then (some false) else (if (bt286.2 != t274) = true then (some false) else (if t274 = true then (laws_FnLaundryLost.l0 k l1 t270 t271 t272 t273 bt278.1 bt282.1 bt286.1 0 0 0 0) else (laws_FnLaundryLost.j4 k l1))))) else (some false))) else (some false))) else (some false))) else (some false)) else (some false))))))))) = some true := H
  have A7 := Aside0.mk A70
  clear A70
  replace H := Option.bind_eq_some_iff.mp H
  obtain ⟨⟨t278, t279⟩, A80, H⟩ := H
  replace H : ((spec_MostComplete.f t270 t271).bind fun bt280 => ((impl_LeastComplete.f t270 t271).bind fun bt282 => ((spec_LeastComplete.f t270 t271).bind fun bt284 => ((impl_LikeliestComplete.f k t270 t271).bind fun bt286 => ((spec_LikeliestComplete.f k t270 t271).bind fun bt288 => (if (t274 != t277) = true then (some false) else (if t272 = t275 then (if t273 = t276 then (if (t279 != bt280.2) = true then (some false) else (if t278 = bt280.1 then (if (bt282.2 != bt284.2) = true then (some false) else (if bt282.1 = bt284.1 then (if (bt286.2 != bt288.2) = true then (some false) else (if bt286.1 = bt288.1 then (if (t279 != t274) = true then (some false) else (if (bt282.2 != t274) = true then (some false) else (if (bt286.2 != t274) = true then (some false) else (if t274 = true then (laws_FnLaundryLost.l0 k l1 t270 t271 t272 t273 t278 bt282.1 bt286.1 0 0 0 0) else (laws_FnLaundryLost.j4 k l1))))) else (some false))) else (some false))) else (some false))) else (some false)) else (some false)))))))) = some true := H
  have A8 := Aside0.mk A80
  clear A80
  replace H := Option.bind_eq_some_iff.mp H
  obtain ⟨⟨t280, t281⟩, A90, H⟩ := H
  replace H : ((impl_LeastComplete.f t270 t271).bind fun bt282 => ((spec_LeastComplete.f t270 t271).bind fun bt284 => ((impl_LikeliestComplete.f k t270 t271).bind fun bt286 => ((spec_LikeliestComplete.f k t270 t271).bind fun bt288 => (if (t274 != t277) = true then (some false) else (if t272 = t275 then (if t273 = t276 then (if (t279 != t281) = true then (some false) else (if t278 = t280 then (if (bt282.2 != bt284.2) = true then (some false) else (if bt282.1 = bt284.1 then (if (bt286.2 != bt288.2) = true then (some false) else (if bt286.1 = bt288.1 then (if (t279 != t274) = true then (some false) else (if (bt282.2 != t274) = true then (some false) else (if (bt286.2 != t274) = true then (some false) else (if t274 = true then (laws_FnLaundryLost.l0 k l1 t270 t271 t272 t273 t278 bt282.1 bt286.1 0 0 0 0) else (laws_FnLaundryLost.j4 k l1))))) else (some false))) else (some false))) else (some false))) else (some false)) else (some false))))))) = some true := H
  have A9 := Aside0.mk A90
  clear A90
  replace H := Option.bind_eq_some_iff.mp H
  obtain ⟨⟨t282, t283⟩, A100, H⟩ := H
  replace H : ((spec_LeastComplete.f t270 t271).bind fun bt284 => ((impl_LikeliestComplete.f k t270 t271).bind fun bt286 => ((spec_LikeliestComplete.f k t270 t271).bind fun bt288 => (if (t274 != t277) = true then (some false) else (if t272 = t275 then (if t273 = t276 then (if (t279 != t281) = true then (some false) else (if t278 = t280 then (if (t283 != bt284.2) = true then (some false) else (if t282 = bt284.1 then (if (bt286.2 != bt288.2) = true then (some false) else (if bt286.1 = bt288.1 then (if (t279 != t274) = true then (some false) else (if (t283 != t274) = true then (some false) else (if (bt286.2 != t274) = true then (some false) else (if t274 = true then (laws_FnLaundryLost.l0 k l1 t270 t271 t272 t273 t278 t282 bt286.1 0 0 0 0) else (laws_FnLaundryLost.j4 k l1))))) else (some false))) else (some false))) else (some false))) else (some false)) else (some false)))))) = some true := H
  have A10 := Aside0.mk A100
  clear A100
  replace H := Option.bind_eq_some_iff.mp H
  obtain ⟨⟨t284, t285⟩, A110, H⟩ := H
  replace H : ((impl_LikeliestComplete.f k t270 t271).bind fun bt286 => ((spec_LikeliestComplete.f k t270 t271).bind fun bt288 => (if (t274 != t277) = true then (some false) else (if t272 = t275 then (if t273 = t276 then (if (t279 != t281) = true then (some false) else (if t278 = t280 then (if (t283 != t285) = true then (some false) else (if t282 = t284 then (if (bt286.2 != bt288.2) = true then (some false) else (if bt286.1 = bt288.1 then (if (t279 != t274) = true then (some false) else (if (t283 != t274) = true then (some false) else (if (bt286.2 != t274) = true then (some false) else (if t274 = true then (laws_FnLaundryLost.l0 k l1 t270 t271 t272 t273 t278 t282 bt286.1 0 0 0 0) else (laws_FnLaundryLost.j4 k l1))))) else (some false))) else (some false))) else (some false))) else (some false)) else (some false))))) = some true := H
  have A11 := Aside0.mk A110
  clear A110
  replace H := Option.bind_eq_some_iff.mp H
  obtain ⟨⟨t286, t287⟩, A120, H⟩ := H
  replace H : ((spec_LikeliestComplete.f k t270 t271).bind fun bt288 => (if (t274 != t277) = true then (some false) else (if t272 = t275 then (if t273 = t276 then (if (t279 != t281) = true then (some false) else (if t278 = t280 then (if (t283 != t285) = true then (some false) else (if t282 = t284 then (if (t287 != bt288.2) = true then (some false) else (if t286 = bt288.1 then (if (t279 != t274) = true then (some false) else (if (t283 != t274) = true then (some false) else (if (t287 != t274) = true then (some false) else (if t274 = true then (laws_FnLaundryLost.l0 k l1 t270 t271 t272 t273 t278 t282 t286 0 0 0 0) else (laws_FnLaundryLost.j4 k l1))))) else (some false))) else (some false))) else (some false))) else (some false)) else (some false)))) = some true := H
  have A12 := Aside0.mk A120
  clear A120
  replace H := Option.bind_eq_some_iff.mp H
  obtain ⟨⟨t288, t289⟩, A130, H⟩ := H
  replace H : (if (t274 != t277) = true then (some false) else (if t272 = t275 then (if t273 = t276 then (if (t279 != t281) = true then (some false) else (if t278 = t280 then (if (t283 != t285) = true then (some false) else (if t282 = t284 then (if (t287 != t289) = true then (some false) else (if t286 = t288 then (if (t279 != t274) = true then (some false) else (if (t283 != t274) = true then (some false) else (if (t287 != t274) = true then (some false) else (if t274 = true then (laws_FnLaundryLost.l0 k l1 t270 t271 t272 t273 t278 t282 t286 0 0 0 0) else (laws_FnLaundryLost.j4 k l1))))) else (some false))) else (some false))) else (some false))) else (some false)) else (some false))) = some true := H
  have A13 := Aside0.mk A130
  clear A130
  by_cases c14 : (t274 != t277) = true
  ·rw [if_pos c14] at H
   have c14b0 : (t274 != t277) = true := c14
   (try (have c14b1 : decide (t274 = t277) = false := by simpa using c14))
   (try (have c14b2 : (t274 == t277) = false := by simpa using c14))
   (try (have c14b3 : ¬ (t274 = t277) := by simpa using c14))
   clear c14
   exact absurd H (by simp)
  rw [if_neg c14] at H
  have c14b0 : (t274 != t277) = false := by simpa using c14
  (try (have c14b1 : decide (t274 = t277) = true := by simpa using c14))
  (try (have c14b2 : (t274 == t277) = true := by simpa using c14))
  clear c14
  by_cases c15 : t272 = t275
  rotate_left
  ·rw [if_neg c15] at H
   have c15b0 : (t272 == t275) = false := beq_eq_false_iff_ne.mpr c15
   have c15b1 : (t272 != t275) = true := bne_iff_ne.mpr c15
   exact absurd H (by simp)
  rw [if_pos c15] at H
  have c15b0 : (t272 == t275) = true := beq_iff_eq.mpr c15
  have c15b1 : (t272 != t275) = false := bne_eq_false_iff_eq.mpr c15
  clear c15
  by_cases c16 : t273 = t276
  rotate_left
  ·rw [if_neg c16] at H
   have c16b0 : (t273 == t276) = false := beq_eq_false_iff_ne.mpr c16
   have c16b1 : (t273 != t276) = true := bne_iff_ne.mpr c16
   exact absurd H (by simp)
  rw [if_pos c16] at H
  have c16b0 : (t273 == t276) = true := beq_iff_eq.mpr c16
  have c16b1 : (t273 != t276) = false := bne_eq_false_iff_eq.mpr c16
  clear c16
  by_cases c17 : (t279 != t281) = true
  ·rw [if_pos c17] at H
   have c17b0 : (t279 != t281) = true := c17
   (try (have c17b1 : decide (t279 = t281) = false := by simpa using c17))
   (try (have c17b2 : (t279 == t281) = false := by simpa using c17))
   (try (have c17b3 : ¬ (t279 = t281) := by simpa using c17))
   clear c17
   exact absurd H (by simp)
  rw [if_neg c17] at H
  have c17b0 : (t279 != t281) = false := by simpa using c17
  (try (have c17b1 : decide (t279 = t281) = true := by simpa using c17))
  (try (have c17b2 : (t279 == t281) = true := by simpa using c17))
  clear c17
  by_cases c18 : t278 = t280
  rotate_left
  ·rw [if_neg c18] at H
   have c18b0 : (t278 == t280) = false := beq_eq_false_iff_ne.mpr c18
   have c18b1 : (t278 != t280) = true := bne_iff_ne.mpr c18
   exact absurd H (by simp)
  rw [if_pos c18] at H
  have c18b0 : (t278 == t280) = true := beq_iff_eq.mpr c18
  have c18b1 : (t278 != t280) = false := bne_eq_false_iff_eq.mpr c18
  clear c18
  by_cases c19 : (t283 != t285) = true
  ·rw [if_pos c19] at H
   have c19b0 : (t283 != t285) = true := c19
   (try (have c19b1 : decide (t283 = t285) = false := by simpa using c19))
   (try (have c19b2 : (t283 == t285) = false := by simpa using c19))
   (try (have c19b3 : ¬ (t283 = t285) := by simpa using c19))
   clear c19
   exact absurd H (by simp)
  rw [if_neg c19] at H
  have c19b0 : (t283 != t285) = false := by simpa using c19
  (try (have c19b1 : decide (t283 = t285) = true := by simpa using c19))
  (try (have c19b2 : (t283 == t285) = true := by simpa using c19))
  clear c19
  by_cases c20 : t282 = t284
  rotate_left
  ·rw [if_neg c20] at H
   have c20b0 : (t282 == t284) = false := beq_eq_false_iff_ne.mpr c20
   have c20b1 : (t282 != t284) = true := bne_iff_ne.mpr c20
   exact absurd H (by simp)
  rw [if_pos c20] at H
  have c20b0 : (t282 == t284) = true := beq_iff_eq.mpr c20
  have c20b1 : (t282 != t284) = false := bne_eq_false_iff_eq.mpr c20
  clear c20
  by_cases c21 : (t287 != t289) = true
  ·rw [if_pos c21] at H
   have c21b0 : (t287 != t289) = true := c21
   (try (have c21b1 : decide (t287 = t289) = false := by simpa using c21))
   (try (have c21b2 : (t287 == t289) = false := by simpa using c21))
   (try (have c21b3 : ¬ (t287 = t289) := by simpa using c21))
   clear c21
   exact absurd H (by simp)
  rw [if_neg c21] at H
  have c21b0 : (t287 != t289) = false := by simpa using c21
  (try (have c21b1 : decide (t287 = t289) = true := by simpa using c21))
  (try (have c21b2 : (t287 == t289) = true := by simpa using c21))
  clear c21
  by_cases c22 : t286 = t288
  rotate_left
  ·rw [if_neg c22] at H
   have c22b0 : (t286 == t288) = false := beq_eq_false_iff_ne.mpr c22
   have c22b1 : (t286 != t288) = true := bne_iff_ne.mpr c22
   exact absurd H (by simp)
  rw [if_pos c22] at H
  have c22b0 : (t286 == t288) = true := beq_iff_eq.mpr c22
  have c22b1 : (t286 != t288) = false := bne_eq_false_iff_eq.mpr c22
  clear c22
  by_cases c23 : (t279 != t274) = true
  ·rw [if_pos c23] at H
   have c23b0 : (t279 != t274) = true := c23
   (try (have c23b1 : decide (t279 = t274) = false := by simpa using c23))
   (try (have c23b2 : (t279 == t274) = false := by simpa using c23))
   (try (have c23b3 : ¬ (t279 = t274) := by simpa using c23))
   clear c23
   exact absurd H (by simp)
  rw [if_neg c23] at H
  have c23b0 : (t279 != t274) = false := by simpa using c23
  (try (have c23b1 : decide (t279 = t274) = true := by simpa using c23))
  (try (have c23b2 : (t279 == t274) = true := by simpa using c23))
  clear c23
  by_cases c24 : (t283 != t274) = true
  ·rw [if_pos c24] at H
   have c24b0 : (t283 != t274) = true := c24
   (try (have c24b1 : decide (t283 = t274) = false := by simpa using c24))
   (try (have c24b2 : (t283 == t274) = false := by simpa using c24))
   (try (have c24b3 : ¬ (t283 = t274) := by simpa using c24))
   clear c24
   exact absurd H (by simp)
  rw [if_neg c24] at H
  have c24b0 : (t283 != t274) = false := by simpa using c24
  (try (have c24b1 : decide (t283 = t274) = true := by simpa using c24))
  (try (have c24b2 : (t283 == t274) = true := by simpa using c24))
  clear c24
  by_cases c25 : (t287 != t274) = true
  ·rw [if_pos c25] at H
   have c25b0 : (t287 != t274) = true := c25
   (try (have c25b1 : decide (t287 = t274) = false := by simpa using c25))
   (try (have c25b2 : (t287 == t274) = false := by simpa using c25))
   (try (have c25b3 : ¬ (t287 = t274) := by simpa using c25))
   clear c25
   exact absurd H (by simp)
  rw [if_neg c25] at H
  have c25b0 : (t287 != t274) = false := by simpa using c25
  (try (have c25b1 : decide (t287 = t274) = true := by simpa using c25))
  (try (have c25b2 : (t287 == t274) = true := by simpa using c25))
  clear c25
  have HC26 := Aside0.mk H
  clear H
  go_enter Try.func3, Try.ntmps3
  go_upto_if 202 with (first | ((with_reducible refine gate_callee (f := 7) rfl ?_); refine goesL_ (some 88) rfl rfl Try.func7 (by kernel_rfl) rfl #[.slice A0 l0.length c0, .slice A1 l1.length c1] rfl (by (try simp only [List.map_toArray, List.map_cons, List.map_nil]); first | done | rfl | (simp only [List.length_drop, List.length_take]; rfl)) ?_; (with_reducible refine (laws_big.calls _ _ l0 _ _ l1 false _ ?side1 ?side2 ?side3 ?side4 A3.out).mono ?_); (case side1 => repeat (first | exact HR0.out | (with_reducible refine Kd.C_alloc ?_ _) | (with_reducible refine Kd.C_drewN ?_ _) | (with_reducible refine Kd.C_drew ?_))); (case side2 => exact HC0.out); (case side3 => repeat (first | exact HR1.out | (with_reducible refine Kd.C_alloc ?_ _) | (with_reducible refine Kd.C_drewN ?_ _) | (with_reducible refine Kd.C_drew ?_))); (case side4 => exact HC1.out); rintro e w' ⟨rfl, ⟨nd, rfl⟩⟩; refine ⟨_, rfl, ?_⟩) | ((with_reducible refine gate_callee (f := 8) rfl ?_); refine goesL_ (some 91) rfl rfl Try.func8 (by kernel_rfl) rfl #[.slice A0 l0.length c0] rfl (by (try simp only [List.map_toArray, List.map_cons, List.map_nil]); first | done | rfl | (simp only [List.length_drop, List.length_take]; rfl)) ?_; (with_reducible refine (spec_DrawMeanComplete.calls _ _ l0 t270 t271 _ ?side1 ?side2 A5.out).mono ?_); (case side1 => repeat (first | exact HR0.out | (with_reducible refine Kd.C_alloc ?_ _) | (with_reducible refine Kd.C_drewN ?_ _) | (with_reducible refine Kd.C_drew ?_))); (case side2 => exact HC0.out); rintro e w27 ⟨rfl, hb⟩; refine ⟨_, rfl, ?_⟩; have n0_ := Aside0.mk (below_step (by repeat (first | (with_reducible first | exact HB.out | apply below_alloc | apply pw_below_drewN | apply below_drew1) | exact HB.out)) hb); clear HB; have HB := n0_; clear n0_; (try clear hb); (try clear hb2); (try clear hk); (try clear hi)) | ((with_reducible refine gate_callee (f := 9) rfl ?_); refine goesL_ (some 97) rfl rfl Try.func9 (by kernel_rfl) rfl #[.int .i64 t270, .int .i64 t271] rfl (by (try simp only [List.map_toArray, List.map_cons, List.map_nil]); first | done | rfl | (simp only [List.length_drop, List.length_take]; rfl)) ?_; (with_reducible refine (impl_MeanComplete.calls k t270 t271 t272 t273 t274 _ A6.out).mono ?_); rintro e w' ⟨rfl, ⟨nd, rfl⟩⟩; refine ⟨_, rfl, ?_⟩) | ((with_reducible refine gate_callee (f := 10) rfl ?_); refine goesL_ (some 104) rfl rfl Try.func10 (by kernel_rfl) rfl #[.int .i64 t270, .int .i64 t271] rfl (by (try simp only [List.map_toArray, List.map_cons, List.map_nil]); first | done | rfl | (simp only [List.length_drop, List.length_take]; rfl)) ?_; (with_reducible refine (spec_MeanComplete.calls k t270 t271 t275 t276 t277 _ A7.out).mono ?_); rintro e w' ⟨rfl, ⟨nd, rfl⟩⟩; refine ⟨_, rfl, ?_⟩) | ((with_reducible refine gate_callee (f := 11) rfl ?_); refine goesL_ (some 111) rfl rfl Try.func11 (by kernel_rfl) rfl #[.int .i64 t270, .int .i64 t271] rfl (by (try simp only [List.map_toArray, List.map_cons, List.map_nil]); first | done | rfl | (simp only [List.length_drop, List.length_take]; rfl)) ?_; (with_reducible refine (impl_MostComplete.calls t270 t271 t278 t279 _ A8.out).mono ?_); rintro e w' ⟨rfl, ⟨nd, rfl⟩⟩; refine ⟨_, rfl, ?_⟩) | ((with_reducible refine gate_callee (f := 12) rfl ?_); refine goesL_ (some 117) rfl rfl Try.func12 (by kernel_rfl) rfl #[.int .i64 t270, .int .i64 t271] rfl (by (try simp only [List.map_toArray, List.map_cons, List.map_nil]); first | done | rfl | (simp only [List.length_drop, List.length_take]; rfl)) ?_; (with_reducible refine (spec_MostComplete.calls t270 t271 t280 t281 _ A9.out).mono ?_); rintro e w' ⟨rfl, ⟨nd, rfl⟩⟩; refine ⟨_, rfl, ?_⟩) | ((with_reducible refine gate_callee (f := 13) rfl ?_); refine goesL_ (some 123) rfl rfl Try.func13 (by kernel_rfl) rfl #[.int .i64 t270, .int .i64 t271] rfl (by (try simp only [List.map_toArray, List.map_cons, List.map_nil]); first | done | rfl | (simp only [List.length_drop, List.length_take]; rfl)) ?_; (with_reducible refine (impl_LeastComplete.calls t270 t271 t282 t283 _ A10.out).mono ?_); rintro e w28 ⟨rfl, hb⟩; refine ⟨_, rfl, ?_⟩; have n0_ := Aside0.mk (below_step (by repeat (first | (with_reducible first | exact HB.out | apply below_alloc | apply pw_below_drewN | apply below_drew1) | exact HB.out)) hb); clear HB; have HB := n0_; clear n0_; (try clear hb); (try clear hb2); (try clear hk); (try clear hi)) | ((with_reducible refine gate_callee (f := 14) rfl ?_); refine goesL_ (some 129) rfl rfl Try.func14 (by kernel_rfl) rfl #[.int .i64 t270, .int .i64 t271] rfl (by (try simp only [List.map_toArray, List.map_cons, List.map_nil]); first | done | rfl | (simp only [List.length_drop, List.length_take]; rfl)) ?_; (with_reducible refine (spec_LeastComplete.calls t270 t271 t284 t285 _ A11.out).mono ?_); rintro e w' ⟨rfl, ⟨nd, rfl⟩⟩; refine ⟨_, rfl, ?_⟩) | ((with_reducible refine gate_callee (f := 15) rfl ?_); refine goesL_ (some 135) rfl rfl Try.func15 (by kernel_rfl) rfl #[.int .i64 t270, .int .i64 t271] rfl (by (try simp only [List.map_toArray, List.map_cons, List.map_nil]); first | done | rfl | (simp only [List.length_drop, List.length_take]; rfl)) ?_; (with_reducible refine (impl_LikeliestComplete.calls k t270 t271 t286 t287 _ A12.out).mono ?_); rintro e w29 ⟨rfl, hb⟩; refine ⟨_, rfl, ?_⟩; have n0_ := Aside0.mk (below_step (by repeat (first | (with_reducible first | exact HB.out | apply below_alloc | apply pw_below_drewN | apply below_drew1) | exact HB.out)) hb); clear HB; have HB := n0_; clear n0_; (try clear hb); (try clear hb2); (try clear hk); (try clear hi)) | ((with_reducible refine gate_callee (f := 16) rfl ?_); refine goesL_ (some 141) rfl rfl Try.func16 (by kernel_rfl) rfl #[.int .i64 t270, .int .i64 t271] rfl (by (try simp only [List.map_toArray, List.map_cons, List.map_nil]); first | done | rfl | (simp only [List.length_drop, List.length_take]; rfl)) ?_; (with_reducible refine (spec_LikeliestComplete.calls k t270 t271 t288 t289 _ A13.out).mono ?_); rintro e w' ⟨rfl, ⟨nd, rfl⟩⟩; refine ⟨_, rfl, ?_⟩))
  (try simp only [Act.put, List.setIfInBounds_toArray, List.set_cons_zero, List.set_cons_succ])
  refine wp_cutM cutMarks0 (fun ns wc => ∃ (kq : Nat), Aside0 (laws_FnLaundryLost.j4 kq l1 = some true) ∧ Aside0 (kq ≤ k) ∧ Aside0 (Below w.heap.size w wc)) ?_ ?_
  next => as_aux_lemma =>
   intro _ _ hmeet _
   have H := HC26.out
   clear HC26
   by_cases c30 : t274 = true
   ·subst c30
    have H1 : (laws_FnLaundryLost.l0 k l1 t270 t271 t272 t273 t278 t282 t286 0 0 0 0) = some true := by first | (rw [if_pos rfl] at H; exact H) | rfl
    clear H
    have H := H1
    clear H1
    have H' := Aside0.mk H
    clear H
    go_wp2
    go_loopg [25, 26, 27, 28] k (fun kq v25 v26 v27 v28 w' => ∃ (x25_1 : Int) (x26_1 : Int) (x27_1 : Int) (x28_1 : Int), v25 = .int .i64 x25_1 ∧ v26 = .int .i64 x26_1 ∧ v27 = .int .i64 x27_1 ∧ v28 = .int .i64 x28_1 ∧ Aside0 (laws_FnLaundryLost.l0 kq l1 t270 t271 t272 t273 t278 t282 t286 x25_1 x26_1 x27_1 x28_1 = some true) ∧ Aside0 (kq ≤ k) ∧ Aside0 (Below w.heap.size w w'))
    case atStart => exact ⟨(0), (0), (0), (0), (by first | rfl | (simp; done) | (simp [*]; done)), (by first | rfl | (simp; done) | (simp [*]; done)), (by first | rfl | (simp; done) | (simp [*]; done)), (by first | rfl | (simp; done) | (simp [*]; done)), H', ⟨Nat.le_refl _⟩, ⟨by repeat (first | (with_reducible first | exact HB.out | apply below_alloc | apply pw_below_drewN | apply below_drew1) | exact HB.out)⟩⟩
    case round =>
     clear H'
     try clear c1
     try clear c2
     try clear p2
     try clear c3
     try clear c4
     try clear c7
     try clear c8
     try clear c9
     try clear c10
     try clear c11
     try clear c12
     try clear c13
     try clear c14
     try clear c14b0
     try clear c14b1
     try clear c14b2
     try clear c15
     try clear c15b0
     try clear c15b1
     try clear c16
     try clear c16b0
     try clear c16b1
     try clear c17
     try clear c17b0
     try clear c17b1
     try clear c17b2
     try clear c18
     try clear c18b0
     try clear c18b1
     try clear c19
     try clear c19b0
     try clear c19b1
     try clear c19b2
     try clear c20
     try clear c20b0
     try clear c20b1
     try clear c21
     try clear c21b0
     try clear c21b1
     try clear c21b2
     try clear c22
     try clear c22b0
     try clear c22b1
     try clear c23
     try clear c23b0
     try clear c23b1
     try clear c23b2
     try clear c24
     try clear c24b0
     try clear c24b1
     try clear c24b2
     try clear c25
     try clear c25b0
     try clear c25b1
     try clear c25b2
     try clear c30
     obtain ⟨x25_1, x26_1, x27_1, x28_1, rfl, rfl, rfl, rfl, HA, HK1, HB⟩ := hrel
     cases gk with
     | zero => exact absurd HA.out (by simp [laws_FnLaundryLost.l0])
     | succ k1 =>
      have H := HA.out
      clear HA
      simp only [laws_FnLaundryLost.l0] at H
      by_cases c31 : x28_1 ≤ t270
      ·rw [if_pos c31] at H
       have c31b0 : decide (x28_1 ≤ t270) = true := decide_eq_true c31
       clear c31
       (first | rw [c31b0] | (simp only [i64_w, i32_w]; rw [c31b0]) | skip)
       replace H := Option.bind_eq_some_iff.mp H
       obtain ⟨⟨t296, t297⟩, A320, H⟩ := H
       replace H : (if t297 = true then (if x28_1 ≥ t282 then (laws_FnLaundryLost.j1 k1 l1 t270 t271 t272 t273 t278 t282 t286 x25_1 x26_1 x27_1 x28_1 t296 ((decide (t296 > 0)) != (decide (x28_1 ≤ t278)))) else (laws_FnLaundryLost.j1 k1 l1 t270 t271 t272 t273 t278 t282 t286 x25_1 x26_1 x27_1 x28_1 t296 ((decide (t296 > 0)) != false))) else (some false)) = some true := H
       have A32 := Aside0.mk A320
       clear A320
       have HC33 := Aside0.mk H
       clear H
       go_upto_region 20 with (first | ((with_reducible refine gate_callee (f := 17) rfl ?_); refine goesL_ (some 212) rfl rfl Try.func17 (by kernel_rfl) rfl #[.int .i64 t270, .int .i64 t271, .int .i64 x28_1] rfl (by (try simp only [List.map_toArray, List.map_cons, List.map_nil]); first | done | rfl | (simp only [List.length_drop, List.length_take]; rfl)) ?_; (with_reducible refine (impl_CountLosses.calls k1 t270 t271 x28_1 t296 t297 _ A32.out).mono ?_); rintro e w34 ⟨rfl, hb⟩; refine ⟨_, rfl, ?_⟩; have n0_ := Aside0.mk (below_step (by repeat (first | (with_reducible first | exact HB.out | apply below_alloc | apply pw_below_drewN | apply below_drew1) | exact HB.out)) hb); clear HB; have HB := n0_; clear n0_; (try clear hb); (try clear hb2); (try clear hk); (try clear hi)))
       (try simp only [Act.put, List.setIfInBounds_toArray, List.set_cons_zero, List.set_cons_succ])
       refine wp_cutM cutMarks1 (fun ns wc => ∃ (v229 : Value), ns = [v229] ∧ ∃ (kq : Nat) (x229_32 : Bool), v229 = .bool x229_32 ∧ Aside0 (laws_FnLaundryLost.j1 kq l1 t270 t271 t272 t273 t278 t282 t286 x25_1 x26_1 x27_1 x28_1 t296 x229_32 = some true) ∧ Aside0 (kq ≤ k1) ∧ Aside0 (Below w.heap.size w wc)) ?_ ?_
       next => as_aux_lemma =>
        intro _ _ hmeet _
        have H := HC33.out
        clear HC33
        by_cases c35 : t297 = true
        rotate_left
        ·replace c35 := Bool.eq_false_iff.mpr c35
         subst c35
         have H1 : (some false) = some true := by first | (rw [if_neg (show ¬ (false = true) by decide)] at H; exact H) | rfl
         clear H
         have H := H1
         clear H1
         exact absurd H (by simp)
        subst c35
        have H1 : (if x28_1 ≥ t282 then (laws_FnLaundryLost.j1 k1 l1 t270 t271 t272 t273 t278 t282 t286 x25_1 x26_1 x27_1 x28_1 t296 ((decide (t296 > 0)) != (decide (x28_1 ≤ t278)))) else (laws_FnLaundryLost.j1 k1 l1 t270 t271 t272 t273 t278 t282 t286 x25_1 x26_1 x27_1 x28_1 t296 ((decide (t296 > 0)) != false))) = some true := by first | (rw [if_pos rfl] at H; exact H) | rfl
        clear H
        have H := H1
        clear H1
        by_cases c36 : x28_1 ≥ t282
        ·rw [if_pos c36] at H
         have c36b0 : decide (t282 ≤ x28_1) = true := decide_eq_true c36
         clear c36
         (first | rw [c36b0] | (simp only [i64_w, i32_w]; rw [c36b0]) | skip)
         have H' := Aside0.mk H
         clear H
         go_wp2
         refine Met.intro (hmeet _ _ rfl rfl ?_)
         refine ⟨_, rfl, ?_⟩
         exact ⟨_, (((decide (t296 > 0)) != (decide (x28_1 ≤ t278)))), (by first | rfl | (simp; done) | (simp [*]; done)), H', ⟨by have := HK1.out; first | omega | exact Nat.le_refl _⟩, ⟨by repeat (first | (with_reducible first | exact HB.out | apply below_alloc | apply pw_below_drewN | apply below_drew1) | exact HB.out)⟩⟩
        ·rw [if_neg c36] at H
         have c36b0 : decide (t282 ≤ x28_1) = false := decide_eq_false c36
         clear c36
         (first | rw [c36b0] | (simp only [i64_w, i32_w]; rw [c36b0]) | skip)
         have H' := Aside0.mk H
         clear H
         go_wp2
         refine Met.intro (hmeet _ _ rfl rfl ?_)
         refine ⟨_, rfl, ?_⟩
         exact ⟨_, (((decide (t296 > 0)) != false)), (by first | rfl | (simp; done) | (simp [*]; done)), H', ⟨by have := HK1.out; first | omega | exact Nat.le_refl _⟩, ⟨by repeat (first | (with_reducible first | exact HB.out | apply below_alloc | apply pw_below_drewN | apply below_drew1) | exact HB.out)⟩⟩
       next => as_aux_lemma =>
        intro ns g wc hcut
        obtain ⟨v229, rfl, hcut⟩ := hcut
        dsimp only [cutG, Nat.reduceAdd, cutMarks1]
        clear HC33
        try clear c1
        try clear c2
        try clear p2
        try clear c3
        try clear c4
        try clear c7
        try clear c8
        try clear c9
        try clear c10
        try clear c11
        try clear c12
        try clear c13
        try clear c14
        try clear c14b0
        try clear c14b1
        try clear c14b2
        try clear c15
        try clear c15b0
        try clear c15b1
        try clear c16
        try clear c16b0
        try clear c16b1
        try clear c17
        try clear c17b0
        try clear c17b1
        try clear c17b2
        try clear c18
        try clear c18b0
        try clear c18b1
        try clear c19
        try clear c19b0
        try clear c19b1
        try clear c19b2
        try clear c20
        try clear c20b0
        try clear c20b1
        try clear c21
        try clear c21b0
        try clear c21b1
        try clear c21b2
        try clear c22
        try clear c22b0
        try clear c22b1
        try clear c23
        try clear c23b0
        try clear c23b1
        try clear c23b2
        try clear c24
        try clear c24b0
        try clear c24b1
        try clear c24b2
        try clear c25
        try clear c25b0
        try clear c25b1
        try clear c25b2
        try clear c30
        try clear c31
        try clear c31b0
        try clear c35
        try clear c36
        try clear c36b0
        try clear p2
        obtain ⟨kq, x229_32, rfl, HA, HJ32, HB⟩ := hcut
        cases kq with
        | zero => exact absurd HA.out (by simp [laws_FnLaundryLost.j1])
        | succ kj32 =>
         have H := HA.out
         clear HA
         simp only [laws_FnLaundryLost.j1] at H
         by_cases c37 : x229_32 = true
         ·subst c37
          have H1 : (some false) = some true := by first | (rw [if_pos rfl] at H; exact H) | rfl
          clear H
          have H := H1
          clear H1
          exact absurd H (by simp)
         replace c37 := Bool.eq_false_iff.mpr c37
         subst c37
         have H1 : (if t296 > x27_1 then (laws_FnLaundryLost.l0 kj32 l1 t270 t271 t272 t273 t278 t282 t286 (wrap64 (x25_1 + t296)) (wrap64 (x26_1 + (wrap64 (x28_1 * t296)))) t296 (wrap64 (x28_1 + 1))) else (laws_FnLaundryLost.l0 kj32 l1 t270 t271 t272 t273 t278 t282 t286 (wrap64 (x25_1 + t296)) (wrap64 (x26_1 + (wrap64 (x28_1 * t296)))) x27_1 (wrap64 (x28_1 + 1)))) = some true := by first | (rw [if_neg (show ¬ (false = true) by decide)] at H; exact H) | rfl
         clear H
         have H := H1
         clear H1
         by_cases c38 : t296 > x27_1
         ·rw [if_pos c38] at H
          have c38b0 : decide (x27_1 < t296) = true := decide_eq_true c38
          clear c38
          have H' := Aside0.mk H
          clear H
          go_wp2
          go_roundg kj32
          case measure => have := HK1.out; have := HJ32.out; omega
          case rel => exact ⟨(wrap64 (x25_1 + t296)), (wrap64 (x26_1 + (wrap64 (x28_1 * t296)))), (t296), (wrap64 (x28_1 + 1)), (by first | rfl | (simp; done) | (simp [*]; done)), (by first | rfl | (simp; done) | (simp [*]; done)), (by first | rfl | (simp; done) | (simp [*]; done)), (by first | rfl | (simp; done) | (simp [*]; done)), H', ⟨by have := HK1.out; have := HJ32.out; omega⟩, ⟨by repeat (first | (with_reducible first | exact HB.out | apply below_alloc | apply pw_below_drewN | apply below_drew1) | exact HB.out)⟩⟩
         ·rw [if_neg c38] at H
          have c38b0 : decide (x27_1 < t296) = false := decide_eq_false c38
          clear c38
          have H' := Aside0.mk H
          clear H
          go_wp2
          go_roundg kj32
          case measure => have := HK1.out; have := HJ32.out; omega
          case rel => exact ⟨(wrap64 (x25_1 + t296)), (wrap64 (x26_1 + (wrap64 (x28_1 * t296)))), (x27_1), (wrap64 (x28_1 + 1)), (by first | rfl | (simp; done) | (simp [*]; done)), (by first | rfl | (simp; done) | (simp [*]; done)), (by first | rfl | (simp; done) | (simp [*]; done)), (by first | rfl | (simp; done) | (simp [*]; done)), H', ⟨by have := HK1.out; have := HJ32.out; omega⟩, ⟨by repeat (first | (with_reducible first | exact HB.out | apply below_alloc | apply pw_below_drewN | apply below_drew1) | exact HB.out)⟩⟩
      ·rw [if_neg c31] at H
       have c31b0 : decide (x28_1 ≤ t270) = false := decide_eq_false c31
       clear c31
       (first | rw [c31b0] | (simp only [i64_w, i32_w]; rw [c31b0]) | skip)
       replace H := Option.bind_eq_some_iff.mp H
       obtain ⟨⟨t301, t302⟩, A390, H⟩ := H
       replace H : ((laws_zLow.f k1 t272 t273).bind fun t303 => (if t303 = true then (if x25_1 < 1 then (some false) else (if t273 = 0 then (none) else (if (Int.tmod x25_1 t273) = 0 then (if (wrap64 (t272 * (wrap64 (Int.tdiv x25_1 t273)))) = x26_1 then (if t302 = true then (if t301 = x27_1 then (laws_FnLaundryLost.l1 k1 l1 t270 t271 x25_1 x27_1 (wrap64 (t286 + 1))) else (some false)) else (some false)) else (some false)) else (some false)))) else (some false))) = some true := H
       have A39 := Aside0.mk A390
       clear A390
       replace H := Option.bind_eq_some_iff.mp H
       obtain ⟨t303, A400, H⟩ := H
       replace H : (if t303 = true then (if x25_1 < 1 then (some false) else (if t273 = 0 then (none) else (if (Int.tmod x25_1 t273) = 0 then (if (wrap64 (t272 * (wrap64 (Int.tdiv x25_1 t273)))) = x26_1 then (if t302 = true then (if t301 = x27_1 then (laws_FnLaundryLost.l1 k1 l1 t270 t271 x25_1 x27_1 (wrap64 (t286 + 1))) else (some false)) else (some false)) else (some false)) else (some false)))) else (some false)) = some true := H
       have A40 := Aside0.mk A400
       clear A400
       by_cases c41 : t303 = true
       rotate_left
       ·replace c41 := Bool.eq_false_iff.mpr c41
        subst c41
        have H1 : (some false) = some true := by first | (rw [if_neg (show ¬ (false = true) by decide)] at H; exact H) | rfl
        clear H
        have H := H1
        clear H1
        exact absurd H (by simp)
       subst c41
       have H1 : (if x25_1 < 1 then (some false) else (if t273 = 0 then (none) else (if (Int.tmod x25_1 t273) = 0 then (if (wrap64 (t272 * (wrap64 (Int.tdiv x25_1 t273)))) = x26_1 then (if t302 = true then (if t301 = x27_1 then (laws_FnLaundryLost.l1 k1 l1 t270 t271 x25_1 x27_1 (wrap64 (t286 + 1))) else (some false)) else (some false)) else (some false)) else (some false)))) = some true := by first | (rw [if_pos rfl] at H; exact H) | rfl
       clear H
       have H := H1
       clear H1
       by_cases c42 : x25_1 < 1
       ·rw [if_pos c42] at H
        have c42b0 : decide (x25_1 < 1) = true := decide_eq_true c42
        clear c42
        exact absurd H (by simp)
       rw [if_neg c42] at H
       have c42b0 : decide (x25_1 < 1) = false := decide_eq_false c42
       clear c42
       by_cases c43 : t273 = 0
       ·rw [if_pos c43] at H
        exact absurd H (by simp)
       rw [if_neg c43] at H
       have c43b0 : (t273 == 0) = false := beq_eq_false_iff_ne.mpr c43
       have c43b1 : (t273 != 0) = true := bne_iff_ne.mpr c43
       by_cases c44 : (Int.tmod x25_1 t273) = 0
       rotate_left
       ·rw [if_neg c44] at H
        have c44b0 : ((Int.tmod x25_1 t273) == 0) = false := beq_eq_false_iff_ne.mpr c44
        have c44b1 : ((Int.tmod x25_1 t273) != 0) = true := bne_iff_ne.mpr c44
        exact absurd H (by simp)
       rw [if_pos c44] at H
       have c44b0 : ((Int.tmod x25_1 t273) == 0) = true := beq_iff_eq.mpr c44
       have c44b1 : ((Int.tmod x25_1 t273) != 0) = false := bne_eq_false_iff_eq.mpr c44
       clear c44
       by_cases c45 : (wrap64 (t272 * (wrap64 (Int.tdiv x25_1 t273)))) = x26_1
       rotate_left
       ·rw [if_neg c45] at H
        have c45b0 : ((wrap64 (t272 * (wrap64 (Int.tdiv x25_1 t273)))) == x26_1) = false := beq_eq_false_iff_ne.mpr c45
        have c45b1 : ((wrap64 (t272 * (wrap64 (Int.tdiv x25_1 t273)))) != x26_1) = true := bne_iff_ne.mpr c45
        exact absurd H (by simp)
       rw [if_pos c45] at H
       have c45b0 : ((wrap64 (t272 * (wrap64 (Int.tdiv x25_1 t273)))) == x26_1) = true := beq_iff_eq.mpr c45
       have c45b1 : ((wrap64 (t272 * (wrap64 (Int.tdiv x25_1 t273)))) != x26_1) = false := bne_eq_false_iff_eq.mpr c45
       clear c45
       by_cases c46 : t302 = true
       rotate_left
       ·replace c46 := Bool.eq_false_iff.mpr c46
        subst c46
        have H1 : (some false) = some true := by first | (rw [if_neg (show ¬ (false = true) by decide)] at H; exact H) | rfl
        clear H
        have H := H1
        clear H1
        exact absurd H (by simp)
       subst c46
       have H1 : (if t301 = x27_1 then (laws_FnLaundryLost.l1 k1 l1 t270 t271 x25_1 x27_1 (wrap64 (t286 + 1))) else (some false)) = some true := by first | (rw [if_pos rfl] at H; exact H) | rfl
       clear H
       have H := H1
       clear H1
       by_cases c47 : t301 = x27_1
       rotate_left
       ·rw [if_neg c47] at H
        have c47b0 : (t301 == x27_1) = false := beq_eq_false_iff_ne.mpr c47
        have c47b1 : (t301 != x27_1) = true := bne_iff_ne.mpr c47
        exact absurd H (by simp)
       rw [if_pos c47] at H
       have c47b0 : (t301 == x27_1) = true := beq_iff_eq.mpr c47
       have c47b1 : (t301 != x27_1) = false := bne_eq_false_iff_eq.mpr c47
       clear c47
       have H' := Aside0.mk H
       clear H
       go_wp2_with (first | ((with_reducible refine gate_callee (f := 17) rfl ?_); refine goesL_ (some 246) rfl rfl Try.func17 (by kernel_rfl) rfl #[.int .i64 t270, .int .i64 t271, .int .i64 t286] rfl (by (try simp only [List.map_toArray, List.map_cons, List.map_nil]); first | done | rfl | (simp only [List.length_drop, List.length_take]; rfl)) ?_; (with_reducible refine (impl_CountLosses.calls k1 t270 t271 t286 t301 true _ A39.out).mono ?_); rintro e w48 ⟨rfl, hb⟩; refine ⟨_, rfl, ?_⟩; have n0_ := Aside0.mk (below_step (by repeat (first | (with_reducible first | exact HB.out | apply below_alloc | apply pw_below_drewN | apply below_drew1) | exact HB.out)) hb); clear HB; have HB := n0_; clear n0_; (try clear hb); (try clear hb2); (try clear hk); (try clear hi)) | ((with_reducible refine gate_callee (f := 18) rfl ?_); refine goesL_ (some 251) rfl rfl Try.func18 (by kernel_rfl) rfl #[.int .i64 t272, .int .i64 t273] rfl (by (try simp only [List.map_toArray, List.map_cons, List.map_nil]); first | done | rfl | (simp only [List.length_drop, List.length_take]; rfl)) ?_; (with_reducible refine (laws_zLow.calls k1 t272 t273 true _ A40.out).mono ?_); rintro e w' ⟨rfl, ⟨nd, rfl⟩⟩; refine ⟨_, rfl, ?_⟩))
       go_loopg [33] k1 (fun kq v33 w' => ∃ (x33_2 : Int), v33 = .int .i64 x33_2 ∧ Aside0 (laws_FnLaundryLost.l1 kq l1 t270 t271 x25_1 x27_1 x33_2 = some true) ∧ Aside0 (kq ≤ k1) ∧ Aside0 (Below w.heap.size w w'))
       case atStart => exact ⟨(wrap64 (t286 + 1)), (by first | rfl | (simp; done) | (simp [*]; done)), H', ⟨Nat.le_refl _⟩, ⟨by repeat (first | (with_reducible first | exact HB.out | apply below_alloc | apply pw_below_drewN | apply below_drew1) | exact HB.out)⟩⟩
       case round =>
        clear H'
        try clear c1
        try clear c2
        try clear p2
        try clear c3
        try clear c4
        try clear p6
        try clear c7
        try clear c8
        try clear c9
        try clear c10
        try clear c11
        try clear c12
        try clear c13
        try clear c14
        try clear c14b0
        try clear c14b1
        try clear c14b2
        try clear c15
        try clear c15b0
        try clear c15b1
        try clear c16
        try clear c16b0
        try clear c16b1
        try clear c17
        try clear c17b0
        try clear c17b1
        try clear c17b2
        try clear c18
        try clear c18b0
        try clear c18b1
        try clear c19
        try clear c19b0
        try clear c19b1
        try clear c19b2
        try clear c20
        try clear c20b0
        try clear c20b1
        try clear c21
        try clear c21b0
        try clear c21b1
        try clear c21b2
        try clear c22
        try clear c22b0
        try clear c22b1
        try clear c23
        try clear c23b0
        try clear c23b1
        try clear c23b2
        try clear c24
        try clear c24b0
        try clear c24b1
        try clear c24b2
        try clear c25
        try clear c25b0
        try clear c25b1
        try clear c25b2
        try clear c30
        try clear c31
        try clear c31b0
        try clear c35
        try clear c36
        try clear c36b0
        try clear c37
        try clear c38
        try clear c38b0
        try clear c41
        try clear c42
        try clear c42b0
        try clear c43
        try clear c43b0
        try clear c43b1
        try clear c44
        try clear c44b0
        try clear c44b1
        try clear c45
        try clear c45b0
        try clear c45b1
        try clear c46
        try clear c47
        try clear c47b0
        try clear c47b1
        try clear p2
        obtain ⟨x33_2, rfl, HA, HK2, HB⟩ := hrel
        cases gk with
        | zero => exact absurd HA.out (by simp [laws_FnLaundryLost.l1])
        | succ k2 =>
         have H := HA.out
         clear HA
         simp only [laws_FnLaundryLost.l1] at H
         by_cases c49 : x33_2 ≤ t270
         ·rw [if_pos c49] at H
          have c49b0 : decide (x33_2 ≤ t270) = true := decide_eq_true c49
          clear c49
          replace H := Option.bind_eq_some_iff.mp H
          obtain ⟨⟨t312, t313⟩, A500, H⟩ := H
          replace H : (if t313 = true then (if t312 = x27_1 then (some false) else (laws_FnLaundryLost.l1 k2 l1 t270 t271 x25_1 x27_1 (wrap64 (x33_2 + 1)))) else (some false)) = some true := H
          have A50 := Aside0.mk A500
          clear A500
          by_cases c51 : t313 = true
          rotate_left
          ·replace c51 := Bool.eq_false_iff.mpr c51
           subst c51
           have H1 : (some false) = some true := by first | (rw [if_neg (show ¬ (false = true) by decide)] at H; exact H) | rfl
           clear H
           have H := H1
           clear H1
           exact absurd H (by simp)
          subst c51
          have H1 : (if t312 = x27_1 then (some false) else (laws_FnLaundryLost.l1 k2 l1 t270 t271 x25_1 x27_1 (wrap64 (x33_2 + 1)))) = some true := by first | (rw [if_pos rfl] at H; exact H) | rfl
          clear H
          have H := H1
          clear H1
          by_cases c52 : t312 = x27_1
          ·rw [if_pos c52] at H
           have c52b0 : (t312 == x27_1) = true := beq_iff_eq.mpr c52
           have c52b1 : (t312 != x27_1) = false := bne_eq_false_iff_eq.mpr c52
           clear c52
           exact absurd H (by simp)
          rw [if_neg c52] at H
          have c52b0 : (t312 == x27_1) = false := beq_eq_false_iff_ne.mpr c52
          have c52b1 : (t312 != x27_1) = true := bne_iff_ne.mpr c52
          have H' := Aside0.mk H
          clear H
          go_wp2_with (first | ((with_reducible refine gate_callee (f := 17) rfl ?_); refine goesL_ (some 292) rfl rfl Try.func17 (by kernel_rfl) rfl #[.int .i64 t270, .int .i64 t271, .int .i64 x33_2] rfl (by (try simp only [List.map_toArray, List.map_cons, List.map_nil]); first | done | rfl | (simp only [List.length_drop, List.length_take]; rfl)) ?_; (with_reducible refine (impl_CountLosses.calls k2 t270 t271 x33_2 t312 true _ A50.out).mono ?_); rintro e w53 ⟨rfl, hb⟩; refine ⟨_, rfl, ?_⟩; have n0_ := Aside0.mk (below_step (by repeat (first | (with_reducible first | exact HB.out | apply below_alloc | apply pw_below_drewN | apply below_drew1) | exact HB.out)) hb); clear HB; have HB := n0_; clear n0_; (try clear hb); (try clear hb2); (try clear hk); (try clear hi)))
          go_roundg k2
          case measure => have := HK1.out; have := HK2.out; omega
          case rel => exact ⟨(wrap64 (x33_2 + 1)), (by first | rfl | (simp; done) | (simp [*]; done)), H', ⟨by have := HK1.out; have := HK2.out; omega⟩, ⟨by repeat (first | (with_reducible first | exact HB.out | apply below_alloc | apply pw_below_drewN | apply below_drew1) | exact HB.out)⟩⟩
         ·rw [if_neg c49] at H
          have c49b0 : decide (x33_2 ≤ t270) = false := decide_eq_false c49
          clear c49
          have H' := Aside0.mk H
          clear H
          go_wp2
          go_loopg [36] k2 (fun kq v36 w' => ∃ (x36_3 : Int), v36 = .int .i64 x36_3 ∧ Aside0 (laws_FnLaundryLost.l2 kq l1 t270 t271 x25_1 x36_3 = some true) ∧ Aside0 (kq ≤ k2) ∧ Aside0 (Below w.heap.size w w'))
          case atStart => exact ⟨(0), (by first | rfl | (simp; done) | (simp [*]; done)), H', ⟨Nat.le_refl _⟩, ⟨by repeat (first | (with_reducible first | exact HB.out | apply below_alloc | apply pw_below_drewN | apply below_drew1) | exact HB.out)⟩⟩
          case round =>
           clear H'
           try clear c1
           try clear c2
           try clear p2
           try clear c3
           try clear c4
           try clear c5
           try clear p6
           try clear c7
           try clear c8
           try clear c9
           try clear c10
           try clear c11
           try clear c12
           try clear c13
           try clear c14
           try clear c14b0
           try clear c14b1
           try clear c14b2
           try clear c15
           try clear c15b0
           try clear c15b1
           try clear c16
           try clear c16b0
           try clear c16b1
           try clear c17
           try clear c17b0
           try clear c17b1
           try clear c17b2
           try clear c18
           try clear c18b0
           try clear c18b1
           try clear c19
           try clear c19b0
           try clear c19b1
           try clear c19b2
           try clear c20
           try clear c20b0
           try clear c20b1
           try clear c21
           try clear c21b0
           try clear c21b1
           try clear c21b2
           try clear c22
           try clear c22b0
           try clear c22b1
           try clear c23
           try clear c23b0
           try clear c23b1
           try clear c23b2
           try clear c24
           try clear c24b0
           try clear c24b1
           try clear c24b2
           try clear c25
           try clear c25b0
           try clear c25b1
           try clear c25b2
           try clear c30
           try clear c31
           try clear c31b0
           try clear c35
           try clear c36
           try clear c36b0
           try clear c37
           try clear c38
           try clear c38b0
           try clear c41
           try clear c42
           try clear c42b0
           try clear c43
           try clear c43b0
           try clear c43b1
           try clear c44
           try clear c44b0
           try clear c44b1
           try clear c45
           try clear c45b0
           try clear c45b1
           try clear c46
           try clear c47
           try clear c47b0
           try clear c47b1
           try clear c49
           try clear c49b0
           try clear c51
           try clear c52
           try clear c52b0
           try clear c52b1
           try clear p2
           try clear p6
           obtain ⟨x36_3, rfl, HA, HK3, HB⟩ := hrel
           cases gk with
           | zero => exact absurd HA.out (by simp [laws_FnLaundryLost.l2])
           | succ k3 =>
            have H := HA.out
            clear HA
            simp only [laws_FnLaundryLost.l2] at H
            by_cases c54 : x36_3 ≤ t270
            ·rw [if_pos c54] at H
             have c54b0 : decide (x36_3 ≤ t270) = true := decide_eq_true c54
             clear c54
             replace H := Option.bind_eq_some_iff.mp H
             obtain ⟨⟨t326, t327⟩, A550, H⟩ := H
             replace H : ((impl_ChanceComplete.f k3 t270 t271 x36_3).bind fun bt328 => (if t327 = true then (if bt328.2.2 = true then ((laws_zLow.f k3 bt328.1 bt328.2.1).bind fun t331 => (if t331 = true then (if bt328.2.1 = 0 then (none) else (if (Int.tmod x25_1 bt328.2.1) = 0 then (if (wrap64 (bt328.1 * (wrap64 (Int.tdiv x25_1 bt328.2.1)))) = t326 then (laws_FnLaundryLost.l2 k3 l1 t270 t271 x25_1 (wrap64 (x36_3 + 1))) else (some false)) else (some false))) else (some false))) else (some false)) else (some false))) = some true := H
             have A55 := Aside0.mk A550
             clear A550
             replace H := Option.bind_eq_some_iff.mp H
             obtain ⟨⟨t328, t329, t330⟩, A560, H⟩ := H
             replace H : (if t327 = true then (if t330 = true then ((laws_zLow.f k3 t328 t329).bind fun t331 => (if t331 = true then (if t329 = 0 then (none) else (if (Int.tmod x25_1 t329) = 0 then (if (wrap64 (t328 * (wrap64 (Int.tdiv x25_1 t329)))) = t326 then (laws_FnLaundryLost.l2 k3 l1 t270 t271 x25_1 (wrap64 (x36_3 + 1))) else (some false)) else (some false))) else (some false))) else (some false)) else (some false)) = some true := H
             have A56 := Aside0.mk A560
             clear A560
             by_cases c57 : t327 = true
             rotate_left
             ·replace c57 := Bool.eq_false_iff.mpr c57
              subst c57
              have H1 : (some false) = some true := by first | (rw [if_neg (show ¬ (false = true) by decide)] at H; exact H) | rfl
              clear H
              have H := H1
              clear H1
              exact absurd H (by simp)
             subst c57
             have H1 : (if t330 = true then ((laws_zLow.f k3 t328 t329).bind fun t331 => (if t331 = true then (if t329 = 0 then (none) else (if (Int.tmod x25_1 t329) = 0 then (if (wrap64 (t328 * (wrap64 (Int.tdiv x25_1 t329)))) = t326 then (laws_FnLaundryLost.l2 k3 l1 t270 t271 x25_1 (wrap64 (x36_3 + 1))) else (some false)) else (some false))) else (some false))) else (some false)) = some true := by first | (rw [if_pos rfl] at H; exact H) | rfl
             clear H
             have H := H1
             clear H1
             by_cases c58 : t330 = true
             rotate_left
             ·replace c58 := Bool.eq_false_iff.mpr c58
              subst c58
              have H1 : (some false) = some true := by first | (rw [if_neg (show ¬ (false = true) by decide)] at H; exact H) | rfl
              clear H
              have H := H1
              clear H1
              exact absurd H (by simp)
             subst c58
             have H1 : ((laws_zLow.f k3 t328 t329).bind fun t331 => (if t331 = true then (if t329 = 0 then (none) else (if (Int.tmod x25_1 t329) = 0 then (if (wrap64 (t328 * (wrap64 (Int.tdiv x25_1 t329)))) = t326 then (laws_FnLaundryLost.l2 k3 l1 t270 t271 x25_1 (wrap64 (x36_3 + 1))) else (some false)) else (some false))) else (some false))) = some true := by first | (rw [if_pos rfl] at H; exact H) | rfl
             clear H
             have H := H1
             clear H1
             replace H := Option.bind_eq_some_iff.mp H
             obtain ⟨t331, A590, H⟩ := H
             replace H : (if t331 = true then (if t329 = 0 then (none) else (if (Int.tmod x25_1 t329) = 0 then (if (wrap64 (t328 * (wrap64 (Int.tdiv x25_1 t329)))) = t326 then (laws_FnLaundryLost.l2 k3 l1 t270 t271 x25_1 (wrap64 (x36_3 + 1))) else (some false)) else (some false))) else (some false)) = some true := H
             have A59 := Aside0.mk A590
             clear A590
             by_cases c60 : t331 = true
             rotate_left
             ·replace c60 := Bool.eq_false_iff.mpr c60
              subst c60
              have H1 : (some false) = some true := by first | (rw [if_neg (show ¬ (false = true) by decide)] at H; exact H) | rfl
              clear H
              have H := H1
              clear H1
              exact absurd H (by simp)
             subst c60
             have H1 : (if t329 = 0 then (none) else (if (Int.tmod x25_1 t329) = 0 then (if (wrap64 (t328 * (wrap64 (Int.tdiv x25_1 t329)))) = t326 then (laws_FnLaundryLost.l2 k3 l1 t270 t271 x25_1 (wrap64 (x36_3 + 1))) else (some false)) else (some false))) = some true := by first | (rw [if_pos rfl] at H; exact H) | rfl
             clear H
             have H := H1
             clear H1
             by_cases c61 : t329 = 0
             ·rw [if_pos c61] at H
              exact absurd H (by simp)
             rw [if_neg c61] at H
             have c61b0 : (t329 == 0) = false := beq_eq_false_iff_ne.mpr c61
             have c61b1 : (t329 != 0) = true := bne_iff_ne.mpr c61
             by_cases c62 : (Int.tmod x25_1 t329) = 0
             rotate_left
             ·rw [if_neg c62] at H
              have c62b0 : ((Int.tmod x25_1 t329) == 0) = false := beq_eq_false_iff_ne.mpr c62
              have c62b1 : ((Int.tmod x25_1 t329) != 0) = true := bne_iff_ne.mpr c62
              exact absurd H (by simp)
             rw [if_pos c62] at H
             have c62b0 : ((Int.tmod x25_1 t329) == 0) = true := beq_iff_eq.mpr c62
             have c62b1 : ((Int.tmod x25_1 t329) != 0) = false := bne_eq_false_iff_eq.mpr c62
             clear c62
             by_cases c63 : (wrap64 (t328 * (wrap64 (Int.tdiv x25_1 t329)))) = t326
             rotate_left
             ·rw [if_neg c63] at H
              have c63b0 : ((wrap64 (t328 * (wrap64 (Int.tdiv x25_1 t329)))) == t326) = false := beq_eq_false_iff_ne.mpr c63
              have c63b1 : ((wrap64 (t328 * (wrap64 (Int.tdiv x25_1 t329)))) != t326) = true := bne_iff_ne.mpr c63
              exact absurd H (by simp)
             rw [if_pos c63] at H
             have c63b0 : ((wrap64 (t328 * (wrap64 (Int.tdiv x25_1 t329)))) == t326) = true := beq_iff_eq.mpr c63
             have c63b1 : ((wrap64 (t328 * (wrap64 (Int.tdiv x25_1 t329)))) != t326) = false := bne_eq_false_iff_eq.mpr c63
             clear c63
             have H' := Aside0.mk H
             clear H
             go_wp2_with (first | ((with_reducible refine gate_callee (f := 17) rfl ?_); refine goesL_ (some 311) rfl rfl Try.func17 (by kernel_rfl) rfl #[.int .i64 t270, .int .i64 t271, .int .i64 x36_3] rfl (by (try simp only [List.map_toArray, List.map_cons, List.map_nil]); first | done | rfl | (simp only [List.length_drop, List.length_take]; rfl)) ?_; (with_reducible refine (impl_CountLosses.calls k3 t270 t271 x36_3 t326 true _ A55.out).mono ?_); rintro e w64 ⟨rfl, hb⟩; refine ⟨_, rfl, ?_⟩; have n0_ := Aside0.mk (below_step (by repeat (first | (with_reducible first | exact HB.out | apply below_alloc | apply pw_below_drewN | apply below_drew1) | exact HB.out)) hb); clear HB; have HB := n0_; clear n0_; (try clear hb); (try clear hb2); (try clear hk); (try clear hi)) | ((with_reducible refine gate_callee (f := 19) rfl ?_); refine goesL_ (some 318) rfl rfl Try.func19 (by kernel_rfl) rfl #[.int .i64 t270, .int .i64 t271, .int .i64 x36_3] rfl (by (try simp only [List.map_toArray, List.map_cons, List.map_nil]); first | done | rfl | (simp only [List.length_drop, List.length_take]; rfl)) ?_; (with_reducible refine (impl_ChanceComplete.calls k3 t270 t271 x36_3 t328 t329 true _ A56.out).mono ?_); rintro e w65 ⟨rfl, hb⟩; refine ⟨_, rfl, ?_⟩; have n0_ := Aside0.mk (below_step (by repeat (first | (with_reducible first | exact HB.out | apply below_alloc | apply pw_below_drewN | apply below_drew1) | exact HB.out)) hb); clear HB; have HB := n0_; clear n0_; (try clear hb); (try clear hb2); (try clear hk); (try clear hi)) | (go_at_call 18; (with_reducible refine (laws_zLow.calls k3 t328 t329 true _ A59.out).mono ?_); rintro e w' ⟨rfl, ⟨nd, rfl⟩⟩))
             go_roundg k3
             case measure => have := HK1.out; have := HK2.out; have := HK3.out; omega
             case rel => exact ⟨(wrap64 (x36_3 + 1)), (by first | rfl | (simp; done) | (simp [*]; done)), H', ⟨by have := HK1.out; have := HK2.out; have := HK3.out; omega⟩, ⟨by repeat (first | (with_reducible first | exact HB.out | apply below_alloc | apply pw_below_drewN | apply below_drew1) | exact HB.out)⟩⟩
            ·rw [if_neg c54] at H
             have c54b0 : decide (x36_3 ≤ t270) = false := decide_eq_false c54
             clear c54
             have H' := Aside0.mk H
             clear H
             go_wp2
             refine Met.intro (hmeet _ _ rfl rfl ?_)
             exact ⟨_, H', ⟨by have := HK1.out; have := HK2.out; have := HK3.out; first | omega | exact Nat.le_refl _⟩, ⟨by repeat (first | (with_reducible first | exact HB.out | apply below_alloc | apply pw_below_drewN | apply below_drew1) | exact HB.out)⟩⟩
   ·replace c30 := Bool.eq_false_iff.mpr c30
    subst c30
    have H1 : (laws_FnLaundryLost.j4 k l1) = some true := by first | (rw [if_neg (show ¬ (false = true) by decide)] at H; exact H) | rfl
    clear H
    have H := H1
    clear H1
    have H' := Aside0.mk H
    clear H
    go_wp2
    refine Met.intro (hmeet _ _ rfl rfl ?_)
    exact ⟨_, H', ⟨by first | omega | exact Nat.le_refl _⟩, ⟨by repeat (first | (with_reducible first | exact HB.out | apply below_alloc | apply pw_below_drewN | apply below_drew1) | exact HB.out)⟩⟩
  next => as_aux_lemma =>
   intro ns g wc hcut
   dsimp only [cutG, Nat.reduceAdd, cutMarks0]
   clear HC26
   try clear c1
   try clear c2
   try clear p2
   try clear c3
   try clear c4
   try clear c5
   try clear c6
   try clear p6
   try clear c7
   try clear c8
   try clear c9
   try clear c10
   try clear c11
   try clear c12
   try clear c13
   try clear c14
   try clear c14b0
   try clear c14b1
   try clear c14b2
   try clear c15
   try clear c15b0
   try clear c15b1
   try clear c16
   try clear c16b0
   try clear c16b1
   try clear c17
   try clear c17b0
   try clear c17b1
   try clear c17b2
   try clear c18
   try clear c18b0
   try clear c18b1
   try clear c19
   try clear c19b0
   try clear c19b1
   try clear c19b2
   try clear c20
   try clear c20b0
   try clear c20b1
   try clear c21
   try clear c21b0
   try clear c21b1
   try clear c21b2
   try clear c22
   try clear c22b0
   try clear c22b1
   try clear c23
   try clear c23b0
   try clear c23b1
   try clear c23b2
   try clear c24
   try clear c24b0
   try clear c24b1
   try clear c24b2
   try clear c25
   try clear c25b0
   try clear c25b1
   try clear c25b2
   try clear c30
   try clear c31
   try clear c31b0
   try clear c35
   try clear c36
   try clear c36b0
   try clear c37
   try clear c38
   try clear c38b0
   try clear c41
   try clear c42
   try clear c42b0
   try clear c43
   try clear c43b0
   try clear c43b1
   try clear c44
   try clear c44b0
   try clear c44b1
   try clear c45
   try clear c45b0
   try clear c45b1
   try clear c46
   try clear c47
   try clear c47b0
   try clear c47b1
   try clear c49
   try clear c49b0
   try clear c51
   try clear c52
   try clear c52b0
   try clear c52b1
   try clear c54
   try clear c54b0
   try clear c57
   try clear c58
   try clear c60
   try clear c61
   try clear c61b0
   try clear c61b1
   try clear c62
   try clear c62b0
   try clear c62b1
   try clear c63
   try clear c63b0
   try clear c63b1
   try clear p64
   try clear p2
   try clear p6
   obtain ⟨kq, HA, HJ25, HB⟩ := hcut
   cases kq with
   | zero => exact absurd HA.out (by simp [laws_FnLaundryLost.j4])
   | succ kj25 =>
    have H := HA.out
    clear HA
    simp only [laws_FnLaundryLost.j4] at H
    replace H := Option.bind_eq_some_iff.mp H
    obtain ⟨⟨t407, t408, t409⟩, A660, H⟩ := H
    replace H : ((impl_ChanceComplete.f kj25 t407 t408 t409).bind fun bt410 => ((spec_ChanceComplete.f kj25 t407 t408 t409).bind fun bt413 => ((impl_CountLosses.f kj25 t407 t408 t409).bind fun bt416 => ((spec_CountLosses.f kj25 t407 t408 t409).bind fun bt418 => ((spec_DrawPairsToBuy.f l1).bind fun bt420 => ((impl_PairsToBuy.f bt420.1 bt420.2).bind fun bt422 => ((spec_PairsToBuy.f bt420.1 bt420.2).bind fun bt424 => ((impl_AlikeToBuy.f bt420.1 bt420.2).bind fun bt426 => ((spec_AlikeToBuy.f bt420.1 bt420.2).bind fun bt428 => ((spec_DrawWashingsAtWorst.f l1).bind fun bt430 => ((impl_WashingsAtWorst.f kj25 bt430.1 bt430.2.1 bt430.2.2).bind fun bt433 => ((spec_WashingsAtWorst.f bt430.1 bt430.2.1 bt430.2.2).bind fun bt435 => ((impl_WashingsAtBest.f kj25 bt430.1 bt430.2.1 bt430.2.2).bind fun bt437 => ((spec_WashingsAtBest.f bt430.1 bt430.2.1 bt430.2.2).bind fun bt439 => (if (bt410.2.2 != bt413.2.2) = true then (some false) else (if bt410.1 = bt413.1 then (if bt410.2.1 = bt413.2.1 then (if (bt416.2 != bt418.2) = true then (some false) else (if bt416.1 = bt418.1 then (if (bt416.2 != bt410.2.2) = true then (some false) else (if (bt422.2 != bt424.2) = true then (some false) else (if bt422.1 = bt424.1 then (if (bt426.2 != bt428.2) = true then (some false) else (if bt426.1 = bt428.1 then (if (bt426.2 != bt422.2) = true then (some false) else (if (bt433.2 != bt435.2) = true then (some false) else (if bt433.1 = bt435.1 then (if (bt437.2 != bt439.2) = true then (some false) else (if bt437.1 = bt439.1 then (if (bt437.2 != bt433.2) = true then (some false) else (if bt422.2 = true then (if bt426.1 > (wrap64 (bt422.1 + 1)) then (if bt420.2 > 0 then (some false) else (if (wrap64 (2 * bt422.1)) < bt420.1 then (some false) else (laws_FnLaundryLost.j5 kj25 bt420.1 bt420.2 bt422.1 bt430.1 bt430.2.1 bt430.2.2 bt433.1 bt433.2 bt437.1 (decide ((wrap64 (2 * bt426.1)) < bt420.1))))) else (if (wrap64 (2 * bt422.1)) < bt420.1 then (some false) else (laws_FnLaundryLost.j5 kj25 bt420.1 bt420.2 bt422.1 bt430.1 bt430.2.1 bt430.2.2 bt433.1 bt433.2 bt437.1 (decide ((wrap64 (2 * bt426.1)) < bt420.1))))) else (laws_FnLaundryLost.j9 kj25 bt430.1 bt430.2.1 bt430.2.2 bt433.1 bt433.2 bt437.1))) else (some false))) else (some false)))) else (some false))) else (some false)))) else (some false))) else (some false)) else (some false))))))))))))))))) = some true := H
    have A66 := Aside0.mk A660
    clear A660
    replace H := Option.bind_eq_some_iff.mp H
    obtain ⟨⟨t410, t411, t412⟩, A670, H⟩ := H
    replace H : ((spec_ChanceComplete.f kj25 t407 t408 t409).bind fun bt413 => ((impl_CountLosses.f kj25 t407 t408 t409).bind fun bt416 => ((spec_CountLosses.f kj25 t407 t408 t409).bind fun bt418 => ((spec_DrawPairsToBuy.f l1).bind fun bt420 => ((impl_PairsToBuy.f bt420.1 bt420.2).bind fun bt422 => ((spec_PairsToBuy.f bt420.1 bt420.2).bind fun bt424 => ((impl_AlikeToBuy.f bt420.1 bt420.2).bind fun bt426 => ((spec_AlikeToBuy.f bt420.1 bt420.2).bind fun bt428 => ((spec_DrawWashingsAtWorst.f l1).bind fun bt430 => ((impl_WashingsAtWorst.f kj25 bt430.1 bt430.2.1 bt430.2.2).bind fun bt433 => ((spec_WashingsAtWorst.f bt430.1 bt430.2.1 bt430.2.2).bind fun bt435 => ((impl_WashingsAtBest.f kj25 bt430.1 bt430.2.1 bt430.2.2).bind fun bt437 => ((spec_WashingsAtBest.f bt430.1 bt430.2.1 bt430.2.2).bind fun bt439 => (if (t412 != bt413.2.2) = true then (some false) else (if t410 = bt413.1 then (if t411 = bt413.2.1 then (if (bt416.2 != bt418.2) = true then (some false) else (if bt416.1 = bt418.1 then (if (bt416.2 != t412) = true then (some false) else (if (bt422.2 != bt424.2) = true then (some false) else (if bt422.1 = bt424.1 then (if (bt426.2 != bt428.2) = true then (some false) else (if bt426.1 = bt428.1 then (if (bt426.2 != bt422.2) = true then (some false) else (if (bt433.2 != bt435.2) = true then (some false) else (if bt433.1 = bt435.1 then (if (bt437.2 != bt439.2) = true then (some false) else (if bt437.1 = bt439.1 then (if (bt437.2 != bt433.2) = true then (some false) else (if bt422.2 = true then (if bt426.1 > (wrap64 (bt422.1 + 1)) then (if bt420.2 > 0 then (some false) else (if (wrap64 (2 * bt422.1)) < bt420.1 then (some false) else (laws_FnLaundryLost.j5 kj25 bt420.1 bt420.2 bt422.1 bt430.1 bt430.2.1 bt430.2.2 bt433.1 bt433.2 bt437.1 (decide ((wrap64 (2 * bt426.1)) < bt420.1))))) else (if (wrap64 (2 * bt422.1)) < bt420.1 then (some false) else (laws_FnLaundryLost.j5 kj25 bt420.1 bt420.2 bt422.1 bt430.1 bt430.2.1 bt430.2.2 bt433.1 bt433.2 bt437.1 (decide ((wrap64 (2 * bt426.1)) < bt420.1))))) else (laws_FnLaundryLost.j9 kj25 bt430.1 bt430.2.1 bt430.2.2 bt433.1 bt433.2 bt437.1))) else (some false))) else (some false)))) else (some false))) else (some false)))) else (some false))) else (some false)) else (some false)))))))))))))))) = some true := H
    have A67 := Aside0.mk A670
    clear A670
    replace H := Option.bind_eq_some_iff.mp H
    obtain ⟨⟨t413, t414, t415⟩, A680, H⟩ := H
    replace H : ((impl_CountLosses.f kj25 t407 t408 t409).bind fun bt416 => ((spec_CountLosses.f kj25 t407 t408 t409).bind fun bt418 => ((spec_DrawPairsToBuy.f l1).bind fun bt420 => ((impl_PairsToBuy.f bt420.1 bt420.2).bind fun bt422 => ((spec_PairsToBuy.f bt420.1 bt420.2).bind fun bt424 => ((impl_AlikeToBuy.f bt420.1 bt420.2).bind fun bt426 => ((spec_AlikeToBuy.f bt420.1 bt420.2).bind fun bt428 => ((spec_DrawWashingsAtWorst.f l1).bind fun bt430 => ((impl_WashingsAtWorst.f kj25 bt430.1 bt430.2.1 bt430.2.2).bind fun bt433 => ((spec_WashingsAtWorst.f bt430.1 bt430.2.1 bt430.2.2).bind fun bt435 => ((impl_WashingsAtBest.f kj25 bt430.1 bt430.2.1 bt430.2.2).bind fun bt437 => ((spec_WashingsAtBest.f bt430.1 bt430.2.1 bt430.2.2).bind fun bt439 => (if (t412 != t415) = true then (some false) else (if t410 = t413 then (if t411 = t414 then (if (bt416.2 != bt418.2) = true then (some false) else (if bt416.1 = bt418.1 then (if (bt416.2 != t412) = true then (some false) else (if (bt422.2 != bt424.2) = true then (some false) else (if bt422.1 = bt424.1 then (if (bt426.2 != bt428.2) = true then (some false) else (if bt426.1 = bt428.1 then (if (bt426.2 != bt422.2) = true then (some false) else (if (bt433.2 != bt435.2) = true then (some false) else (if bt433.1 = bt435.1 then (if (bt437.2 != bt439.2) = true then (some false) else (if bt437.1 = bt439.1 then (if (bt437.2 != bt433.2) = true then (some false) else (if bt422.2 = true then (if bt426.1 > (wrap64 (bt422.1 + 1)) then (if bt420.2 > 0 then (some false) else (if (wrap64 (2 * bt422.1)) < bt420.1 then (some false) else (laws_FnLaundryLost.j5 kj25 bt420.1 bt420.2 bt422.1 bt430.1 bt430.2.1 bt430.2.2 bt433.1 bt433.2 bt437.1 (decide ((wrap64 (2 * bt426.1)) < bt420.1))))) else (if (wrap64 (2 * bt422.1)) < bt420.1 then (some false) else (laws_FnLaundryLost.j5 kj25 bt420.1 bt420.2 bt422.1 bt430.1 bt430.2.1 bt430.2.2 bt433.1 bt433.2 bt437.1 (decide ((wrap64 (2 * bt426.1)) < bt420.1))))) else (laws_FnLaundryLost.j9 kj25 bt430.1 bt430.2.1 bt430.2.2 bt433.1 bt433.2 bt437.1))) else (some false))) else (some false)))) else (some false))) else (some false)))) else (some false))) else (some false)) else (some false))))))))))))))) = some true := H
    have A68 := Aside0.mk A680
    clear A680
    replace H := Option.bind_eq_some_iff.mp H
    obtain ⟨⟨t416, t417⟩, A690, H⟩ := H
    replace H : ((spec_CountLosses.f kj25 t407 t408 t409).bind fun bt418 => ((spec_DrawPairsToBuy.f l1).bind fun bt420 => ((impl_PairsToBuy.f bt420.1 bt420.2).bind fun bt422 => ((spec_PairsToBuy.f bt420.1 bt420.2).bind fun bt424 => ((impl_AlikeToBuy.f bt420.1 bt420.2).bind fun bt426 => ((spec_AlikeToBuy.f bt420.1 bt420.2).bind fun bt428 => ((spec_DrawWashingsAtWorst.f l1).bind fun bt430 => ((impl_WashingsAtWorst.f kj25 bt430.1 bt430.2.1 bt430.2.2).bind fun bt433 => ((spec_WashingsAtWorst.f bt430.1 bt430.2.1 bt430.2.2).bind fun bt435 => ((impl_WashingsAtBest.f kj25 bt430.1 bt430.2.1 bt430.2.2).bind fun bt437 => ((spec_WashingsAtBest.f bt430.1 bt430.2.1 bt430.2.2).bind fun bt439 => (if (t412 != t415) = true then (some false) else (if t410 = t413 then (if t411 = t414 then (if (t417 != bt418.2) = true then (some false) else (if t416 = bt418.1 then (if (t417 != t412) = true then (some false) else (if (bt422.2 != bt424.2) = true then (some false) else (if bt422.1 = bt424.1 then (if (bt426.2 != bt428.2) = true then (some false) else (if bt426.1 = bt428.1 then (if (bt426.2 != bt422.2) = true then (some false) else (if (bt433.2 != bt435.2) = true then (some false) else (if bt433.1 = bt435.1 then (if (bt437.2 != bt439.2) = true then (some false) else (if bt437.1 = bt439.1 then (if (bt437.2 != bt433.2) = true then (some false) else (if bt422.2 = true then (if bt426.1 > (wrap64 (bt422.1 + 1)) then (if bt420.2 > 0 then (some false) else (if (wrap64 (2 * bt422.1)) < bt420.1 then (some false) else (laws_FnLaundryLost.j5 kj25 bt420.1 bt420.2 bt422.1 bt430.1 bt430.2.1 bt430.2.2 bt433.1 bt433.2 bt437.1 (decide ((wrap64 (2 * bt426.1)) < bt420.1))))) else (if (wrap64 (2 * bt422.1)) < bt420.1 then (some false) else (laws_FnLaundryLost.j5 kj25 bt420.1 bt420.2 bt422.1 bt430.1 bt430.2.1 bt430.2.2 bt433.1 bt433.2 bt437.1 (decide ((wrap64 (2 * bt426.1)) < bt420.1))))) else (laws_FnLaundryLost.j9 kj25 bt430.1 bt430.2.1 bt430.2.2 bt433.1 bt433.2 bt437.1))) else (some false))) else (some false)))) else (some false))) else (some false)))) else (some false))) else (some false)) else (some false)))))))))))))) = some true := H
    have A69 := Aside0.mk A690
    clear A690
    replace H := Option.bind_eq_some_iff.mp H
    obtain ⟨⟨t418, t419⟩, A700, H⟩ := H
    replace H : ((spec_DrawPairsToBuy.f l1).bind fun bt420 => ((impl_PairsToBuy.f bt420.1 bt420.2).bind fun bt422 => ((spec_PairsToBuy.f bt420.1 bt420.2).bind fun bt424 => ((impl_AlikeToBuy.f bt420.1 bt420.2).bind fun bt426 => ((spec_AlikeToBuy.f bt420.1 bt420.2).bind fun bt428 => ((spec_DrawWashingsAtWorst.f l1).bind fun bt430 => ((impl_WashingsAtWorst.f kj25 bt430.1 bt430.2.1 bt430.2.2).bind fun bt433 => ((spec_WashingsAtWorst.f bt430.1 bt430.2.1 bt430.2.2).bind fun bt435 => ((impl_WashingsAtBest.f kj25 bt430.1 bt430.2.1 bt430.2.2).bind fun bt437 => ((spec_WashingsAtBest.f bt430.1 bt430.2.1 bt430.2.2).bind fun bt439 => (if (t412 != t415) = true then (some false) else (if t410 = t413 then (if t411 = t414 then (if (t417 != t419) = true then (some false) else (if t416 = t418 then (if (t417 != t412) = true then (some false) else (if (bt422.2 != bt424.2) = true then (some false) else (if bt422.1 = bt424.1 then (if (bt426.2 != bt428.2) = true then (some false) else (if bt426.1 = bt428.1 then (if (bt426.2 != bt422.2) = true then (some false) else (if (bt433.2 != bt435.2) = true then (some false) else (if bt433.1 = bt435.1 then (if (bt437.2 != bt439.2) = true then (some false) else (if bt437.1 = bt439.1 then (if (bt437.2 != bt433.2) = true then (some false) else (if bt422.2 = true then (if bt426.1 > (wrap64 (bt422.1 + 1)) then (if bt420.2 > 0 then (some false) else (if (wrap64 (2 * bt422.1)) < bt420.1 then (some false) else (laws_FnLaundryLost.j5 kj25 bt420.1 bt420.2 bt422.1 bt430.1 bt430.2.1 bt430.2.2 bt433.1 bt433.2 bt437.1 (decide ((wrap64 (2 * bt426.1)) < bt420.1))))) else (if (wrap64 (2 * bt422.1)) < bt420.1 then (some false) else (laws_FnLaundryLost.j5 kj25 bt420.1 bt420.2 bt422.1 bt430.1 bt430.2.1 bt430.2.2 bt433.1 bt433.2 bt437.1 (decide ((wrap64 (2 * bt426.1)) < bt420.1))))) else (laws_FnLaundryLost.j9 kj25 bt430.1 bt430.2.1 bt430.2.2 bt433.1 bt433.2 bt437.1))) else (some false))) else (some false)))) else (some false))) else (some false)))) else (some false))) else (some false)) else (some false))))))))))))) = some true := H
    have A70 := Aside0.mk A700
    clear A700
    replace H := Option.bind_eq_some_iff.mp H
    obtain ⟨⟨t420, t421⟩, A710, H⟩ := H
    replace H : ((impl_PairsToBuy.f t420 t421).bind fun bt422 => ((spec_PairsToBuy.f t420 t421).bind fun bt424 => ((impl_AlikeToBuy.f t420 t421).bind fun bt426 => ((spec_AlikeToBuy.f t420 t421).bind fun bt428 => ((spec_DrawWashingsAtWorst.f l1).bind fun bt430 => ((impl_WashingsAtWorst.f kj25 bt430.1 bt430.2.1 bt430.2.2).bind fun bt433 => ((spec_WashingsAtWorst.f bt430.1 bt430.2.1 bt430.2.2).bind fun bt435 => ((impl_WashingsAtBest.f kj25 bt430.1 bt430.2.1 bt430.2.2).bind fun bt437 => ((spec_WashingsAtBest.f bt430.1 bt430.2.1 bt430.2.2).bind fun bt439 => (if (t412 != t415) = true then (some false) else (if t410 = t413 then (if t411 = t414 then (if (t417 != t419) = true then (some false) else (if t416 = t418 then (if (t417 != t412) = true then (some false) else (if (bt422.2 != bt424.2) = true then (some false) else (if bt422.1 = bt424.1 then (if (bt426.2 != bt428.2) = true then (some false) else (if bt426.1 = bt428.1 then (if (bt426.2 != bt422.2) = true then (some false) else (if (bt433.2 != bt435.2) = true then (some false) else (if bt433.1 = bt435.1 then (if (bt437.2 != bt439.2) = true then (some false) else (if bt437.1 = bt439.1 then (if (bt437.2 != bt433.2) = true then (some false) else (if bt422.2 = true then (if bt426.1 > (wrap64 (bt422.1 + 1)) then (if t421 > 0 then (some false) else (if (wrap64 (2 * bt422.1)) < t420 then (some false) else (laws_FnLaundryLost.j5 kj25 t420 t421 bt422.1 bt430.1 bt430.2.1 bt430.2.2 bt433.1 bt433.2 bt437.1 (decide ((wrap64 (2 * bt426.1)) < t420))))) else (if (wrap64 (2 * bt422.1)) < t420 then (some false) else (laws_FnLaundryLost.j5 kj25 t420 t421 bt422.1 bt430.1 bt430.2.1 bt430.2.2 bt433.1 bt433.2 bt437.1 (decide ((wrap64 (2 * bt426.1)) < t420))))) else (laws_FnLaundryLost.j9 kj25 bt430.1 bt430.2.1 bt430.2.2 bt433.1 bt433.2 bt437.1))) else (some false))) else (some false)))) else (some false))) else (some false)))) else (some false))) else (some false)) else (some false)))))))))))) = some true := H
    have A71 := Aside0.mk A710
    clear A710
    replace H := Option.bind_eq_some_iff.mp H
    obtain ⟨⟨t422, t423⟩, A720, H⟩ := H
    replace H : ((spec_PairsToBuy.f t420 t421).bind fun bt424 => ((impl_AlikeToBuy.f t420 t421).bind fun bt426 => ((spec_AlikeToBuy.f t420 t421).bind fun bt428 => ((spec_DrawWashingsAtWorst.f l1).bind fun bt430 => ((impl_WashingsAtWorst.f kj25 bt430.1 bt430.2.1 bt430.2.2).bind fun bt433 => ((spec_WashingsAtWorst.f bt430.1 bt430.2.1 bt430.2.2).bind fun bt435 => ((impl_WashingsAtBest.f kj25 bt430.1 bt430.2.1 bt430.2.2).bind fun bt437 => ((spec_WashingsAtBest.f bt430.1 bt430.2.1 bt430.2.2).bind fun bt439 => (if (t412 != t415) = true then (some false) else (if t410 = t413 then (if t411 = t414 then (if (t417 != t419) = true then (some false) else (if t416 = t418 then (if (t417 != t412) = true then (some false) else (if (t423 != bt424.2) = true then (some false) else (if t422 = bt424.1 then (if (bt426.2 != bt428.2) = true then (some false) else (if bt426.1 = bt428.1 then (if (bt426.2 != t423) = true then (some false) else (if (bt433.2 != bt435.2) = true then (some false) else (if bt433.1 = bt435.1 then (if (bt437.2 != bt439.2) = true then (some false) else (if bt437.1 = bt439.1 then (if (bt437.2 != bt433.2) = true then (some false) else (if t423 = true then (if bt426.1 > (wrap64 (t422 + 1)) then (if t421 > 0 then (some false) else (if (wrap64 (2 * t422)) < t420 then (some false) else (laws_FnLaundryLost.j5 kj25 t420 t421 t422 bt430.1 bt430.2.1 bt430.2.2 bt433.1 bt433.2 bt437.1 (decide ((wrap64 (2 * bt426.1)) < t420))))) else (if (wrap64 (2 * t422)) < t420 then (some false) else (laws_FnLaundryLost.j5 kj25 t420 t421 t422 bt430.1 bt430.2.1 bt430.2.2 bt433.1 bt433.2 bt437.1 (decide ((wrap64 (2 * bt426.1)) < t420))))) else (laws_FnLaundryLost.j9 kj25 bt430.1 bt430.2.1 bt430.2.2 bt433.1 bt433.2 bt437.1))) else (some false))) else (some false)))) else (some false))) else (some false)))) else (some false))) else (some false)) else (some false))))))))))) = some true := H
    have A72 := Aside0.mk A720
    clear A720
    replace H := Option.bind_eq_some_iff.mp H
    obtain ⟨⟨t424, t425⟩, A730, H⟩ := H
    replace H : ((impl_AlikeToBuy.f t420 t421).bind fun bt426 => ((spec_AlikeToBuy.f t420 t421).bind fun bt428 => ((spec_DrawWashingsAtWorst.f l1).bind fun bt430 => ((impl_WashingsAtWorst.f kj25 bt430.1 bt430.2.1 bt430.2.2).bind fun bt433 => ((spec_WashingsAtWorst.f bt430.1 bt430.2.1 bt430.2.2).bind fun bt435 => ((impl_WashingsAtBest.f kj25 bt430.1 bt430.2.1 bt430.2.2).bind fun bt437 => ((spec_WashingsAtBest.f bt430.1 bt430.2.1 bt430.2.2).bind fun bt439 => (if (t412 != t415) = true then (some false) else (if t410 = t413 then (if t411 = t414 then (if (t417 != t419) = true then (some false) else (if t416 = t418 then (if (t417 != t412) = true then (some false) else (if (t423 != t425) = true then (some false) else (if t422 = t424 then (if (bt426.2 != bt428.2) = true then (some false) else (if bt426.1 = bt428.1 then (if (bt426.2 != t423) = true then (some false) else (if (bt433.2 != bt435.2) = true then (some false) else (if bt433.1 = bt435.1 then (if (bt437.2 != bt439.2) = true then (some false) else (if bt437.1 = bt439.1 then (if (bt437.2 != bt433.2) = true then (some false) else (if t423 = true then (if bt426.1 > (wrap64 (t422 + 1)) then (if t421 > 0 then (some false) else (if (wrap64 (2 * t422)) < t420 then (some false) else (laws_FnLaundryLost.j5 kj25 t420 t421 t422 bt430.1 bt430.2.1 bt430.2.2 bt433.1 bt433.2 bt437.1 (decide ((wrap64 (2 * bt426.1)) < t420))))) else (if (wrap64 (2 * t422)) < t420 then (some false) else (laws_FnLaundryLost.j5 kj25 t420 t421 t422 bt430.1 bt430.2.1 bt430.2.2 bt433.1 bt433.2 bt437.1 (decide ((wrap64 (2 * bt426.1)) < t420))))) else (laws_FnLaundryLost.j9 kj25 bt430.1 bt430.2.1 bt430.2.2 bt433.1 bt433.2 bt437.1))) else (some false))) else (some false)))) else (some false))) else (some false)))) else (some false))) else (some false)) else (some false)))))))))) = some true := H
    have A73 := Aside0.mk A730
    clear A730
    replace H := Option.bind_eq_some_iff.mp H
    obtain ⟨⟨t426, t427⟩, A740, H⟩ := H
    replace H : ((spec_AlikeToBuy.f t420 t421).bind fun bt428 => ((spec_DrawWashingsAtWorst.f l1).bind fun bt430 => ((impl_WashingsAtWorst.f kj25 bt430.1 bt430.2.1 bt430.2.2).bind fun bt433 => ((spec_WashingsAtWorst.f bt430.1 bt430.2.1 bt430.2.2).bind fun bt435 => ((impl_WashingsAtBest.f kj25 bt430.1 bt430.2.1 bt430.2.2).bind fun bt437 => ((spec_WashingsAtBest.f bt430.1 bt430.2.1 bt430.2.2).bind fun bt439 => (if (t412 != t415) = true then (some false) else (if t410 = t413 then (if t411 = t414 then (if (t417 != t419) = true then (some false) else (if t416 = t418 then (if (t417 != t412) = true then (some false) else (if (t423 != t425) = true then (some false) else (if t422 = t424 then (if (t427 != bt428.2) = true then (some false) else (if t426 = bt428.1 then (if (t427 != t423) = true then (some false) else (if (bt433.2 != bt435.2) = true then (some false) else (if bt433.1 = bt435.1 then (if (bt437.2 != bt439.2) = true then (some false) else (if bt437.1 = bt439.1 then (if (bt437.2 != bt433.2) = true then (some false) else (if t423 = true then (if t426 > (wrap64 (t422 + 1)) then (if t421 > 0 then (some false) else (if (wrap64 (2 * t422)) < t420 then (some false) else (laws_FnLaundryLost.j5 kj25 t420 t421 t422 bt430.1 bt430.2.1 bt430.2.2 bt433.1 bt433.2 bt437.1 (decide ((wrap64 (2 * t426)) < t420))))) else (if (wrap64 (2 * t422)) < t420 then (some false) else (laws_FnLaundryLost.j5 kj25 t420 t421 t422 bt430.1 bt430.2.1 bt430.2.2 bt433.1 bt433.2 bt437.1 (decide ((wrap64 (2 * t426)) < t420))))) else (laws_FnLaundryLost.j9 kj25 bt430.1 bt430.2.1 bt430.2.2 bt433.1 bt433.2 bt437.1))) else (some false))) else (some false)))) else (some false))) else (some false)))) else (some false))) else (some false)) else (some false))))))))) = some true := H
    have A74 := Aside0.mk A740
    clear A740
    replace H := Option.bind_eq_some_iff.mp H
    obtain ⟨⟨t428, t429⟩, A750, H⟩ := H
    replace H : ((spec_DrawWashingsAtWorst.f l1).bind fun bt430 => ((impl_WashingsAtWorst.f kj25 bt430.1 bt430.2.1 bt430.2.2).bind fun bt433 => ((spec_WashingsAtWorst.f bt430.1 bt430.2.1 bt430.2.2).bind fun bt435 => ((impl_WashingsAtBest.f kj25 bt430.1 bt430.2.1 bt430.2.2).bind fun bt437 => ((spec_WashingsAtBest.f bt430.1 bt430.2.1 bt430.2.2).bind fun bt439 => (if (t412 != t415) = true then (some false) else (if t410 = t413 then (if t411 = t414 then (if (t417 != t419) = true then (some false) else (if t416 = t418 then (if (t417 != t412) = true then (some false) else (if (t423 != t425) = true then (some false) else (if t422 = t424 then (if (t427 != t429) = true then (some false) else (if t426 = t428 then (if (t427 != t423) = true then (some false) else (if (bt433.2 != bt435.2) = true then (some false) else (if bt433.1 = bt435.1 then (if (bt437.2 != bt439.2) = true then (some false) else (if bt437.1 = bt439.1 then (if (bt437.2 != bt433.2) = true then (some false) else (if t423 = true then (if t426 > (wrap64 (t422 + 1)) then (if t421 > 0 then (some false) else (if (wrap64 (2 * t422)) < t420 then (some false) else (laws_FnLaundryLost.j5 kj25 t420 t421 t422 bt430.1 bt430.2.1 bt430.2.2 bt433.1 bt433.2 bt437.1 (decide ((wrap64 (2 * t426)) < t420))))) else (if (wrap64 (2 * t422)) < t420 then (some false) else (laws_FnLaundryLost.j5 kj25 t420 t421 t422 bt430.1 bt430.2.1 bt430.2.2 bt433.1 bt433.2 bt437.1 (decide ((wrap64 (2 * t426)) < t420))))) else (laws_FnLaundryLost.j9 kj25 bt430.1 bt430.2.1 bt430.2.2 bt433.1 bt433.2 bt437.1))) else (some false))) else (some false)))) else (some false))) else (some false)))) else (some false))) else (some false)) else (some false)))))))) = some true := H
    have A75 := Aside0.mk A750
    clear A750
    replace H := Option.bind_eq_some_iff.mp H
    obtain ⟨⟨t430, t431, t432⟩, A760, H⟩ := H
    replace H : ((impl_WashingsAtWorst.f kj25 t430 t431 t432).bind fun bt433 => ((spec_WashingsAtWorst.f t430 t431 t432).bind fun bt435 => ((impl_WashingsAtBest.f kj25 t430 t431 t432).bind fun bt437 => ((spec_WashingsAtBest.f t430 t431 t432).bind fun bt439 => (if (t412 != t415) = true then (some false) else (if t410 = t413 then (if t411 = t414 then (if (t417 != t419) = true then (some false) else (if t416 = t418 then (if (t417 != t412) = true then (some false) else (if (t423 != t425) = true then (some false) else (if t422 = t424 then (if (t427 != t429) = true then (some false) else (if t426 = t428 then (if (t427 != t423) = true then (some false) else (if (bt433.2 != bt435.2) = true then (some false) else (if bt433.1 = bt435.1 then (if (bt437.2 != bt439.2) = true then (some false) else (if bt437.1 = bt439.1 then (if (bt437.2 != bt433.2) = true then (some false) else (if t423 = true then (if t426 > (wrap64 (t422 + 1)) then (if t421 > 0 then (some false) else (if (wrap64 (2 * t422)) < t420 then (some false) else (laws_FnLaundryLost.j5 kj25 t420 t421 t422 t430 t431 t432 bt433.1 bt433.2 bt437.1 (decide ((wrap64 (2 * t426)) < t420))))) else (if (wrap64 (2 * t422)) < t420 then (some false) else (laws_FnLaundryLost.j5 kj25 t420 t421 t422 t430 t431 t432 bt433.1 bt433.2 bt437.1 (decide ((wrap64 (2 * t426)) < t420))))) else (laws_FnLaundryLost.j9 kj25 t430 t431 t432 bt433.1 bt433.2 bt437.1))) else (some false))) else (some false)))) else (some false))) else (some false)))) else (some false))) else (some false)) else (some false))))))) = some true := H
    have A76 := Aside0.mk A760
    clear A760
    replace H := Option.bind_eq_some_iff.mp H
    obtain ⟨⟨t433, t434⟩, A770, H⟩ := H
    replace H : ((spec_WashingsAtWorst.f t430 t431 t432).bind fun bt435 => ((impl_WashingsAtBest.f kj25 t430 t431 t432).bind fun bt437 => ((spec_WashingsAtBest.f t430 t431 t432).bind fun bt439 => (if (t412 != t415) = true then (some false) else (if t410 = t413 then (if t411 = t414 then (if (t417 != t419) = true then (some false) else (if t416 = t418 then (if (t417 != t412) = true then (some false) else (if (t423 != t425) = true then (some false) else (if t422 = t424 then (if (t427 != t429) = true then (some false) else (if t426 = t428 then (if (t427 != t423) = true then (some false) else (if (t434 != bt435.2) = true then (some false) else (if t433 = bt435.1 then (if (bt437.2 != bt439.2) = true then (some false) else (if bt437.1 = bt439.1 then (if (bt437.2 != t434) = true then (some false) else (if t423 = true then (if t426 > (wrap64 (t422 + 1)) then (if t421 > 0 then (some false) else (if (wrap64 (2 * t422)) < t420 then (some false) else (laws_FnLaundryLost.j5 kj25 t420 t421 t422 t430 t431 t432 t433 t434 bt437.1 (decide ((wrap64 (2 * t426)) < t420))))) else (if (wrap64 (2 * t422)) < t420 then (some false) else (laws_FnLaundryLost.j5 kj25 t420 t421 t422 t430 t431 t432 t433 t434 bt437.1 (decide ((wrap64 (2 * t426)) < t420))))) else (laws_FnLaundryLost.j9 kj25 t430 t431 t432 t433 t434 bt437.1))) else (some false))) else (some false)))) else (some false))) else (some false)))) else (some false))) else (some false)) else (some false)))))) = some true := H
    have A77 := Aside0.mk A770
    clear A770
    replace H := Option.bind_eq_some_iff.mp H
    obtain ⟨⟨t435, t436⟩, A780, H⟩ := H
    replace H : ((impl_WashingsAtBest.f kj25 t430 t431 t432).bind fun bt437 => ((spec_WashingsAtBest.f t430 t431 t432).bind fun bt439 => (if (t412 != t415) = true then (some false) else (if t410 = t413 then (if t411 = t414 then (if (t417 != t419) = true then (some false) else (if t416 = t418 then (if (t417 != t412) = true then (some false) else (if (t423 != t425) = true then (some false) else (if t422 = t424 then (if (t427 != t429) = true then (some false) else (if t426 = t428 then (if (t427 != t423) = true then (some false) else (if (t434 != t436) = true then (some false) else (if t433 = t435 then (if (bt437.2 != bt439.2) = true then (some false) else (if bt437.1 = bt439.1 then (if (bt437.2 != t434) = true then (some false) else (if t423 = true then (if t426 > (wrap64 (t422 + 1)) then (if t421 > 0 then (some false) else (if (wrap64 (2 * t422)) < t420 then (some false) else (laws_FnLaundryLost.j5 kj25 t420 t421 t422 t430 t431 t432 t433 t434 bt437.1 (decide ((wrap64 (2 * t426)) < t420))))) else (if (wrap64 (2 * t422)) < t420 then (some false) else (laws_FnLaundryLost.j5 kj25 t420 t421 t422 t430 t431 t432 t433 t434 bt437.1 (decide ((wrap64 (2 * t426)) < t420))))) else (laws_FnLaundryLost.j9 kj25 t430 t431 t432 t433 t434 bt437.1))) else (some false))) else (some false)))) else (some false))) else (some false)))) else (some false))) else (some false)) else (some false))))) = some true := H
    have A78 := Aside0.mk A780
    clear A780
    replace H := Option.bind_eq_some_iff.mp H
    obtain ⟨⟨t437, t438⟩, A790, H⟩ := H
    replace H : ((spec_WashingsAtBest.f t430 t431 t432).bind fun bt439 => (if (t412 != t415) = true then (some false) else (if t410 = t413 then (if t411 = t414 then (if (t417 != t419) = true then (some false) else (if t416 = t418 then (if (t417 != t412) = true then (some false) else (if (t423 != t425) = true then (some false) else (if t422 = t424 then (if (t427 != t429) = true then (some false) else (if t426 = t428 then (if (t427 != t423) = true then (some false) else (if (t434 != t436) = true then (some false) else (if t433 = t435 then (if (t438 != bt439.2) = true then (some false) else (if t437 = bt439.1 then (if (t438 != t434) = true then (some false) else (if t423 = true then (if t426 > (wrap64 (t422 + 1)) then (if t421 > 0 then (some false) else (if (wrap64 (2 * t422)) < t420 then (some false) else (laws_FnLaundryLost.j5 kj25 t420 t421 t422 t430 t431 t432 t433 t434 t437 (decide ((wrap64 (2 * t426)) < t420))))) else (if (wrap64 (2 * t422)) < t420 then (some false) else (laws_FnLaundryLost.j5 kj25 t420 t421 t422 t430 t431 t432 t433 t434 t437 (decide ((wrap64 (2 * t426)) < t420))))) else (laws_FnLaundryLost.j9 kj25 t430 t431 t432 t433 t434 t437))) else (some false))) else (some false)))) else (some false))) else (some false)))) else (some false))) else (some false)) else (some false)))) = some true := H
    have A79 := Aside0.mk A790
    clear A790
    replace H := Option.bind_eq_some_iff.mp H
    obtain ⟨⟨t439, t440⟩, A800, H⟩ := H
    replace H : (if (t412 != t415) = true then (some false) else (if t410 = t413 then (if t411 = t414 then (if (t417 != t419) = true then (some false) else (if t416 = t418 then (if (t417 != t412) = true then (some false) else (if (t423 != t425) = true then (some false) else (if t422 = t424 then (if (t427 != t429) = true then (some false) else (if t426 = t428 then (if (t427 != t423) = true then (some false) else (if (t434 != t436) = true then (some false) else (if t433 = t435 then (if (t438 != t440) = true then (some false) else (if t437 = t439 then (if (t438 != t434) = true then (some false) else (if t423 = true then (if t426 > (wrap64 (t422 + 1)) then (if t421 > 0 then (some false) else (if (wrap64 (2 * t422)) < t420 then (some false) else (laws_FnLaundryLost.j5 kj25 t420 t421 t422 t430 t431 t432 t433 t434 t437 (decide ((wrap64 (2 * t426)) < t420))))) else (if (wrap64 (2 * t422)) < t420 then (some false) else (laws_FnLaundryLost.j5 kj25 t420 t421 t422 t430 t431 t432 t433 t434 t437 (decide ((wrap64 (2 * t426)) < t420))))) else (laws_FnLaundryLost.j9 kj25 t430 t431 t432 t433 t434 t437))) else (some false))) else (some false)))) else (some false))) else (some false)))) else (some false))) else (some false)) else (some false))) = some true := H
    have A80 := Aside0.mk A800
    clear A800
    by_cases c81 : (t412 != t415) = true
    ·rw [if_pos c81] at H
     have c81b0 : (t412 != t415) = true := c81
     (try (have c81b1 : decide (t412 = t415) = false := by simpa using c81))
     (try (have c81b2 : (t412 == t415) = false := by simpa using c81))
     (try (have c81b3 : ¬ (t412 = t415) := by simpa using c81))
     clear c81
     exact absurd H (by simp)
    rw [if_neg c81] at H
    have c81b0 : (t412 != t415) = false := by simpa using c81
    (try (have c81b1 : decide (t412 = t415) = true := by simpa using c81))
    (try (have c81b2 : (t412 == t415) = true := by simpa using c81))
    clear c81
    by_cases c82 : t410 = t413
    rotate_left
    ·rw [if_neg c82] at H
     have c82b0 : (t410 == t413) = false := beq_eq_false_iff_ne.mpr c82
     have c82b1 : (t410 != t413) = true := bne_iff_ne.mpr c82
     exact absurd H (by simp)
    rw [if_pos c82] at H
    have c82b0 : (t410 == t413) = true := beq_iff_eq.mpr c82
    have c82b1 : (t410 != t413) = false := bne_eq_false_iff_eq.mpr c82
    clear c82
    by_cases c83 : t411 = t414
    rotate_left
    ·rw [if_neg c83] at H
     have c83b0 : (t411 == t414) = false := beq_eq_false_iff_ne.mpr c83
     have c83b1 : (t411 != t414) = true := bne_iff_ne.mpr c83
     exact absurd H (by simp)
    rw [if_pos c83] at H
    have c83b0 : (t411 == t414) = true := beq_iff_eq.mpr c83
    have c83b1 : (t411 != t414) = false := bne_eq_false_iff_eq.mpr c83
    clear c83
    by_cases c84 : (t417 != t419) = true
    ·rw [if_pos c84] at H
     have c84b0 : (t417 != t419) = true := c84
     (try (have c84b1 : decide (t417 = t419) = false := by simpa using c84))
     (try (have c84b2 : (t417 == t419) = false := by simpa using c84))
     (try (have c84b3 : ¬ (t417 = t419) := by simpa using c84))
     clear c84
     exact absurd H (by simp)
    rw [if_neg c84] at H
    have c84b0 : (t417 != t419) = false := by simpa using c84
    (try (have c84b1 : decide (t417 = t419) = true := by simpa using c84))
    (try (have c84b2 : (t417 == t419) = true := by simpa using c84))
    clear c84
    by_cases c85 : t416 = t418
    rotate_left
    ·rw [if_neg c85] at H
     have c85b0 : (t416 == t418) = false := beq_eq_false_iff_ne.mpr c85
     have c85b1 : (t416 != t418) = true := bne_iff_ne.mpr c85
     exact absurd H (by simp)
    rw [if_pos c85] at H
    have c85b0 : (t416 == t418) = true := beq_iff_eq.mpr c85
    have c85b1 : (t416 != t418) = false := bne_eq_false_iff_eq.mpr c85
    clear c85
    by_cases c86 : (t417 != t412) = true
    ·rw [if_pos c86] at H
     have c86b0 : (t417 != t412) = true := c86
     (try (have c86b1 : decide (t417 = t412) = false := by simpa using c86))
     (try (have c86b2 : (t417 == t412) = false := by simpa using c86))
     (try (have c86b3 : ¬ (t417 = t412) := by simpa using c86))
     clear c86
     exact absurd H (by simp)
    rw [if_neg c86] at H
    have c86b0 : (t417 != t412) = false := by simpa using c86
    (try (have c86b1 : decide (t417 = t412) = true := by simpa using c86))
    (try (have c86b2 : (t417 == t412) = true := by simpa using c86))
    clear c86
    by_cases c87 : (t423 != t425) = true
    ·rw [if_pos c87] at H
     have c87b0 : (t423 != t425) = true := c87
     (try (have c87b1 : decide (t423 = t425) = false := by simpa using c87))
     (try (have c87b2 : (t423 == t425) = false := by simpa using c87))
     (try (have c87b3 : ¬ (t423 = t425) := by simpa using c87))
     clear c87
     exact absurd H (by simp)
    rw [if_neg c87] at H
    have c87b0 : (t423 != t425) = false := by simpa using c87
    (try (have c87b1 : decide (t423 = t425) = true := by simpa using c87))
    (try (have c87b2 : (t423 == t425) = true := by simpa using c87))
    clear c87
    by_cases c88 : t422 = t424
    rotate_left
    ·rw [if_neg c88] at H
     have c88b0 : (t422 == t424) = false := beq_eq_false_iff_ne.mpr c88
     have c88b1 : (t422 != t424) = true := bne_iff_ne.mpr c88
     exact absurd H (by simp)
    rw [if_pos c88] at H
    have c88b0 : (t422 == t424) = true := beq_iff_eq.mpr c88
    have c88b1 : (t422 != t424) = false := bne_eq_false_iff_eq.mpr c88
    clear c88
    by_cases c89 : (t427 != t429) = true
    ·rw [if_pos c89] at H
     have c89b0 : (t427 != t429) = true := c89
     (try (have c89b1 : decide (t427 = t429) = false := by simpa using c89))
     (try (have c89b2 : (t427 == t429) = false := by simpa using c89))
     (try (have c89b3 : ¬ (t427 = t429) := by simpa using c89))
     clear c89
     exact absurd H (by simp)
    rw [if_neg c89] at H
    have c89b0 : (t427 != t429) = false := by simpa using c89
    (try (have c89b1 : decide (t427 = t429) = true := by simpa using c89))
    (try (have c89b2 : (t427 == t429) = true := by simpa using c89))
    clear c89
    by_cases c90 : t426 = t428
    rotate_left
    ·rw [if_neg c90] at H
     have c90b0 : (t426 == t428) = false := beq_eq_false_iff_ne.mpr c90
     have c90b1 : (t426 != t428) = true := bne_iff_ne.mpr c90
     exact absurd H (by simp)
    rw [if_pos c90] at H
    have c90b0 : (t426 == t428) = true := beq_iff_eq.mpr c90
    have c90b1 : (t426 != t428) = false := bne_eq_false_iff_eq.mpr c90
    clear c90
    by_cases c91 : (t427 != t423) = true
    ·rw [if_pos c91] at H
     have c91b0 : (t427 != t423) = true := c91
     (try (have c91b1 : decide (t427 = t423) = false := by simpa using c91))
     (try (have c91b2 : (t427 == t423) = false := by simpa using c91))
     (try (have c91b3 : ¬ (t427 = t423) := by simpa using c91))
     clear c91
     exact absurd H (by simp)
    rw [if_neg c91] at H
    have c91b0 : (t427 != t423) = false := by simpa using c91
    (try (have c91b1 : decide (t427 = t423) = true := by simpa using c91))
    (try (have c91b2 : (t427 == t423) = true := by simpa using c91))
    clear c91
    by_cases c92 : (t434 != t436) = true
    ·rw [if_pos c92] at H
     have c92b0 : (t434 != t436) = true := c92
     (try (have c92b1 : decide (t434 = t436) = false := by simpa using c92))
     (try (have c92b2 : (t434 == t436) = false := by simpa using c92))
     (try (have c92b3 : ¬ (t434 = t436) := by simpa using c92))
     clear c92
     exact absurd H (by simp)
    rw [if_neg c92] at H
    have c92b0 : (t434 != t436) = false := by simpa using c92
    (try (have c92b1 : decide (t434 = t436) = true := by simpa using c92))
    (try (have c92b2 : (t434 == t436) = true := by simpa using c92))
    clear c92
    by_cases c93 : t433 = t435
    rotate_left
    ·rw [if_neg c93] at H
     have c93b0 : (t433 == t435) = false := beq_eq_false_iff_ne.mpr c93
     have c93b1 : (t433 != t435) = true := bne_iff_ne.mpr c93
     exact absurd H (by simp)
    rw [if_pos c93] at H
    have c93b0 : (t433 == t435) = true := beq_iff_eq.mpr c93
    have c93b1 : (t433 != t435) = false := bne_eq_false_iff_eq.mpr c93
    clear c93
    by_cases c94 : (t438 != t440) = true
    ·rw [if_pos c94] at H
     have c94b0 : (t438 != t440) = true := c94
     (try (have c94b1 : decide (t438 = t440) = false := by simpa using c94))
     (try (have c94b2 : (t438 == t440) = false := by simpa using c94))
     (try (have c94b3 : ¬ (t438 = t440) := by simpa using c94))
     clear c94
     exact absurd H (by simp)
    rw [if_neg c94] at H
    have c94b0 : (t438 != t440) = false := by simpa using c94
    (try (have c94b1 : decide (t438 = t440) = true := by simpa using c94))
    (try (have c94b2 : (t438 == t440) = true := by simpa using c94))
    clear c94
    by_cases c95 : t437 = t439
    rotate_left
    ·rw [if_neg c95] at H
     have c95b0 : (t437 == t439) = false := beq_eq_false_iff_ne.mpr c95
     have c95b1 : (t437 != t439) = true := bne_iff_ne.mpr c95
     exact absurd H (by simp)
    rw [if_pos c95] at H
    have c95b0 : (t437 == t439) = true := beq_iff_eq.mpr c95
    have c95b1 : (t437 != t439) = false := bne_eq_false_iff_eq.mpr c95
    clear c95
    by_cases c96 : (t438 != t434) = true
    ·rw [if_pos c96] at H
     have c96b0 : (t438 != t434) = true := c96
     (try (have c96b1 : decide (t438 = t434) = false := by simpa using c96))
     (try (have c96b2 : (t438 == t434) = false := by simpa using c96))
     (try (have c96b3 : ¬ (t438 = t434) := by simpa using c96))
     clear c96
     exact absurd H (by simp)
    rw [if_neg c96] at H
    have c96b0 : (t438 != t434) = false := by simpa using c96
    (try (have c96b1 : decide (t438 = t434) = true := by simpa using c96))
    (try (have c96b2 : (t438 == t434) = true := by simpa using c96))
    clear c96
    have HC97 := Aside0.mk H
    clear H
    go_upto_if 526 with (first | ((with_reducible refine gate_callee (f := 20) rfl ?_); refine goesL_ (some 351) rfl rfl Try.func20 (by kernel_rfl) rfl #[.slice A1 l1.length c1] rfl (by (try simp only [List.map_toArray, List.map_cons, List.map_nil]); first | done | rfl | (simp only [List.length_drop, List.length_take]; rfl)) ?_; (with_reducible refine (spec_DrawChanceComplete.calls _ _ l1 t407 t408 t409 _ ?side1 ?side2 A66.out).mono ?_); (case side1 => repeat (first | exact (Kd.C_below HR1.out HB.out) | (with_reducible refine Kd.C_alloc ?_ _) | (with_reducible refine Kd.C_drewN ?_ _) | (with_reducible refine Kd.C_drew ?_))); (case side2 => exact HC1.out); rintro e w98 ⟨rfl, hb⟩; refine ⟨_, rfl, ?_⟩; have n0_ := Aside0.mk (below_step (by repeat (first | (with_reducible first | exact HB.out | apply below_alloc | apply pw_below_drewN | apply below_drew1) | exact HB.out)) hb); clear HB; have HB := n0_; clear n0_; (try clear hb); (try clear hb2); (try clear hk); (try clear hi)) | ((with_reducible refine gate_callee (f := 19) rfl ?_); refine goesL_ (some 359) rfl rfl Try.func19 (by kernel_rfl) rfl #[.int .i64 t407, .int .i64 t408, .int .i64 t409] rfl (by (try simp only [List.map_toArray, List.map_cons, List.map_nil]); first | done | rfl | (simp only [List.length_drop, List.length_take]; rfl)) ?_; (with_reducible refine (impl_ChanceComplete.calls kj25 t407 t408 t409 t410 t411 t412 _ A67.out).mono ?_); rintro e w99 ⟨rfl, hb⟩; refine ⟨_, rfl, ?_⟩; have n0_ := Aside0.mk (below_step (by repeat (first | (with_reducible first | exact HB.out | apply below_alloc | apply pw_below_drewN | apply below_drew1) | exact HB.out)) hb); clear HB; have HB := n0_; clear n0_; (try clear hb); (try clear hb2); (try clear hk); (try clear hi)) | ((with_reducible refine gate_callee (f := 21) rfl ?_); refine goesL_ (some 367) rfl rfl Try.func21 (by kernel_rfl) rfl #[.int .i64 t407, .int .i64 t408, .int .i64 t409] rfl (by (try simp only [List.map_toArray, List.map_cons, List.map_nil]); first | done | rfl | (simp only [List.length_drop, List.length_take]; rfl)) ?_; (with_reducible refine (spec_ChanceComplete.calls kj25 t407 t408 t409 t413 t414 t415 _ A68.out).mono ?_); rintro e w' ⟨rfl, ⟨nd, rfl⟩⟩; refine ⟨_, rfl, ?_⟩) | ((with_reducible refine gate_callee (f := 17) rfl ?_); refine goesL_ (some 375) rfl rfl Try.func17 (by kernel_rfl) rfl #[.int .i64 t407, .int .i64 t408, .int .i64 t409] rfl (by (try simp only [List.map_toArray, List.map_cons, List.map_nil]); first | done | rfl | (simp only [List.length_drop, List.length_take]; rfl)) ?_; (with_reducible refine (impl_CountLosses.calls kj25 t407 t408 t409 t416 t417 _ A69.out).mono ?_); rintro e w100 ⟨rfl, hb⟩; refine ⟨_, rfl, ?_⟩; have n0_ := Aside0.mk (below_step (by repeat (first | (with_reducible first | exact HB.out | apply below_alloc | apply pw_below_drewN | apply below_drew1) | exact HB.out)) hb); clear HB; have HB := n0_; clear n0_; (try clear hb); (try clear hb2); (try clear hk); (try clear hi)) | ((with_reducible refine gate_callee (f := 22) rfl ?_); refine goesL_ (some 382) rfl rfl Try.func22 (by kernel_rfl) rfl #[.int .i64 t407, .int .i64 t408, .int .i64 t409] rfl (by (try simp only [List.map_toArray, List.map_cons, List.map_nil]); first | done | rfl | (simp only [List.length_drop, List.length_take]; rfl)) ?_; (with_reducible refine (spec_CountLosses.calls kj25 t407 t408 t409 t418 t419 _ A70.out).mono ?_); rintro e w' ⟨rfl, ⟨nd, rfl⟩⟩; refine ⟨_, rfl, ?_⟩) | ((with_reducible refine gate_callee (f := 23) rfl ?_); refine goesL_ (some 387) rfl rfl Try.func23 (by kernel_rfl) rfl #[.slice A1 l1.length c1] rfl (by (try simp only [List.map_toArray, List.map_cons, List.map_nil]); first | done | rfl | (simp only [List.length_drop, List.length_take]; rfl)) ?_; (with_reducible refine (spec_DrawPairsToBuy.calls _ _ l1 t420 t421 _ ?side1 ?side2 A71.out).mono ?_); (case side1 => repeat (first | exact (Kd.C_below HR1.out (by repeat (first | (with_reducible first | exact HB.out | apply below_alloc | apply pw_below_drewN | apply below_drew1) | exact HB.out))) | (with_reducible refine Kd.C_alloc ?_ _) | (with_reducible refine Kd.C_drewN ?_ _) | (with_reducible refine Kd.C_drew ?_))); (case side2 => exact HC1.out); rintro e w101 ⟨rfl, hb⟩; refine ⟨_, rfl, ?_⟩; have n0_ := Aside0.mk (below_step (by repeat (first | (with_reducible first | exact HB.out | apply below_alloc | apply pw_below_drewN | apply below_drew1) | exact HB.out)) hb); clear HB; have HB := n0_; clear n0_; (try clear hb); (try clear hb2); (try clear hk); (try clear hi)) | ((with_reducible refine gate_callee (f := 24) rfl ?_); refine goesL_ (some 393) rfl rfl Try.func24 (by kernel_rfl) rfl #[.int .i64 t420, .int .i64 t421] rfl (by (try simp only [List.map_toArray, List.map_cons, List.map_nil]); first | done | rfl | (simp only [List.length_drop, List.length_take]; rfl)) ?_; (with_reducible refine (impl_PairsToBuy.calls t420 t421 t422 t423 _ A72.out).mono ?_); rintro e w' ⟨rfl, ⟨nd, rfl⟩⟩; refine ⟨_, rfl, ?_⟩) | ((with_reducible refine gate_callee (f := 25) rfl ?_); refine goesL_ (some 399) rfl rfl Try.func25 (by kernel_rfl) rfl #[.int .i64 t420, .int .i64 t421] rfl (by (try simp only [List.map_toArray, List.map_cons, List.map_nil]); first | done | rfl | (simp only [List.length_drop, List.length_take]; rfl)) ?_; (with_reducible refine (spec_PairsToBuy.calls t420 t421 t424 t425 _ A73.out).mono ?_); rintro e w' ⟨rfl, ⟨nd, rfl⟩⟩; refine ⟨_, rfl, ?_⟩) | ((with_reducible refine gate_callee (f := 26) rfl ?_); refine goesL_ (some 405) rfl rfl Try.func26 (by kernel_rfl) rfl #[.int .i64 t420, .int .i64 t421] rfl (by (try simp only [List.map_toArray, List.map_cons, List.map_nil]); first | done | rfl | (simp only [List.length_drop, List.length_take]; rfl)) ?_; (with_reducible refine (impl_AlikeToBuy.calls t420 t421 t426 t427 _ A74.out).mono ?_); rintro e w' ⟨rfl, ⟨nd, rfl⟩⟩; refine ⟨_, rfl, ?_⟩) | ((with_reducible refine gate_callee (f := 27) rfl ?_); refine goesL_ (some 411) rfl rfl Try.func27 (by kernel_rfl) rfl #[.int .i64 t420, .int .i64 t421] rfl (by (try simp only [List.map_toArray, List.map_cons, List.map_nil]); first | done | rfl | (simp only [List.length_drop, List.length_take]; rfl)) ?_; (with_reducible refine (spec_AlikeToBuy.calls t420 t421 t428 t429 _ A75.out).mono ?_); rintro e w' ⟨rfl, ⟨nd, rfl⟩⟩; refine ⟨_, rfl, ?_⟩) | ((with_reducible refine gate_callee (f := 28) rfl ?_); refine goesL_ (some 416) rfl rfl Try.func28 (by kernel_rfl) rfl #[.slice A1 l1.length c1] rfl (by (try simp only [List.map_toArray, List.map_cons, List.map_nil]); first | done | rfl | (simp only [List.length_drop, List.length_take]; rfl)) ?_; (with_reducible refine (spec_DrawWashingsAtWorst.calls _ _ l1 t430 t431 t432 _ ?side1 ?side2 A76.out).mono ?_); (case side1 => repeat (first | exact (Kd.C_below HR1.out (by repeat (first | (with_reducible first | exact HB.out | apply below_alloc | apply pw_below_drewN | apply below_drew1) | exact HB.out))) | (with_reducible refine Kd.C_alloc ?_ _) | (with_reducible refine Kd.C_drewN ?_ _) | (with_reducible refine Kd.C_drew ?_))); (case side2 => exact HC1.out); rintro e w102 ⟨rfl, hb⟩; refine ⟨_, rfl, ?_⟩; have n0_ := Aside0.mk (below_step (by repeat (first | (with_reducible first | exact HB.out | apply below_alloc | apply pw_below_drewN | apply below_drew1) | exact HB.out)) hb); clear HB; have HB := n0_; clear n0_; (try clear hb); (try clear hb2); (try clear hk); (try clear hi)) | ((with_reducible refine gate_callee (f := 29) rfl ?_); refine goesL_ (some 424) rfl rfl Try.func29 (by kernel_rfl) rfl #[.int .i64 t430, .int .i64 t431, .int .i64 t432] rfl (by (try simp only [List.map_toArray, List.map_cons, List.map_nil]); first | done | rfl | (simp only [List.length_drop, List.length_take]; rfl)) ?_; (with_reducible refine (impl_WashingsAtWorst.calls kj25 t430 t431 t432 t433 t434 _ A77.out).mono ?_); rintro e w103 ⟨rfl, hb⟩; refine ⟨_, rfl, ?_⟩; have n0_ := Aside0.mk (below_step (by repeat (first | (with_reducible first | exact HB.out | apply below_alloc | apply pw_below_drewN | apply below_drew1) | exact HB.out)) hb); clear HB; have HB := n0_; clear n0_; (try clear hb); (try clear hb2); (try clear hk); (try clear hi)) | ((with_reducible refine gate_callee (f := 30) rfl ?_); refine goesL_ (some 431) rfl rfl Try.func30 (by kernel_rfl) rfl #[.int .i64 t430, .int .i64 t431, .int .i64 t432] rfl (by (try simp only [List.map_toArray, List.map_cons, List.map_nil]); first | done | rfl | (simp only [List.length_drop, List.length_take]; rfl)) ?_; (with_reducible refine (spec_WashingsAtWorst.calls t430 t431 t432 t435 t436 _ A78.out).mono ?_); rintro e w' ⟨rfl, ⟨nd, rfl⟩⟩; refine ⟨_, rfl, ?_⟩) | ((with_reducible refine gate_callee (f := 31) rfl ?_); refine goesL_ (some 438) rfl rfl Try.func31 (by kernel_rfl) rfl #[.int .i64 t430, .int .i64 t431, .int .i64 t432] rfl (by (try simp only [List.map_toArray, List.map_cons, List.map_nil]); first | done | rfl | (simp only [List.length_drop, List.length_take]; rfl)) ?_; (with_reducible refine (impl_WashingsAtBest.calls kj25 t430 t431 t432 t437 t438 _ A79.out).mono ?_); rintro e w104 ⟨rfl, hb⟩; refine ⟨_, rfl, ?_⟩; have n0_ := Aside0.mk (below_step (by repeat (first | (with_reducible first | exact HB.out | apply below_alloc | apply pw_below_drewN | apply below_drew1) | exact HB.out)) hb); clear HB; have HB := n0_; clear n0_; (try clear hb); (try clear hb2); (try clear hk); (try clear hi)) | ((with_reducible refine gate_callee (f := 32) rfl ?_); refine goesL_ (some 445) rfl rfl Try.func32 (by kernel_rfl) rfl #[.int .i64 t430, .int .i64 t431, .int .i64 t432] rfl (by (try simp only [List.map_toArray, List.map_cons, List.map_nil]); first | done | rfl | (simp only [List.length_drop, List.length_take]; rfl)) ?_; (with_reducible refine (spec_WashingsAtBest.calls t430 t431 t432 t439 t440 _ A80.out).mono ?_); rintro e w' ⟨rfl, ⟨nd, rfl⟩⟩; refine ⟨_, rfl, ?_⟩))
    (try simp only [Act.put, List.setIfInBounds_toArray, List.set_cons_zero, List.set_cons_succ])
    refine wp_cutM cutMarks2 (fun ns wc => ∃ (kq : Nat), Aside0 (laws_FnLaundryLost.j9 kq t430 t431 t432 t433 t434 t437 = some true) ∧ Aside0 (kq ≤ kj25) ∧ Aside0 (Below w.heap.size w wc)) ?_ ?_
    next => as_aux_lemma =>
     intro _ _ hmeet _
     have H := HC97.out
     clear HC97
     by_cases c105 : t423 = true
     ·subst c105
      have H1 : (if t426 > (wrap64 (t422 + 1)) then (if t421 > 0 then (some false) else (if (wrap64 (2 * t422)) < t420 then (some false) else (laws_FnLaundryLost.j5 kj25 t420 t421 t422 t430 t431 t432 t433 t434 t437 (decide ((wrap64 (2 * t426)) < t420))))) else (if (wrap64 (2 * t422)) < t420 then (some false) else (laws_FnLaundryLost.j5 kj25 t420 t421 t422 t430 t431 t432 t433 t434 t437 (decide ((wrap64 (2 * t426)) < t420))))) = some true := by first | (rw [if_pos rfl] at H; exact H) | rfl
      clear H
      have H := H1
      clear H1
      have HC106 := Aside0.mk H
      clear H
      go_upto_region 60 with (fail)
      refine wp_cutM cutMarks3 (fun ns wc => ∃ (v546 : Value), ns = [v546] ∧ ∃ (kq : Nat) (x546_105 : Bool), v546 = .bool x546_105 ∧ Aside0 (laws_FnLaundryLost.j5 kq t420 t421 t422 t430 t431 t432 t433 t434 t437 x546_105 = some true) ∧ Aside0 (kq ≤ kj25) ∧ Aside0 (Below w.heap.size w wc)) ?_ ?_
      next => as_aux_lemma =>
       intro _ _ hmeet _
       have H := HC106.out
       clear HC106
       by_cases c107 : t426 > (wrap64 (t422 + 1))
       ·rw [if_pos c107] at H
        have c107b0 : decide ((wrap64 (t422 + 1)) < t426) = true := decide_eq_true c107
        clear c107
        (first | rw [c107b0] | (simp only [i64_w, i32_w]; rw [c107b0]) | skip)
        by_cases c108 : t421 > 0
        ·rw [if_pos c108] at H
         have c108b0 : decide (0 < t421) = true := decide_eq_true c108
         clear c108
         exact absurd H (by simp)
        rw [if_neg c108] at H
        have c108b0 : decide (0 < t421) = false := decide_eq_false c108
        clear c108
        by_cases c109 : (wrap64 (2 * t422)) < t420
        ·rw [if_pos c109] at H
         have c109b0 : decide ((wrap64 (2 * t422)) < t420) = true := decide_eq_true c109
         clear c109
         exact absurd H (by simp)
        rw [if_neg c109] at H
        have c109b0 : decide ((wrap64 (2 * t422)) < t420) = false := decide_eq_false c109
        clear c109
        have H' := Aside0.mk H
        clear H
        go_wp2
        refine Met.intro (hmeet _ _ rfl rfl ?_)
        refine ⟨_, rfl, ?_⟩
        exact ⟨_, (decide ((wrap64 (2 * t426)) < t420)), (by first | rfl | (simp; done) | (simp [*]; done)), H', ⟨by have := HJ25.out; first | omega | exact Nat.le_refl _⟩, ⟨by repeat (first | (with_reducible first | exact HB.out | apply below_alloc | apply pw_below_drewN | apply below_drew1) | exact HB.out)⟩⟩
       ·rw [if_neg c107] at H
        have c107b0 : decide ((wrap64 (t422 + 1)) < t426) = false := decide_eq_false c107
        clear c107
        (first | rw [c107b0] | (simp only [i64_w, i32_w]; rw [c107b0]) | skip)
        by_cases c110 : (wrap64 (2 * t422)) < t420
        ·rw [if_pos c110] at H
         have c110b0 : decide ((wrap64 (2 * t422)) < t420) = true := decide_eq_true c110
         clear c110
         exact absurd H (by simp)
        rw [if_neg c110] at H
        have c110b0 : decide ((wrap64 (2 * t422)) < t420) = false := decide_eq_false c110
        clear c110
        have H' := Aside0.mk H
        clear H
        go_wp2
        refine Met.intro (hmeet _ _ rfl rfl ?_)
        refine ⟨_, rfl, ?_⟩
        exact ⟨_, (decide ((wrap64 (2 * t426)) < t420)), (by first | rfl | (simp; done) | (simp [*]; done)), H', ⟨by have := HJ25.out; first | omega | exact Nat.le_refl _⟩, ⟨by repeat (first | (with_reducible first | exact HB.out | apply below_alloc | apply pw_below_drewN | apply below_drew1) | exact HB.out)⟩⟩
      next => as_aux_lemma =>
       intro ns g wc hcut
       obtain ⟨v546, rfl, hcut⟩ := hcut
       dsimp only [cutG, Nat.reduceAdd, cutMarks3]
       clear HC106
       try clear c1
       try clear c2
       try clear p2
       try clear c3
       try clear c4
       try clear c5
       try clear c6
       try clear p6
       try clear c7
       try clear c8
       try clear c9
       try clear c10
       try clear c11
       try clear c12
       try clear c13
       try clear c14
       try clear c14b0
       try clear c14b1
       try clear c14b2
       try clear c15
       try clear c15b0
       try clear c15b1
       try clear c16
       try clear c16b0
       try clear c16b1
       try clear c17
       try clear c17b0
       try clear c17b1
       try clear c17b2
       try clear c18
       try clear c18b0
       try clear c18b1
       try clear c19
       try clear c19b0
       try clear c19b1
       try clear c19b2
       try clear c20
       try clear c20b0
       try clear c20b1
       try clear c21
       try clear c21b0
       try clear c21b1
       try clear c21b2
       try clear c22
       try clear c22b0
       try clear c22b1
       try clear c23
       try clear c23b0
       try clear c23b1
       try clear c23b2
       try clear c24
       try clear c24b0
       try clear c24b1
       try clear c24b2
       try clear c25
       try clear c25b0
       try clear c25b1
       try clear c25b2
       try clear c26
       try clear c27
       try clear c28
       try clear c29
       try clear c30
       try clear c31
       try clear c31b0
       try clear c32
       try clear c35
       try clear c36
       try clear c36b0
       try clear c37
       try clear c38
       try clear c38b0
       try clear c41
       try clear c42
       try clear c42b0
       try clear c43
       try clear c43b0
       try clear c43b1
       try clear c44
       try clear c44b0
       try clear c44b1
       try clear c45
       try clear c45b0
       try clear c45b1
       try clear c46
       try clear c47
       try clear c47b0
       try clear c47b1
       try clear c49
       try clear c49b0
       try clear c51
       try clear c52
       try clear c52b0
       try clear c52b1
       try clear c54
       try clear c54b0
       try clear c57
       try clear c58
       try clear c60
       try clear c61
       try clear c61b0
       try clear c61b1
       try clear c62
       try clear c62b0
       try clear c62b1
       try clear c63
       try clear c63b0
       try clear c63b1
       try clear p64
       try clear c81
       try clear c81b0
       try clear c81b1
       try clear c81b2
       try clear c82
       try clear c82b0
       try clear c82b1
       try clear c83
       try clear c83b0
       try clear c83b1
       try clear c84
       try clear c84b0
       try clear c84b1
       try clear c84b2
       try clear c85
       try clear c85b0
       try clear c85b1
       try clear c86
       try clear c86b0
       try clear c86b1
       try clear c86b2
       try clear c87
       try clear c87b0
       try clear c87b1
       try clear c87b2
       try clear c88
       try clear c88b0
       try clear c88b1
       try clear c89
       try clear c89b0
       try clear c89b1
       try clear c89b2
       try clear c90
       try clear c90b0
       try clear c90b1
       try clear c91
       try clear c91b0
       try clear c91b1
       try clear c91b2
       try clear c92
       try clear c92b0
       try clear c92b1
       try clear c92b2
       try clear c93
       try clear c93b0
       try clear c93b1
       try clear c94
       try clear c94b0
       try clear c94b1
       try clear c94b2
       try clear c95
       try clear c95b0
       try clear c95b1
       try clear c96
       try clear c96b0
       try clear c96b1
       try clear c96b2
       try clear c105
       try clear c107
       try clear c107b0
       try clear c108
       try clear c108b0
       try clear c109
       try clear c109b0
       try clear c110
       try clear c110b0
       try clear p2
       try clear p6
       try clear p64
       obtain ⟨kq, x546_105, rfl, HA, HJ105, HB⟩ := hcut
       cases kq with
       | zero => exact absurd HA.out (by simp [laws_FnLaundryLost.j5])
       | succ kj105 =>
        have H := HA.out
        clear HA
        simp only [laws_FnLaundryLost.j5] at H
        by_cases c111 : x546_105 = true
        ·subst c111
         have H1 : (some false) = some true := by first | (rw [if_pos rfl] at H; exact H) | rfl
         clear H
         have H := H1
         clear H1
         exact absurd H (by simp)
        replace c111 := Bool.eq_false_iff.mpr c111
        subst c111
        have H1 : (if t422 ≥ 1 then (laws_FnLaundryLost.j6 kj105 t420 t421 t422 t430 t431 t432 t433 t434 t437 (decide (t422 ≤ 20))) else (laws_FnLaundryLost.j6 kj105 t420 t421 t422 t430 t431 t432 t433 t434 t437 false)) = some true := by first | (rw [if_neg (show ¬ (false = true) by decide)] at H; exact H) | rfl
        clear H
        have H := H1
        clear H1
        have HC112 := Aside0.mk H
        clear H
        go_upto_region 62 with (fail)
        refine wp_cutM cutMarks4 (fun ns wc => ∃ (v552 : Value), ns = [v552] ∧ ∃ (kq : Nat) (x552_111 : Bool), v552 = .bool x552_111 ∧ Aside0 (laws_FnLaundryLost.j6 kq t420 t421 t422 t430 t431 t432 t433 t434 t437 x552_111 = some true) ∧ Aside0 (kq ≤ kj105) ∧ Aside0 (Below w.heap.size w wc)) ?_ ?_
        next => as_aux_lemma =>
         intro _ _ hmeet _
         have H := HC112.out
         clear HC112
         by_cases c113 : t422 ≥ 1
         ·rw [if_pos c113] at H
          have c113b0 : decide (1 ≤ t422) = true := decide_eq_true c113
          clear c113
          (first | rw [c113b0] | (simp only [i64_w, i32_w]; rw [c113b0]) | skip)
          have H' := Aside0.mk H
          clear H
          go_wp2
          refine Met.intro (hmeet _ _ rfl rfl ?_)
          refine ⟨_, rfl, ?_⟩
          exact ⟨_, (decide (t422 ≤ 20)), (by first | rfl | (simp; done) | (simp [*]; done)), H', ⟨by have := HJ25.out; have := HJ105.out; first | omega | exact Nat.le_refl _⟩, ⟨by repeat (first | (with_reducible first | exact HB.out | apply below_alloc | apply pw_below_drewN | apply below_drew1) | exact HB.out)⟩⟩
         ·rw [if_neg c113] at H
          have c113b0 : decide (1 ≤ t422) = false := decide_eq_false c113
          clear c113
          (first | rw [c113b0] | (simp only [i64_w, i32_w]; rw [c113b0]) | skip)
          have H' := Aside0.mk H
          clear H
          go_wp2
          refine Met.intro (hmeet _ _ rfl rfl ?_)
          refine ⟨_, rfl, ?_⟩
          exact ⟨_, (false), (by first | rfl | (simp; done) | (simp [*]; done)), H', ⟨by have := HJ25.out; have := HJ105.out; first | omega | exact Nat.le_refl _⟩, ⟨by repeat (first | (with_reducible first | exact HB.out | apply below_alloc | apply pw_below_drewN | apply below_drew1) | exact HB.out)⟩⟩
        next => as_aux_lemma =>
         intro ns g wc hcut
         obtain ⟨v552, rfl, hcut⟩ := hcut
         dsimp only [cutG, Nat.reduceAdd, cutMarks4]
         clear HC112
         try clear c1
         try clear c2
         try clear p2
         try clear c3
         try clear c4
         try clear c5
         try clear c6
         try clear p6
         try clear c7
         try clear c8
         try clear c9
         try clear c10
         try clear c11
         try clear c12
         try clear c13
         try clear c14
         try clear c14b0
         try clear c14b1
         try clear c14b2
         try clear c15
         try clear c15b0
         try clear c15b1
         try clear c16
         try clear c16b0
         try clear c16b1
         try clear c17
         try clear c17b0
         try clear c17b1
         try clear c17b2
         try clear c18
         try clear c18b0
         try clear c18b1
         try clear c19
         try clear c19b0
         try clear c19b1
         try clear c19b2
         try clear c20
         try clear c20b0
         try clear c20b1
         try clear c21
         try clear c21b0
         try clear c21b1
         try clear c21b2
         try clear c22
         try clear c22b0
         try clear c22b1
         try clear c23
         try clear c23b0
         try clear c23b1
         try clear c23b2
         try clear c24
         try clear c24b0
         try clear c24b1
         try clear c24b2
         try clear c25
         try clear c25b0
         try clear c25b1
         try clear c25b2
         try clear c26
         try clear c27
         try clear c28
         try clear c29
         try clear c30
         try clear c31
         try clear c31b0
         try clear c32
         try clear c35
         try clear c36
         try clear c36b0
         try clear c37
         try clear c38
         try clear c38b0
         try clear c41
         try clear c42
         try clear c42b0
         try clear c43
         try clear c43b0
         try clear c43b1
         try clear c44
         try clear c44b0
         try clear c44b1
         try clear c45
         try clear c45b0
         try clear c45b1
         try clear c46
         try clear c47
         try clear c47b0
         try clear c47b1
         try clear c49
         try clear c49b0
         try clear c51
         try clear c52
         try clear c52b0
         try clear c52b1
         try clear c54
         try clear c54b0
         try clear c57
         try clear c58
         try clear c60
         try clear c61
         try clear c61b0
         try clear c61b1
         try clear c62
         try clear c62b0
         try clear c62b1
         try clear c63
         try clear c63b0
         try clear c63b1
         try clear p64
         try clear c81
         try clear c81b0
         try clear c81b1
         try clear c81b2
         try clear c82
         try clear c82b0
         try clear c82b1
         try clear c83
         try clear c83b0
         try clear c83b1
         try clear c84
         try clear c84b0
         try clear c84b1
         try clear c84b2
         try clear c85
         try clear c85b0
         try clear c85b1
         try clear c86
         try clear c86b0
         try clear c86b1
         try clear c86b2
         try clear c87
         try clear c87b0
         try clear c87b1
         try clear c87b2
         try clear c88
         try clear c88b0
         try clear c88b1
         try clear c89
         try clear c89b0
         try clear c89b1
         try clear c89b2
         try clear c90
         try clear c90b0
         try clear c90b1
         try clear c91
         try clear c91b0
         try clear c91b1
         try clear c91b2
         try clear c92
         try clear c92b0
         try clear c92b1
         try clear c92b2
         try clear c93
         try clear c93b0
         try clear c93b1
         try clear c94
         try clear c94b0
         try clear c94b1
         try clear c94b2
         try clear c95
         try clear c95b0
         try clear c95b1
         try clear c96
         try clear c96b0
         try clear c96b1
         try clear c96b2
         try clear c105
         try clear c107
         try clear c107b0
         try clear c108
         try clear c108b0
         try clear c109
         try clear c109b0
         try clear c110
         try clear c110b0
         try clear c111
         try clear c113
         try clear c113b0
         try clear p2
         try clear p6
         try clear p64
         obtain ⟨kq, x552_111, rfl, HA, HJ111, HB⟩ := hcut
         cases kq with
         | zero => exact absurd HA.out (by simp [laws_FnLaundryLost.j6])
         | succ kj111 =>
          have H := HA.out
          clear HA
          simp only [laws_FnLaundryLost.j6] at H
          have HC114 := Aside0.mk H
          clear H
          go_upto_if 552 with (fail)
          refine wp_cutM cutMarks5 (fun ns wc => ∃ (kq : Nat), Aside0 (laws_FnLaundryLost.j7 kq t420 t421 t422 t430 t431 t432 t433 t434 t437 = some true) ∧ Aside0 (kq ≤ kj111) ∧ Aside0 (Below w.heap.size w wc)) ?_ ?_
          next => as_aux_lemma =>
           intro _ _ hmeet _
           have H := HC114.out
           clear HC114
           by_cases c115 : x552_111 = true
           ·subst c115
            have H1 : ((impl_LeastComplete.f t422 t420).bind fun bt455 => (if bt455.2 = true then (if bt455.1 < t421 then (some false) else (laws_FnLaundryLost.j7 kj111 t420 t421 t422 t430 t431 t432 t433 t434 t437)) else (some false))) = some true := by first | (rw [if_pos rfl] at H; exact H) | rfl
            clear H
            have H := H1
            clear H1
            replace H := Option.bind_eq_some_iff.mp H
            obtain ⟨⟨t455, t456⟩, A1160, H⟩ := H
            replace H : (if t456 = true then (if t455 < t421 then (some false) else (laws_FnLaundryLost.j7 kj111 t420 t421 t422 t430 t431 t432 t433 t434 t437)) else (some false)) = some true := H
            have A116 := Aside0.mk A1160
            clear A1160
            by_cases c117 : t456 = true
            rotate_left
            ·replace c117 := Bool.eq_false_iff.mpr c117
             subst c117
             have H1 : (some false) = some true := by first | (rw [if_neg (show ¬ (false = true) by decide)] at H; exact H) | rfl
             clear H
             have H := H1
             clear H1
             exact absurd H (by simp)
            subst c117
            have H1 : (if t455 < t421 then (some false) else (laws_FnLaundryLost.j7 kj111 t420 t421 t422 t430 t431 t432 t433 t434 t437)) = some true := by first | (rw [if_pos rfl] at H; exact H) | rfl
            clear H
            have H := H1
            clear H1
            by_cases c118 : t455 < t421
            ·rw [if_pos c118] at H
             have c118b0 : decide (t455 < t421) = true := decide_eq_true c118
             clear c118
             (first | rw [c118b0] | (simp only [i64_w, i32_w]; rw [c118b0]) | skip)
             exact absurd H (by simp)
            rw [if_neg c118] at H
            have c118b0 : decide (t455 < t421) = false := decide_eq_false c118
            clear c118
            (first | rw [c118b0] | (simp only [i64_w, i32_w]; rw [c118b0]) | skip)
            have H' := Aside0.mk H
            clear H
            go_wp2_with (first | ((with_reducible refine gate_callee (f := 13) rfl ?_); refine goesL_ (some 556) rfl rfl Try.func13 (by kernel_rfl) rfl #[.int .i64 t422, .int .i64 t420] rfl (by (try simp only [List.map_toArray, List.map_cons, List.map_nil]); first | done | rfl | (simp only [List.length_drop, List.length_take]; rfl)) ?_; (with_reducible refine (impl_LeastComplete.calls t422 t420 t455 true _ A116.out).mono ?_); rintro e w119 ⟨rfl, hb⟩; refine ⟨_, rfl, ?_⟩; have n0_ := Aside0.mk (below_step (by repeat (first | (with_reducible first | exact HB.out | apply below_alloc | apply pw_below_drewN | apply below_drew1) | exact HB.out)) hb); clear HB; have HB := n0_; clear n0_; (try clear hb); (try clear hb2); (try clear hk); (try clear hi)))
            refine Met.intro (hmeet _ _ rfl rfl ?_)
            exact ⟨_, H', ⟨by have := HJ25.out; have := HJ105.out; have := HJ111.out; first | omega | exact Nat.le_refl _⟩, ⟨by repeat (first | (with_reducible first | exact HB.out | apply below_alloc | apply pw_below_drewN | apply below_drew1) | exact HB.out)⟩⟩
           ·replace c115 := Bool.eq_false_iff.mpr c115
            subst c115
            have H1 : (laws_FnLaundryLost.j7 kj111 t420 t421 t422 t430 t431 t432 t433 t434 t437) = some true := by first | (rw [if_neg (show ¬ (false = true) by decide)] at H; exact H) | rfl
            clear H
            have H := H1
            clear H1
            have H' := Aside0.mk H
            clear H
            go_wp2
            refine Met.intro (hmeet _ _ rfl rfl ?_)
            exact ⟨_, H', ⟨by have := HJ25.out; have := HJ105.out; have := HJ111.out; first | omega | exact Nat.le_refl _⟩, ⟨by repeat (first | (with_reducible first | exact HB.out | apply below_alloc | apply pw_below_drewN | apply below_drew1) | exact HB.out)⟩⟩
          next => as_aux_lemma =>
           intro ns g wc hcut
           dsimp only [cutG, Nat.reduceAdd, cutMarks5]
           clear HC114
           try clear c1
           try clear c2
           try clear p2
           try clear c3
           try clear c4
           try clear c5
           try clear c6
           try clear p6
           try clear c7
           try clear c8
           try clear c9
           try clear c10
           try clear c11
           try clear c12
           try clear c13
           try clear c14
           try clear c14b0
           try clear c14b1
           try clear c14b2
           try clear c15
           try clear c15b0
           try clear c15b1
           try clear c16
           try clear c16b0
           try clear c16b1
           try clear c17
           try clear c17b0
           try clear c17b1
           try clear c17b2
           try clear c18
           try clear c18b0
           try clear c18b1
           try clear c19
           try clear c19b0
           try clear c19b1
           try clear c19b2
           try clear c20
           try clear c20b0
           try clear c20b1
           try clear c21
           try clear c21b0
           try clear c21b1
           try clear c21b2
           try clear c22
           try clear c22b0
           try clear c22b1
           try clear c23
           try clear c23b0
           try clear c23b1
           try clear c23b2
           try clear c24
           try clear c24b0
           try clear c24b1
           try clear c24b2
           try clear c25
           try clear c25b0
           try clear c25b1
           try clear c25b2
           try clear c26
           try clear c27
           try clear c28
           try clear c29
           try clear c30
           try clear c31
           try clear c31b0
           try clear c32
           try clear c35
           try clear c36
           try clear c36b0
           try clear c37
           try clear c38
           try clear c38b0
           try clear c41
           try clear c42
           try clear c42b0
           try clear c43
           try clear c43b0
           try clear c43b1
           try clear c44
           try clear c44b0
           try clear c44b1
           try clear c45
           try clear c45b0
           try clear c45b1
           try clear c46
           try clear c47
           try clear c47b0
           try clear c47b1
           try clear c49
           try clear c49b0
           try clear c51
           try clear c52
           try clear c52b0
           try clear c52b1
           try clear c54
           try clear c54b0
           try clear c57
           try clear c58
           try clear c60
           try clear c61
           try clear c61b0
           try clear c61b1
           try clear c62
           try clear c62b0
           try clear c62b1
           try clear c63
           try clear c63b0
           try clear c63b1
           try clear p64
           try clear c81
           try clear c81b0
           try clear c81b1
           try clear c81b2
           try clear c82
           try clear c82b0
           try clear c82b1
           try clear c83
           try clear c83b0
           try clear c83b1
           try clear c84
           try clear c84b0
           try clear c84b1
           try clear c84b2
           try clear c85
           try clear c85b0
           try clear c85b1
           try clear c86
           try clear c86b0
           try clear c86b1
           try clear c86b2
           try clear c87
           try clear c87b0
           try clear c87b1
           try clear c87b2
           try clear c88
           try clear c88b0
           try clear c88b1
           try clear c89
           try clear c89b0
           try clear c89b1
           try clear c89b2
           try clear c90
           try clear c90b0
           try clear c90b1
           try clear c91
           try clear c91b0
           try clear c91b1
           try clear c91b2
           try clear c92
           try clear c92b0
           try clear c92b1
           try clear c92b2
           try clear c93
           try clear c93b0
           try clear c93b1
           try clear c94
           try clear c94b0
           try clear c94b1
           try clear c94b2
           try clear c95
           try clear c95b0
           try clear c95b1
           try clear c96
           try clear c96b0
           try clear c96b1
           try clear c96b2
           try clear c105
           try clear c107
           try clear c107b0
           try clear c108
           try clear c108b0
           try clear c109
           try clear c109b0
           try clear c110
           try clear c110b0
           try clear c111
           try clear c113
           try clear c113b0
           try clear c115
           try clear c117
           try clear c118
           try clear c118b0
           try clear p2
           try clear p6
           try clear p64
           obtain ⟨kq, HA, HJ113, HB⟩ := hcut
           cases kq with
           | zero => exact absurd HA.out (by simp [laws_FnLaundryLost.j7])
           | succ kj113 =>
            have H := HA.out
            clear HA
            simp only [laws_FnLaundryLost.j7] at H
            have HC120 := Aside0.mk H
            clear H
            go_upto_region 66 with (fail)
            refine wp_cutM cutMarks6 (fun ns wc => ∃ (v572 : Value), ns = [v572] ∧ ∃ (kq : Nat) (x572_119 : Bool), v572 = .bool x572_119 ∧ Aside0 (laws_FnLaundryLost.j8 kq t420 t421 t422 t430 t431 t432 t433 t434 t437 x572_119 = some true) ∧ Aside0 (kq ≤ kj113) ∧ Aside0 (Below w.heap.size w wc)) ?_ ?_
            next => as_aux_lemma =>
             intro _ _ hmeet _
             have H := HC120.out
             clear HC120
             by_cases c121 : t422 ≥ 2
             ·rw [if_pos c121] at H
              have c121b0 : decide (2 ≤ t422) = true := decide_eq_true c121
              clear c121
              (first | rw [c121b0] | (simp only [i64_w, i32_w]; rw [c121b0]) | skip)
              have H' := Aside0.mk H
              clear H
              go_wp2
              refine Met.intro (hmeet _ _ rfl rfl ?_)
              refine ⟨_, rfl, ?_⟩
              exact ⟨_, (decide ((wrap64 (t422 - 1)) ≤ 20)), (by first | rfl | (simp; done) | (simp [*]; done)), H', ⟨by have := HJ25.out; have := HJ105.out; have := HJ111.out; have := HJ113.out; first | omega | exact Nat.le_refl _⟩, ⟨by repeat (first | (with_reducible first | exact HB.out | apply below_alloc | apply pw_below_drewN | apply below_drew1) | exact HB.out)⟩⟩
             ·rw [if_neg c121] at H
              have c121b0 : decide (2 ≤ t422) = false := decide_eq_false c121
              clear c121
              (first | rw [c121b0] | (simp only [i64_w, i32_w]; rw [c121b0]) | skip)
              have H' := Aside0.mk H
              clear H
              go_wp2
              refine Met.intro (hmeet _ _ rfl rfl ?_)
              refine ⟨_, rfl, ?_⟩
              exact ⟨_, (false), (by first | rfl | (simp; done) | (simp [*]; done)), H', ⟨by have := HJ25.out; have := HJ105.out; have := HJ111.out; have := HJ113.out; first | omega | exact Nat.le_refl _⟩, ⟨by repeat (first | (with_reducible first | exact HB.out | apply below_alloc | apply pw_below_drewN | apply below_drew1) | exact HB.out)⟩⟩
            next => as_aux_lemma =>
             intro ns g wc hcut
             obtain ⟨v572, rfl, hcut⟩ := hcut
             dsimp only [cutG, Nat.reduceAdd, cutMarks6]
             clear HC120
             try clear c1
             try clear c2
             try clear p2
             try clear c3
             try clear c4
             try clear c5
             try clear c6
             try clear p6
             try clear c7
             try clear c8
             try clear c9
             try clear c10
             try clear c11
             try clear c12
             try clear c13
             try clear c14
             try clear c14b0
             try clear c14b1
             try clear c14b2
             try clear c15
             try clear c15b0
             try clear c15b1
             try clear c16
             try clear c16b0
             try clear c16b1
             try clear c17
             try clear c17b0
             try clear c17b1
             try clear c17b2
             try clear c18
             try clear c18b0
             try clear c18b1
             try clear c19
             try clear c19b0
             try clear c19b1
             try clear c19b2
             try clear c20
             try clear c20b0
             try clear c20b1
             try clear c21
             try clear c21b0
             try clear c21b1
             try clear c21b2
             try clear c22
             try clear c22b0
             try clear c22b1
             try clear c23
             try clear c23b0
             try clear c23b1
             try clear c23b2
             try clear c24
             try clear c24b0
             try clear c24b1
             try clear c24b2
             try clear c25
             try clear c25b0
             try clear c25b1
             try clear c25b2
             try clear c26
             try clear c27
             try clear c28
             try clear c29
             try clear c30
             try clear c31
             try clear c31b0
             try clear c32
             try clear c35
             try clear c36
             try clear c36b0
             try clear c37
             try clear c38
             try clear c38b0
             try clear c41
             try clear c42
             try clear c42b0
             try clear c43
             try clear c43b0
             try clear c43b1
             try clear c44
             try clear c44b0
             try clear c44b1
             try clear c45
             try clear c45b0
             try clear c45b1
             try clear c46
             try clear c47
             try clear c47b0
             try clear c47b1
             try clear c49
             try clear c49b0
             try clear c51
             try clear c52
             try clear c52b0
             try clear c52b1
             try clear c54
             try clear c54b0
             try clear c57
             try clear c58
             try clear c60
             try clear c61
             try clear c61b0
             try clear c61b1
             try clear c62
             try clear c62b0
             try clear c62b1
             try clear c63
             try clear c63b0
             try clear c63b1
             try clear p64
             try clear c81
             try clear c81b0
             try clear c81b1
             try clear c81b2
             try clear c82
             try clear c82b0
             try clear c82b1
             try clear c83
             try clear c83b0
             try clear c83b1
             try clear c84
             try clear c84b0
             try clear c84b1
             try clear c84b2
             try clear c85
             try clear c85b0
             try clear c85b1
             try clear c86
             try clear c86b0
             try clear c86b1
             try clear c86b2
             try clear c87
             try clear c87b0
             try clear c87b1
             try clear c87b2
             try clear c88
             try clear c88b0
             try clear c88b1
             try clear c89
             try clear c89b0
             try clear c89b1
             try clear c89b2
             try clear c90
             try clear c90b0
             try clear c90b1
             try clear c91
             try clear c91b0
             try clear c91b1
             try clear c91b2
             try clear c92
             try clear c92b0
             try clear c92b1
             try clear c92b2
             try clear c93
             try clear c93b0
             try clear c93b1
             try clear c94
             try clear c94b0
             try clear c94b1
             try clear c94b2
             try clear c95
             try clear c95b0
             try clear c95b1
             try clear c96
             try clear c96b0
             try clear c96b1
             try clear c96b2
             try clear c105
             try clear c107
             try clear c107b0
             try clear c108
             try clear c108b0
             try clear c109
             try clear c109b0
             try clear c110
             try clear c110b0
             try clear c111
             try clear c113
             try clear c113b0
             try clear c115
             try clear c117
             try clear c118
             try clear c118b0
             try clear c121
             try clear c121b0
             try clear p2
             try clear p6
             try clear p64
             obtain ⟨kq, x572_119, rfl, HA, HJ119, HB⟩ := hcut
             cases kq with
             | zero => exact absurd HA.out (by simp [laws_FnLaundryLost.j8])
             | succ kj119 =>
              have H := HA.out
              clear HA
              simp only [laws_FnLaundryLost.j8] at H
              by_cases c122 : x572_119 = true
              ·subst c122
               have H1 : ((impl_LeastComplete.f (wrap64 (t422 - 1)) t420).bind fun bt463 => (if bt463.2 = true then (if bt463.1 ≥ t421 then (some false) else (laws_FnLaundryLost.j9 kj119 t430 t431 t432 t433 t434 t437)) else (laws_FnLaundryLost.j9 kj119 t430 t431 t432 t433 t434 t437))) = some true := by first | (rw [if_pos rfl] at H; exact H) | rfl
               clear H
               have H := H1
               clear H1
               replace H := Option.bind_eq_some_iff.mp H
               obtain ⟨⟨t463, t464⟩, A1230, H⟩ := H
               replace H : (if t464 = true then (if t463 ≥ t421 then (some false) else (laws_FnLaundryLost.j9 kj119 t430 t431 t432 t433 t434 t437)) else (laws_FnLaundryLost.j9 kj119 t430 t431 t432 t433 t434 t437)) = some true := H
               have A123 := Aside0.mk A1230
               clear A1230
               by_cases c124 : t464 = true
               ·subst c124
                have H1 : (if t463 ≥ t421 then (some false) else (laws_FnLaundryLost.j9 kj119 t430 t431 t432 t433 t434 t437)) = some true := by first | (rw [if_pos rfl] at H; exact H) | rfl
                clear H
                have H := H1
                clear H1
                by_cases c125 : t463 ≥ t421
                ·rw [if_pos c125] at H
                 have c125b0 : decide (t421 ≤ t463) = true := decide_eq_true c125
                 clear c125
                 exact absurd H (by simp)
                rw [if_neg c125] at H
                have c125b0 : decide (t421 ≤ t463) = false := decide_eq_false c125
                clear c125
                have H' := Aside0.mk H
                clear H
                go_wp2_with (first | ((with_reducible refine gate_callee (f := 13) rfl ?_); refine goesL_ (some 577) rfl rfl Try.func13 (by kernel_rfl) rfl #[.int .i64 (wrap64 (t422 - 1)), .int .i64 t420] rfl (by (try simp only [List.map_toArray, List.map_cons, List.map_nil]); first | done | rfl | (simp only [List.length_drop, List.length_take]; rfl)) ?_; (with_reducible refine (impl_LeastComplete.calls (wrap64 (t422 - 1)) t420 t463 true _ A123.out).mono ?_); rintro e w126 ⟨rfl, hb⟩; refine ⟨_, rfl, ?_⟩; have n0_ := Aside0.mk (below_step (by repeat (first | (with_reducible first | exact HB.out | apply below_alloc | apply pw_below_drewN | apply below_drew1) | exact HB.out)) hb); clear HB; have HB := n0_; clear n0_; (try clear hb); (try clear hb2); (try clear hk); (try clear hi)))
                refine Met.intro (hmeet _ _ rfl rfl ?_)
                exact ⟨_, H', ⟨by have := HJ25.out; have := HJ105.out; have := HJ111.out; have := HJ113.out; have := HJ119.out; first | omega | exact Nat.le_refl _⟩, ⟨by repeat (first | (with_reducible first | exact HB.out | apply below_alloc | apply pw_below_drewN | apply below_drew1) | exact HB.out)⟩⟩
               ·replace c124 := Bool.eq_false_iff.mpr c124
                subst c124
                have H1 : (laws_FnLaundryLost.j9 kj119 t430 t431 t432 t433 t434 t437) = some true := by first | (rw [if_neg (show ¬ (false = true) by decide)] at H; exact H) | rfl
                clear H
                have H := H1
                clear H1
                have H' := Aside0.mk H
                clear H
                go_wp2_with (first | ((with_reducible refine gate_callee (f := 13) rfl ?_); refine goesL_ (some 577) rfl rfl Try.func13 (by kernel_rfl) rfl #[.int .i64 (wrap64 (t422 - 1)), .int .i64 t420] rfl (by (try simp only [List.map_toArray, List.map_cons, List.map_nil]); first | done | rfl | (simp only [List.length_drop, List.length_take]; rfl)) ?_; (with_reducible refine (impl_LeastComplete.calls (wrap64 (t422 - 1)) t420 t463 false _ A123.out).mono ?_); rintro e w127 ⟨rfl, hb⟩; refine ⟨_, rfl, ?_⟩; have n0_ := Aside0.mk (below_step (by repeat (first | (with_reducible first | exact HB.out | apply below_alloc | apply pw_below_drewN | apply below_drew1) | exact HB.out)) hb); clear HB; have HB := n0_; clear n0_; (try clear hb); (try clear hb2); (try clear hk); (try clear hi)))
                refine Met.intro (hmeet _ _ rfl rfl ?_)
                exact ⟨_, H', ⟨by have := HJ25.out; have := HJ105.out; have := HJ111.out; have := HJ113.out; have := HJ119.out; first | omega | exact Nat.le_refl _⟩, ⟨by repeat (first | (with_reducible first | exact HB.out | apply below_alloc | apply pw_below_drewN | apply below_drew1) | exact HB.out)⟩⟩
              ·replace c122 := Bool.eq_false_iff.mpr c122
               subst c122
               have H1 : (laws_FnLaundryLost.j9 kj119 t430 t431 t432 t433 t434 t437) = some true := by first | (rw [if_neg (show ¬ (false = true) by decide)] at H; exact H) | rfl
               clear H
               have H := H1
               clear H1
               have H' := Aside0.mk H
               clear H
               go_wp2
               refine Met.intro (hmeet _ _ rfl rfl ?_)
               exact ⟨_, H', ⟨by have := HJ25.out; have := HJ105.out; have := HJ111.out; have := HJ113.out; have := HJ119.out; first | omega | exact Nat.le_refl _⟩, ⟨by repeat (first | (with_reducible first | exact HB.out | apply below_alloc | apply pw_below_drewN | apply below_drew1) | exact HB.out)⟩⟩
     ·replace c105 := Bool.eq_false_iff.mpr c105
      subst c105
      have H1 : (laws_FnLaundryLost.j9 kj25 t430 t431 t432 t433 t434 t437) = some true := by first | (rw [if_neg (show ¬ (false = true) by decide)] at H; exact H) | rfl
      clear H
      have H := H1
      clear H1
      have H' := Aside0.mk H
      clear H
      go_wp2
      refine Met.intro (hmeet _ _ rfl rfl ?_)
      exact ⟨_, H', ⟨by have := HJ25.out; first | omega | exact Nat.le_refl _⟩, ⟨by repeat (first | (with_reducible first | exact HB.out | apply below_alloc | apply pw_below_drewN | apply below_drew1) | exact HB.out)⟩⟩
    next => as_aux_lemma =>
     intro ns g wc hcut
     dsimp only [cutG, Nat.reduceAdd, cutMarks2]
     clear HC97
     try clear c1
     try clear c2
     try clear p2
     try clear c3
     try clear c4
     try clear c5
     try clear c6
     try clear p6
     try clear c7
     try clear c8
     try clear c9
     try clear c10
     try clear c11
     try clear c12
     try clear c13
     try clear c14
     try clear c14b0
     try clear c14b1
     try clear c14b2
     try clear c15
     try clear c15b0
     try clear c15b1
     try clear c16
     try clear c16b0
     try clear c16b1
     try clear c17
     try clear c17b0
     try clear c17b1
     try clear c17b2
     try clear c18
     try clear c18b0
     try clear c18b1
     try clear c19
     try clear c19b0
     try clear c19b1
     try clear c19b2
     try clear c20
     try clear c20b0
     try clear c20b1
     try clear c21
     try clear c21b0
     try clear c21b1
     try clear c21b2
     try clear c22
     try clear c22b0
     try clear c22b1
     try clear c23
     try clear c23b0
     try clear c23b1
     try clear c23b2
     try clear c24
     try clear c24b0
     try clear c24b1
     try clear c24b2
     try clear c25
     try clear c25b0
     try clear c25b1
     try clear c25b2
     try clear c26
     try clear c27
     try clear c28
     try clear c29
     try clear c30
     try clear c31
     try clear c31b0
     try clear c32
     try clear c35
     try clear c36
     try clear c36b0
     try clear c37
     try clear c38
     try clear c38b0
     try clear c41
     try clear c42
     try clear c42b0
     try clear c43
     try clear c43b0
     try clear c43b1
     try clear c44
     try clear c44b0
     try clear c44b1
     try clear c45
     try clear c45b0
     try clear c45b1
     try clear c46
     try clear c47
     try clear c47b0
     try clear c47b1
     try clear c49
     try clear c49b0
     try clear c51
     try clear c52
     try clear c52b0
     try clear c52b1
     try clear c54
     try clear c54b0
     try clear c57
     try clear c58
     try clear c60
     try clear c61
     try clear c61b0
     try clear c61b1
     try clear c62
     try clear c62b0
     try clear c62b1
     try clear c63
     try clear c63b0
     try clear c63b1
     try clear p64
     try clear c81
     try clear c81b0
     try clear c81b1
     try clear c81b2
     try clear c82
     try clear c82b0
     try clear c82b1
     try clear c83
     try clear c83b0
     try clear c83b1
     try clear c84
     try clear c84b0
     try clear c84b1
     try clear c84b2
     try clear c85
     try clear c85b0
     try clear c85b1
     try clear c86
     try clear c86b0
     try clear c86b1
     try clear c86b2
     try clear c87
     try clear c87b0
     try clear c87b1
     try clear c87b2
     try clear c88
     try clear c88b0
     try clear c88b1
     try clear c89
     try clear c89b0
     try clear c89b1
     try clear c89b2
     try clear c90
     try clear c90b0
     try clear c90b1
     try clear c91
     try clear c91b0
     try clear c91b1
     try clear c91b2
     try clear c92
     try clear c92b0
     try clear c92b1
     try clear c92b2
     try clear c93
     try clear c93b0
     try clear c93b1
     try clear c94
     try clear c94b0
     try clear c94b1
     try clear c94b2
     try clear c95
     try clear c95b0
     try clear c95b1
     try clear c96
     try clear c96b0
     try clear c96b1
     try clear c96b2
     try clear c105
     try clear c107
     try clear c107b0
     try clear c108
     try clear c108b0
     try clear c109
     try clear c109b0
     try clear c110
     try clear c110b0
     try clear c111
     try clear c113
     try clear c113b0
     try clear c115
     try clear c117
     try clear c118
     try clear c118b0
     try clear c121
     try clear c121b0
     try clear c122
     try clear c124
     try clear c125
     try clear c125b0
     try clear p2
     try clear p6
     try clear p64
     obtain ⟨kq, HA, HJ96, HB⟩ := hcut
     cases kq with
     | zero => exact absurd HA.out (by simp [laws_FnLaundryLost.j9])
     | succ kj96 =>
      have H := HA.out
      clear HA
      simp only [laws_FnLaundryLost.j9] at H
      by_cases c128 : t434 = true
      ·subst c128
       have H1 : ((impl_LeastComplete.f t430 (wrap64 (t433 * t432))).bind fun bt533 => ((impl_MostComplete.f t430 (wrap64 (t437 * t432))).bind fun bt535 => (if t433 > t437 then (some false) else (if bt533.2 = true then (if bt533.1 < t431 then (some false) else (if bt535.2 = true then (if bt535.1 < t431 then (some false) else (if (wrap64 ((wrap64 (t433 + 1)) * t432)) ≤ (wrap64 (2 * t430)) then ((impl_LeastComplete.f t430 (wrap64 ((wrap64 (t433 + 1)) * t432))).bind fun bt541 => (if bt541.2 = true then (if bt541.1 ≥ t431 then (if t431 > 0 then (some false) else (some true)) else (some true)) else (some false))) else (some true))) else (some false))) else (some false))))) = some true := by first | (rw [if_pos rfl] at H; exact H) | rfl
       clear H
       have H := H1
       clear H1
       replace H := Option.bind_eq_some_iff.mp H
       obtain ⟨⟨t533, t534⟩, A1290, H⟩ := H
       replace H : ((impl_MostComplete.f t430 (wrap64 (t437 * t432))).bind fun bt535 => (if t433 > t437 then (some false) else (if t534 = true then (if t533 < t431 then (some false) else (if bt535.2 = true then (if bt535.1 < t431 then (some false) else (if (wrap64 ((wrap64 (t433 + 1)) * t432)) ≤ (wrap64 (2 * t430)) then ((impl_LeastComplete.f t430 (wrap64 ((wrap64 (t433 + 1)) * t432))).bind fun bt541 => (if bt541.2 = true then (if bt541.1 ≥ t431 then (if t431 > 0 then (some false) else (some true)) else (some true)) else (some false))) else (some true))) else (some false))) else (some false)))) = some true := H
       have A129 := Aside0.mk A1290
       clear A1290
       replace H := Option.bind_eq_some_iff.mp H
       obtain ⟨⟨t535, t536⟩, A1300, H⟩ := H
       replace H : (if t433 > t437 then (some false) else (if t534 = true then (if t533 < t431 then (some false) else (if t536 = true then (if t535 < t431 then (some false) else (if (wrap64 ((wrap64 (t433 + 1)) * t432)) ≤ (wrap64 (2 * t430)) then ((impl_LeastComplete.f t430 (wrap64 ((wrap64 (t433 + 1)) * t432))).bind fun bt541 => (if bt541.2 = true then (if bt541.1 ≥ t431 then (if t431 > 0 then (some false) else (some true)) else (some true)) else (some false))) else (some true))) else (some false))) else (some false))) = some true := H
       have A130 := Aside0.mk A1300
       clear A1300
       by_cases c131 : t433 > t437
       ·rw [if_pos c131] at H
        have c131b0 : decide (t437 < t433) = true := decide_eq_true c131
        clear c131
        exact absurd H (by simp)
       rw [if_neg c131] at H
       have c131b0 : decide (t437 < t433) = false := decide_eq_false c131
       clear c131
       by_cases c132 : t534 = true
       rotate_left
       ·replace c132 := Bool.eq_false_iff.mpr c132
        subst c132
        have H1 : (some false) = some true := by first | (rw [if_neg (show ¬ (false = true) by decide)] at H; exact H) | rfl
        clear H
        have H := H1
        clear H1
        exact absurd H (by simp)
       subst c132
       have H1 : (if t533 < t431 then (some false) else (if t536 = true then (if t535 < t431 then (some false) else (if (wrap64 ((wrap64 (t433 + 1)) * t432)) ≤ (wrap64 (2 * t430)) then ((impl_LeastComplete.f t430 (wrap64 ((wrap64 (t433 + 1)) * t432))).bind fun bt541 => (if bt541.2 = true then (if bt541.1 ≥ t431 then (if t431 > 0 then (some false) else (some true)) else (some true)) else (some false))) else (some true))) else (some false))) = some true := by first | (rw [if_pos rfl] at H; exact H) | rfl
       clear H
       have H := H1
       clear H1
       by_cases c133 : t533 < t431
       ·rw [if_pos c133] at H
        have c133b0 : decide (t533 < t431) = true := decide_eq_true c133
        clear c133
        exact absurd H (by simp)
       rw [if_neg c133] at H
       have c133b0 : decide (t533 < t431) = false := decide_eq_false c133
       clear c133
       by_cases c134 : t536 = true
       rotate_left
       ·replace c134 := Bool.eq_false_iff.mpr c134
        subst c134
        have H1 : (some false) = some true := by first | (rw [if_neg (show ¬ (false = true) by decide)] at H; exact H) | rfl
        clear H
        have H := H1
        clear H1
        exact absurd H (by simp)
       subst c134
       have H1 : (if t535 < t431 then (some false) else (if (wrap64 ((wrap64 (t433 + 1)) * t432)) ≤ (wrap64 (2 * t430)) then ((impl_LeastComplete.f t430 (wrap64 ((wrap64 (t433 + 1)) * t432))).bind fun bt541 => (if bt541.2 = true then (if bt541.1 ≥ t431 then (if t431 > 0 then (some false) else (some true)) else (some true)) else (some false))) else (some true))) = some true := by first | (rw [if_pos rfl] at H; exact H) | rfl
       clear H
       have H := H1
       clear H1
       by_cases c135 : t535 < t431
       ·rw [if_pos c135] at H
        have c135b0 : decide (t535 < t431) = true := decide_eq_true c135
        clear c135
        exact absurd H (by simp)
       rw [if_neg c135] at H
       have c135b0 : decide (t535 < t431) = false := decide_eq_false c135
       clear c135
       by_cases c136 : (wrap64 ((wrap64 (t433 + 1)) * t432)) ≤ (wrap64 (2 * t430))
       ·rw [if_pos c136] at H
        have c136b0 : decide ((wrap64 ((wrap64 (t433 + 1)) * t432)) ≤ (wrap64 (2 * t430))) = true := decide_eq_true c136
        clear c136
        replace H := Option.bind_eq_some_iff.mp H
        obtain ⟨⟨t541, t542⟩, A1370, H⟩ := H
        replace H : (if t542 = true then (if t541 ≥ t431 then (if t431 > 0 then (some false) else (some true)) else (some true)) else (some false)) = some true := H
        have A137 := Aside0.mk A1370
        clear A1370
        by_cases c138 : t542 = true
        rotate_left
        ·replace c138 := Bool.eq_false_iff.mpr c138
         subst c138
         have H1 : (some false) = some true := by first | (rw [if_neg (show ¬ (false = true) by decide)] at H; exact H) | rfl
         clear H
         have H := H1
         clear H1
         exact absurd H (by simp)
        subst c138
        have H1 : (if t541 ≥ t431 then (if t431 > 0 then (some false) else (some true)) else (some true)) = some true := by first | (rw [if_pos rfl] at H; exact H) | rfl
        clear H
        have H := H1
        clear H1
        by_cases c139 : t541 ≥ t431
        ·rw [if_pos c139] at H
         have c139b0 : decide (t431 ≤ t541) = true := decide_eq_true c139
         clear c139
         by_cases c140 : t431 > 0
         ·rw [if_pos c140] at H
          have c140b0 : decide (0 < t431) = true := decide_eq_true c140
          clear c140
          exact absurd H (by simp)
         rw [if_neg c140] at H
         have c140b0 : decide (0 < t431) = false := decide_eq_false c140
         clear c140
         clear H
         go_wp2_with (first | ((with_reducible refine gate_callee (f := 13) rfl ?_); refine goesL_ (some 592) rfl rfl Try.func13 (by kernel_rfl) rfl #[.int .i64 t430, .int .i64 (wrap64 (t433 * t432))] rfl (by (try simp only [List.map_toArray, List.map_cons, List.map_nil]); first | done | rfl | (simp only [List.length_drop, List.length_take]; rfl)) ?_; (with_reducible refine (impl_LeastComplete.calls t430 (wrap64 (t433 * t432)) t533 true _ A129.out).mono ?_); rintro e w141 ⟨rfl, hb⟩; refine ⟨_, rfl, ?_⟩; have n0_ := Aside0.mk (below_step (by repeat (first | (with_reducible first | exact HB.out | apply below_alloc | apply pw_below_drewN | apply below_drew1) | exact HB.out)) hb); clear HB; have HB := n0_; clear n0_; (try clear hb); (try clear hb2); (try clear hk); (try clear hi)) | ((with_reducible refine gate_callee (f := 11) rfl ?_); refine goesL_ (some 600) rfl rfl Try.func11 (by kernel_rfl) rfl #[.int .i64 t430, .int .i64 (wrap64 (t437 * t432))] rfl (by (try simp only [List.map_toArray, List.map_cons, List.map_nil]); first | done | rfl | (simp only [List.length_drop, List.length_take]; rfl)) ?_; (with_reducible refine (impl_MostComplete.calls t430 (wrap64 (t437 * t432)) t535 true _ A130.out).mono ?_); rintro e w' ⟨rfl, ⟨nd, rfl⟩⟩; refine ⟨_, rfl, ?_⟩) | ((with_reducible refine gate_callee (f := 13) rfl ?_); refine goesL_ (some 637) rfl rfl Try.func13 (by kernel_rfl) rfl #[.int .i64 t430, .int .i64 (wrap64 ((wrap64 (t433 + 1)) * t432))] rfl (by (try simp only [List.map_toArray, List.map_cons, List.map_nil]); first | done | rfl | (simp only [List.length_drop, List.length_take]; rfl)) ?_; (with_reducible refine (impl_LeastComplete.calls t430 (wrap64 ((wrap64 (t433 + 1)) * t432)) t541 true _ A137.out).mono ?_); rintro e w142 ⟨rfl, hb⟩; refine ⟨_, rfl, ?_⟩; have n0_ := Aside0.mk (below_step (by repeat (first | (with_reducible first | exact HB.out | apply below_alloc | apply pw_below_drewN | apply below_drew1) | exact HB.out)) hb); clear HB; have HB := n0_; clear n0_; (try clear hb); (try clear hb2); (try clear hk); (try clear hi)))
         go_ret
         exact ⟨by first | rfl | (simp [errW_none, errW_some] <;> rfl) | (simp [*, errW_none, errW_some] <;> rfl), by repeat (first | (with_reducible first | exact HB.out | apply below_alloc | apply pw_below_drewN | apply below_drew1) | exact HB.out)⟩
        ·rw [if_neg c139] at H
         have c139b0 : decide (t431 ≤ t541) = false := decide_eq_false c139
         clear c139
         clear H
         go_wp2_with (first | ((with_reducible refine gate_callee (f := 13) rfl ?_); refine goesL_ (some 592) rfl rfl Try.func13 (by kernel_rfl) rfl #[.int .i64 t430, .int .i64 (wrap64 (t433 * t432))] rfl (by (try simp only [List.map_toArray, List.map_cons, List.map_nil]); first | done | rfl | (simp only [List.length_drop, List.length_take]; rfl)) ?_; (with_reducible refine (impl_LeastComplete.calls t430 (wrap64 (t433 * t432)) t533 true _ A129.out).mono ?_); rintro e w143 ⟨rfl, hb⟩; refine ⟨_, rfl, ?_⟩; have n0_ := Aside0.mk (below_step (by repeat (first | (with_reducible first | exact HB.out | apply below_alloc | apply pw_below_drewN | apply below_drew1) | exact HB.out)) hb); clear HB; have HB := n0_; clear n0_; (try clear hb); (try clear hb2); (try clear hk); (try clear hi)) | ((with_reducible refine gate_callee (f := 11) rfl ?_); refine goesL_ (some 600) rfl rfl Try.func11 (by kernel_rfl) rfl #[.int .i64 t430, .int .i64 (wrap64 (t437 * t432))] rfl (by (try simp only [List.map_toArray, List.map_cons, List.map_nil]); first | done | rfl | (simp only [List.length_drop, List.length_take]; rfl)) ?_; (with_reducible refine (impl_MostComplete.calls t430 (wrap64 (t437 * t432)) t535 true _ A130.out).mono ?_); rintro e w' ⟨rfl, ⟨nd, rfl⟩⟩; refine ⟨_, rfl, ?_⟩) | ((with_reducible refine gate_callee (f := 13) rfl ?_); refine goesL_ (some 637) rfl rfl Try.func13 (by kernel_rfl) rfl #[.int .i64 t430, .int .i64 (wrap64 ((wrap64 (t433 + 1)) * t432))] rfl (by (try simp only [List.map_toArray, List.map_cons, List.map_nil]); first | done | rfl | (simp only [List.length_drop, List.length_take]; rfl)) ?_; (with_reducible refine (impl_LeastComplete.calls t430 (wrap64 ((wrap64 (t433 + 1)) * t432)) t541 true _ A137.out).mono ?_); rintro e w144 ⟨rfl, hb⟩; refine ⟨_, rfl, ?_⟩; have n0_ := Aside0.mk (below_step (by repeat (first | (with_reducible first | exact HB.out | apply below_alloc | apply pw_below_drewN | apply below_drew1) | exact HB.out)) hb); clear HB; have HB := n0_; clear n0_; (try clear hb); (try clear hb2); (try clear hk); (try clear hi)))
         go_ret
         exact ⟨by first | rfl | (simp [errW_none, errW_some] <;> rfl) | (simp [*, errW_none, errW_some] <;> rfl), by repeat (first | (with_reducible first | exact HB.out | apply below_alloc | apply pw_below_drewN | apply below_drew1) | exact HB.out)⟩
       ·rw [if_neg c136] at H
        have c136b0 : decide ((wrap64 ((wrap64 (t433 + 1)) * t432)) ≤ (wrap64 (2 * t430))) = false := decide_eq_false c136
        clear c136
        clear H
        go_wp2_with (first | ((with_reducible refine gate_callee (f := 13) rfl ?_); refine goesL_ (some 592) rfl rfl Try.func13 (by kernel_rfl) rfl #[.int .i64 t430, .int .i64 (wrap64 (t433 * t432))] rfl (by (try simp only [List.map_toArray, List.map_cons, List.map_nil]); first | done | rfl | (simp only [List.length_drop, List.length_take]; rfl)) ?_; (with_reducible refine (impl_LeastComplete.calls t430 (wrap64 (t433 * t432)) t533 true _ A129.out).mono ?_); rintro e w145 ⟨rfl, hb⟩; refine ⟨_, rfl, ?_⟩; have n0_ := Aside0.mk (below_step (by repeat (first | (with_reducible first | exact HB.out | apply below_alloc | apply pw_below_drewN | apply below_drew1) | exact HB.out)) hb); clear HB; have HB := n0_; clear n0_; (try clear hb); (try clear hb2); (try clear hk); (try clear hi)) | ((with_reducible refine gate_callee (f := 11) rfl ?_); refine goesL_ (some 600) rfl rfl Try.func11 (by kernel_rfl) rfl #[.int .i64 t430, .int .i64 (wrap64 (t437 * t432))] rfl (by (try simp only [List.map_toArray, List.map_cons, List.map_nil]); first | done | rfl | (simp only [List.length_drop, List.length_take]; rfl)) ?_; (with_reducible refine (impl_MostComplete.calls t430 (wrap64 (t437 * t432)) t535 true _ A130.out).mono ?_); rintro e w' ⟨rfl, ⟨nd, rfl⟩⟩; refine ⟨_, rfl, ?_⟩))
        go_ret
        exact ⟨by first | rfl | (simp [errW_none, errW_some] <;> rfl) | (simp [*, errW_none, errW_some] <;> rfl), by repeat (first | (with_reducible first | exact HB.out | apply below_alloc | apply pw_below_drewN | apply below_drew1) | exact HB.out)⟩
      ·replace c128 := Bool.eq_false_iff.mpr c128
       subst c128
       have H1 : (some true) = some true := by first | (rw [if_neg (show ¬ (false = true) by decide)] at H; exact H) | rfl
       clear H
       have H := H1
       clear H1
       clear H
       go_wp2
       go_ret
       exact ⟨by first | rfl | (simp [errW_none, errW_some] <;> rfl) | (simp [*, errW_none, errW_some] <;> rfl), by repeat (first | (with_reducible first | exact HB.out | apply below_alloc | apply pw_below_drewN | apply below_drew1) | exact HB.out)⟩

/-- THE ONE PURE STATEMENT of laws_FnLaundryLost: yours. -/
def laws_FnLaundryLost.Pure : Prop := ∀ (l0 : List Int) (l1 : List Int), l0.length ≤ maxLen → l0.length * 1 ≤ 140737488351232 → (∀ x ∈ l0, (Lit.int .u8 x).wf = true) → l1.length ≤ maxLen → l1.length * 1 ≤ 140737488351232 → (∀ x ∈ l1, (Lit.int .u8 x).wf = true) → ∃ k, laws_FnLaundryLost.f k l0 l1 = some true
theorem laws_FnLaundryLost.walk (P : laws_FnLaundryLost.Pure) (a0 : Option Addr) (len0 cap0 : Nat) (z0 : List Int) (a1 : Option Addr) (len1 cap1 : Nat) (z1 : List Int) (w : World) (w0 : (a0 = none ∧ len0 = 0 ∧ cap0 = 0 ∧ z0 = []) ∨ ∃ x, a0 = some x ∧ len0 ≤ cap0 ∧ cap0 ≤ maxLen ∧ z0.length = cap0 ∧ (∀ i, i < z0.length → w.cell? (x.add i) = some (.int .u8 (z0.getD i 0))) ∧ ∀ n ∈ z0, (Lit.int .u8 n).wf = true) (y0 : len0 * 1 ≤ 140737488351232) (w1 : (a1 = none ∧ len1 = 0 ∧ cap1 = 0 ∧ z1 = []) ∨ ∃ x, a1 = some x ∧ len1 ≤ cap1 ∧ cap1 ≤ maxLen ∧ z1.length = cap1 ∧ (∀ i, i < z1.length → w.cell? (x.add i) = some (.int .u8 (z1.getD i 0))) ∧ ∀ n ∈ z1, (Lit.int .u8 n).wf = true) (y1 : len1 * 1 ≤ 140737488351232) :
    Calls Try.prog 3 #[.slice a0 len0 cap0, .slice a1 len1 cap1] w fun e w' => e = .returned (.bool true) ∧ Below w.heap.size w w' := by
 obtain ⟨l0, rfl, hr0, hm0, hw0, hc0⟩ := ReadsInt.ofRowC w0
 obtain ⟨l1, rfl, hr1, hm1, hw1, hc1⟩ := ReadsInt.ofRowC w1
 obtain ⟨k, h⟩ := P l0 l1 hm0 y0 hw0 hm1 y1 hw1
 refine (laws_FnLaundryLost.calls k _ _ l0 _ _ l1 w (Kd.C_of_reads (d := (0 : Int)) (h1 := fun _ => rfl) hr0) hc0 (Kd.C_of_reads (d := (0 : Int)) (h1 := fun _ => rfl) hr1) hc1 h).mono ?_
 rintro e w' ⟨rfl, hd⟩
 exact ⟨rfl, hd⟩

end Go.Proofs.Ytapimfgiideojaa.PFnLaundryLost
