/- Words of printed texts: each step holds of the model's own run. Conditions: those that each theorem states. -/
/- A checked abstract run of Go functions: words of the printed functions. -/
import Derived.Test.YthgmnlfbgajchaaVaiStep
namespace Go.Proofs.YthgmnlfbgajchaaV
set_option linter.unusedVariables false
set_option linter.unusedSimpArgs false
def iw : Int → Int := IntKind.i64.wrap
def rd (l : List Int) (i : Int) : Int := l.getD i.toNat 0
def rdG {β : Type} (z : β) (l : List β) (i : Int) : β := l.getD i.toNat z
def setI {β : Type} (l : List β) (i : Int) (x : β) : List β := l.set i.toNat x
def ixk {α : Type} (i : Int) (n : Nat) (K : Option α) : Option α := chk (decide (0 ≤ i)) (chk (decide (i < n)) K)
def min2 (x y : Int) : Int := if y < x then y else x
def max2 (x y : Int) : Int := if y > x then y else x
def shlI (k : IntKind) (x y : Int) : Int := k.wrap (x * 2 ^ (min y.toNat k.bits))
def shrI (k : IntKind) (x y : Int) : Int := x.fdiv (2 ^ (min y.toNat k.bits))
def andI (k : IntKind) (x y : Int) : Int := k.wrap (BitVec.ofInt k.bits x &&& BitVec.ofInt k.bits y).toNat
def orI (k : IntKind) (x y : Int) : Int := k.wrap (BitVec.ofInt k.bits x ||| BitVec.ofInt k.bits y).toNat
def lit (l : List UInt8) : ByteArray := ⟨l.toArray⟩
def bodyX (f : Func) : Code := f.body.getD .skip
theorem TableOk.nil {P : Program} {G : List Nat} : TableOk P [] G := fun _ h => by simp at h
theorem TableOk.cons {P : Program} {c : Con} {T : List Con} {G : List Nat} (h : c.Sound P G) (hT : TableOk P T G) : TableOk P (c :: T) G := fun d hd => by
  rcases List.mem_cons.1 hd with e | hd
  · rw [e]; exact h
  · exact hT d hd
/-- A contract that promises nothing. -/
theorem con_none {P : Program} {c : Con} {fn : Func} {body : Code} (hf : P.funcs[c.f]? = some fn) (hn : (fn.name == "runtime.NumGoroutine") = false) (hb : fn.body = some body) (h : ∀ x, c.fn x = none) {G : List Nat} : c.Sound P G :=
  ⟨⟨fn, hf, hn, by rw [hb]; rfl⟩, fun x y z args w g0 ok0 M _ _ hx => by rw [h x] at hx; cases hx⟩
theorem callT_at {P : Program} {T : List Con} {G : List Nat} (hT : TableOk P T G) (X : Cx) (h : X.G = G) : CallerOk P X (callT T) := by subst h; exact callT_ok X hT
end Go.Proofs.YthgmnlfbgajchaaV
