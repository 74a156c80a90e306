/- The functions that a law reaches, and proofs that the Go code comes to just their answers: written by a program of this session out of the translation. Conditions: those that each theorem states. -/
import Derived.Test.YtdifnieiobfnaaaDoorProg
import Derived.Below
import Derived.Deep.Draws
import Derived.Deep.AppendLies
import Derived.Maps.AppendAt
import Derived.OwnWalk
import Derived.Laws.BytesArg
import Derived.Laws.MakeOwn
import Derived.Laws.OwnMore
import Derived.Deep.OwnRows
import Derived.Tactics
import Derived.Lib.ConvBytes
import Derived.Laws.Slices
import Derived.WalkKit
import Derived.KernelRfl
import Derived.RowKit3
import Derived.Deep.LoopGhost
import Derived.Deep.QuietTactic
import Derived.BigQuiet
import Derived.WideLaws
import Derived.Deep.DeepCutAuto
import Derived.Deep.CutBlock
import Derived.Deep.RegionHeld3
import Derived.Laws.Rows
import Derived.Lib.AppendStr
import Derived.ArgAppend
import Derived.Laws.IdiomCopy
import Derived.OrdersHeld
import Derived.Laws.BitsLemmas
import Derived.RowKit
import Derived.Lib.SliceRun
import Derived.WalkSpells
import Derived.Test.YtdifnieiobfnaaaDoorWWords
import Derived.Test.YtdifnieiobfnaaaDoorWLast
import Derived.Test.YtdifnieiobfnaaaDoorWTab
import Derived.Test.YtdifnieiobfnaaaDoorWQPut
import Derived.Test.YtdifnieiobfnaaaDoorWApart
import Derived.Test.YtdifnieiobfnaaaDoorWArr
import Derived.Test.YtdifnieiobfnaaaDoorWZeros
import Derived.Test.YtdifnieiobfnaaaDoorWFoot
import Derived.Test.YtdifnieiobfnaaaDoorWKept
import Derived.Test.YtdifnieiobfnaaaDoorWShare
import Derived.Test.YtdifnieiobfnaaaDoorWN
import Derived.Test.YtdifnieiobfnaaaDoorWRepsOne
import Derived.Test.YtdifnieiobfnaaaDoorWGuard
import Derived.Test.YtdifnieiobfnaaaDoorWNEv
import Derived.Test.YtdifnieiobfnaaaDoorWMore
import Derived.Lib.AtoiErrMem
import Derived.Shelf.LaysC
import Derived.Shelf.LaysM
import Derived.Shelf.Strconv.AtoiAll
import Derived.Shelf.Strings.Cut
import Derived.Shelf.Strings.SlTrimAscii
namespace Go.Proofs.YtdifnieiobfnaaaDoor.PFnExactParseGloves
open Go.RowKit Go.Proofs.YtdifnieiobfnaaaDoorW.PrintWords Go.Proofs.YtdifnieiobfnaaaDoorW.PrintLast Go.Proofs.YtdifnieiobfnaaaDoorW.PrintMore
attribute [local go_sem] max2_int min2_int max_two min_two max_three min_three max_four min_four   -- for this text's walks alone
set_option linter.unusedVariables false
set_option linter.unusedSimpArgs false



def errW : Option Int → Value
  | none => .nilIface
  | some c => .iface 0 (.int .i64 c)
theorem errW_none : errW none = .nilIface := rfl
theorem errW_some (c : Int) : errW (some c) = .iface 0 (.int .i64 c) := rfl

theorem info3 : (Tryd.prog.info? 3).map (fun i => (i.zero, i.size, i.bytes)) = some (some (.int .i64 0), 1, 8) := by kernel_rfl
theorem info5 : (Tryd.prog.info? 5).map (fun i => (i.zero, i.size, i.bytes)) = some (some (.int .u8 0), 1, 1) := by kernel_rfl
theorem info9 : (Tryd.prog.info? 9).map (fun i => (i.zero, i.size, i.bytes)) = some (some (.string ⟨#[]⟩), 1, 16) := by kernel_rfl
-- the values' own types

/-- What calling a function value does. -/
def Runs (P : Program) (v : Value) (args : Array Value) (w : World) (Q : Ending → World → Prop) : Prop :=
  ∃ (f : FuncId) (fn : Func) (cap : Array Value), v = .func (.func f) #[] cap ∧ P.funcs[f]? = some fn ∧ (fn.name == "runtime.NumGoroutine") = false ∧ fn.body.isSome = true ∧ Calls P f (args ++ cap) w Q
theorem bN {w : World} {g : Nat} {o : Obj} (h : w.heap[g]? = some o) (n : Nat) : (w.drewN n).heap[g]? = some o := h
theorem bD {w : World} {g : Nat} {o : Obj} (h : w.heap[g]? = some o) : w.drew.heap[g]? = some o := h
theorem bA {w : World} {g : Nat} {o : Obj} (h : w.heap[g]? = some o) (o' : Obj) : (w.alloc o').heap[g]? = some o := blk_alloc h o'
theorem Runs.mono {P : Program} {v : Value} {args : Array Value} {w : World} {Q R : Ending → World → Prop} (h : Runs P v args w Q) (hm : ∀ e w', Q e w' → R e w') : Runs P v args w R := by
  obtain ⟨f, fn, cap, h1, h2, h3, h4, h5⟩ := h
  exact ⟨f, fn, cap, h1, h2, h3, h4, h5.mono hm⟩
theorem nil_of_none {α : Type} {d : Kd α} {w : World} {n : Nat} {l : List α} (h : Kd.C d w none n l) : l = [] := by
  obtain ⟨h1, _, h2⟩ := h
  rcases Nat.eq_zero_or_pos n with h0 | h0
  · exact List.eq_nil_of_length_eq_zero (h1.trans h0)
  · obtain ⟨ad, e, _⟩ := h2 h0
    cases e
theorem gate_fn {P : Program} {ops : Array Oper} {rest : List Oper} {o : Oper} {a : Act} {W : World} {Q : Exit → Act → World → Prop} {s : Tmp} {ars : Array Operand} {ts : Array TypeId} (_ho : o.op = .call { callee := .value (.tmp s), args := ars, argTypes := ts }) (h : wpList P ops Q (o :: rest) a W) : wpList P ops Q (o :: rest) a W := h
theorem goesF_ {P : Program} {ops : Array Oper} {Q : Exit → Act → World → Prop} {rest : List Oper} {oi : Oper} {a : Act} {w : World} (N : Option Tmp) (hd : oi.dst = N) (hg : oi.guard = none) {x : Operand} {ars : Array Operand} {ts : Array TypeId} (v : Value) (args : Array Value)
    (hop : oi.op = .call { callee := .value x, args := ars, argTypes := ts }) (hv : a.eval x = v) (hargs : ars.map a.eval = args)
    (h : Runs P v args w fun e w' => ∃ v, e = .returned v ∧ wpList P ops Q rest (a.put N v) w') : wpList P ops Q (oi :: rest) a w := by
  obtain ⟨f, fn, cap, hv2, hf, hname, hb, h⟩ := h
  refine wpList_plain hg fun K hK => ?_
  have he := enters_ hf hname hb (args ++ cap) w
  have hv3 : a.eval x = .func (.func f) #[] cap := hv.trans hv2
  have hrun : (execOp a.eval oi).run P w = .ok (.enter f (args ++ cap)) w := by
    unfold execOp
    simp [hop, resolve, Deferred.ofValue, invoke, hv3, hargs, he]
  unfold Oper.wp
  rw [hrun, Oper.upon_enter]
  refine h.mono fun e w'' hh => ?_
  obtain ⟨v, rfl, hk⟩ := hh
  subst hd
  exact hK _ _ hk

/-! #### function values of type 95 -/
def F95 (w : World) (v : Value) (φ : (Int → Option (Bool))) : Prop := ∀ (b0 : Int) (r : Bool) (W : World), Below w.heap.size w W → φ b0 = some r → Runs Tryd.prog v #[.int .i64 b0] W fun e w' => e = .returned (.bool r) ∧ Below W.heap.size W w'
theorem F95_below {w W : World} {v : Value} {φ : (Int → Option (Bool))} (h : F95 w v φ) (hb : Below w.heap.size w W) : F95 W v φ := by
  intro _ _ W' hb2
  exact h _ _ _ (below_then hb hb.size hb2)

end Go.Proofs.YtdifnieiobfnaaaDoor.PFnExactParseGloves
