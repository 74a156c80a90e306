/-
  No cell of these rows narrows 'for every input' (looked for: loops, veiled, ifaces, maps, wideKeys, modest, calm, conditions, laid).
  DERIVED. THE GIVEN ROWS OF THIS SEAT. 4 by the template 'for every input the law returns true; each argument reads behind the call as it read before'; 0 by the template 'total and deterministic' (their statements: YtapimfgiideojaaTotals.lean).
  GIVEN WITH THE SEED: the statements are not yours to turn. If you find one false, say at which input.
  Laid BY PROGRAM, IN A SANDBOX (cutbox-rows.mjs): the forced cells as the released guide's own fill.sh prints them over the translation 2eb5c6fdaf5d5210… (all of the seat's roots in one cut). By AI agents, Wed Nov 11 2026. No macro, syntax, notation, axiom, sorry.
-/
import Derived.Test.YtapimfgiideojaaChecked
import GoSem.Claim
import GoSem.ClaimJoined
import GoSem.ClaimMapViews
import Derived.JoinedTies
import Derived.KernelRfl
namespace Go.Proofs.Ytapimfgiideojaa
/- THE CELL 'sum', in the pinned program and in every row, IS THE sha256 OF THE DUMP (.gsa) THAT YtapimfgiideojaaProg.lean LOADS. Nothing in Lean hashes anything: it is a label: what it is worth is what the hold of that sum in a sandbox is worth. -/
noncomputable def Try.pinned : Pinned := { name := "ytapimfgiideojaa", sum := "2eb5c6fdaf5d52101ae8351a0ab31e188ab33c2ae8952b40f34829abb98c3b71", checked := Try.checked }
namespace Rows
def none {H : Type} : Left H := { results := [], args := [] }

/-- 'laws.FnLaundryLost': WHATEVER THE INPUT: true; the input reads as it did. -/
def fnLaundryLostSpec : ChangeSpec := { name := "fnLaundryLost", fn := fun _ => fun
  | [d1, d2] => { results := [.lit (.bool true)], args := [d1, d2] }
  | _ => none }
def fnLaundryLostRow : OpenClaim := { program := "ytapimfgiideojaa", sum := "2eb5c6fdaf5d52101ae8351a0ab31e188ab33c2ae8952b40f34829abb98c3b71", func := "loop.example/g01372/laws.FnLaundryLost", spec := "fnLaundryLost", unfollowed := true, recurses := true, apart := false }
def FnLaundryLostSaid : Prop := fnLaundryLostRow.holds Try.pinned (OpenSpec.ofChange fnLaundryLostSpec)

/-- ITS FALSE NEIGHBOUR: 'it returns false'. Refute it at one input. -/
def fnLaundryLostWrong : ChangeSpec := { name := "fnLaundryLost", fn := fun _ => fun
  | [d1, d2] => { results := [.lit (.bool false)], args := [d1, d2] }
  | _ => none }
def FnLaundryLostWrongFalsely : Prop := fnLaundryLostRow.holds Try.pinned (OpenSpec.ofChange fnLaundryLostWrong)

/-- 'laws.FnChancesPairs': WHATEVER THE INPUT: true; the input reads as it did. -/
def fnChancesPairsSpec : ChangeSpec := { name := "fnChancesPairs", fn := fun _ => fun
  | [d1, d2] => { results := [.lit (.bool true)], args := [d1, d2] }
  | _ => none }
def fnChancesPairsRow : OpenClaim := { program := "ytapimfgiideojaa", sum := "2eb5c6fdaf5d52101ae8351a0ab31e188ab33c2ae8952b40f34829abb98c3b71", func := "loop.example/g01372/laws.FnChancesPairs", spec := "fnChancesPairs", unfollowed := true, recurses := true, apart := false }
def FnChancesPairsSaid : Prop := fnChancesPairsRow.holds Try.pinned (OpenSpec.ofChange fnChancesPairsSpec)

/-- ITS FALSE NEIGHBOUR: 'it returns false'. Refute it at one input. -/
def fnChancesPairsWrong : ChangeSpec := { name := "fnChancesPairs", fn := fun _ => fun
  | [d1, d2] => { results := [.lit (.bool false)], args := [d1, d2] }
  | _ => none }
def FnChancesPairsWrongFalsely : Prop := fnChancesPairsRow.holds Try.pinned (OpenSpec.ofChange fnChancesPairsWrong)

/-- 'laws.FnGlovesSafe': WHATEVER THE INPUT: true; the input reads as it did. -/
def fnGlovesSafeSpec : ChangeSpec := { name := "fnGlovesSafe", fn := fun _ => fun
  | [d1, d2] => { results := [.lit (.bool true)], args := [d1, d2] }
  | _ => none }
def fnGlovesSafeRow : OpenClaim := { program := "ytapimfgiideojaa", sum := "2eb5c6fdaf5d52101ae8351a0ab31e188ab33c2ae8952b40f34829abb98c3b71", func := "loop.example/g01372/laws.FnGlovesSafe", spec := "fnGlovesSafe", unfollowed := true, recurses := true, apart := false }
def FnGlovesSafeSaid : Prop := fnGlovesSafeRow.holds Try.pinned (OpenSpec.ofChange fnGlovesSafeSpec)

/-- ITS FALSE NEIGHBOUR: 'it returns false'. Refute it at one input. -/
def fnGlovesSafeWrong : ChangeSpec := { name := "fnGlovesSafe", fn := fun _ => fun
  | [d1, d2] => { results := [.lit (.bool false)], args := [d1, d2] }
  | _ => none }
def FnGlovesSafeWrongFalsely : Prop := fnGlovesSafeRow.holds Try.pinned (OpenSpec.ofChange fnGlovesSafeWrong)

/-- 'laws.FnSocksHidden': WHATEVER THE INPUT: true; the input reads as it did. -/
def fnSocksHiddenSpec : ChangeSpec := { name := "fnSocksHidden", fn := fun _ => fun
  | [d1, d2] => { results := [.lit (.bool true)], args := [d1, d2] }
  | _ => none }
def fnSocksHiddenRow : OpenClaim := { program := "ytapimfgiideojaa", sum := "2eb5c6fdaf5d52101ae8351a0ab31e188ab33c2ae8952b40f34829abb98c3b71", func := "loop.example/g01372/laws.FnSocksHidden", spec := "fnSocksHidden", unfollowed := true, recurses := true, apart := false }
def FnSocksHiddenSaid : Prop := fnSocksHiddenRow.holds Try.pinned (OpenSpec.ofChange fnSocksHiddenSpec)

/-- ITS FALSE NEIGHBOUR: 'it returns false'. Refute it at one input. -/
def fnSocksHiddenWrong : ChangeSpec := { name := "fnSocksHidden", fn := fun _ => fun
  | [d1, d2] => { results := [.lit (.bool false)], args := [d1, d2] }
  | _ => none }
def FnSocksHiddenWrongFalsely : Prop := fnSocksHiddenRow.holds Try.pinned (OpenSpec.ofChange fnSocksHiddenWrong)

/- THE SECOND FORM. 'bulk': how many values and letters a reading holds, each counted each time it is reached (what is shared counts as often as it is met; a slice's spare places count too). A statement '..UptoSaid' is the law's where the arguments, and the package variables that the reading takes, are together of bulk at most 1048576: NARROWER than '..Said'. Prove '..Said' where nothing that the law and all that it calls make is longer than what came in: it says more and counts as full. Else prove '..UptoSaid'. A law counts once. -/
mutual
def uptoBulk {H : Type} : DataW H → Nat
  | .lit (.string bytes) => bytes.length + 1
  | .lit _ => 1
  | .nil => 1
  | .ptr d => uptoBulk d + 1
  | .slice elems spare => uptoBulkAll elems + uptoBulkAll spare + 1
  | .agg parts => uptoBulkAll parts + 1
  | .iface _ d => uptoBulk d + 1
  | .map entries => uptoBulkEntries entries + 1
  | .held _ => 1
def uptoBulkAll {H : Type} : List (DataW H) → Nat
  | [] => 0
  | d :: r => uptoBulk d + uptoBulkAll r
def uptoBulkEntries {H : Type} : List (Lit × DataW H) → Nat
  | [] => 0
  | x :: r => uptoBulkEntry x + uptoBulkEntries r
def uptoBulkEntry {H : Type} : Lit × DataW H → Nat
  | (.string bytes, d) => bytes.length + uptoBulk d + 1
  | (_, d) => uptoBulk d + 1
 end
def uptoSmall : (H : Type) → List (DataW H) → Bool := fun _ ds => decide (uptoBulkAll ds ≤ 1048576)
def OpenSpec.upto (s : _root_.Go.ChangeSpec) : _root_.Go.OpenSpec := { _root_.Go.OpenSpec.ofChange s with cond := some uptoSmall }

/-- 'laws.FnLaundryLost', WHERE WHAT IT READS IS OF BULK AT MOST 1048576: true; the input reads as it did. -/
def fnLaundryLostUptoRow : OpenClaim := { program := "ytapimfgiideojaa", sum := "2eb5c6fdaf5d52101ae8351a0ab31e188ab33c2ae8952b40f34829abb98c3b71", func := "loop.example/g01372/laws.FnLaundryLost", spec := "fnLaundryLost", unfollowed := true, recurses := true, apart := false, narrowed := true }
def FnLaundryLostUptoSaid : Prop := fnLaundryLostUptoRow.holds Try.pinned (OpenSpec.upto fnLaundryLostSpec)

/-- 'laws.FnChancesPairs', WHERE WHAT IT READS IS OF BULK AT MOST 1048576: true; the input reads as it did. -/
def fnChancesPairsUptoRow : OpenClaim := { program := "ytapimfgiideojaa", sum := "2eb5c6fdaf5d52101ae8351a0ab31e188ab33c2ae8952b40f34829abb98c3b71", func := "loop.example/g01372/laws.FnChancesPairs", spec := "fnChancesPairs", unfollowed := true, recurses := true, apart := false, narrowed := true }
def FnChancesPairsUptoSaid : Prop := fnChancesPairsUptoRow.holds Try.pinned (OpenSpec.upto fnChancesPairsSpec)

/-- 'laws.FnGlovesSafe', WHERE WHAT IT READS IS OF BULK AT MOST 1048576: true; the input reads as it did. -/
def fnGlovesSafeUptoRow : OpenClaim := { program := "ytapimfgiideojaa", sum := "2eb5c6fdaf5d52101ae8351a0ab31e188ab33c2ae8952b40f34829abb98c3b71", func := "loop.example/g01372/laws.FnGlovesSafe", spec := "fnGlovesSafe", unfollowed := true, recurses := true, apart := false, narrowed := true }
def FnGlovesSafeUptoSaid : Prop := fnGlovesSafeUptoRow.holds Try.pinned (OpenSpec.upto fnGlovesSafeSpec)

/-- 'laws.FnSocksHidden', WHERE WHAT IT READS IS OF BULK AT MOST 1048576: true; the input reads as it did. -/
def fnSocksHiddenUptoRow : OpenClaim := { program := "ytapimfgiideojaa", sum := "2eb5c6fdaf5d52101ae8351a0ab31e188ab33c2ae8952b40f34829abb98c3b71", func := "loop.example/g01372/laws.FnSocksHidden", spec := "fnSocksHidden", unfollowed := true, recurses := true, apart := false, narrowed := true }
def FnSocksHiddenUptoSaid : Prop := fnSocksHiddenUptoRow.holds Try.pinned (OpenSpec.upto fnSocksHiddenSpec)

end Rows
end Go.Proofs.Ytapimfgiideojaa
