/- The functions that a law reaches, as plain Lean functions; each is what the run of its code comes to. Printed by a program of this session. Conditions: none. -/
import Derived.Test.YtjdglbkjdfidoaaGreatDoorVaiNice
import Derived.Test.YtjdglbkjdfidoaaGreatDoorVaiGrow
import Derived.Shelf.Spec.SlicesGrow
import Derived.Test.YtjdglbkjdfidoaaGreatDoorVaiText
import Derived.Shelf.LaysM
import Derived.Shelf.Strconv.Itoa3
import Derived.Shelf.Strings.OnBuilder
import Derived.Lib.CountLaws
import Derived.Shelf.Strings.Split
import Derived.Lib.SplitLaws
import Derived.Shelf.Strings.SlTrimAscii
import Derived.Lib.AtoiErrMem
import Derived.Shelf.LaysC
import Derived.Shelf.Strconv.AtoiAll
import Derived.Test.YtjdglbkjdfidoaaGreatDoorProg
import Derived.KernelRfl
namespace Go.Proofs.YtjdglbkjdfidoaaGreatDoorV.Law
set_option linter.unusedSimpArgs false
open Go.Proofs Go.Proofs.YtjdglbkjdfidoaaGreatDoorV
open Go.Shelf Go.Sort Go.RowKit Go.Lib
set_option maxRecDepth 1000000
set_option linter.unusedVariables false
abbrev GL : List Nat := [0]
def grow_ren : Go.Shelf.Ren := ⟨fun | 4 => 131 | n => n, fun | 22 => 24 | 25 => 3 | 3 => 3 | 4 => 4 | 9 => 9 | 20 => 20 | n => n, fun n => n⟩
theorem grow_lays : Lays8.n4 Tryz.prog grow_ren := {
  mixed := by kernel_rfl
  f4 := ⟨"slices.Grow[[]int,int]", by decide, Tryz.func131.trans (congrArg some (by kernel_rfl))⟩
  t0 := Tryz.underlying0
  a0 := Tryz.isAgg0
  z0 := Tryz.sizeOf0
  v0 := Tryz.zeroValue0
  t3 := Tryz.underlying3
  a3 := Tryz.isAgg3
  z3 := Tryz.sizeOf3
  v3 := Tryz.zeroValue3
  t4 := Tryz.underlying4
  a4 := Tryz.isAgg4
  z4 := Tryz.sizeOf4
  v4 := Tryz.zeroValue4
  t9 := Tryz.underlying9
  a9 := Tryz.isAgg9
  z9 := Tryz.sizeOf9
  v9 := Tryz.zeroValue9
  t20 := Tryz.underlying20
  a20 := Tryz.isAgg20
  z20 := Tryz.sizeOf20
  v20 := Tryz.zeroValue20
  t22 := Tryz.underlying24
  a22 := Tryz.isAgg24
  z22 := Tryz.sizeOf24
  v22 := Tryz.zeroValue24 }
theorem grow_info : (Tryz.prog.info? 3).map (fun i => (i.zero, i.size, i.bytes)) = some (some (.int .i64 0), 1, 8) := by kernel_rfl
theorem grow_call (n : Nat) (w : World) (hn : n ≤ 1000000000) : Calls Tryz.prog 131 #[.slice none 0 0, .int .i64 n] w fun e' w' => ∃ u, e' = .returned u ∧ w'.ownsRow w.heap.size 3 1 u 0 [] ∧ Below w.heap.size w w' := by
  by_cases h0 : n = 0
  · subst h0
    refine (Any8.slices_Grow_room grow_lays none 0 0 0 w (by omega) (by omega) (by omega) (by omega)).mono ?_
    rintro e w' ⟨rfl, rfl⟩
    exact ⟨_, rfl, World.ownsRow_nil _ _ _ _, Below.refl _ _⟩
  · obtain ⟨i0, hi, hq⟩ := Option.map_eq_some_iff.1 grow_info
    simp only [Prod.mk.injEq] at hq
    obtain ⟨hz, hs, hb⟩ := hq
    refine (Any8.slices_Grow_grow grow_lays i0 (.int .i64 0) hi hz (by omega) none 0 0 n [] w (by omega) (by omega) (by rw [hb]; omega) (by omega) (by simp) (fun _ => rfl) (fun a h => (by cases h))).mono ?_
    rintro e w' ⟨rfl, rfl⟩
    have hge := grownCap_ge w (0 + n) 0 (grow_ren.t 25)
    refine ⟨_, rfl, World.ownsRow_made (base := w.heap.size) w.drew _ _ (Nat.le_refl _) (grownCap_le_maxLen w _ 0 _ (by unfold maxLen; omega)) ?_, (Below.drew (Below.refl _ _)).alloc (Nat.le_refl _) _⟩
    rw [Array.size_append, Array.size_append, size_zeroCells, size_zeroCells]
    show 0 + (0 + n - 0) * 1 + (grownCap w (0 + n) 0 (grow_ren.t 25) - (0 + n)) * 1 = grownCap w (0 + n) 0 (grow_ren.t 25) * 1
    omega
theorem rule_grow : RuleOk Tryz.prog (growRule 131 3) := growRule_ok ⟨Tryz.f131, Tryz.func131, by kernel_rfl, by rfl⟩ grow_call
def lay_lays171_ren : Go.Shelf.Ren := ⟨fun | 171 => 118 | 243 => 138 | 246 => 152 | 283 => 165 | 284 => 166 | 285 => 167 | 286 => 168 | 129 => 179 | 317 => 178 | 318 => 180 | 319 => 181 | 320 => 182 | 337 => 185 | 338 => 186 | n => n, fun | 3 => 3 | 9 => 9 | 2 => 2 | 4 => 4 | 171 => 126 | 0 => 0 | 53 => 53 | 37 => 22 | 5 => 5 | 173 => 129 | 212 => 146 | 51 => 113 | 20 => 20 | 213 => 147 | 46 => 100 | 232 => 154 | 233 => 155 | n => n, fun | 17 => 5 | 18 => 6 | 19 => 7 | n => n⟩
theorem lay_lays171 : Go.Proofs.Lays.n171 Tryz.prog lay_lays171_ren := {
  mixed := by kernel_rfl
  f129 := Tryz.func179.trans (congrArg some (by kernel_rfl))
  f171 := Tryz.func118.trans (congrArg some (by kernel_rfl))
  f243 := Tryz.func138.trans (congrArg some (by kernel_rfl))
  f246 := Tryz.func152.trans (congrArg some (by kernel_rfl))
  f283 := Tryz.func165.trans (congrArg some (by kernel_rfl))
  f284 := Tryz.func166.trans (congrArg some (by kernel_rfl))
  f285 := Tryz.func167.trans (congrArg some (by kernel_rfl))
  f286 := Tryz.func168.trans (congrArg some (by kernel_rfl))
  f317 := Tryz.func178.trans (congrArg some (by kernel_rfl))
  f318 := Tryz.func180.trans (congrArg some (by kernel_rfl))
  f319 := Tryz.func181.trans (congrArg some (by kernel_rfl))
  f320 := Tryz.func182.trans (congrArg some (by kernel_rfl))
  f337 := Tryz.func185.trans (congrArg some (by kernel_rfl))
  f338 := Tryz.func186.trans (congrArg some (by kernel_rfl))
  t0 := Tryz.underlying0
  a0 := Tryz.isAgg0
  z0 := Tryz.sizeOf0
  v0 := Tryz.zeroValue0
  t2 := Tryz.underlying2
  a2 := Tryz.isAgg2
  z2 := Tryz.sizeOf2
  v2 := Tryz.zeroValue2
  t3 := Tryz.underlying3
  a3 := Tryz.isAgg3
  z3 := Tryz.sizeOf3
  v3 := Tryz.zeroValue3
  t4 := Tryz.underlying4
  a4 := Tryz.isAgg4
  z4 := Tryz.sizeOf4
  v4 := Tryz.zeroValue4
  t5 := Tryz.underlying5
  a5 := Tryz.isAgg5
  z5 := Tryz.sizeOf5
  v5 := Tryz.zeroValue5
  t9 := Tryz.underlying9
  a9 := Tryz.isAgg9
  z9 := Tryz.sizeOf9
  v9 := Tryz.zeroValue9
  t20 := Tryz.underlying20
  a20 := Tryz.isAgg20
  z20 := Tryz.sizeOf20
  v20 := Tryz.zeroValue20
  t37 := Tryz.underlying22
  a37 := Tryz.isAgg22
  z37 := Tryz.sizeOf22
  v37 := Tryz.zeroValue22
  t46 := Tryz.underlying100
  a46 := Tryz.isAgg100
  z46 := Tryz.sizeOf100
  v46 := Tryz.zeroValue100
  t51 := Tryz.underlying113
  a51 := Tryz.isAgg113
  z51 := Tryz.sizeOf113
  v51 := Tryz.zeroValue113
  t53 := Tryz.underlying53
  a53 := Tryz.isAgg53
  z53 := Tryz.sizeOf53
  v53 := Tryz.zeroValue53
  t171 := Tryz.underlying126
  a171 := Tryz.isAgg126
  z171 := Tryz.sizeOf126
  v171 := Tryz.zeroValue126
  t173 := Tryz.underlying129
  a173 := Tryz.isAgg129
  z173 := Tryz.sizeOf129
  v173 := Tryz.zeroValue129
  t212 := Tryz.underlying146
  a212 := Tryz.isAgg146
  z212 := Tryz.sizeOf146
  v212 := Tryz.zeroValue146
  t213 := Tryz.underlying147
  a213 := Tryz.isAgg147
  z213 := Tryz.sizeOf147
  t232 := Tryz.underlying154
  a232 := Tryz.isAgg154
  z232 := Tryz.sizeOf154
  v232 := Tryz.zeroValue154
  t233 := Tryz.underlying155
  a233 := Tryz.isAgg155
  z233 := Tryz.sizeOf155
  v233 := Tryz.zeroValue155
  g17 := by kernel_rfl
  g18 := by kernel_rfl
  g19 := by kernel_rfl }
open Go.RowKit Go.Sort Go.Lib in
theorem lay_strconv_Itoa_small (i : Nat) (hi : i < 100) (w : World) :
    Calls Tryz.prog 118 #[.int .i64 i] w fun e w' => e = .returned (.string ⟨(Lib.decDigits i).toArray⟩) ∧ w' = w := Any.strconv_Itoa_small lay_lays171 i hi w

def lay_lays156_ren : Go.Shelf.Ren := ⟨fun | 156 => 119 | 165 => 139 | 166 => 140 | 169 => 141 | 240 => 153 | 241 => 154 | 276 => 169 | 277 => 170 | n => n, fun | 31 => 81 | 9 => 9 | 3 => 3 | 4 => 4 | 0 => 0 | 20 => 20 | 72 => 104 | 76 => 93 | 70 => 102 | 37 => 22 | 75 => 92 | 127 => 117 | 164 => 131 | 5 => 5 | 80 => 106 | n => n, fun | n => n⟩
theorem lay_lays156 : Go.Proofs.Lays.n156 Tryz.prog lay_lays156_ren := {
  mixed := by kernel_rfl
  f156 := Tryz.func119.trans (congrArg some (by kernel_rfl))
  f165 := Tryz.func139.trans (congrArg some (by kernel_rfl))
  f166 := Tryz.func140.trans (congrArg some (by kernel_rfl))
  f169 := Tryz.func141.trans (congrArg some (by kernel_rfl))
  f240 := Tryz.func153.trans (congrArg some (by kernel_rfl))
  f241 := Tryz.func154.trans (congrArg some (by kernel_rfl))
  f276 := Tryz.func169.trans (congrArg some (by kernel_rfl))
  f277 := Tryz.func170.trans (congrArg some (by kernel_rfl))
  t0 := Tryz.underlying0
  a0 := Tryz.isAgg0
  z0 := Tryz.sizeOf0
  v0 := Tryz.zeroValue0
  t3 := Tryz.underlying3
  a3 := Tryz.isAgg3
  z3 := Tryz.sizeOf3
  v3 := Tryz.zeroValue3
  t4 := Tryz.underlying4
  a4 := Tryz.isAgg4
  z4 := Tryz.sizeOf4
  v4 := Tryz.zeroValue4
  t9 := Tryz.underlying9
  a9 := Tryz.isAgg9
  z9 := Tryz.sizeOf9
  v9 := Tryz.zeroValue9
  t20 := Tryz.underlying20
  a20 := Tryz.isAgg20
  z20 := Tryz.sizeOf20
  v20 := Tryz.zeroValue20
  t31 := Tryz.underlying81
  a31 := Tryz.isAgg81
  z31 := Tryz.sizeOf81
  v31 := Tryz.zeroValue81
  t37 := Tryz.underlying22
  a37 := Tryz.isAgg22
  z37 := Tryz.sizeOf22
  v37 := Tryz.zeroValue22
  t70 := Tryz.underlying102
  a70 := Tryz.isAgg102
  z70 := Tryz.sizeOf102
  v70 := Tryz.zeroValue102
  t72 := Tryz.underlying104
  a72 := Tryz.isAgg104
  z72 := Tryz.sizeOf104
  v72 := Tryz.zeroValue104
  t75 := Tryz.underlying92
  a75 := Tryz.isAgg92
  z75 := Tryz.sizeOf92
  v75 := Tryz.zeroValue92
  t76 := Tryz.underlying93
  a76 := Tryz.isAgg93
  z76 := Tryz.sizeOf93
  v76 := Tryz.zeroValue93
  t127 := Tryz.underlying117
  a127 := Tryz.isAgg117
  z127 := Tryz.sizeOf117
  v127 := Tryz.zeroValue117
  t164 := Tryz.underlying131
  a164 := Tryz.isAgg131
  z164 := Tryz.sizeOf131
  v164 := Tryz.zeroValue131 }
theorem lay_Builder_Extra_156 : Builder.Extra Tryz.prog lay_lays156_ren := {
  sizeBuilder := by kernel_rfl
  liesBuilder := by kernel_rfl
  t5 := Tryz.underlying5
  a5 := Tryz.isAgg5
  z5 := Tryz.sizeOf5
  v5 := Tryz.zeroValue5
  infoByte := by kernel_rfl
  cellsByte := by kernel_rfl
  sizeByte := by kernel_rfl
  neB5 := by decide }
open Go.RowKit in
theorem lay_strings_Join (bk o c : Nat) (xs : List ByteArray) (sep : ByteArray) (w : World) (hcells : ∀ (j : Nat) x, xs[j]? = some x → w.cell? ⟨bk, o + j, none⟩ = some (.string x)) (hbk : bk < w.heap.size) (hN : xs.length ≤ 140737488355328) (hcap : xs.length ≤ c) (hlen : (Lib.join (xs.map (·.data.toList)) sep.data.toList).length ≤ 140737488355328) :
    Calls Tryz.prog 119 #[.slice (some ⟨bk, o, none⟩) xs.length c, .string sep] w fun e w' => e = .returned (.string ⟨(Lib.join (xs.map (·.data.toList)) sep.data.toList).toArray⟩) ∧ Below w.heap.size w w' := Any.strings_Join lay_lays156 lay_Builder_Extra_156 bk o c xs sep w hcells hbk hN hcap hlen
theorem lay_strings_Join_none (a : Option Addr) (c : Nat) (sep : ByteArray) (w : World) :
    Calls Tryz.prog 119 #[.slice a 0 c, .string sep] w fun e w' => e = .returned (.string ⟨#[]⟩) ∧ w' = w := Any.strings_Join_none lay_lays156 lay_Builder_Extra_156 a c sep w

def lay_lays147_ren : Go.Shelf.Ren := ⟨fun | 147 => 132 | 221 => 149 | 268 => 163 | 138 => 164 | 143 => 75 | 195 => 176 | 197 => 143 | 218 => 177 | 219 => 117 | 260 => 155 | 217 => 134 | 225 => 135 | 224 => 136 | 267 => 137 | 266 => 150 | 314 => 151 | n => n, fun | 9 => 9 | 3 => 3 | 31 => 81 | 4 => 4 | 0 => 0 | 105 => 108 | 21 => 21 | 5 => 5 | 46 => 100 | 119 => 134 | 139 => 137 | 138 => 136 | 146 => 114 | 51 => 113 | n => n, fun | 1 => 0 | 3 => 1 | 4 => 2 | n => n⟩
theorem lay_lays147 : Go.Proofs.Lays.n147 Tryz.prog lay_lays147_ren := {
  mixed := by kernel_rfl
  f138 := Tryz.func164.trans (congrArg some (by kernel_rfl))
  f143 := Tryz.func75.trans (congrArg some (by kernel_rfl))
  f147 := Tryz.func132.trans (congrArg some (by kernel_rfl))
  f195 := Tryz.func176.trans (congrArg some (by kernel_rfl))
  f197 := Tryz.func143.trans (congrArg some (by kernel_rfl))
  f217 := Tryz.func134.trans (congrArg some (by kernel_rfl))
  f218 := Tryz.func177.trans (congrArg some (by kernel_rfl))
  f219 := Tryz.func117.trans (congrArg some (by kernel_rfl))
  f221 := Tryz.func149.trans (congrArg some (by kernel_rfl))
  f224 := Tryz.func136.trans (congrArg some (by kernel_rfl))
  f225 := Tryz.func135.trans (congrArg some (by kernel_rfl))
  f260 := Tryz.func155.trans (congrArg some (by kernel_rfl))
  f266 := Tryz.func150.trans (congrArg some (by kernel_rfl))
  f267 := Tryz.func137.trans (congrArg some (by kernel_rfl))
  f268 := Tryz.func163.trans (congrArg some (by kernel_rfl))
  f314 := Tryz.func151.trans (congrArg some (by kernel_rfl))
  t0 := Tryz.underlying0
  a0 := Tryz.isAgg0
  z0 := Tryz.sizeOf0
  v0 := Tryz.zeroValue0
  t3 := Tryz.underlying3
  a3 := Tryz.isAgg3
  z3 := Tryz.sizeOf3
  v3 := Tryz.zeroValue3
  t4 := Tryz.underlying4
  a4 := Tryz.isAgg4
  z4 := Tryz.sizeOf4
  v4 := Tryz.zeroValue4
  t5 := Tryz.underlying5
  a5 := Tryz.isAgg5
  z5 := Tryz.sizeOf5
  v5 := Tryz.zeroValue5
  t9 := Tryz.underlying9
  a9 := Tryz.isAgg9
  z9 := Tryz.sizeOf9
  v9 := Tryz.zeroValue9
  t21 := Tryz.underlying21
  a21 := Tryz.isAgg21
  z21 := Tryz.sizeOf21
  v21 := Tryz.zeroValue21
  t31 := Tryz.underlying81
  a31 := Tryz.isAgg81
  z31 := Tryz.sizeOf81
  v31 := Tryz.zeroValue81
  t46 := Tryz.underlying100
  a46 := Tryz.isAgg100
  z46 := Tryz.sizeOf100
  v46 := Tryz.zeroValue100
  t51 := Tryz.underlying113
  a51 := Tryz.isAgg113
  z51 := Tryz.sizeOf113
  v51 := Tryz.zeroValue113
  t105 := Tryz.underlying108
  a105 := Tryz.isAgg108
  z105 := Tryz.sizeOf108
  v105 := Tryz.zeroValue108
  t119 := Tryz.underlying134
  a119 := Tryz.isAgg134
  z119 := Tryz.sizeOf134
  t138 := Tryz.underlying136
  a138 := Tryz.isAgg136
  z138 := Tryz.sizeOf136
  v138 := Tryz.zeroValue136
  t139 := Tryz.underlying137
  a139 := Tryz.isAgg137
  z139 := Tryz.sizeOf137
  v139 := Tryz.zeroValue137
  t146 := Tryz.underlying114
  a146 := Tryz.isAgg114
  z146 := Tryz.sizeOf114
  v146 := Tryz.zeroValue114
  g1 := by kernel_rfl
  g3 := by kernel_rfl
  g4 := by kernel_rfl }
open Go.RowKit Go.Lib in
theorem lay_strings_SplitN (s sep : ByteArray) (n : Nat) (m : Int) (w : World) (hs : s.size < 4294967281) (hm : w.cell? ⟨0, 0, none⟩ = some (.int .i64 m)) (h1 : 1 ≤ sep.size) (hn : 1 ≤ n) (hn63 : n ≤ 9223372036854775807) :
    Calls Tryz.prog 132 #[.string s, .string sep, .int .i64 n] w fun e w' =>
      e = .returned (.slice (some ⟨w.heap.size, 0, none⟩) (Lib.splitB sep 0 (min n (s.size + 1) - 1) s).length (min n (s.size + 1))) ∧ w' = w.alloc (.cells (Lib.cellsOf (Lib.splitB sep 0 (min n (s.size + 1) - 1) s) (min n (s.size + 1))) 9) := Any.strings_SplitN lay_lays147 (by kernel_rfl) s sep n m w hs hm h1 hn hn63

def lay_lays160_ren : Go.Shelf.Ren := ⟨fun | 160 => 85 | 232 => 122 | 231 => 121 | 227 => 123 | 234 => 125 | 233 => 124 | 236 => 127 | 235 => 126 | 228 => 142 | 271 => 145 | 151 => 144 | 197 => 143 | 120 => 157 | 152 => 156 | 260 => 155 | 137 => 171 | 119 => 172 | 224 => 136 | 225 => 135 | 217 => 134 | 266 => 150 | n => n, fun | 9 => 9 | 4 => 4 | 3 => 3 | 5 => 5 | 117 => 87 | 116 => 86 | 0 => 0 | 124 => 90 | 21 => 21 | 105 => 108 | 46 => 100 | 119 => 134 | 139 => 137 | 138 => 136 | n => n, fun | 3 => 1 | 4 => 2 | n => n⟩
theorem lay_lays160 : Go.Proofs.Lays.n160 Tryz.prog lay_lays160_ren := {
  mixed := by kernel_rfl
  f119 := Tryz.func172.trans (congrArg some (by kernel_rfl))
  f120 := Tryz.func157.trans (congrArg some (by kernel_rfl))
  f137 := Tryz.func171.trans (congrArg some (by kernel_rfl))
  f151 := Tryz.func144.trans (congrArg some (by kernel_rfl))
  f152 := Tryz.func156.trans (congrArg some (by kernel_rfl))
  f160 := Tryz.func85.trans (congrArg some (by kernel_rfl))
  f197 := Tryz.func143.trans (congrArg some (by kernel_rfl))
  f217 := Tryz.func134.trans (congrArg some (by kernel_rfl))
  f224 := Tryz.func136.trans (congrArg some (by kernel_rfl))
  f225 := Tryz.func135.trans (congrArg some (by kernel_rfl))
  f227 := Tryz.func123.trans (congrArg some (by kernel_rfl))
  f228 := Tryz.func142.trans (congrArg some (by kernel_rfl))
  f231 := Tryz.func121.trans (congrArg some (by kernel_rfl))
  f232 := Tryz.func122.trans (congrArg some (by kernel_rfl))
  f233 := Tryz.func124.trans (congrArg some (by kernel_rfl))
  f234 := Tryz.func125.trans (congrArg some (by kernel_rfl))
  f235 := Tryz.func126.trans (congrArg some (by kernel_rfl))
  f236 := Tryz.func127.trans (congrArg some (by kernel_rfl))
  f260 := Tryz.func155.trans (congrArg some (by kernel_rfl))
  f266 := Tryz.func150.trans (congrArg some (by kernel_rfl))
  f271 := Tryz.func145.trans (congrArg some (by kernel_rfl))
  t0 := Tryz.underlying0
  a0 := Tryz.isAgg0
  z0 := Tryz.sizeOf0
  v0 := Tryz.zeroValue0
  t3 := Tryz.underlying3
  a3 := Tryz.isAgg3
  z3 := Tryz.sizeOf3
  v3 := Tryz.zeroValue3
  t4 := Tryz.underlying4
  a4 := Tryz.isAgg4
  z4 := Tryz.sizeOf4
  v4 := Tryz.zeroValue4
  t5 := Tryz.underlying5
  a5 := Tryz.isAgg5
  z5 := Tryz.sizeOf5
  v5 := Tryz.zeroValue5
  t9 := Tryz.underlying9
  a9 := Tryz.isAgg9
  z9 := Tryz.sizeOf9
  v9 := Tryz.zeroValue9
  t21 := Tryz.underlying21
  a21 := Tryz.isAgg21
  z21 := Tryz.sizeOf21
  v21 := Tryz.zeroValue21
  t46 := Tryz.underlying100
  a46 := Tryz.isAgg100
  z46 := Tryz.sizeOf100
  v46 := Tryz.zeroValue100
  t105 := Tryz.underlying108
  a105 := Tryz.isAgg108
  z105 := Tryz.sizeOf108
  v105 := Tryz.zeroValue108
  t116 := Tryz.underlying86
  a116 := Tryz.isAgg86
  z116 := Tryz.sizeOf86
  t117 := Tryz.underlying87
  a117 := Tryz.isAgg87
  z117 := Tryz.sizeOf87
  v117 := Tryz.zeroValue87
  t119 := Tryz.underlying134
  a119 := Tryz.isAgg134
  z119 := Tryz.sizeOf134
  t124 := Tryz.underlying90
  a124 := Tryz.isAgg90
  z124 := Tryz.sizeOf90
  v124 := Tryz.zeroValue90
  t138 := Tryz.underlying136
  a138 := Tryz.isAgg136
  z138 := Tryz.sizeOf136
  v138 := Tryz.zeroValue136
  t139 := Tryz.underlying137
  a139 := Tryz.isAgg137
  z139 := Tryz.sizeOf137
  v139 := Tryz.zeroValue137
  g3 := by kernel_rfl
  g4 := by kernel_rfl }
theorem lay_strings_Trim_laid (s cutset : ByteArray) (w : World) (hs : s.size ≤ 9223372036854775807) (hcs : cutset.size < 4294967281) (hascii : ∀ (j : Nat) b, cutset.data.toList[j]? = some b → b.toNat < 128) :
    Calls Tryz.prog 85 #[.string s, .string cutset] w fun e w' => e = .returned (.string ⟨(Lib.trimS s.data.toList cutset.data.toList).toArray⟩) ∧ Below w.heap.size w w' := Any.strings_Trim_laid lay_lays160 (by kernel_rfl) s cutset w hs hcs hascii

def lay_laysC172_ren : Go.Shelf.Ren := ⟨fun | 172 => 128 | 244 => 146 | 245 => 147 | 247 => 158 | 279 => 159 | 280 => 160 | 281 => 161 | 282 => 162 | 287 => 173 | 316 => 174 | 171 => 118 | 205 => 175 | 321 => 183 | 322 => 184 | 243 => 138 | 246 => 152 | 283 => 165 | 284 => 166 | 285 => 167 | 286 => 168 | 129 => 179 | 317 => 178 | 318 => 180 | 319 => 181 | 320 => 182 | 337 => 185 | 338 => 186 | n => n, fun | 9 => 9 | 3 => 3 | 75 => 92 | 76 => 93 | 4 => 4 | 5 => 5 | 167 => 119 | 37 => 22 | 0 => 0 | 85 => 120 | 2 => 2 | 168 => 122 | 53 => 53 | 175 => 139 | 46 => 100 | 210 => 143 | 127 => 117 | 145 => 152 | 143 => 150 | 21 => 21 | 171 => 126 | 173 => 129 | 212 => 146 | 51 => 113 | 20 => 20 | 213 => 147 | 232 => 154 | 233 => 155 | 80 => 106 | n => n, fun | 15 => 3 | 16 => 4 | 17 => 5 | 18 => 6 | 19 => 7 | n => n⟩
theorem lay_laysC172 : Go.Proofs.LaysC.n172 Tryz.prog lay_laysC172_ren := {
  mixed := by kernel_rfl
  f129 := Tryz.func179.trans (congrArg some (by kernel_rfl))
  f171 := Tryz.func118.trans (congrArg some (by kernel_rfl))
  f172 := Tryz.func128.trans (congrArg some (by kernel_rfl))
  f205 := Tryz.func175.trans (congrArg some (by kernel_rfl))
  f243 := Tryz.func138.trans (congrArg some (by kernel_rfl))
  f244 := Tryz.func146.trans (congrArg some (by kernel_rfl))
  f245 := Tryz.func147.trans (congrArg some (by kernel_rfl))
  f246 := Tryz.func152.trans (congrArg some (by kernel_rfl))
  f247 := Tryz.func158.trans (congrArg some (by kernel_rfl))
  f279 := Tryz.func159.trans (congrArg some (by kernel_rfl))
  f280 := Tryz.func160.trans (congrArg some (by kernel_rfl))
  f281 := Tryz.func161.trans (congrArg some (by kernel_rfl))
  f282 := Tryz.func162.trans (congrArg some (by kernel_rfl))
  f283 := Tryz.func165.trans (congrArg some (by kernel_rfl))
  f284 := Tryz.func166.trans (congrArg some (by kernel_rfl))
  f285 := Tryz.func167.trans (congrArg some (by kernel_rfl))
  f286 := Tryz.func168.trans (congrArg some (by kernel_rfl))
  f287 := Tryz.func173.trans (congrArg some (by kernel_rfl))
  f316 := Tryz.func174.trans (congrArg some (by kernel_rfl))
  f317 := Tryz.func178.trans (congrArg some (by kernel_rfl))
  f318 := Tryz.func180.trans (congrArg some (by kernel_rfl))
  f319 := Tryz.func181.trans (congrArg some (by kernel_rfl))
  f320 := Tryz.func182.trans (congrArg some (by kernel_rfl))
  f321 := Tryz.func183.trans (congrArg some (by kernel_rfl))
  f322 := Tryz.func184.trans (congrArg some (by kernel_rfl))
  f337 := Tryz.func185.trans (congrArg some (by kernel_rfl))
  f338 := Tryz.func186.trans (congrArg some (by kernel_rfl))
  t0 := Tryz.underlying0
  a0 := Tryz.isAgg0
  z0 := Tryz.sizeOf0
  v0 := Tryz.zeroValue0
  t2 := Tryz.underlying2
  a2 := Tryz.isAgg2
  z2 := Tryz.sizeOf2
  v2 := Tryz.zeroValue2
  t3 := Tryz.underlying3
  a3 := Tryz.isAgg3
  z3 := Tryz.sizeOf3
  v3 := Tryz.zeroValue3
  t4 := Tryz.underlying4
  a4 := Tryz.isAgg4
  z4 := Tryz.sizeOf4
  v4 := Tryz.zeroValue4
  t5 := Tryz.underlying5
  a5 := Tryz.isAgg5
  z5 := Tryz.sizeOf5
  v5 := Tryz.zeroValue5
  t9 := Tryz.underlying9
  a9 := Tryz.isAgg9
  z9 := Tryz.sizeOf9
  v9 := Tryz.zeroValue9
  t20 := Tryz.underlying20
  a20 := Tryz.isAgg20
  z20 := Tryz.sizeOf20
  v20 := Tryz.zeroValue20
  t21 := Tryz.underlying21
  a21 := Tryz.isAgg21
  z21 := Tryz.sizeOf21
  v21 := Tryz.zeroValue21
  t37 := Tryz.underlying22
  a37 := Tryz.isAgg22
  z37 := Tryz.sizeOf22
  v37 := Tryz.zeroValue22
  t46 := Tryz.underlying100
  a46 := Tryz.isAgg100
  z46 := Tryz.sizeOf100
  v46 := Tryz.zeroValue100
  t51 := Tryz.underlying113
  a51 := Tryz.isAgg113
  z51 := Tryz.sizeOf113
  v51 := Tryz.zeroValue113
  t53 := Tryz.underlying53
  a53 := Tryz.isAgg53
  z53 := Tryz.sizeOf53
  v53 := Tryz.zeroValue53
  t75 := Tryz.underlying92
  a75 := Tryz.isAgg92
  z75 := Tryz.sizeOf92
  v75 := Tryz.zeroValue92
  t76 := Tryz.underlying93
  a76 := Tryz.isAgg93
  z76 := Tryz.sizeOf93
  v76 := Tryz.zeroValue93
  t85 := Tryz.underlying120
  a85 := Tryz.isAgg120
  z85 := Tryz.sizeOf120
  v85 := Tryz.zeroValue120
  t127 := Tryz.underlying117
  a127 := Tryz.isAgg117
  z127 := Tryz.sizeOf117
  v127 := Tryz.zeroValue117
  t143 := Tryz.underlying150
  a143 := Tryz.isAgg150
  z143 := Tryz.sizeOf150
  v143 := Tryz.zeroValue150
  t145 := Tryz.underlying152
  a145 := Tryz.isAgg152
  z145 := Tryz.sizeOf152
  v145 := Tryz.zeroValue152
  t167 := Tryz.underlying119
  a167 := Tryz.isAgg119
  z167 := Tryz.sizeOf119
  v167 := Tryz.zeroValue119
  t168 := Tryz.underlying122
  a168 := Tryz.isAgg122
  z168 := Tryz.sizeOf122
  v168 := Tryz.zeroValue122
  t171 := Tryz.underlying126
  a171 := Tryz.isAgg126
  z171 := Tryz.sizeOf126
  v171 := Tryz.zeroValue126
  t173 := Tryz.underlying129
  a173 := Tryz.isAgg129
  z173 := Tryz.sizeOf129
  v173 := Tryz.zeroValue129
  t175 := Tryz.underlying139
  a175 := Tryz.isAgg139
  z175 := Tryz.sizeOf139
  v175 := Tryz.zeroValue139
  t210 := Tryz.underlying143
  a210 := Tryz.isAgg143
  z210 := Tryz.sizeOf143
  v210 := Tryz.zeroValue143
  t212 := Tryz.underlying146
  a212 := Tryz.isAgg146
  z212 := Tryz.sizeOf146
  v212 := Tryz.zeroValue146
  t213 := Tryz.underlying147
  a213 := Tryz.isAgg147
  z213 := Tryz.sizeOf147
  t232 := Tryz.underlying154
  a232 := Tryz.isAgg154
  z232 := Tryz.sizeOf154
  v232 := Tryz.zeroValue154
  t233 := Tryz.underlying155
  a233 := Tryz.isAgg155
  z233 := Tryz.sizeOf155
  v233 := Tryz.zeroValue155
  g15 := by kernel_rfl
  g16 := by kernel_rfl
  g17 := by kernel_rfl
  g18 := by kernel_rfl
  g19 := by kernel_rfl
  t80 := Tryz.underlying106
  a80 := Tryz.isAgg106
  z80 := Tryz.sizeOf106
  v80 := Tryz.zeroValue106
  i0 := by kernel_rfl
  i2 := by kernel_rfl
  i3 := by kernel_rfl
  i4 := by kernel_rfl
  i5 := by kernel_rfl
  i9 := by kernel_rfl
  i20 := by kernel_rfl
  i21 := by kernel_rfl
  i37 := by kernel_rfl
  i46 := by kernel_rfl
  i51 := by kernel_rfl
  i53 := by kernel_rfl
  i75 := by kernel_rfl
  i76 := by kernel_rfl
  i80 := by kernel_rfl
  i85 := by kernel_rfl
  i127 := by kernel_rfl
  i143 := by kernel_rfl
  i145 := by kernel_rfl
  i167 := by kernel_rfl
  i168 := by kernel_rfl
  i171 := by kernel_rfl
  i173 := by kernel_rfl
  i175 := by kernel_rfl
  i210 := by kernel_rfl
  i212 := by kernel_rfl
  i232 := by kernel_rfl
  i233 := by kernel_rfl
  m15 := by kernel_rfl
  m16 := by kernel_rfl
  m17 := by kernel_rfl
  m18 := by kernel_rfl
  m19 := by kernel_rfl
  c0 := by kernel_rfl
  c2 := by kernel_rfl
  c3 := by kernel_rfl
  c4 := by kernel_rfl
  c5 := by kernel_rfl
  c9 := by kernel_rfl
  c20 := by kernel_rfl
  c21 := by kernel_rfl
  c37 := by kernel_rfl
  c46 := by kernel_rfl
  c51 := by kernel_rfl
  c53 := by kernel_rfl
  c75 := by kernel_rfl
  c76 := by kernel_rfl
  c80 := by kernel_rfl
  c85 := by kernel_rfl
  c127 := by kernel_rfl
  c143 := by kernel_rfl
  c145 := by kernel_rfl
  c167 := by kernel_rfl
  c168 := by kernel_rfl
  c171 := by kernel_rfl
  c173 := by kernel_rfl
  c175 := by kernel_rfl
  c210 := by kernel_rfl
  c212 := by kernel_rfl
  c213 := by kernel_rfl
  c232 := by kernel_rfl
  c233 := by kernel_rfl }
theorem lay_strconv_Atoi_ok (s : ByteArray) (hmax : s.size ≤ 9223372036854775806) (v : Int) (h : Lib.atoiAll s.data.toList = .ok v) (w : World) :
    Calls Tryz.prog 128 #[.string s] w fun e w' => e = .returned (.tuple #[.int .i64 v, .nilIface]) ∧ (w' = w ∨ ∃ t, w' = Lib.bytesWorld w 5 t) := Any.strconv_Atoi_ok lay_laysC172 s hmax v h w

noncomputable def laws_big_f (k : Nat) (p0 : (List Int)) (p1 : (List Int)) : Option ((Bool × Unit) × Unit) :=
  (met (cond (decide (((List.length p0 : Nat) : Int) > 1048576)) (some (.inl (true, ()))) (some (.inl ((decide (((List.length p1 : Nat) : Int) > (iw (1048576 - ((List.length p0 : Nat) : Int))))), ())))) (fun j1 => (some ((j1.1, ()), ()))))
noncomputable def laws_big_a : Ann := (.q .o (.q (.r [(4, 100256, .v .bool)]) .o))
theorem laws_big_run (k : Nat) (p0 : (List Int)) (p1 : (List Int)) : funX Tryz.prog (callT []) k Tryz.f5 laws_big_a [.v (.slc 5 (.int .u8)), .v (.slc 5 (.int .u8))] [.v .bool] (p0, p1, ()) = laws_big_f k p0 p1 := by kernel_rfl
noncomputable def laws_big_c (k : Nat) : Con := ⟨5, [.v (.slc 5 (.int .u8)), .v (.slc 5 (.int .u8))], [.v .bool], fun x => laws_big_f k x.1 x.2.1⟩
theorem laws_big_ok (k : Nat) : (laws_big_c k).Sound Tryz.prog GL := con_ok (k := k) (fn := Tryz.f5) (A := laws_big_a) (C := callT []) Tryz.func5 (by kernel_rfl) (show Tryz.f5.body = some (bodyX Tryz.f5) by rfl) (fun X hX => callT_at TableOk.nil X hX) (Nat.le_of_ble_eq_true (by kernel_rfl)) (fun ⟨p0, p1, _⟩ y h => by rw [← h]; exact laws_big_run k p0 p1)
noncomputable def spec_l1Cur_next_f (k : Nat) (p0 : ((List Int) × Int × Int × Unit)) : Option ((Int × Unit) × (((List Int) × Int × Int × Unit) × Unit)) :=
  (met (cond (decide (p0.2.1 < ((List.length p0.1 : Nat) : Int))) (ixk p0.2.1 (List.length p0.1) (some (.inl ((p0.1, p0.2.1, p0.2.2.1, ()), (iw ((rd p0.1 p0.2.1))), ())))) (some (.inl ((p0.1, p0.2.1, p0.2.2.1, ()), 0, ())))) (fun j1 => (cond (decide ((iw (j1.1.2.1 + 1)) ≤ ((List.length j1.1.1 : Nat) : Int))) (some ((j1.2.1, ()), ((j1.1.1, (iw (j1.1.2.1 + 1)), (IntKind.wrap .u64 ((IntKind.wrap .u64 ((IntKind.wrap .u64 (j1.1.2.2.1 * 6364136223846793005)) + (IntKind.wrap .u64 (j1.2.1)))) + 1442695040888963407)), ()), ()))) (some (((iw ((andI .u64 (shrI .u64 (IntKind.wrap .u64 ((IntKind.wrap .u64 ((IntKind.wrap .u64 (j1.1.2.2.1 * 6364136223846793005)) + (IntKind.wrap .u64 (j1.2.1)))) + 1442695040888963407)) 40) 255))), ()), ((j1.1.1, (iw (j1.1.2.1 + 1)), (IntKind.wrap .u64 ((IntKind.wrap .u64 ((IntKind.wrap .u64 (j1.1.2.2.1 * 6364136223846793005)) + (IntKind.wrap .u64 (j1.2.1)))) + 1442695040888963407)), ()), ()))))))
noncomputable def spec_l1Cur_next_a : Ann := (.q .o (.q .o (.q (.q .o (.j [(0, 3000000, .box true [.v (.slc 5 (.int .u8)), .v (.int .i64), .v (.int .u64)]), (3, 100192, .v (.int .i64))] (.e [] [11]) .o)) .o)))
theorem spec_l1Cur_next_run (k : Nat) (p0 : ((List Int) × Int × Int × Unit)) : funX Tryz.prog (callT []) k Tryz.f115 spec_l1Cur_next_a [.box true [.v (.slc 5 (.int .u8)), .v (.int .i64), .v (.int .u64)]] [.v (.int .i64)] (p0, ()) = spec_l1Cur_next_f k p0 := by kernel_rfl
noncomputable def spec_l1Cur_next_c (k : Nat) : Con := ⟨115, [.box true [.v (.slc 5 (.int .u8)), .v (.int .i64), .v (.int .u64)]], [.v (.int .i64)], fun x => spec_l1Cur_next_f k x.1⟩
theorem spec_l1Cur_next_ok (k : Nat) : (spec_l1Cur_next_c k).Sound Tryz.prog GL := con_ok (k := k) (fn := Tryz.f115) (A := spec_l1Cur_next_a) (C := callT []) Tryz.func115 (by kernel_rfl) (show Tryz.f115.body = some (bodyX Tryz.f115) by rfl) (fun X hX => callT_at TableOk.nil X hX) (Nat.le_of_ble_eq_true (by kernel_rfl)) (fun ⟨p0, _⟩ y h => by rw [← h]; exact spec_l1Cur_next_run k p0)
noncomputable def spec_l1Cur_pick_f (k : Nat) (p0 : ((List Int) × Int × Int × Unit)) (p1 : Int) : Option ((Int × Unit) × (((List Int) × Int × Int × Unit) × Unit)) :=
  (cond (decide (p1 ≤ 1)) (some ((0, ()), ((p0.1, p0.2.1, p0.2.2.1, ()), ()))) (Option.bind (spec_l1Cur_next_f k (p0.1, p0.2.1, p0.2.2.1, ())) (fun y9 => (met (cond (decide (p1 > 200)) (Option.bind (spec_l1Cur_next_f k (y9.2.1.1, y9.2.1.2.1, y9.2.1.2.2.1, ())) (fun y15 => (some (.inl ((y15.2.1.1, y15.2.1.2.1, y15.2.1.2.2.1, ()), (iw ((iw (y9.1.1 * 256)) + y15.1.1)), ()))))) (some (.inl ((y9.2.1.1, y9.2.1.2.1, y9.2.1.2.2.1, ()), y9.1.1, ())))) (fun j1 => (chk (!(p1 == 0)) (some (((Int.tmod j1.2.1 p1), ()), ((j1.1.1, j1.1.2.1, j1.1.2.2.1, ()), ())))))))))
noncomputable def spec_l1Cur_pick_a : Ann := (.q .o (.q .o (.q .o (.q (.q .o (.j [(0, 3000000, .box true [.v (.slc 5 (.int .u8)), .v (.int .i64), .v (.int .u64)]), (5, 100320, .v (.int .i64))] .o .o)) .o))))
theorem spec_l1Cur_pick_run (k : Nat) (p0 : ((List Int) × Int × Int × Unit)) (p1 : Int) : funX Tryz.prog (callT [spec_l1Cur_next_c k]) k Tryz.f62 spec_l1Cur_pick_a [.box true [.v (.slc 5 (.int .u8)), .v (.int .i64), .v (.int .u64)], .v (.int .i64)] [.v (.int .i64)] (p0, p1, ()) = spec_l1Cur_pick_f k p0 p1 := by kernel_rfl
noncomputable def spec_l1Cur_pick_c (k : Nat) : Con := ⟨62, [.box true [.v (.slc 5 (.int .u8)), .v (.int .i64), .v (.int .u64)], .v (.int .i64)], [.v (.int .i64)], fun x => spec_l1Cur_pick_f k x.1 x.2.1⟩
theorem spec_l1Cur_pick_ok (k : Nat) : (spec_l1Cur_pick_c k).Sound Tryz.prog GL := con_ok (k := k) (fn := Tryz.f62) (A := spec_l1Cur_pick_a) (C := callT [spec_l1Cur_next_c k]) Tryz.func62 (by kernel_rfl) (show Tryz.f62.body = some (bodyX Tryz.f62) by rfl) (fun X hX => callT_at (TableOk.cons (spec_l1Cur_next_ok k) TableOk.nil) X hX) (Nat.le_of_ble_eq_true (by kernel_rfl)) (fun ⟨p0, p1, _⟩ y h => by rw [← h]; exact spec_l1Cur_pick_run k p0 p1)
noncomputable def spec_l1Cur_one_f (k : Nat) (p0 : ((List Int) × Int × Int × Unit)) (p1 : Int) : Option ((Bool × Unit) × (((List Int) × Int × Int × Unit) × Unit)) :=
  (Option.bind (spec_l1Cur_pick_f k (p0.1, p0.2.1, p0.2.2.1, ()) p1) (fun y7 => (some (((y7.1.1 == 0), ()), ((y7.2.1.1, y7.2.1.2.1, y7.2.1.2.2.1, ()), ())))))
noncomputable def spec_l1Cur_one_a : Ann := .o
theorem spec_l1Cur_one_run (k : Nat) (p0 : ((List Int) × Int × Int × Unit)) (p1 : Int) : funX Tryz.prog (callT [spec_l1Cur_pick_c k]) k Tryz.f89 spec_l1Cur_one_a [.box true [.v (.slc 5 (.int .u8)), .v (.int .i64), .v (.int .u64)], .v (.int .i64)] [.v .bool] (p0, p1, ()) = spec_l1Cur_one_f k p0 p1 := by kernel_rfl
noncomputable def spec_l1Cur_one_c (k : Nat) : Con := ⟨89, [.box true [.v (.slc 5 (.int .u8)), .v (.int .i64), .v (.int .u64)], .v (.int .i64)], [.v .bool], fun x => spec_l1Cur_one_f k x.1 x.2.1⟩
theorem spec_l1Cur_one_ok (k : Nat) : (spec_l1Cur_one_c k).Sound Tryz.prog GL := con_ok (k := k) (fn := Tryz.f89) (A := spec_l1Cur_one_a) (C := callT [spec_l1Cur_pick_c k]) Tryz.func89 (by kernel_rfl) (show Tryz.f89.body = some (bodyX Tryz.f89) by rfl) (fun X hX => callT_at (TableOk.cons (spec_l1Cur_pick_ok k) TableOk.nil) X hX) (Nat.le_of_ble_eq_true (by kernel_rfl)) (fun ⟨p0, p1, _⟩ y h => by rw [← h]; exact spec_l1Cur_one_run k p0 p1)
noncomputable def spec_l1Cur_among_f (k : Nat) (p0 : ((List Int) × Int × Int × Unit)) (p1 : (List Int)) : Option ((Int × Unit) × (((List Int) × Int × Int × Unit) × Unit)) :=
  (Option.bind (spec_l1Cur_pick_f k (p0.1, p0.2.1, p0.2.2.1, ()) ((List.length p1 : Nat) : Int)) (fun y9 => (ixk y9.1.1 (List.length p1) (some (((rd p1 y9.1.1), ()), ((y9.2.1.1, y9.2.1.2.1, y9.2.1.2.2.1, ()), ()))))))
noncomputable def spec_l1Cur_among_a : Ann := .o
theorem spec_l1Cur_among_run (k : Nat) (p0 : ((List Int) × Int × Int × Unit)) (p1 : (List Int)) : funX Tryz.prog (callT [spec_l1Cur_pick_c k]) k Tryz.f114 spec_l1Cur_among_a [.box true [.v (.slc 5 (.int .u8)), .v (.int .i64), .v (.int .u64)], .v (.slc 3 (.int .i64))] [.v (.int .i64)] (p0, p1, ()) = spec_l1Cur_among_f k p0 p1 := by kernel_rfl
noncomputable def spec_l1Cur_among_c (k : Nat) : Con := ⟨114, [.box true [.v (.slc 5 (.int .u8)), .v (.int .i64), .v (.int .u64)], .v (.slc 3 (.int .i64))], [.v (.int .i64)], fun x => spec_l1Cur_among_f k x.1 x.2.1⟩
theorem spec_l1Cur_among_ok (k : Nat) : (spec_l1Cur_among_c k).Sound Tryz.prog GL := con_ok (k := k) (fn := Tryz.f114) (A := spec_l1Cur_among_a) (C := callT [spec_l1Cur_pick_c k]) Tryz.func114 (by kernel_rfl) (show Tryz.f114.body = some (bodyX Tryz.f114) by rfl) (fun X hX => callT_at (TableOk.cons (spec_l1Cur_pick_ok k) TableOk.nil) X hX) (Nat.le_of_ble_eq_true (by kernel_rfl)) (fun ⟨p0, p1, _⟩ y h => by rw [← h]; exact spec_l1Cur_among_run k p0 p1)
noncomputable def spec_l1Cur_pairs_f (k : Nat) (p0 : ((List Int) × Int × Int × Unit)) : Option ((Int × Unit) × (((List Int) × Int × Int × Unit) × Unit)) :=
  (Option.bind (spec_l1Cur_one_f k (p0.1, p0.2.1, p0.2.2.1, ()) 14) (fun y4 => (cond y4.1.1 (Option.bind (spec_l1Cur_among_f k (y4.2.1.1, y4.2.1.2.1, y4.2.1.2.2.1, ()) [0, (-1), 20, 21, 4611686018427387904]) (fun y7 => (some ((y7.1.1, ()), ((y7.2.1.1, y7.2.1.2.1, y7.2.1.2.2.1, ()), ()))))) (Option.bind (spec_l1Cur_pick_f k (y4.2.1.1, y4.2.1.2.1, y4.2.1.2.2.1, ()) 6) (fun y9 => (some (((iw (1 + y9.1.1)), ()), ((y9.2.1.1, y9.2.1.2.1, y9.2.1.2.2.1, ()), ()))))))))
noncomputable def spec_l1Cur_pairs_a : Ann := .o
theorem spec_l1Cur_pairs_run (k : Nat) (p0 : ((List Int) × Int × Int × Unit)) : funX Tryz.prog (callT [spec_l1Cur_one_c k, spec_l1Cur_among_c k, spec_l1Cur_pick_c k]) k Tryz.f102 spec_l1Cur_pairs_a [.box true [.v (.slc 5 (.int .u8)), .v (.int .i64), .v (.int .u64)]] [.v (.int .i64)] (p0, ()) = spec_l1Cur_pairs_f k p0 := by kernel_rfl
noncomputable def spec_l1Cur_pairs_c (k : Nat) : Con := ⟨102, [.box true [.v (.slc 5 (.int .u8)), .v (.int .i64), .v (.int .u64)]], [.v (.int .i64)], fun x => spec_l1Cur_pairs_f k x.1⟩
theorem spec_l1Cur_pairs_ok (k : Nat) : (spec_l1Cur_pairs_c k).Sound Tryz.prog GL := con_ok (k := k) (fn := Tryz.f102) (A := spec_l1Cur_pairs_a) (C := callT [spec_l1Cur_one_c k, spec_l1Cur_among_c k, spec_l1Cur_pick_c k]) Tryz.func102 (by kernel_rfl) (show Tryz.f102.body = some (bodyX Tryz.f102) by rfl) (fun X hX => callT_at (TableOk.cons (spec_l1Cur_one_ok k) (TableOk.cons (spec_l1Cur_among_ok k) (TableOk.cons (spec_l1Cur_pick_ok k) TableOk.nil))) X hX) (Nat.le_of_ble_eq_true (by kernel_rfl)) (fun ⟨p0, _⟩ y h => by rw [← h]; exact spec_l1Cur_pairs_run k p0)
noncomputable def spec_l1Least_f (k : Nat) (p0 : Int) (p1 : Int) : Option ((Int × Unit) × Unit) :=
  (cond (decide (p0 < p1)) (some ((p0, ()), ())) (some ((p1, ()), ())))
noncomputable def spec_l1Least_a : Ann := .o
theorem spec_l1Least_run (k : Nat) (p0 : Int) (p1 : Int) : funX Tryz.prog (callT []) k Tryz.f108 spec_l1Least_a [.v (.int .i64), .v (.int .i64)] [.v (.int .i64)] (p0, p1, ()) = spec_l1Least_f k p0 p1 := by kernel_rfl
noncomputable def spec_l1Least_c (k : Nat) : Con := ⟨108, [.v (.int .i64), .v (.int .i64)], [.v (.int .i64)], fun x => spec_l1Least_f k x.1 x.2.1⟩
theorem spec_l1Least_ok (k : Nat) : (spec_l1Least_c k).Sound Tryz.prog GL := con_ok (k := k) (fn := Tryz.f108) (A := spec_l1Least_a) (C := callT []) Tryz.func108 (by kernel_rfl) (show Tryz.f108.body = some (bodyX Tryz.f108) by rfl) (fun X hX => callT_at TableOk.nil X hX) (Nat.le_of_ble_eq_true (by kernel_rfl)) (fun ⟨p0, p1, _⟩ y h => by rw [← h]; exact spec_l1Least_run k p0 p1)
noncomputable def spec_l1Most_f (k : Nat) (p0 : Int) (p1 : Int) : Option ((Int × Unit) × Unit) :=
  (cond (decide (p0 > p1)) (some ((p0, ()), ())) (some ((p1, ()), ())))
noncomputable def spec_l1Most_a : Ann := .o
theorem spec_l1Most_run (k : Nat) (p0 : Int) (p1 : Int) : funX Tryz.prog (callT []) k Tryz.f107 spec_l1Most_a [.v (.int .i64), .v (.int .i64)] [.v (.int .i64)] (p0, p1, ()) = spec_l1Most_f k p0 p1 := by kernel_rfl
noncomputable def spec_l1Most_c (k : Nat) : Con := ⟨107, [.v (.int .i64), .v (.int .i64)], [.v (.int .i64)], fun x => spec_l1Most_f k x.1 x.2.1⟩
theorem spec_l1Most_ok (k : Nat) : (spec_l1Most_c k).Sound Tryz.prog GL := con_ok (k := k) (fn := Tryz.f107) (A := spec_l1Most_a) (C := callT []) Tryz.func107 (by kernel_rfl) (show Tryz.f107.body = some (bodyX Tryz.f107) by rfl) (fun X hX => callT_at TableOk.nil X hX) (Nat.le_of_ble_eq_true (by kernel_rfl)) (fun ⟨p0, p1, _⟩ y h => by rw [← h]; exact spec_l1Most_run k p0 p1)
noncomputable def spec_l1Cur_basket_l2_b (k : Nat) (x7 : Int) (rec : ((List Int) × Int × Int × Unit) → (List Int) → Int → Option ((((List Int) × Int × Int × Unit) × (List Int) × Unit) ⊕ ((((List Int) × Int × Int × Unit) × (List Int) × Unit) ⊕ ((((List Int) × Int × Int × Unit) × (List Int) × Unit) ⊕ (((List Int) × Unit) × (((List Int) × Int × Int × Unit) × Unit)))))) (x0_1 : ((List Int) × Int × Int × Unit)) (x6_1 : (List Int)) (x8 : Int) : Option ((((List Int) × Int × Int × Unit) × (List Int) × Unit) ⊕ ((((List Int) × Int × Int × Unit) × (List Int) × Unit) ⊕ ((((List Int) × Int × Int × Unit) × (List Int) × Unit) ⊕ (((List Int) × Unit) × (((List Int) × Int × Int × Unit) × Unit))))) :=
  (cond (decide (x8 > 0)) (chk (decide (List.length x6_1 + List.length [x7] ≤ 15637498706147)) (rec (x0_1.1, x0_1.2.1, x0_1.2.2.1, ()) (x6_1 ++ [x7]) (iw (x8 - 1)))) (some (.inl ((x0_1.1, x0_1.2.1, x0_1.2.2.1, ()), x6_1, ()))))
noncomputable def spec_l1Cur_basket_l2 (k : Nat) (x7 : Int) (x0_1 : ((List Int) × Int × Int × Unit)) (x6_1 : (List Int)) (x8 : Int) : Option ((((List Int) × Int × Int × Unit) × (List Int) × Unit) ⊕ ((((List Int) × Int × Int × Unit) × (List Int) × Unit) ⊕ ((((List Int) × Int × Int × Unit) × (List Int) × Unit) ⊕ (((List Int) × Unit) × (((List Int) × Int × Int × Unit) × Unit))))) := iter k (fun (rec : (((List Int) × Int × Int × Unit) × (List Int) × Int × Unit) → Option ((((List Int) × Int × Int × Unit) × (List Int) × Unit) ⊕ ((((List Int) × Int × Int × Unit) × (List Int) × Unit) ⊕ ((((List Int) × Int × Int × Unit) × (List Int) × Unit) ⊕ (((List Int) × Unit) × (((List Int) × Int × Int × Unit) × Unit)))))) (x : (((List Int) × Int × Int × Unit) × (List Int) × Int × Unit)) => spec_l1Cur_basket_l2_b k x7 (fun x0_1 x6_1 x8 => rec (x0_1, x6_1, x8, ())) x.1 x.2.1 x.2.2.1) (x0_1, x6_1, x8, ())
noncomputable def spec_l1Cur_basket_l1_b (k : Nat) (y11 : ((Int × Unit) × Unit)) (rec : ((List Int) × Int × Int × Unit) → (List Int) → Int → Option ((((List Int) × Int × Int × Unit) × (List Int) × Unit) ⊕ (((List Int) × Unit) × (((List Int) × Int × Int × Unit) × Unit)))) (x0 : ((List Int) × Int × Int × Unit)) (x6 : (List Int)) (x7 : Int) : Option ((((List Int) × Int × Int × Unit) × (List Int) × Unit) ⊕ (((List Int) × Unit) × (((List Int) × Int × Int × Unit) × Unit))) :=
  (cond (decide (x7 < y11.1.1)) (met (Option.bind (spec_l1Cur_pick_f k (x0.1, x0.2.1, x0.2.2.1, ()) 3) (fun y18 => (met (spec_l1Cur_basket_l2 k x7 (y18.2.1.1, y18.2.1.2.1, y18.2.1.2.2.1, ()) x6 y18.1.1) (fun j3 => (some (.inl ((j3.1.1, j3.1.2.1, j3.1.2.2.1, ()), j3.2.1, ()))))))) (fun j4 => (rec (j4.1.1, j4.1.2.1, j4.1.2.2.1, ()) j4.2.1 (iw (x7 + 1))))) (some (.inl ((x0.1, x0.2.1, x0.2.2.1, ()), x6, ()))))
noncomputable def spec_l1Cur_basket_l1 (k : Nat) (y11 : ((Int × Unit) × Unit)) (x0 : ((List Int) × Int × Int × Unit)) (x6 : (List Int)) (x7 : Int) : Option ((((List Int) × Int × Int × Unit) × (List Int) × Unit) ⊕ (((List Int) × Unit) × (((List Int) × Int × Int × Unit) × Unit))) := iter k (fun (rec : (((List Int) × Int × Int × Unit) × (List Int) × Int × Unit) → Option ((((List Int) × Int × Int × Unit) × (List Int) × Unit) ⊕ (((List Int) × Unit) × (((List Int) × Int × Int × Unit) × Unit)))) (x : (((List Int) × Int × Int × Unit) × (List Int) × Int × Unit)) => spec_l1Cur_basket_l1_b k y11 (fun x0 x6 x7 => rec (x0, x6, x7, ())) x.1 x.2.1 x.2.2.1) (x0, x6, x7, ())
noncomputable def spec_l1Cur_basket_f (k : Nat) (p0 : ((List Int) × Int × Int × Unit)) (p1 : Int) : Option (((List Int) × Unit) × (((List Int) × Int × Int × Unit) × Unit)) :=
  (Option.bind (spec_l1Least_f k p1 6) (fun y10 => (Option.bind (spec_l1Most_f k 1 y10.1.1) (fun y11 => (met (spec_l1Cur_basket_l1 k y11 (p0.1, p0.2.1, p0.2.2.1, ()) [] 0) (fun j5 => (Option.bind (spec_l1Cur_one_f k (j5.1.1, j5.1.2.1, j5.1.2.2.1, ()) 12) (fun y28 => (met (cond y28.1.1 (Option.bind (spec_l1Cur_among_f k (y28.2.1.1, y28.2.1.2.1, y28.2.1.2.2.1, ()) [(-1), 0, 20]) (fun y32 => (chk (decide (List.length j5.2.1 + List.length [y32.1.1] ≤ 15637498706147)) (some (.inl ((y32.2.1.1, y32.2.1.2.1, y32.2.1.2.2.1, ()), (j5.2.1 ++ [y32.1.1]), ())))))) (some (.inl ((y28.2.1.1, y28.2.1.2.1, y28.2.1.2.2.1, ()), j5.2.1, ())))) (fun j6 => (some ((j6.2.1, ()), ((j6.1.1, j6.1.2.1, j6.1.2.2.1, ()), ())))))))))))))
noncomputable def spec_l1Cur_basket_a : Ann := (.q .o (.q .o (.q .o (.q (.q .o (.m [(0, 3000000, .box true [.v (.slc 5 (.int .u8)), .v (.int .i64), .v (.int .u64)]), (6, 100384, .own false 3 (.int .i64))] (.l [(0, 3000000, .box true [.v (.slc 5 (.int .u8)), .v (.int .i64), .v (.int .u64)]), (6, 100384, .own false 3 (.int .i64)), (7, 100448, .v (.int .i64))] (.q .o (.q (.m [(0, 3000000, .box true [.v (.slc 5 (.int .u8)), .v (.int .i64), .v (.int .u64)]), (6, 100384, .own false 3 (.int .i64))] (.q .o (.m [(0, 3000000, .box true [.v (.slc 5 (.int .u8)), .v (.int .i64), .v (.int .u64)]), (6, 100384, .own false 3 (.int .i64))] (.l [(0, 3000000, .box true [.v (.slc 5 (.int .u8)), .v (.int .i64), .v (.int .u64)]), (6, 100384, .own false 3 (.int .i64)), (8, 100512, .v (.int .i64))] .o)))) .o))))) (.q (.q .o (.j [(0, 3000000, .box true [.v (.slc 5 (.int .u8)), .v (.int .i64), .v (.int .u64)]), (6, 100384, .own false 3 (.int .i64))] .o .o)) .o)))))
theorem spec_l1Cur_basket_run (k : Nat) (p0 : ((List Int) × Int × Int × Unit)) (p1 : Int) : funX Tryz.prog (callT [spec_l1Least_c k, spec_l1Most_c k, spec_l1Cur_pick_c k, spec_l1Cur_one_c k, spec_l1Cur_among_c k]) k Tryz.f106 spec_l1Cur_basket_a [.box true [.v (.slc 5 (.int .u8)), .v (.int .i64), .v (.int .u64)], .v (.int .i64)] [.own false 3 (.int .i64)] (p0, p1, ()) = spec_l1Cur_basket_f k p0 p1 := by kernel_rfl
noncomputable def spec_l1Cur_basket_c (k : Nat) : Con := ⟨106, [.box true [.v (.slc 5 (.int .u8)), .v (.int .i64), .v (.int .u64)], .v (.int .i64)], [.own false 3 (.int .i64)], fun x => spec_l1Cur_basket_f k x.1 x.2.1⟩
theorem spec_l1Cur_basket_ok (k : Nat) : (spec_l1Cur_basket_c k).Sound Tryz.prog GL := con_ok (k := k) (fn := Tryz.f106) (A := spec_l1Cur_basket_a) (C := callT [spec_l1Least_c k, spec_l1Most_c k, spec_l1Cur_pick_c k, spec_l1Cur_one_c k, spec_l1Cur_among_c k]) Tryz.func106 (by kernel_rfl) (show Tryz.f106.body = some (bodyX Tryz.f106) by rfl) (fun X hX => callT_at (TableOk.cons (spec_l1Least_ok k) (TableOk.cons (spec_l1Most_ok k) (TableOk.cons (spec_l1Cur_pick_ok k) (TableOk.cons (spec_l1Cur_one_ok k) (TableOk.cons (spec_l1Cur_among_ok k) TableOk.nil))))) X hX) (Nat.le_of_ble_eq_true (by kernel_rfl)) (fun ⟨p0, p1, _⟩ y h => by rw [← h]; exact spec_l1Cur_basket_run k p0 p1)
noncomputable def spec_DrawIsBasket_f (k : Nat) (p0 : (List Int)) : Option ((Int × (List Int) × Unit) × Unit) :=
  (Option.bind (spec_l1Cur_pairs_f k (p0, 0, 0, ())) (fun y10 => (Option.bind (spec_l1Cur_basket_f k (y10.2.1.1, y10.2.1.2.1, y10.2.1.2.2.1, ()) y10.1.1) (fun y14 => (some ((y10.1.1, y14.1.1, ()), ()))))))
noncomputable def spec_DrawIsBasket_a : Ann := .o
theorem spec_DrawIsBasket_run (k : Nat) (p0 : (List Int)) : funX Tryz.prog (callT [spec_l1Cur_pairs_c k, spec_l1Cur_basket_c k]) k Tryz.f92 spec_DrawIsBasket_a [.v (.slc 5 (.int .u8))] [.v (.int .i64), .own false 3 (.int .i64)] (p0, ()) = spec_DrawIsBasket_f k p0 := by kernel_rfl
noncomputable def spec_DrawIsBasket_c (k : Nat) : Con := ⟨92, [.v (.slc 5 (.int .u8))], [.v (.int .i64), .own false 3 (.int .i64)], fun x => spec_DrawIsBasket_f k x.1⟩
theorem spec_DrawIsBasket_ok (k : Nat) : (spec_DrawIsBasket_c k).Sound Tryz.prog GL := con_ok (k := k) (fn := Tryz.f92) (A := spec_DrawIsBasket_a) (C := callT [spec_l1Cur_pairs_c k, spec_l1Cur_basket_c k]) Tryz.func92 (by kernel_rfl) (show Tryz.f92.body = some (bodyX Tryz.f92) by rfl) (fun X hX => callT_at (TableOk.cons (spec_l1Cur_pairs_ok k) (TableOk.cons (spec_l1Cur_basket_ok k) TableOk.nil)) X hX) (Nat.le_of_ble_eq_true (by kernel_rfl)) (fun ⟨p0, _⟩ y h => by rw [← h]; exact spec_DrawIsBasket_run k p0)
noncomputable def spec_DrawCompleteIn_f (k : Nat) (p0 : (List Int)) : Option ((Int × (List Int) × Unit) × Unit) :=
  (Option.bind (spec_DrawIsBasket_f k p0) (fun y5 => (some ((y5.1.1, y5.1.2.1, ()), ()))))
noncomputable def spec_DrawCompleteIn_a : Ann := .o
theorem spec_DrawCompleteIn_run (k : Nat) (p0 : (List Int)) : funX Tryz.prog (callT [spec_DrawIsBasket_c k]) k Tryz.f38 spec_DrawCompleteIn_a [.v (.slc 5 (.int .u8))] [.v (.int .i64), .own false 3 (.int .i64)] (p0, ()) = spec_DrawCompleteIn_f k p0 := by kernel_rfl
noncomputable def spec_DrawCompleteIn_c (k : Nat) : Con := ⟨38, [.v (.slc 5 (.int .u8))], [.v (.int .i64), .own false 3 (.int .i64)], fun x => spec_DrawCompleteIn_f k x.1⟩
theorem spec_DrawCompleteIn_ok (k : Nat) : (spec_DrawCompleteIn_c k).Sound Tryz.prog GL := con_ok (k := k) (fn := Tryz.f38) (A := spec_DrawCompleteIn_a) (C := callT [spec_DrawIsBasket_c k]) Tryz.func38 (by kernel_rfl) (show Tryz.f38.body = some (bodyX Tryz.f38) by rfl) (fun X hX => callT_at (TableOk.cons (spec_DrawIsBasket_ok k) TableOk.nil) X hX) (Nat.le_of_ble_eq_true (by kernel_rfl)) (fun ⟨p0, _⟩ y h => by rw [← h]; exact spec_DrawCompleteIn_run k p0)
noncomputable def impl_within_f (k : Nat) (p0 : Int) (p1 : Int) (p2 : Int) : Option ((Bool × Unit) × Unit) :=
  (met (cond (decide (p1 ≤ p0)) (some (.inl ((decide (p0 ≤ p2)), ()))) (some (.inl (false, ())))) (fun j1 => (some ((j1.1, ()), ()))))
noncomputable def impl_within_a : Ann := (.q .o (.q (.r [(6, 100384, .v .bool)]) .o))
theorem impl_within_run (k : Nat) (p0 : Int) (p1 : Int) (p2 : Int) : funX Tryz.prog (callT []) k Tryz.f63 impl_within_a [.v (.int .i64), .v (.int .i64), .v (.int .i64)] [.v .bool] (p0, p1, p2, ()) = impl_within_f k p0 p1 p2 := by kernel_rfl
noncomputable def impl_within_c (k : Nat) : Con := ⟨63, [.v (.int .i64), .v (.int .i64), .v (.int .i64)], [.v .bool], fun x => impl_within_f k x.1 x.2.1 x.2.2.1⟩
theorem impl_within_ok (k : Nat) : (impl_within_c k).Sound Tryz.prog GL := con_ok (k := k) (fn := Tryz.f63) (A := impl_within_a) (C := callT []) Tryz.func63 (by kernel_rfl) (show Tryz.f63.body = some (bodyX Tryz.f63) by rfl) (fun X hX => callT_at TableOk.nil X hX) (Nat.le_of_ble_eq_true (by kernel_rfl)) (fun ⟨p0, p1, p2, _⟩ y h => by rw [← h]; exact impl_within_run k p0 p1 p2)
noncomputable def impl_arePairs_f (k : Nat) (p0 : Int) : Option ((Bool × Unit) × Unit) :=
  (Option.bind (impl_within_f k p0 1 20) (fun y4 => (some ((y4.1.1, ()), ()))))
noncomputable def impl_arePairs_a : Ann := .o
theorem impl_arePairs_run (k : Nat) (p0 : Int) : funX Tryz.prog (callT [impl_within_c k]) k Tryz.f96 impl_arePairs_a [.v (.int .i64)] [.v .bool] (p0, ()) = impl_arePairs_f k p0 := by kernel_rfl
noncomputable def impl_arePairs_c (k : Nat) : Con := ⟨96, [.v (.int .i64)], [.v .bool], fun x => impl_arePairs_f k x.1⟩
theorem impl_arePairs_ok (k : Nat) : (impl_arePairs_c k).Sound Tryz.prog GL := con_ok (k := k) (fn := Tryz.f96) (A := impl_arePairs_a) (C := callT [impl_within_c k]) Tryz.func96 (by kernel_rfl) (show Tryz.f96.body = some (bodyX Tryz.f96) by rfl) (fun X hX => callT_at (TableOk.cons (impl_within_ok k) TableOk.nil) X hX) (Nat.le_of_ble_eq_true (by kernel_rfl)) (fun ⟨p0, _⟩ y h => by rw [← h]; exact impl_arePairs_run k p0)
noncomputable def impl_times_l1_b (k : Nat) (p0 : Int) (p1 : (List Int)) (rec : (List Int) → Int → Option (((List Int) × Unit) ⊕ (((List Int) × Bool × Unit) × Unit))) (x6 : (List Int)) (x13 : Int) : Option (((List Int) × Unit) ⊕ (((List Int) × Bool × Unit) × Unit)) :=
  (cond (decide (x13 < ((List.length p1 : Nat) : Int))) (ixk x13 (List.length p1) (met (Option.bind (impl_within_f k (rd p1 x13) 0 (iw (p0 - 1))) (fun y20 => (cond (!y20.1.1) (some (.inl (x6, true, ()))) (ixk (rd p1 x13) (List.length x6) (some (.inl (x6, ((rd x6 (rd p1 x13)) == 2), ()))))))) (fun j2 => (cond j2.2.1 (some (.inr (([], false, ()), ()))) (ixk (rd p1 x13) (List.length j2.1) (ixk (rd p1 x13) (List.length j2.1) (rec (setI j2.1 (rd p1 x13) (iw ((rd j2.1 (rd p1 x13)) + 1))) (iw (x13 + 1))))))))) (some (.inl (x6, ()))))
noncomputable def impl_times_l1 (k : Nat) (p0 : Int) (p1 : (List Int)) (x6 : (List Int)) (x13 : Int) : Option (((List Int) × Unit) ⊕ (((List Int) × Bool × Unit) × Unit)) := iter k (fun (rec : ((List Int) × Int × Unit) → Option (((List Int) × Unit) ⊕ (((List Int) × Bool × Unit) × Unit))) (x : ((List Int) × Int × Unit)) => impl_times_l1_b k p0 p1 (fun x6 x13 => rec (x6, x13, ())) x.1 x.2.1) (x6, x13, ())
noncomputable def impl_times_f (k : Nat) (p0 : Int) (p1 : (List Int)) : Option (((List Int) × Bool × Unit) × Unit) :=
  (chk (decide ((0 : Int) ≤ p0)) (chk (decide (p0 ≤ ((15637498706147 : Nat) : Int))) (met (impl_times_l1 k p0 p1 (List.replicate (Int.toNat p0) (0 : Int)) 0) (fun j3 => (some ((j3.1, true, ()), ()))))))
noncomputable def impl_times_a : Ann := (.q .o (.q .o (.q (.q .o (.m [(6, 100384, .own false 3 (.int .i64))] (.l [(6, 100384, .own false 3 (.int .i64)), (13, 100832, .v (.int .i64))] (.q .o (.q .o (.q (.b (.q .o (.q (.q (.r [(6, 100384, .own false 3 (.int .i64)), (28, 101792, .v .bool)]) .o) .o))) .o)))))) .o)))
theorem impl_times_run (k : Nat) (p0 : Int) (p1 : (List Int)) : funX Tryz.prog (callT [impl_within_c k]) k Tryz.f64 impl_times_a [.v (.int .i64), .v (.slc 3 (.int .i64))] [.own false 3 (.int .i64), .v .bool] (p0, p1, ()) = impl_times_f k p0 p1 := by kernel_rfl
noncomputable def impl_times_c (k : Nat) : Con := ⟨64, [.v (.int .i64), .v (.slc 3 (.int .i64))], [.own false 3 (.int .i64), .v .bool], fun x => impl_times_f k x.1 x.2.1⟩
theorem impl_times_ok (k : Nat) : (impl_times_c k).Sound Tryz.prog GL := con_ok (k := k) (fn := Tryz.f64) (A := impl_times_a) (C := callT [impl_within_c k]) Tryz.func64 (by kernel_rfl) (show Tryz.f64.body = some (bodyX Tryz.f64) by rfl) (fun X hX => callT_at (TableOk.cons (impl_within_ok k) TableOk.nil) X hX) (Nat.le_of_ble_eq_true (by kernel_rfl)) (fun ⟨p0, p1, _⟩ y h => by rw [← h]; exact impl_times_run k p0 p1)
noncomputable def cmp_isNaN_int_f (k : Nat) (p0 : Int) : Option ((Bool × Unit) × Unit) :=
  (some (((p0 != p0), ()), ()))
noncomputable def cmp_isNaN_int_a : Ann := .o
theorem cmp_isNaN_int_run (k : Nat) (p0 : Int) : funX Tryz.prog (callT []) k Tryz.f148 cmp_isNaN_int_a [.v (.int .i64)] [.v .bool] (p0, ()) = cmp_isNaN_int_f k p0 := by kernel_rfl
noncomputable def cmp_isNaN_int_c (k : Nat) : Con := ⟨148, [.v (.int .i64)], [.v .bool], fun x => cmp_isNaN_int_f k x.1⟩
theorem cmp_isNaN_int_ok (k : Nat) : (cmp_isNaN_int_c k).Sound Tryz.prog GL := con_ok (k := k) (fn := Tryz.f148) (A := cmp_isNaN_int_a) (C := callT []) Tryz.func148 (by kernel_rfl) (show Tryz.f148.body = some (bodyX Tryz.f148) by rfl) (fun X hX => callT_at TableOk.nil X hX) (Nat.le_of_ble_eq_true (by kernel_rfl)) (fun ⟨p0, _⟩ y h => by rw [← h]; exact cmp_isNaN_int_run k p0)
noncomputable def cmp_Less_int_f (k : Nat) (p0 : Int) (p1 : Int) : Option ((Bool × Unit) × Unit) :=
  (met (Option.bind (cmp_isNaN_int_f k p0) (fun y6 => (cond y6.1.1 (Option.bind (cmp_isNaN_int_f k p1) (fun y9 => (cond (!y9.1.1) (some (.inl (true, ()))) (some (.inl ((decide (p0 < p1)), ())))))) (some (.inl ((decide (p0 < p1)), ())))))) (fun j1 => (some ((j1.1, ()), ()))))
noncomputable def cmp_Less_int_a : Ann := (.q .o (.q (.r [(4, 100256, .v .bool)]) .o))
theorem cmp_Less_int_run (k : Nat) (p0 : Int) (p1 : Int) : funX Tryz.prog (callT [cmp_isNaN_int_c k]) k Tryz.f130 cmp_Less_int_a [.v (.int .i64), .v (.int .i64)] [.v .bool] (p0, p1, ()) = cmp_Less_int_f k p0 p1 := by kernel_rfl
noncomputable def cmp_Less_int_c (k : Nat) : Con := ⟨130, [.v (.int .i64), .v (.int .i64)], [.v .bool], fun x => cmp_Less_int_f k x.1 x.2.1⟩
theorem cmp_Less_int_ok (k : Nat) : (cmp_Less_int_c k).Sound Tryz.prog GL := con_ok (k := k) (fn := Tryz.f130) (A := cmp_Less_int_a) (C := callT [cmp_isNaN_int_c k]) Tryz.func130 (by kernel_rfl) (show Tryz.f130.body = some (bodyX Tryz.f130) by rfl) (fun X hX => callT_at (TableOk.cons (cmp_isNaN_int_ok k) TableOk.nil) X hX) (Nat.le_of_ble_eq_true (by kernel_rfl)) (fun ⟨p0, p1, _⟩ y h => by rw [← h]; exact cmp_Less_int_run k p0 p1)
noncomputable def slices_IsSorted_int_int_l1_b (k : Nat) (p0 : (List Int)) (rec : Int → Option (Unit ⊕ ((Bool × Unit) × Unit))) (x3 : Int) : Option (Unit ⊕ ((Bool × Unit) × Unit)) :=
  (cond (decide (x3 > 0)) (ixk x3 (List.length p0) (ixk (iw (x3 - 1)) (List.length p0) (Option.bind (cmp_Less_int_f k (rd p0 x3) (rd p0 (iw (x3 - 1)))) (fun y20 => (cond y20.1.1 (some (.inr ((false, ()), ()))) (rec (iw (x3 - 1)))))))) (some (.inl ())))
noncomputable def slices_IsSorted_int_int_l1 (k : Nat) (p0 : (List Int)) (x3 : Int) : Option (Unit ⊕ ((Bool × Unit) × Unit)) := iter k (fun (rec : (Int × Unit) → Option (Unit ⊕ ((Bool × Unit) × Unit))) (x : (Int × Unit)) => slices_IsSorted_int_int_l1_b k p0 (fun x3 => rec (x3, ())) x.1) (x3, ())
noncomputable def slices_IsSorted_int_int_f (k : Nat) (p0 : (List Int)) : Option ((Bool × Unit) × Unit) :=
  (met (slices_IsSorted_int_int_l1 k p0 (iw (((List.length p0 : Nat) : Int) - 1))) (fun j2 => (some ((true, ()), ()))))
noncomputable def slices_IsSorted_int_int_a : Ann := (.q .o (.q (.q .o (.m [] (.l [(3, 100192, .v (.int .i64))] .o))) .o))
theorem slices_IsSorted_int_int_run (k : Nat) (p0 : (List Int)) : funX Tryz.prog (callT [cmp_Less_int_c k]) k Tryz.f97 slices_IsSorted_int_int_a [.v (.slc 3 (.int .i64))] [.v .bool] (p0, ()) = slices_IsSorted_int_int_f k p0 := by kernel_rfl
noncomputable def slices_IsSorted_int_int_c (k : Nat) : Con := ⟨97, [.v (.slc 3 (.int .i64))], [.v .bool], fun x => slices_IsSorted_int_int_f k x.1⟩
theorem slices_IsSorted_int_int_ok (k : Nat) : (slices_IsSorted_int_int_c k).Sound Tryz.prog GL := con_ok (k := k) (fn := Tryz.f97) (A := slices_IsSorted_int_int_a) (C := callT [cmp_Less_int_c k]) Tryz.func97 (by kernel_rfl) (show Tryz.f97.body = some (bodyX Tryz.f97) by rfl) (fun X hX => callT_at (TableOk.cons (cmp_Less_int_ok k) TableOk.nil) X hX) (Nat.le_of_ble_eq_true (by kernel_rfl)) (fun ⟨p0, _⟩ y h => by rw [← h]; exact slices_IsSorted_int_int_run k p0)
noncomputable def impl_IsBasket_f (k : Nat) (p0 : Int) (p1 : (List Int)) : Option ((Bool × Bool × Unit) × Unit) :=
  (Option.bind (impl_arePairs_f k p0) (fun y9 => (cond (!y9.1.1) (some ((false, false, ()), ())) (Option.bind (impl_times_f k p0 p1) (fun y14 => (met (cond y14.1.2.1 (Option.bind (slices_IsSorted_int_int_f k p1) (fun y20 => (some (.inl (y20.1.1, true, ()))))) (some (.inl (false, true, ())))) (fun j1 => (some ((j1.1, j1.2.1, ()), ())))))))))
noncomputable def impl_IsBasket_a : Ann := (.q .o (.q .o (.q .o (.q (.r [(4, 100256, .v .bool), (5, 100320, .v .bool)]) .o))))
theorem impl_IsBasket_run (k : Nat) (p0 : Int) (p1 : (List Int)) : funX Tryz.prog (callT [impl_arePairs_c k, impl_times_c k, slices_IsSorted_int_int_c k]) k Tryz.f45 impl_IsBasket_a [.v (.int .i64), .v (.slc 3 (.int .i64))] [.v .bool, .v .bool] (p0, p1, ()) = impl_IsBasket_f k p0 p1 := by kernel_rfl
noncomputable def impl_IsBasket_c (k : Nat) : Con := ⟨45, [.v (.int .i64), .v (.slc 3 (.int .i64))], [.v .bool, .v .bool], fun x => impl_IsBasket_f k x.1 x.2.1⟩
theorem impl_IsBasket_ok (k : Nat) : (impl_IsBasket_c k).Sound Tryz.prog GL := con_ok (k := k) (fn := Tryz.f45) (A := impl_IsBasket_a) (C := callT [impl_arePairs_c k, impl_times_c k, slices_IsSorted_int_int_c k]) Tryz.func45 (by kernel_rfl) (show Tryz.f45.body = some (bodyX Tryz.f45) by rfl) (fun X hX => callT_at (TableOk.cons (impl_arePairs_ok k) (TableOk.cons (impl_times_ok k) (TableOk.cons (slices_IsSorted_int_int_ok k) TableOk.nil))) X hX) (Nat.le_of_ble_eq_true (by kernel_rfl)) (fun ⟨p0, p1, _⟩ y h => by rw [← h]; exact impl_IsBasket_run k p0 p1)
noncomputable def impl_isBasket_f (k : Nat) (p0 : Int) (p1 : (List Int)) : Option ((Bool × Unit) × Unit) :=
  (Option.bind (impl_IsBasket_f k p0 p1) (fun y10 => (some ((y10.1.1, ()), ()))))
noncomputable def impl_isBasket_a : Ann := .o
theorem impl_isBasket_run (k : Nat) (p0 : Int) (p1 : (List Int)) : funX Tryz.prog (callT [impl_IsBasket_c k]) k Tryz.f100 impl_isBasket_a [.v (.int .i64), .v (.slc 3 (.int .i64))] [.v .bool] (p0, p1, ()) = impl_isBasket_f k p0 p1 := by kernel_rfl
noncomputable def impl_isBasket_c (k : Nat) : Con := ⟨100, [.v (.int .i64), .v (.slc 3 (.int .i64))], [.v .bool], fun x => impl_isBasket_f k x.1 x.2.1⟩
theorem impl_isBasket_ok (k : Nat) : (impl_isBasket_c k).Sound Tryz.prog GL := con_ok (k := k) (fn := Tryz.f100) (A := impl_isBasket_a) (C := callT [impl_IsBasket_c k]) Tryz.func100 (by kernel_rfl) (show Tryz.f100.body = some (bodyX Tryz.f100) by rfl) (fun X hX => callT_at (TableOk.cons (impl_IsBasket_ok k) TableOk.nil) X hX) (Nat.le_of_ble_eq_true (by kernel_rfl)) (fun ⟨p0, p1, _⟩ y h => by rw [← h]; exact impl_isBasket_run k p0 p1)
noncomputable def impl_pairsWith_l1_b (k : Nat) (p2 : Int) (y20 : (((List Int) × Bool × Unit) × Unit)) (rec : (List Int) → (List Int) → Int → Option (((List Int) × Unit) ⊕ (((List Int) × Bool × Unit) × Unit))) (x10 : (List Int)) (x24 : (List Int)) (x26 : Int) : Option (((List Int) × Unit) ⊕ (((List Int) × Bool × Unit) × Unit)) :=
  (cond (decide (x26 < ((List.length y20.1.1 : Nat) : Int))) (met (ixk x26 (List.length x24) (met (cond ((rd x24 x26) == p2) (chk (decide (List.length x10 + List.length [x26] ≤ 15637498706147)) (some (.inl ((x10 ++ [x26]), ())))) (some (.inl (x10, ())))) (fun j2 => (some (.inl (j2.1, ())))))) (fun j3 => (rec j3.1 x24 (iw (x26 + 1))))) (some (.inl (x10, ()))))
noncomputable def impl_pairsWith_l1 (k : Nat) (p2 : Int) (y20 : (((List Int) × Bool × Unit) × Unit)) (x10 : (List Int)) (x24 : (List Int)) (x26 : Int) : Option (((List Int) × Unit) ⊕ (((List Int) × Bool × Unit) × Unit)) := iter k (fun (rec : ((List Int) × (List Int) × Int × Unit) → Option (((List Int) × Unit) ⊕ (((List Int) × Bool × Unit) × Unit))) (x : ((List Int) × (List Int) × Int × Unit)) => impl_pairsWith_l1_b k p2 y20 (fun x10 x24 x26 => rec (x10, x24, x26, ())) x.1 x.2.1 x.2.2.1) (x10, x24, x26, ())
noncomputable def impl_pairsWith_f (k : Nat) (p0 : Int) (p1 : (List Int)) (p2 : Int) : Option (((List Int) × Bool × Unit) × Unit) :=
  (Option.bind (impl_isBasket_f k p0 p1) (fun y15 => (cond (!y15.1.1) (some (([], false, ()), ())) (Option.bind (impl_times_f k p0 p1) (fun y20 => (met (impl_pairsWith_l1 k p2 y20 [] y20.1.1 0) (fun j4 => (some ((j4.1, true, ()), ())))))))))
noncomputable def impl_pairsWith_a : Ann := (.q .o (.q .o (.q .o (.q .o (.q (.q .o (.m [(10, 100640, .own false 3 (.int .i64))] (.l [(10, 100640, .own false 3 (.int .i64)), (24, 101536, .v (.slc 3 (.int .i64))), (26, 101664, .v (.int .i64))] (.q .o (.q .o (.q (.m [(10, 100640, .own false 3 (.int .i64))] (.q .o (.q .o (.j [(10, 100640, .own false 3 (.int .i64))] .o .o)))) .o)))))) .o)))))
theorem impl_pairsWith_run (k : Nat) (p0 : Int) (p1 : (List Int)) (p2 : Int) : funX Tryz.prog (callT [impl_isBasket_c k, impl_times_c k]) k Tryz.f93 impl_pairsWith_a [.v (.int .i64), .v (.slc 3 (.int .i64)), .v (.int .i64)] [.own false 3 (.int .i64), .v .bool] (p0, p1, p2, ()) = impl_pairsWith_f k p0 p1 p2 := by kernel_rfl
noncomputable def impl_pairsWith_c (k : Nat) : Con := ⟨93, [.v (.int .i64), .v (.slc 3 (.int .i64)), .v (.int .i64)], [.own false 3 (.int .i64), .v .bool], fun x => impl_pairsWith_f k x.1 x.2.1 x.2.2.1⟩
theorem impl_pairsWith_ok (k : Nat) : (impl_pairsWith_c k).Sound Tryz.prog GL := con_ok (k := k) (fn := Tryz.f93) (A := impl_pairsWith_a) (C := callT [impl_isBasket_c k, impl_times_c k]) Tryz.func93 (by kernel_rfl) (show Tryz.f93.body = some (bodyX Tryz.f93) by rfl) (fun X hX => callT_at (TableOk.cons (impl_isBasket_ok k) (TableOk.cons (impl_times_ok k) TableOk.nil)) X hX) (Nat.le_of_ble_eq_true (by kernel_rfl)) (fun ⟨p0, p1, p2, _⟩ y h => by rw [← h]; exact impl_pairsWith_run k p0 p1 p2)
noncomputable def impl_CompleteIn_f (k : Nat) (p0 : Int) (p1 : (List Int)) : Option (((List Int) × Bool × Unit) × Unit) :=
  (Option.bind (impl_pairsWith_f k p0 p1 2) (fun y8 => (some ((y8.1.1, y8.1.2.1, ()), ()))))
noncomputable def impl_CompleteIn_a : Ann := .o
theorem impl_CompleteIn_run (k : Nat) (p0 : Int) (p1 : (List Int)) : funX Tryz.prog (callT [impl_pairsWith_c k]) k Tryz.f39 impl_CompleteIn_a [.v (.int .i64), .v (.slc 3 (.int .i64))] [.own false 3 (.int .i64), .v .bool] (p0, p1, ()) = impl_CompleteIn_f k p0 p1 := by kernel_rfl
noncomputable def impl_CompleteIn_c (k : Nat) : Con := ⟨39, [.v (.int .i64), .v (.slc 3 (.int .i64))], [.own false 3 (.int .i64), .v .bool], fun x => impl_CompleteIn_f k x.1 x.2.1⟩
theorem impl_CompleteIn_ok (k : Nat) : (impl_CompleteIn_c k).Sound Tryz.prog GL := con_ok (k := k) (fn := Tryz.f39) (A := impl_CompleteIn_a) (C := callT [impl_pairsWith_c k]) Tryz.func39 (by kernel_rfl) (show Tryz.f39.body = some (bodyX Tryz.f39) by rfl) (fun X hX => callT_at (TableOk.cons (impl_pairsWith_ok k) TableOk.nil) X hX) (Nat.le_of_ble_eq_true (by kernel_rfl)) (fun ⟨p0, p1, _⟩ y h => by rw [← h]; exact impl_CompleteIn_run k p0 p1)
noncomputable def spec_l1In_f (k : Nat) (p0 : Int) (p1 : Int) (p2 : Int) : Option ((Bool × Unit) × Unit) :=
  (met (cond (decide (p0 ≥ p1)) (some (.inl ((decide (p0 ≤ p2)), ()))) (some (.inl (false, ())))) (fun j1 => (some ((j1.1, ()), ()))))
noncomputable def spec_l1In_a : Ann := (.q .o (.q (.r [(6, 100384, .v .bool)]) .o))
theorem spec_l1In_run (k : Nat) (p0 : Int) (p1 : Int) (p2 : Int) : funX Tryz.prog (callT []) k Tryz.f66 spec_l1In_a [.v (.int .i64), .v (.int .i64), .v (.int .i64)] [.v .bool] (p0, p1, p2, ()) = spec_l1In_f k p0 p1 p2 := by kernel_rfl
noncomputable def spec_l1In_c (k : Nat) : Con := ⟨66, [.v (.int .i64), .v (.int .i64), .v (.int .i64)], [.v .bool], fun x => spec_l1In_f k x.1 x.2.1 x.2.2.1⟩
theorem spec_l1In_ok (k : Nat) : (spec_l1In_c k).Sound Tryz.prog GL := con_ok (k := k) (fn := Tryz.f66) (A := spec_l1In_a) (C := callT []) Tryz.func66 (by kernel_rfl) (show Tryz.f66.body = some (bodyX Tryz.f66) by rfl) (fun X hX => callT_at TableOk.nil X hX) (Nat.le_of_ble_eq_true (by kernel_rfl)) (fun ⟨p0, p1, p2, _⟩ y h => by rw [← h]; exact spec_l1In_run k p0 p1 p2)
noncomputable def spec_laCounts_l1_b (k : Nat) (p0 : Int) (p1 : (List Int)) (rec : (List Int) → Int → Option (((List Int) × Unit) ⊕ (((List Int) × Bool × Unit) × Unit))) (x6 : (List Int)) (x13 : Int) : Option (((List Int) × Unit) ⊕ (((List Int) × Bool × Unit) × Unit)) :=
  (cond (decide (x13 < ((List.length p1 : Nat) : Int))) (ixk x13 (List.length p1) (met (Option.bind (spec_l1In_f k (rd p1 x13) 0 (iw (p0 - 1))) (fun y20 => (cond (!y20.1.1) (some (.inl (x6, true, ()))) (ixk (rd p1 x13) (List.length x6) (some (.inl (x6, ((rd x6 (rd p1 x13)) == 2), ()))))))) (fun j2 => (cond j2.2.1 (some (.inr (([], false, ()), ()))) (ixk (rd p1 x13) (List.length j2.1) (ixk (rd p1 x13) (List.length j2.1) (rec (setI j2.1 (rd p1 x13) (iw ((rd j2.1 (rd p1 x13)) + 1))) (iw (x13 + 1))))))))) (some (.inl (x6, ()))))
noncomputable def spec_laCounts_l1 (k : Nat) (p0 : Int) (p1 : (List Int)) (x6 : (List Int)) (x13 : Int) : Option (((List Int) × Unit) ⊕ (((List Int) × Bool × Unit) × Unit)) := iter k (fun (rec : ((List Int) × Int × Unit) → Option (((List Int) × Unit) ⊕ (((List Int) × Bool × Unit) × Unit))) (x : ((List Int) × Int × Unit)) => spec_laCounts_l1_b k p0 p1 (fun x6 x13 => rec (x6, x13, ())) x.1 x.2.1) (x6, x13, ())
noncomputable def spec_laCounts_f (k : Nat) (p0 : Int) (p1 : (List Int)) : Option (((List Int) × Bool × Unit) × Unit) :=
  (chk (decide ((0 : Int) ≤ p0)) (chk (decide (p0 ≤ ((15637498706147 : Nat) : Int))) (met (spec_laCounts_l1 k p0 p1 (List.replicate (Int.toNat p0) (0 : Int)) 0) (fun j3 => (some ((j3.1, true, ()), ()))))))
noncomputable def spec_laCounts_a : Ann := (.q .o (.q .o (.q (.q .o (.m [(6, 100384, .own false 3 (.int .i64))] (.l [(6, 100384, .own false 3 (.int .i64)), (13, 100832, .v (.int .i64))] (.q .o (.q .o (.q (.b (.q .o (.q (.q (.r [(6, 100384, .own false 3 (.int .i64)), (28, 101792, .v .bool)]) .o) .o))) .o)))))) .o)))
theorem spec_laCounts_run (k : Nat) (p0 : Int) (p1 : (List Int)) : funX Tryz.prog (callT [spec_l1In_c k]) k Tryz.f104 spec_laCounts_a [.v (.int .i64), .v (.slc 3 (.int .i64))] [.own false 3 (.int .i64), .v .bool] (p0, p1, ()) = spec_laCounts_f k p0 p1 := by kernel_rfl
noncomputable def spec_laCounts_c (k : Nat) : Con := ⟨104, [.v (.int .i64), .v (.slc 3 (.int .i64))], [.own false 3 (.int .i64), .v .bool], fun x => spec_laCounts_f k x.1 x.2.1⟩
theorem spec_laCounts_ok (k : Nat) : (spec_laCounts_c k).Sound Tryz.prog GL := con_ok (k := k) (fn := Tryz.f104) (A := spec_laCounts_a) (C := callT [spec_l1In_c k]) Tryz.func104 (by kernel_rfl) (show Tryz.f104.body = some (bodyX Tryz.f104) by rfl) (fun X hX => callT_at (TableOk.cons (spec_l1In_ok k) TableOk.nil) X hX) (Nat.le_of_ble_eq_true (by kernel_rfl)) (fun ⟨p0, p1, _⟩ y h => by rw [← h]; exact spec_laCounts_run k p0 p1)
noncomputable def spec_laIs_l1_b (k : Nat) (p1 : (List Int)) (rec : Int → Option (Unit ⊕ ((Bool × Unit) × Unit))) (x5 : Int) : Option (Unit ⊕ ((Bool × Unit) × Unit)) :=
  (cond (decide (x5 < ((List.length p1 : Nat) : Int))) (ixk (iw (x5 - 1)) (List.length p1) (ixk x5 (List.length p1) (cond (decide ((rd p1 (iw (x5 - 1))) > (rd p1 x5))) (some (.inr ((false, ()), ()))) (rec (iw (x5 + 1)))))) (some (.inl ())))
noncomputable def spec_laIs_l1 (k : Nat) (p1 : (List Int)) (x5 : Int) : Option (Unit ⊕ ((Bool × Unit) × Unit)) := iter k (fun (rec : (Int × Unit) → Option (Unit ⊕ ((Bool × Unit) × Unit))) (x : (Int × Unit)) => spec_laIs_l1_b k p1 (fun x5 => rec (x5, ())) x.1) (x5, ())
noncomputable def spec_laIs_f (k : Nat) (p0 : Int) (p1 : (List Int)) : Option ((Bool × Unit) × Unit) :=
  (met (spec_laIs_l1 k p1 1) (fun j2 => (Option.bind (spec_laCounts_f k p0 p1) (fun y27 => (some ((y27.1.2.1, ()), ()))))))
noncomputable def spec_laIs_a : Ann := (.q .o (.q (.q .o (.m [] (.l [(5, 100320, .v (.int .i64))] .o))) .o))
theorem spec_laIs_run (k : Nat) (p0 : Int) (p1 : (List Int)) : funX Tryz.prog (callT [spec_laCounts_c k]) k Tryz.f98 spec_laIs_a [.v (.int .i64), .v (.slc 3 (.int .i64))] [.v .bool] (p0, p1, ()) = spec_laIs_f k p0 p1 := by kernel_rfl
noncomputable def spec_laIs_c (k : Nat) : Con := ⟨98, [.v (.int .i64), .v (.slc 3 (.int .i64))], [.v .bool], fun x => spec_laIs_f k x.1 x.2.1⟩
theorem spec_laIs_ok (k : Nat) : (spec_laIs_c k).Sound Tryz.prog GL := con_ok (k := k) (fn := Tryz.f98) (A := spec_laIs_a) (C := callT [spec_laCounts_c k]) Tryz.func98 (by kernel_rfl) (show Tryz.f98.body = some (bodyX Tryz.f98) by rfl) (fun X hX => callT_at (TableOk.cons (spec_laCounts_ok k) TableOk.nil) X hX) (Nat.le_of_ble_eq_true (by kernel_rfl)) (fun ⟨p0, p1, _⟩ y h => by rw [← h]; exact spec_laIs_run k p0 p1)
noncomputable def spec_laBasket_f (k : Nat) (p0 : Int) (p1 : (List Int)) : Option ((Bool × Unit) × Unit) :=
  (met (Option.bind (spec_l1In_f k p0 1 20) (fun y6 => (cond y6.1.1 (Option.bind (spec_laIs_f k p0 p1) (fun y10 => (some (.inl (y10.1.1, ()))))) (some (.inl (false, ())))))) (fun j1 => (some ((j1.1, ()), ()))))
noncomputable def spec_laBasket_a : Ann := (.q .o (.q (.r [(4, 100256, .v .bool)]) .o))
theorem spec_laBasket_run (k : Nat) (p0 : Int) (p1 : (List Int)) : funX Tryz.prog (callT [spec_l1In_c k, spec_laIs_c k]) k Tryz.f94 spec_laBasket_a [.v (.int .i64), .v (.slc 3 (.int .i64))] [.v .bool] (p0, p1, ()) = spec_laBasket_f k p0 p1 := by kernel_rfl
noncomputable def spec_laBasket_c (k : Nat) : Con := ⟨94, [.v (.int .i64), .v (.slc 3 (.int .i64))], [.v .bool], fun x => spec_laBasket_f k x.1 x.2.1⟩
theorem spec_laBasket_ok (k : Nat) : (spec_laBasket_c k).Sound Tryz.prog GL := con_ok (k := k) (fn := Tryz.f94) (A := spec_laBasket_a) (C := callT [spec_l1In_c k, spec_laIs_c k]) Tryz.func94 (by kernel_rfl) (show Tryz.f94.body = some (bodyX Tryz.f94) by rfl) (fun X hX => callT_at (TableOk.cons (spec_l1In_ok k) (TableOk.cons (spec_laIs_ok k) TableOk.nil)) X hX) (Nat.le_of_ble_eq_true (by kernel_rfl)) (fun ⟨p0, p1, _⟩ y h => by rw [← h]; exact spec_laBasket_run k p0 p1)
noncomputable def spec_laWith_l1_b (k : Nat) (p2 : Int) (y15 : (((List Int) × Bool × Unit) × Unit)) (rec : (List Int) → (List Int) → Int → Option (((List Int) × Unit) ⊕ (((List Int) × Unit) × Unit))) (x9 : (List Int)) (x18 : (List Int)) (x20 : Int) : Option (((List Int) × Unit) ⊕ (((List Int) × Unit) × Unit)) :=
  (cond (decide (x20 < ((List.length y15.1.1 : Nat) : Int))) (met (ixk x20 (List.length x18) (met (cond ((rd x18 x20) == p2) (chk (decide (List.length x9 + List.length [x20] ≤ 15637498706147)) (some (.inl ((x9 ++ [x20]), ())))) (some (.inl (x9, ())))) (fun j2 => (some (.inl (j2.1, ())))))) (fun j3 => (rec j3.1 x18 (iw (x20 + 1))))) (some (.inl (x9, ()))))
noncomputable def spec_laWith_l1 (k : Nat) (p2 : Int) (y15 : (((List Int) × Bool × Unit) × Unit)) (x9 : (List Int)) (x18 : (List Int)) (x20 : Int) : Option (((List Int) × Unit) ⊕ (((List Int) × Unit) × Unit)) := iter k (fun (rec : ((List Int) × (List Int) × Int × Unit) → Option (((List Int) × Unit) ⊕ (((List Int) × Unit) × Unit))) (x : ((List Int) × (List Int) × Int × Unit)) => spec_laWith_l1_b k p2 y15 (fun x9 x18 x20 => rec (x9, x18, x20, ())) x.1 x.2.1 x.2.2.1) (x9, x18, x20, ())
noncomputable def spec_laWith_f (k : Nat) (p0 : Int) (p1 : (List Int)) (p2 : Int) : Option (((List Int) × Unit) × Unit) :=
  (Option.bind (spec_laCounts_f k p0 p1) (fun y15 => (met (spec_laWith_l1 k p2 y15 [] y15.1.1 0) (fun j4 => (some ((j4.1, ()), ()))))))
noncomputable def spec_laWith_a : Ann := (.q .o (.q .o (.q .o (.q (.q .o (.m [(9, 100576, .own false 3 (.int .i64))] (.l [(9, 100576, .own false 3 (.int .i64)), (18, 101152, .v (.slc 3 (.int .i64))), (20, 101280, .v (.int .i64))] (.q .o (.q .o (.q (.m [(9, 100576, .own false 3 (.int .i64))] (.q .o (.q .o (.j [(9, 100576, .own false 3 (.int .i64))] .o .o)))) .o)))))) .o))))
theorem spec_laWith_run (k : Nat) (p0 : Int) (p1 : (List Int)) (p2 : Int) : funX Tryz.prog (callT [spec_laCounts_c k]) k Tryz.f95 spec_laWith_a [.v (.int .i64), .v (.slc 3 (.int .i64)), .v (.int .i64)] [.own false 3 (.int .i64)] (p0, p1, p2, ()) = spec_laWith_f k p0 p1 p2 := by kernel_rfl
noncomputable def spec_laWith_c (k : Nat) : Con := ⟨95, [.v (.int .i64), .v (.slc 3 (.int .i64)), .v (.int .i64)], [.own false 3 (.int .i64)], fun x => spec_laWith_f k x.1 x.2.1 x.2.2.1⟩
theorem spec_laWith_ok (k : Nat) : (spec_laWith_c k).Sound Tryz.prog GL := con_ok (k := k) (fn := Tryz.f95) (A := spec_laWith_a) (C := callT [spec_laCounts_c k]) Tryz.func95 (by kernel_rfl) (show Tryz.f95.body = some (bodyX Tryz.f95) by rfl) (fun X hX => callT_at (TableOk.cons (spec_laCounts_ok k) TableOk.nil) X hX) (Nat.le_of_ble_eq_true (by kernel_rfl)) (fun ⟨p0, p1, p2, _⟩ y h => by rw [← h]; exact spec_laWith_run k p0 p1 p2)
noncomputable def spec_CompleteIn_f (k : Nat) (p0 : Int) (p1 : (List Int)) : Option (((List Int) × Bool × Unit) × Unit) :=
  (Option.bind (spec_laBasket_f k p0 p1) (fun y8 => (cond (!y8.1.1) (some (([], false, ()), ())) (Option.bind (spec_laWith_f k p0 p1 2) (fun y12 => (some ((y12.1.1, true, ()), ())))))))
noncomputable def spec_CompleteIn_a : Ann := .o
theorem spec_CompleteIn_run (k : Nat) (p0 : Int) (p1 : (List Int)) : funX Tryz.prog (callT [spec_laBasket_c k, spec_laWith_c k]) k Tryz.f40 spec_CompleteIn_a [.v (.int .i64), .v (.slc 3 (.int .i64))] [.own false 3 (.int .i64), .v .bool] (p0, p1, ()) = spec_CompleteIn_f k p0 p1 := by kernel_rfl
noncomputable def spec_CompleteIn_c (k : Nat) : Con := ⟨40, [.v (.int .i64), .v (.slc 3 (.int .i64))], [.own false 3 (.int .i64), .v .bool], fun x => spec_CompleteIn_f k x.1 x.2.1⟩
theorem spec_CompleteIn_ok (k : Nat) : (spec_CompleteIn_c k).Sound Tryz.prog GL := con_ok (k := k) (fn := Tryz.f40) (A := spec_CompleteIn_a) (C := callT [spec_laBasket_c k, spec_laWith_c k]) Tryz.func40 (by kernel_rfl) (show Tryz.f40.body = some (bodyX Tryz.f40) by rfl) (fun X hX => callT_at (TableOk.cons (spec_laBasket_ok k) (TableOk.cons (spec_laWith_ok k) TableOk.nil)) X hX) (Nat.le_of_ble_eq_true (by kernel_rfl)) (fun ⟨p0, p1, _⟩ y h => by rw [← h]; exact spec_CompleteIn_run k p0 p1)
noncomputable def impl_SinglesIn_f (k : Nat) (p0 : Int) (p1 : (List Int)) : Option (((List Int) × Bool × Unit) × Unit) :=
  (Option.bind (impl_pairsWith_f k p0 p1 1) (fun y8 => (some ((y8.1.1, y8.1.2.1, ()), ()))))
noncomputable def impl_SinglesIn_a : Ann := .o
theorem impl_SinglesIn_run (k : Nat) (p0 : Int) (p1 : (List Int)) : funX Tryz.prog (callT [impl_pairsWith_c k]) k Tryz.f41 impl_SinglesIn_a [.v (.int .i64), .v (.slc 3 (.int .i64))] [.own false 3 (.int .i64), .v .bool] (p0, p1, ()) = impl_SinglesIn_f k p0 p1 := by kernel_rfl
noncomputable def impl_SinglesIn_c (k : Nat) : Con := ⟨41, [.v (.int .i64), .v (.slc 3 (.int .i64))], [.own false 3 (.int .i64), .v .bool], fun x => impl_SinglesIn_f k x.1 x.2.1⟩
theorem impl_SinglesIn_ok (k : Nat) : (impl_SinglesIn_c k).Sound Tryz.prog GL := con_ok (k := k) (fn := Tryz.f41) (A := impl_SinglesIn_a) (C := callT [impl_pairsWith_c k]) Tryz.func41 (by kernel_rfl) (show Tryz.f41.body = some (bodyX Tryz.f41) by rfl) (fun X hX => callT_at (TableOk.cons (impl_pairsWith_ok k) TableOk.nil) X hX) (Nat.le_of_ble_eq_true (by kernel_rfl)) (fun ⟨p0, p1, _⟩ y h => by rw [← h]; exact impl_SinglesIn_run k p0 p1)
noncomputable def spec_SinglesIn_f (k : Nat) (p0 : Int) (p1 : (List Int)) : Option (((List Int) × Bool × Unit) × Unit) :=
  (Option.bind (spec_laBasket_f k p0 p1) (fun y8 => (cond (!y8.1.1) (some (([], false, ()), ())) (Option.bind (spec_laWith_f k p0 p1 1) (fun y12 => (some ((y12.1.1, true, ()), ())))))))
noncomputable def spec_SinglesIn_a : Ann := .o
theorem spec_SinglesIn_run (k : Nat) (p0 : Int) (p1 : (List Int)) : funX Tryz.prog (callT [spec_laBasket_c k, spec_laWith_c k]) k Tryz.f42 spec_SinglesIn_a [.v (.int .i64), .v (.slc 3 (.int .i64))] [.own false 3 (.int .i64), .v .bool] (p0, p1, ()) = spec_SinglesIn_f k p0 p1 := by kernel_rfl
noncomputable def spec_SinglesIn_c (k : Nat) : Con := ⟨42, [.v (.int .i64), .v (.slc 3 (.int .i64))], [.own false 3 (.int .i64), .v .bool], fun x => spec_SinglesIn_f k x.1 x.2.1⟩
theorem spec_SinglesIn_ok (k : Nat) : (spec_SinglesIn_c k).Sound Tryz.prog GL := con_ok (k := k) (fn := Tryz.f42) (A := spec_SinglesIn_a) (C := callT [spec_laBasket_c k, spec_laWith_c k]) Tryz.func42 (by kernel_rfl) (show Tryz.f42.body = some (bodyX Tryz.f42) by rfl) (fun X hX => callT_at (TableOk.cons (spec_laBasket_ok k) (TableOk.cons (spec_laWith_ok k) TableOk.nil)) X hX) (Nat.le_of_ble_eq_true (by kernel_rfl)) (fun ⟨p0, p1, _⟩ y h => by rw [← h]; exact spec_SinglesIn_run k p0 p1)
noncomputable def impl_GoneFrom_f (k : Nat) (p0 : Int) (p1 : (List Int)) : Option (((List Int) × Bool × Unit) × Unit) :=
  (Option.bind (impl_pairsWith_f k p0 p1 0) (fun y8 => (some ((y8.1.1, y8.1.2.1, ()), ()))))
noncomputable def impl_GoneFrom_a : Ann := .o
theorem impl_GoneFrom_run (k : Nat) (p0 : Int) (p1 : (List Int)) : funX Tryz.prog (callT [impl_pairsWith_c k]) k Tryz.f43 impl_GoneFrom_a [.v (.int .i64), .v (.slc 3 (.int .i64))] [.own false 3 (.int .i64), .v .bool] (p0, p1, ()) = impl_GoneFrom_f k p0 p1 := by kernel_rfl
noncomputable def impl_GoneFrom_c (k : Nat) : Con := ⟨43, [.v (.int .i64), .v (.slc 3 (.int .i64))], [.own false 3 (.int .i64), .v .bool], fun x => impl_GoneFrom_f k x.1 x.2.1⟩
theorem impl_GoneFrom_ok (k : Nat) : (impl_GoneFrom_c k).Sound Tryz.prog GL := con_ok (k := k) (fn := Tryz.f43) (A := impl_GoneFrom_a) (C := callT [impl_pairsWith_c k]) Tryz.func43 (by kernel_rfl) (show Tryz.f43.body = some (bodyX Tryz.f43) by rfl) (fun X hX => callT_at (TableOk.cons (impl_pairsWith_ok k) TableOk.nil) X hX) (Nat.le_of_ble_eq_true (by kernel_rfl)) (fun ⟨p0, p1, _⟩ y h => by rw [← h]; exact impl_GoneFrom_run k p0 p1)
noncomputable def spec_GoneFrom_f (k : Nat) (p0 : Int) (p1 : (List Int)) : Option (((List Int) × Bool × Unit) × Unit) :=
  (Option.bind (spec_laBasket_f k p0 p1) (fun y8 => (cond (!y8.1.1) (some (([], false, ()), ())) (Option.bind (spec_laWith_f k p0 p1 0) (fun y12 => (some ((y12.1.1, true, ()), ())))))))
noncomputable def spec_GoneFrom_a : Ann := .o
theorem spec_GoneFrom_run (k : Nat) (p0 : Int) (p1 : (List Int)) : funX Tryz.prog (callT [spec_laBasket_c k, spec_laWith_c k]) k Tryz.f44 spec_GoneFrom_a [.v (.int .i64), .v (.slc 3 (.int .i64))] [.own false 3 (.int .i64), .v .bool] (p0, p1, ()) = spec_GoneFrom_f k p0 p1 := by kernel_rfl
noncomputable def spec_GoneFrom_c (k : Nat) : Con := ⟨44, [.v (.int .i64), .v (.slc 3 (.int .i64))], [.own false 3 (.int .i64), .v .bool], fun x => spec_GoneFrom_f k x.1 x.2.1⟩
theorem spec_GoneFrom_ok (k : Nat) : (spec_GoneFrom_c k).Sound Tryz.prog GL := con_ok (k := k) (fn := Tryz.f44) (A := spec_GoneFrom_a) (C := callT [spec_laBasket_c k, spec_laWith_c k]) Tryz.func44 (by kernel_rfl) (show Tryz.f44.body = some (bodyX Tryz.f44) by rfl) (fun X hX => callT_at (TableOk.cons (spec_laBasket_ok k) (TableOk.cons (spec_laWith_ok k) TableOk.nil)) X hX) (Nat.le_of_ble_eq_true (by kernel_rfl)) (fun ⟨p0, p1, _⟩ y h => by rw [← h]; exact spec_GoneFrom_run k p0 p1)
noncomputable def spec_IsBasket_f (k : Nat) (p0 : Int) (p1 : (List Int)) : Option ((Bool × Bool × Unit) × Unit) :=
  (Option.bind (spec_l1In_f k p0 1 20) (fun y7 => (cond (!y7.1.1) (some ((false, false, ()), ())) (Option.bind (spec_laIs_f k p0 p1) (fun y11 => (some ((y11.1.1, true, ()), ())))))))
noncomputable def spec_IsBasket_a : Ann := .o
theorem spec_IsBasket_run (k : Nat) (p0 : Int) (p1 : (List Int)) : funX Tryz.prog (callT [spec_l1In_c k, spec_laIs_c k]) k Tryz.f46 spec_IsBasket_a [.v (.int .i64), .v (.slc 3 (.int .i64))] [.v .bool, .v .bool] (p0, p1, ()) = spec_IsBasket_f k p0 p1 := by kernel_rfl
noncomputable def spec_IsBasket_c (k : Nat) : Con := ⟨46, [.v (.int .i64), .v (.slc 3 (.int .i64))], [.v .bool, .v .bool], fun x => spec_IsBasket_f k x.1 x.2.1⟩
theorem spec_IsBasket_ok (k : Nat) : (spec_IsBasket_c k).Sound Tryz.prog GL := con_ok (k := k) (fn := Tryz.f46) (A := spec_IsBasket_a) (C := callT [spec_l1In_c k, spec_laIs_c k]) Tryz.func46 (by kernel_rfl) (show Tryz.f46.body = some (bodyX Tryz.f46) by rfl) (fun X hX => callT_at (TableOk.cons (spec_l1In_ok k) (TableOk.cons (spec_laIs_ok k) TableOk.nil)) X hX) (Nat.le_of_ble_eq_true (by kernel_rfl)) (fun ⟨p0, p1, _⟩ y h => by rw [← h]; exact spec_IsBasket_run k p0 p1)
noncomputable def laws_zSame_l1_b (k : Nat) (p0 : (List Int)) (p1 : (List Int)) (rec : Int → Option (Unit ⊕ ((Bool × Unit) × Unit))) (x13 : Int) : Option (Unit ⊕ ((Bool × Unit) × Unit)) :=
  (cond (decide (x13 < ((List.length p0 : Nat) : Int))) (ixk x13 (List.length p0) (ixk x13 (List.length p1) (cond ((rd p0 x13) != (rd p1 x13)) (some (.inr ((false, ()), ()))) (rec (iw (x13 + 1)))))) (some (.inl ())))
noncomputable def laws_zSame_l1 (k : Nat) (p0 : (List Int)) (p1 : (List Int)) (x13 : Int) : Option (Unit ⊕ ((Bool × Unit) × Unit)) := iter k (fun (rec : (Int × Unit) → Option (Unit ⊕ ((Bool × Unit) × Unit))) (x : (Int × Unit)) => laws_zSame_l1_b k p0 p1 (fun x13 => rec (x13, ())) x.1) (x13, ())
noncomputable def laws_zSame_f (k : Nat) (p0 : (List Int)) (p1 : (List Int)) : Option ((Bool × Unit) × Unit) :=
  (cond (((List.length p0 : Nat) : Int) != ((List.length p1 : Nat) : Int)) (some ((false, ()), ())) (met (laws_zSame_l1 k p0 p1 0) (fun j2 => (some ((true, ()), ())))))
noncomputable def laws_zSame_a : Ann := (.q .o (.q .o (.q (.q .o (.m [] (.l [(13, 100832, .v (.int .i64))] .o))) .o)))
theorem laws_zSame_run (k : Nat) (p0 : (List Int)) (p1 : (List Int)) : funX Tryz.prog (callT []) k Tryz.f27 laws_zSame_a [.v (.slc 3 (.int .i64)), .v (.slc 3 (.int .i64))] [.v .bool] (p0, p1, ()) = laws_zSame_f k p0 p1 := by kernel_rfl
noncomputable def laws_zSame_c (k : Nat) : Con := ⟨27, [.v (.slc 3 (.int .i64)), .v (.slc 3 (.int .i64))], [.v .bool], fun x => laws_zSame_f k x.1 x.2.1⟩
theorem laws_zSame_ok (k : Nat) : (laws_zSame_c k).Sound Tryz.prog GL := con_ok (k := k) (fn := Tryz.f27) (A := laws_zSame_a) (C := callT []) Tryz.func27 (by kernel_rfl) (show Tryz.f27.body = some (bodyX Tryz.f27) by rfl) (fun X hX => callT_at TableOk.nil X hX) (Nat.le_of_ble_eq_true (by kernel_rfl)) (fun ⟨p0, p1, _⟩ y h => by rw [← h]; exact laws_zSame_run k p0 p1)
noncomputable def laws_zRises_l1_b (k : Nat) (p0 : (List Int)) (rec : Int → Option (Unit ⊕ ((Bool × Unit) × Unit))) (x3 : Int) : Option (Unit ⊕ ((Bool × Unit) × Unit)) :=
  (cond (decide (x3 < ((List.length p0 : Nat) : Int))) (ixk (iw (x3 - 1)) (List.length p0) (ixk x3 (List.length p0) (cond (decide ((rd p0 (iw (x3 - 1))) ≥ (rd p0 x3))) (some (.inr ((false, ()), ()))) (rec (iw (x3 + 1)))))) (some (.inl ())))
noncomputable def laws_zRises_l1 (k : Nat) (p0 : (List Int)) (x3 : Int) : Option (Unit ⊕ ((Bool × Unit) × Unit)) := iter k (fun (rec : (Int × Unit) → Option (Unit ⊕ ((Bool × Unit) × Unit))) (x : (Int × Unit)) => laws_zRises_l1_b k p0 (fun x3 => rec (x3, ())) x.1) (x3, ())
noncomputable def laws_zRises_f (k : Nat) (p0 : (List Int)) : Option ((Bool × Unit) × Unit) :=
  (met (laws_zRises_l1 k p0 1) (fun j2 => (some ((true, ()), ()))))
noncomputable def laws_zRises_a : Ann := (.q .o (.q (.q .o (.m [] (.l [(3, 100192, .v (.int .i64))] .o))) .o))
theorem laws_zRises_run (k : Nat) (p0 : (List Int)) : funX Tryz.prog (callT []) k Tryz.f35 laws_zRises_a [.v (.slc 3 (.int .i64))] [.v .bool] (p0, ()) = laws_zRises_f k p0 := by kernel_rfl
noncomputable def laws_zRises_c (k : Nat) : Con := ⟨35, [.v (.slc 3 (.int .i64))], [.v .bool], fun x => laws_zRises_f k x.1⟩
theorem laws_zRises_ok (k : Nat) : (laws_zRises_c k).Sound Tryz.prog GL := con_ok (k := k) (fn := Tryz.f35) (A := laws_zRises_a) (C := callT []) Tryz.func35 (by kernel_rfl) (show Tryz.f35.body = some (bodyX Tryz.f35) by rfl) (fun X hX => callT_at TableOk.nil X hX) (Nat.le_of_ble_eq_true (by kernel_rfl)) (fun ⟨p0, _⟩ y h => by rw [← h]; exact laws_zRises_run k p0)
noncomputable def laws_zHas_l1_b (k : Nat) (p0 : (List Int)) (p1 : Int) (rec : Int → Option (Unit ⊕ ((Bool × Unit) × Unit))) (x9 : Int) : Option (Unit ⊕ ((Bool × Unit) × Unit)) :=
  (cond (decide (x9 < ((List.length p0 : Nat) : Int))) (ixk x9 (List.length p0) (cond ((rd p0 x9) == p1) (some (.inr ((true, ()), ()))) (rec (iw (x9 + 1))))) (some (.inl ())))
noncomputable def laws_zHas_l1 (k : Nat) (p0 : (List Int)) (p1 : Int) (x9 : Int) : Option (Unit ⊕ ((Bool × Unit) × Unit)) := iter k (fun (rec : (Int × Unit) → Option (Unit ⊕ ((Bool × Unit) × Unit))) (x : (Int × Unit)) => laws_zHas_l1_b k p0 p1 (fun x9 => rec (x9, ())) x.1) (x9, ())
noncomputable def laws_zHas_f (k : Nat) (p0 : (List Int)) (p1 : Int) : Option ((Bool × Unit) × Unit) :=
  (met (laws_zHas_l1 k p0 p1 0) (fun j2 => (some ((false, ()), ()))))
noncomputable def laws_zHas_a : Ann := (.q .o (.q (.q .o (.m [] (.l [(9, 100576, .v (.int .i64))] .o))) .o))
theorem laws_zHas_run (k : Nat) (p0 : (List Int)) (p1 : Int) : funX Tryz.prog (callT []) k Tryz.f32 laws_zHas_a [.v (.slc 3 (.int .i64)), .v (.int .i64)] [.v .bool] (p0, p1, ()) = laws_zHas_f k p0 p1 := by kernel_rfl
noncomputable def laws_zHas_c (k : Nat) : Con := ⟨32, [.v (.slc 3 (.int .i64)), .v (.int .i64)], [.v .bool], fun x => laws_zHas_f k x.1 x.2.1⟩
theorem laws_zHas_ok (k : Nat) : (laws_zHas_c k).Sound Tryz.prog GL := con_ok (k := k) (fn := Tryz.f32) (A := laws_zHas_a) (C := callT []) Tryz.func32 (by kernel_rfl) (show Tryz.f32.body = some (bodyX Tryz.f32) by rfl) (fun X hX => callT_at TableOk.nil X hX) (Nat.le_of_ble_eq_true (by kernel_rfl)) (fun ⟨p0, p1, _⟩ y h => by rw [← h]; exact laws_zHas_run k p0 p1)
noncomputable def impl_basketOf_l2_b (k : Nat) (p0 : (List Int)) (x9 : Int) (rec : (List Int) → Int → Option (((List Int) × Unit) ⊕ (((List Int) × Unit) ⊕ (((List Int) × Unit) ⊕ (((List Int) × Unit) × Unit))))) (x3_1 : (List Int)) (x15 : Int) : Option (((List Int) × Unit) ⊕ (((List Int) × Unit) ⊕ (((List Int) × Unit) ⊕ (((List Int) × Unit) × Unit)))) :=
  (cond (decide (x15 < (rd p0 x9))) (chk (decide (List.length x3_1 + List.length [x9] ≤ 15637498706147)) (rec (x3_1 ++ [x9]) (iw (x15 + 1)))) (some (.inl (x3_1, ()))))
noncomputable def impl_basketOf_l2 (k : Nat) (p0 : (List Int)) (x9 : Int) (x3_1 : (List Int)) (x15 : Int) : Option (((List Int) × Unit) ⊕ (((List Int) × Unit) ⊕ (((List Int) × Unit) ⊕ (((List Int) × Unit) × Unit)))) := iter k (fun (rec : ((List Int) × Int × Unit) → Option (((List Int) × Unit) ⊕ (((List Int) × Unit) ⊕ (((List Int) × Unit) ⊕ (((List Int) × Unit) × Unit))))) (x : ((List Int) × Int × Unit)) => impl_basketOf_l2_b k p0 x9 (fun x3_1 x15 => rec (x3_1, x15, ())) x.1 x.2.1) (x3_1, x15, ())
noncomputable def impl_basketOf_l1_b (k : Nat) (p0 : (List Int)) (rec : (List Int) → Int → Option (((List Int) × Unit) ⊕ (((List Int) × Unit) × Unit))) (x3 : (List Int)) (x9 : Int) : Option (((List Int) × Unit) ⊕ (((List Int) × Unit) × Unit)) :=
  (cond (decide (x9 < ((List.length p0 : Nat) : Int))) (met (ixk x9 (List.length p0) (met (impl_basketOf_l2 k p0 x9 x3 0) (fun j3 => (some (.inl (j3.1, ())))))) (fun j4 => (rec j4.1 (iw (x9 + 1))))) (some (.inl (x3, ()))))
noncomputable def impl_basketOf_l1 (k : Nat) (p0 : (List Int)) (x3 : (List Int)) (x9 : Int) : Option (((List Int) × Unit) ⊕ (((List Int) × Unit) × Unit)) := iter k (fun (rec : ((List Int) × Int × Unit) → Option (((List Int) × Unit) ⊕ (((List Int) × Unit) × Unit))) (x : ((List Int) × Int × Unit)) => impl_basketOf_l1_b k p0 (fun x3 x9 => rec (x3, x9, ())) x.1 x.2.1) (x3, x9, ())
noncomputable def impl_basketOf_f (k : Nat) (p0 : (List Int)) : Option (((List Int) × Unit) × Unit) :=
  (met (impl_basketOf_l1 k p0 [] 0) (fun j5 => (some ((j5.1, ()), ()))))
noncomputable def impl_basketOf_a : Ann := (.q .o (.q .o (.q (.q .o (.m [(3, 100192, .own false 3 (.int .i64))] (.l [(3, 100192, .own false 3 (.int .i64)), (9, 100576, .v (.int .i64))] (.q .o (.q .o (.q (.m [(3, 100192, .own false 3 (.int .i64))] (.q .o (.q .o (.m [(3, 100192, .own false 3 (.int .i64))] (.l [(3, 100192, .own false 3 (.int .i64)), (15, 100960, .v (.int .i64))] .o))))) .o)))))) .o)))
theorem impl_basketOf_run (k : Nat) (p0 : (List Int)) : funX Tryz.prog (callT []) k Tryz.f99 impl_basketOf_a [.v (.slc 3 (.int .i64))] [.own false 3 (.int .i64)] (p0, ()) = impl_basketOf_f k p0 := by kernel_rfl
noncomputable def impl_basketOf_c (k : Nat) : Con := ⟨99, [.v (.slc 3 (.int .i64))], [.own false 3 (.int .i64)], fun x => impl_basketOf_f k x.1⟩
theorem impl_basketOf_ok (k : Nat) : (impl_basketOf_c k).Sound Tryz.prog GL := con_ok (k := k) (fn := Tryz.f99) (A := impl_basketOf_a) (C := callT []) Tryz.func99 (by kernel_rfl) (show Tryz.f99.body = some (bodyX Tryz.f99) by rfl) (fun X hX => callT_at TableOk.nil X hX) (Nat.le_of_ble_eq_true (by kernel_rfl)) (fun ⟨p0, _⟩ y h => by rw [← h]; exact impl_basketOf_run k p0)
noncomputable def impl_BasketAfter_l1_b (k : Nat) (y16 : (((List Int) × Bool × Unit) × Unit)) (rec : (List Int) → Unit → Int → Option (((List Int) × Unit) ⊕ (((List Int) × Bool × Unit) × Unit))) (x6 : (List Int)) (x21 : Unit) (x23 : Int) : Option (((List Int) × Unit) ⊕ (((List Int) × Bool × Unit) × Unit)) :=
  (cond (decide (x23 < ((List.length y16.1.1 : Nat) : Int))) (ixk x23 (List.length x6) (ixk x23 (List.length x6) (rec (setI x6 x23 (iw (2 - (rd x6 x23)))) () (iw (x23 + 1))))) (some (.inl (x6, ()))))
noncomputable def impl_BasketAfter_l1 (k : Nat) (y16 : (((List Int) × Bool × Unit) × Unit)) (x6 : (List Int)) (x21 : Unit) (x23 : Int) : Option (((List Int) × Unit) ⊕ (((List Int) × Bool × Unit) × Unit)) := iter k (fun (rec : ((List Int) × Unit × Int × Unit) → Option (((List Int) × Unit) ⊕ (((List Int) × Bool × Unit) × Unit))) (x : ((List Int) × Unit × Int × Unit)) => impl_BasketAfter_l1_b k y16 (fun x6 x21 x23 => rec (x6, x21, x23, ())) x.1 x.2.1 x.2.2.1) (x6, x21, x23, ())
noncomputable def impl_BasketAfter_f (k : Nat) (p0 : Int) (p1 : (List Int)) : Option (((List Int) × Bool × Unit) × Unit) :=
  (Option.bind (impl_arePairs_f k p0) (fun y11 => (cond (!y11.1.1) (some (([], false, ()), ())) (Option.bind (impl_times_f k p0 p1) (fun y16 => (cond (!y16.1.2.1) (some (([], false, ()), ())) (met (impl_BasketAfter_l1 k y16 y16.1.1 () 0) (fun j2 => (Option.bind (impl_basketOf_f k j2.1) (fun y35 => (some ((y35.1.1, true, ()), ()))))))))))))
noncomputable def impl_BasketAfter_a : Ann := (.q .o (.q .o (.q .o (.q .o (.q (.q .o (.m [(6, 100384, .v (.slc 3 (.int .i64)))] (.l [(6, 100384, .own false 3 (.int .i64)), (21, 100384, .same), (23, 101472, .v (.int .i64))] .o))) .o)))))
theorem impl_BasketAfter_run (k : Nat) (p0 : Int) (p1 : (List Int)) : funX Tryz.prog (callT [impl_arePairs_c k, impl_times_c k, impl_basketOf_c k]) k Tryz.f47 impl_BasketAfter_a [.v (.int .i64), .v (.slc 3 (.int .i64))] [.own false 3 (.int .i64), .v .bool] (p0, p1, ()) = impl_BasketAfter_f k p0 p1 := by kernel_rfl
noncomputable def impl_BasketAfter_c (k : Nat) : Con := ⟨47, [.v (.int .i64), .v (.slc 3 (.int .i64))], [.own false 3 (.int .i64), .v .bool], fun x => impl_BasketAfter_f k x.1 x.2.1⟩
theorem impl_BasketAfter_ok (k : Nat) : (impl_BasketAfter_c k).Sound Tryz.prog GL := con_ok (k := k) (fn := Tryz.f47) (A := impl_BasketAfter_a) (C := callT [impl_arePairs_c k, impl_times_c k, impl_basketOf_c k]) Tryz.func47 (by kernel_rfl) (show Tryz.f47.body = some (bodyX Tryz.f47) by rfl) (fun X hX => callT_at (TableOk.cons (impl_arePairs_ok k) (TableOk.cons (impl_times_ok k) (TableOk.cons (impl_basketOf_ok k) TableOk.nil))) X hX) (Nat.le_of_ble_eq_true (by kernel_rfl)) (fun ⟨p0, p1, _⟩ y h => by rw [← h]; exact impl_BasketAfter_run k p0 p1)
noncomputable def slices_Concat_int_int_l1_b (k : Nat) (p0 : (List (List Int))) (rec : Int → Int → Option ((Int × Unit) ⊕ (((List Int) × Unit) × Unit))) (x3 : Int) (x11 : Int) : Option ((Int × Unit) ⊕ (((List Int) × Unit) × Unit)) :=
  (cond (decide (x11 < ((List.length p0 : Nat) : Int))) (met (ixk x11 (List.length p0) (met (cond (decide ((iw (x3 + ((List.length (rdG [] p0 x11) : Nat) : Int))) < 0)) none (some (.inl ()))) (fun j2 => (some (.inl ((iw (x3 + ((List.length (rdG [] p0 x11) : Nat) : Int))), ())))))) (fun j3 => (rec j3.1 (iw (x11 + 1))))) (some (.inl (x3, ()))))
noncomputable def slices_Concat_int_int_l1 (k : Nat) (p0 : (List (List Int))) (x3 : Int) (x11 : Int) : Option ((Int × Unit) ⊕ (((List Int) × Unit) × Unit)) := iter k (fun (rec : (Int × Int × Unit) → Option ((Int × Unit) ⊕ (((List Int) × Unit) × Unit))) (x : (Int × Int × Unit)) => slices_Concat_int_int_l1_b k p0 (fun x3 x11 => rec (x3, x11, ())) x.1 x.2.1) (x3, x11, ())
noncomputable def slices_Concat_int_int_l5_b (k : Nat) (p0 : (List (List Int))) (rec : (List Int) → Int → Option (((List Int) × Unit) ⊕ (((List Int) × Unit) × Unit))) (x6 : (List Int)) (x27 : Int) : Option (((List Int) × Unit) ⊕ (((List Int) × Unit) × Unit)) :=
  (cond (decide (x27 < ((List.length p0 : Nat) : Int))) (ixk x27 (List.length p0) (chk (decide (List.length x6 + List.length (rdG [] p0 x27) ≤ 15637498706147)) (rec (x6 ++ (rdG [] p0 x27)) (iw (x27 + 1))))) (some (.inl (x6, ()))))
noncomputable def slices_Concat_int_int_l5 (k : Nat) (p0 : (List (List Int))) (x6 : (List Int)) (x27 : Int) : Option (((List Int) × Unit) ⊕ (((List Int) × Unit) × Unit)) := iter k (fun (rec : ((List Int) × Int × Unit) → Option (((List Int) × Unit) ⊕ (((List Int) × Unit) × Unit))) (x : ((List Int) × Int × Unit)) => slices_Concat_int_int_l5_b k p0 (fun x6 x27 => rec (x6, x27, ())) x.1 x.2.1) (x6, x27, ())
noncomputable def slices_Concat_int_int_f (k : Nat) (p0 : (List (List Int))) : Option (((List Int) × Unit) × Unit) :=
  (met (slices_Concat_int_int_l1 k p0 0 0) (fun j4 => (chk (decide (0 ≤ j4.1)) (chk (decide (j4.1 ≤ 1000000000)) (met (slices_Concat_int_int_l5 k p0 [] 0) (fun j6 => (some ((j6.1, ()), ()))))))))
noncomputable def slices_Concat_int_int_a : Ann := (.q .o (.q .o (.q (.q .o (.m [(3, 100192, .v (.int .i64))] (.l [(3, 100192, .v (.int .i64)), (11, 100704, .v (.int .i64))] (.q .o (.q .o (.q (.m [(3, 100192, .v (.int .i64))] (.q .o (.q .o (.q .o (.j [] .o .o))))) .o)))))) (.q .o (.q (.q .o (.m [(6, 100384, .own false 3 (.int .i64))] (.l [(6, 100384, .own false 3 (.int .i64)), (27, 101728, .v (.int .i64))] .o))) .o)))))
theorem slices_Concat_int_int_run (k : Nat) (p0 : (List (List Int))) : funX Tryz.prog (callR [growRule 131 3] []) k Tryz.f101 slices_Concat_int_int_a [.v (.slc 24 (.slc 3 (.int .i64)))] [.own false 3 (.int .i64)] (p0, ()) = slices_Concat_int_int_f k p0 := by kernel_rfl
noncomputable def slices_Concat_int_int_c (k : Nat) : Con := ⟨101, [.v (.slc 24 (.slc 3 (.int .i64)))], [.own false 3 (.int .i64)], fun x => slices_Concat_int_int_f k x.1⟩
theorem slices_Concat_int_int_ok (k : Nat) : (slices_Concat_int_int_c k).Sound Tryz.prog GL := con_ok (k := k) (fn := Tryz.f101) (A := slices_Concat_int_int_a) (C := callR [growRule 131 3] []) Tryz.func101 (by kernel_rfl) (show Tryz.f101.body = some (bodyX Tryz.f101) by rfl) (fun X hX => callR_at (RulesOk.cons rule_grow RulesOk.nil) TableOk.nil X hX) (Nat.le_of_ble_eq_true (by kernel_rfl)) (fun ⟨p0, _⟩ y h => by rw [← h]; exact slices_Concat_int_int_run k p0)
noncomputable def impl_JoinBaskets_f (k : Nat) (p0 : Int) (p1 : (List Int)) (p2 : (List Int)) : Option (((List Int) × Bool × Unit) × Unit) :=
  (met (Option.bind (impl_isBasket_f k p0 p1) (fun y12 => (cond (!y12.1.1) (some (.inl (true, ()))) (Option.bind (impl_isBasket_f k p0 p2) (fun y17 => (some (.inl ((!y17.1.1), ())))))))) (fun j1 => (cond j1.1 (some (([], false, ()), ())) (Option.bind (slices_Concat_int_int_f k [p1, p2]) (fun y25 => (Option.bind (impl_times_f k p0 y25.1.1) (fun y26 => (cond (!y26.1.2.1) (some (([], false, ()), ())) (Option.bind (impl_basketOf_f k y26.1.1) (fun y32 => (some ((y32.1.1, true, ()), ()))))))))))))
noncomputable def impl_JoinBaskets_a : Ann := (.q .o (.q (.q (.r [(19, 101216, .v .bool)]) .o) .o))
theorem impl_JoinBaskets_run (k : Nat) (p0 : Int) (p1 : (List Int)) (p2 : (List Int)) : funX Tryz.prog (callT [impl_isBasket_c k, slices_Concat_int_int_c k, impl_times_c k, impl_basketOf_c k]) k Tryz.f48 impl_JoinBaskets_a [.v (.int .i64), .v (.slc 3 (.int .i64)), .v (.slc 3 (.int .i64))] [.own false 3 (.int .i64), .v .bool] (p0, p1, p2, ()) = impl_JoinBaskets_f k p0 p1 p2 := by kernel_rfl
noncomputable def impl_JoinBaskets_c (k : Nat) : Con := ⟨48, [.v (.int .i64), .v (.slc 3 (.int .i64)), .v (.slc 3 (.int .i64))], [.own false 3 (.int .i64), .v .bool], fun x => impl_JoinBaskets_f k x.1 x.2.1 x.2.2.1⟩
theorem impl_JoinBaskets_ok (k : Nat) : (impl_JoinBaskets_c k).Sound Tryz.prog GL := con_ok (k := k) (fn := Tryz.f48) (A := impl_JoinBaskets_a) (C := callT [impl_isBasket_c k, slices_Concat_int_int_c k, impl_times_c k, impl_basketOf_c k]) Tryz.func48 (by kernel_rfl) (show Tryz.f48.body = some (bodyX Tryz.f48) by rfl) (fun X hX => callT_at (TableOk.cons (impl_isBasket_ok k) (TableOk.cons (slices_Concat_int_int_ok k) (TableOk.cons (impl_times_ok k) (TableOk.cons (impl_basketOf_ok k) TableOk.nil)))) X hX) (Nat.le_of_ble_eq_true (by kernel_rfl)) (fun ⟨p0, p1, p2, _⟩ y h => by rw [← h]; exact impl_JoinBaskets_run k p0 p1 p2)
noncomputable def spec_l1Cur_losses_l1_b (k : Nat) (y12 : ((Int × Unit) × Unit)) (rec : ((List Int) × Int × Int × Unit) → (List Int) → (List Int) → Int → Option ((((List Int) × Int × Int × Unit) × (List Int) × Unit) ⊕ (((List Int) × Unit) × (((List Int) × Int × Int × Unit) × Unit)))) (x0 : ((List Int) × Int × Int × Unit)) (x6 : (List Int)) (x7 : (List Int)) (x8 : Int) : Option ((((List Int) × Int × Int × Unit) × (List Int) × Unit) ⊕ (((List Int) × Unit) × (((List Int) × Int × Int × Unit) × Unit))) :=
  (cond (decide (x8 > 0)) (met (Option.bind (spec_l1Cur_pick_f k (x0.1, x0.2.1, x0.2.2.1, ()) y12.1.1) (fun y26 => (ixk y26.1.1 (List.length x6) (met (cond (decide ((rd x6 y26.1.1) < 2)) (ixk y26.1.1 (List.length x6) (ixk y26.1.1 (List.length x6) (chk (decide (List.length x7 + List.length [y26.1.1] ≤ 15637498706147)) (some (.inl ((y26.2.1.1, y26.2.1.2.1, y26.2.1.2.2.1, ()), (setI x6 y26.1.1 (iw ((rd x6 y26.1.1) + 1))), (x7 ++ [y26.1.1]), ())))))) (some (.inl ((y26.2.1.1, y26.2.1.2.1, y26.2.1.2.2.1, ()), x6, x7, ())))) (fun j2 => (some (.inl ((j2.1.1, j2.1.2.1, j2.1.2.2.1, ()), j2.2.1, j2.2.2.1, ())))))))) (fun j3 => (rec (j3.1.1, j3.1.2.1, j3.1.2.2.1, ()) j3.2.1 j3.2.2.1 (iw (x8 - 1))))) (some (.inl ((x0.1, x0.2.1, x0.2.2.1, ()), x7, ()))))
noncomputable def spec_l1Cur_losses_l1 (k : Nat) (y12 : ((Int × Unit) × Unit)) (x0 : ((List Int) × Int × Int × Unit)) (x6 : (List Int)) (x7 : (List Int)) (x8 : Int) : Option ((((List Int) × Int × Int × Unit) × (List Int) × Unit) ⊕ (((List Int) × Unit) × (((List Int) × Int × Int × Unit) × Unit))) := iter k (fun (rec : (((List Int) × Int × Int × Unit) × (List Int) × (List Int) × Int × Unit) → Option ((((List Int) × Int × Int × Unit) × (List Int) × Unit) ⊕ (((List Int) × Unit) × (((List Int) × Int × Int × Unit) × Unit)))) (x : (((List Int) × Int × Int × Unit) × (List Int) × (List Int) × Int × Unit)) => spec_l1Cur_losses_l1_b k y12 (fun x0 x6 x7 x8 => rec (x0, x6, x7, x8, ())) x.1 x.2.1 x.2.2.1 x.2.2.2.1) (x0, x6, x7, x8, ())
noncomputable def spec_l1Cur_losses_f (k : Nat) (p0 : ((List Int) × Int × Int × Unit)) (p1 : Int) : Option (((List Int) × Unit) × (((List Int) × Int × Int × Unit) × Unit)) :=
  (Option.bind (spec_l1Least_f k p1 6) (fun y11 => (Option.bind (spec_l1Most_f k 1 y11.1.1) (fun y12 => (chk (decide ((0 : Int) ≤ y12.1.1)) (chk (decide (y12.1.1 ≤ ((15637498706147 : Nat) : Int))) (Option.bind (spec_l1Cur_pick_f k (p0.1, p0.2.1, p0.2.2.1, ()) (iw ((iw (2 * y12.1.1)) + 1))) (fun y19 => (met (spec_l1Cur_losses_l1 k y12 (y19.2.1.1, y19.2.1.2.1, y19.2.1.2.2.1, ()) (List.replicate (Int.toNat y12.1.1) (0 : Int)) [] y19.1.1) (fun j4 => (Option.bind (spec_l1Cur_one_f k (j4.1.1, j4.1.2.1, j4.1.2.2.1, ()) 12) (fun y43 => (met (cond y43.1.1 (Option.bind (spec_l1Cur_among_f k (y43.2.1.1, y43.2.1.2.1, y43.2.1.2.2.1, ()) [(-1), 0, 0, 20]) (fun y47 => (chk (decide (List.length j4.2.1 + List.length [y47.1.1] ≤ 15637498706147)) (some (.inl ((y47.2.1.1, y47.2.1.2.1, y47.2.1.2.2.1, ()), (j4.2.1 ++ [y47.1.1]), ())))))) (some (.inl ((y43.2.1.1, y43.2.1.2.1, y43.2.1.2.2.1, ()), j4.2.1, ())))) (fun j5 => (some ((j5.2.1, ()), ((j5.1.1, j5.1.2.1, j5.1.2.2.1, ()), ())))))))))))))))))
noncomputable def spec_l1Cur_losses_a : Ann := (.q .o (.q .o (.q .o (.q .o (.q (.q .o (.m [(0, 3000000, .box true [.v (.slc 5 (.int .u8)), .v (.int .i64), .v (.int .u64)]), (7, 100448, .own false 3 (.int .i64))] (.l [(0, 3000000, .box true [.v (.slc 5 (.int .u8)), .v (.int .i64), .v (.int .u64)]), (6, 100384, .own false 3 (.int .i64)), (7, 100448, .own false 3 (.int .i64)), (8, 100512, .v (.int .i64))] (.q .o (.q (.m [(0, 3000000, .box true [.v (.slc 5 (.int .u8)), .v (.int .i64), .v (.int .u64)]), (6, 100384, .own false 3 (.int .i64)), (7, 100448, .own false 3 (.int .i64))] (.q .o (.q .o (.j [(0, 3000000, .box true [.v (.slc 5 (.int .u8)), .v (.int .i64), .v (.int .u64)]), (6, 100384, .own false 3 (.int .i64)), (7, 100448, .own false 3 (.int .i64))] .o .o)))) .o))))) (.q (.q .o (.j [(0, 3000000, .box true [.v (.slc 5 (.int .u8)), .v (.int .i64), .v (.int .u64)]), (7, 100448, .own false 3 (.int .i64))] .o .o)) .o))))))
theorem spec_l1Cur_losses_run (k : Nat) (p0 : ((List Int) × Int × Int × Unit)) (p1 : Int) : funX Tryz.prog (callT [spec_l1Least_c k, spec_l1Most_c k, spec_l1Cur_pick_c k, spec_l1Cur_one_c k, spec_l1Cur_among_c k]) k Tryz.f103 spec_l1Cur_losses_a [.box true [.v (.slc 5 (.int .u8)), .v (.int .i64), .v (.int .u64)], .v (.int .i64)] [.own false 3 (.int .i64)] (p0, p1, ()) = spec_l1Cur_losses_f k p0 p1 := by kernel_rfl
noncomputable def spec_l1Cur_losses_c (k : Nat) : Con := ⟨103, [.box true [.v (.slc 5 (.int .u8)), .v (.int .i64), .v (.int .u64)], .v (.int .i64)], [.own false 3 (.int .i64)], fun x => spec_l1Cur_losses_f k x.1 x.2.1⟩
theorem spec_l1Cur_losses_ok (k : Nat) : (spec_l1Cur_losses_c k).Sound Tryz.prog GL := con_ok (k := k) (fn := Tryz.f103) (A := spec_l1Cur_losses_a) (C := callT [spec_l1Least_c k, spec_l1Most_c k, spec_l1Cur_pick_c k, spec_l1Cur_one_c k, spec_l1Cur_among_c k]) Tryz.func103 (by kernel_rfl) (show Tryz.f103.body = some (bodyX Tryz.f103) by rfl) (fun X hX => callT_at (TableOk.cons (spec_l1Least_ok k) (TableOk.cons (spec_l1Most_ok k) (TableOk.cons (spec_l1Cur_pick_ok k) (TableOk.cons (spec_l1Cur_one_ok k) (TableOk.cons (spec_l1Cur_among_ok k) TableOk.nil))))) X hX) (Nat.le_of_ble_eq_true (by kernel_rfl)) (fun ⟨p0, p1, _⟩ y h => by rw [← h]; exact spec_l1Cur_losses_run k p0 p1)
noncomputable def spec_DrawCompleteAfter_f (k : Nat) (p0 : (List Int)) : Option ((Int × (List Int) × Unit) × Unit) :=
  (Option.bind (spec_l1Cur_pairs_f k (p0, 0, 0, ())) (fun y10 => (Option.bind (spec_l1Cur_losses_f k (y10.2.1.1, y10.2.1.2.1, y10.2.1.2.2.1, ()) y10.1.1) (fun y14 => (some ((y10.1.1, y14.1.1, ()), ()))))))
noncomputable def spec_DrawCompleteAfter_a : Ann := .o
theorem spec_DrawCompleteAfter_run (k : Nat) (p0 : (List Int)) : funX Tryz.prog (callT [spec_l1Cur_pairs_c k, spec_l1Cur_losses_c k]) k Tryz.f49 spec_DrawCompleteAfter_a [.v (.slc 5 (.int .u8))] [.v (.int .i64), .own false 3 (.int .i64)] (p0, ()) = spec_DrawCompleteAfter_f k p0 := by kernel_rfl
noncomputable def spec_DrawCompleteAfter_c (k : Nat) : Con := ⟨49, [.v (.slc 5 (.int .u8))], [.v (.int .i64), .own false 3 (.int .i64)], fun x => spec_DrawCompleteAfter_f k x.1⟩
theorem spec_DrawCompleteAfter_ok (k : Nat) : (spec_DrawCompleteAfter_c k).Sound Tryz.prog GL := con_ok (k := k) (fn := Tryz.f49) (A := spec_DrawCompleteAfter_a) (C := callT [spec_l1Cur_pairs_c k, spec_l1Cur_losses_c k]) Tryz.func49 (by kernel_rfl) (show Tryz.f49.body = some (bodyX Tryz.f49) by rfl) (fun X hX => callT_at (TableOk.cons (spec_l1Cur_pairs_ok k) (TableOk.cons (spec_l1Cur_losses_ok k) TableOk.nil)) X hX) (Nat.le_of_ble_eq_true (by kernel_rfl)) (fun ⟨p0, _⟩ y h => by rw [← h]; exact spec_DrawCompleteAfter_run k p0)
noncomputable def impl_CompleteAfter_l1_b (k : Nat) (p1 : (List Int)) (rec : (List Int) → (List (Int × Bool)) → Int → Int → Option (((List Int) × Unit) ⊕ (((List Int) × Bool × Unit) × Unit))) (x8 : (List Int)) (x9 : (List (Int × Bool))) (x10 : Int) (x30 : Int) : Option (((List Int) × Unit) ⊕ (((List Int) × Bool × Unit) × Unit)) :=
  (cond (decide (x30 < ((List.length p1 : Nat) : Int))) (ixk x30 (List.length p1) (met (cond (!(mget (false : Bool) x9 (rd p1 x30))) (some (.inl (x8, (mput x9 (rd p1 x30) true), (iw (x10 - 1)), ()))) (some (.inl (x8, x9, x10, ())))) (fun j2 => (chk (decide (List.length j2.1 + List.length [j2.2.2.1] ≤ 15637498706147)) (rec (j2.1 ++ [j2.2.2.1]) j2.2.1 j2.2.2.1 (iw (x30 + 1))))))) (some (.inl (x8, ()))))
noncomputable def impl_CompleteAfter_l1 (k : Nat) (p1 : (List Int)) (x8 : (List Int)) (x9 : (List (Int × Bool))) (x10 : Int) (x30 : Int) : Option (((List Int) × Unit) ⊕ (((List Int) × Bool × Unit) × Unit)) := iter k (fun (rec : ((List Int) × (List (Int × Bool)) × Int × Int × Unit) → Option (((List Int) × Unit) ⊕ (((List Int) × Bool × Unit) × Unit))) (x : ((List Int) × (List (Int × Bool)) × Int × Int × Unit)) => impl_CompleteAfter_l1_b k p1 (fun x8 x9 x10 x30 => rec (x8, x9, x10, x30, ())) x.1 x.2.1 x.2.2.1 x.2.2.2.1) (x8, x9, x10, x30, ())
noncomputable def impl_CompleteAfter_f (k : Nat) (p0 : Int) (p1 : (List Int)) : Option (((List Int) × Bool × Unit) × Unit) :=
  (Option.bind (impl_arePairs_f k p0) (fun y14 => (cond (!y14.1.1) (some (([], false, ()), ())) (Option.bind (impl_times_f k p0 p1) (fun y19 => (cond (!y19.1.2.1) (some (([], false, ()), ())) (met (impl_CompleteAfter_l1 k p1 [p0] ([] : List (Int × Bool)) p0 0) (fun j3 => (some ((j3.1, true, ()), ()))))))))))
noncomputable def impl_CompleteAfter_a : Ann := (.q .o (.q .o (.q .o (.q .o (.q (.q .o (.m [(8, 100512, .own false 3 (.int .i64))] (.l [(8, 100512, .own false 3 (.int .i64)), (9, 100576, .obj (.map .bool)), (10, 100640, .v (.int .i64)), (30, 101920, .v (.int .i64))] (.q .o (.q .o (.q (.b (.q .o (.q (.q .o (.j [(8, 100512, .own false 3 (.int .i64)), (9, 100576, .obj (.map .bool)), (10, 100640, .v (.int .i64))] .o .o)) .o))) .o)))))) .o)))))
theorem impl_CompleteAfter_run (k : Nat) (p0 : Int) (p1 : (List Int)) : funX Tryz.prog (callT [impl_arePairs_c k, impl_times_c k]) k Tryz.f50 impl_CompleteAfter_a [.v (.int .i64), .v (.slc 3 (.int .i64))] [.own false 3 (.int .i64), .v .bool] (p0, p1, ()) = impl_CompleteAfter_f k p0 p1 := by kernel_rfl
noncomputable def impl_CompleteAfter_c (k : Nat) : Con := ⟨50, [.v (.int .i64), .v (.slc 3 (.int .i64))], [.own false 3 (.int .i64), .v .bool], fun x => impl_CompleteAfter_f k x.1 x.2.1⟩
theorem impl_CompleteAfter_ok (k : Nat) : (impl_CompleteAfter_c k).Sound Tryz.prog GL := con_ok (k := k) (fn := Tryz.f50) (A := impl_CompleteAfter_a) (C := callT [impl_arePairs_c k, impl_times_c k]) Tryz.func50 (by kernel_rfl) (show Tryz.f50.body = some (bodyX Tryz.f50) by rfl) (fun X hX => callT_at (TableOk.cons (impl_arePairs_ok k) (TableOk.cons (impl_times_ok k) TableOk.nil)) X hX) (Nat.le_of_ble_eq_true (by kernel_rfl)) (fun ⟨p0, p1, _⟩ y h => by rw [← h]; exact impl_CompleteAfter_run k p0 p1)
noncomputable def spec_CompleteAfter_l2_b (k : Nat) (y39 : (((List Int) × Bool × Unit) × Unit)) (rec : (List Int) → Int → (List Int) → Int → Option (((List Int) × Int × Unit) ⊕ (((List Int) × Unit) ⊕ (((List Int) × Unit) ⊕ (((List Int) × Bool × Unit) × Unit))))) (x8_1 : (List Int)) (x12 : Int) (x42 : (List Int)) (x44 : Int) : Option (((List Int) × Int × Unit) ⊕ (((List Int) × Unit) ⊕ (((List Int) × Unit) ⊕ (((List Int) × Bool × Unit) × Unit)))) :=
  (cond (decide (x44 < ((List.length y39.1.1 : Nat) : Int))) (met (ixk x44 (List.length x42) (met (cond ((rd x42 x44) == 0) (some (.inl (x8_1, (iw (x12 + 1)), ()))) (some (.inl (x8_1, x12, ())))) (fun j3 => (some (.inl (j3.1, j3.2.1, ())))))) (fun j4 => (rec j4.1 j4.2.1 x42 (iw (x44 + 1))))) (some (.inl (x8_1, x12, ()))))
noncomputable def spec_CompleteAfter_l2 (k : Nat) (y39 : (((List Int) × Bool × Unit) × Unit)) (x8_1 : (List Int)) (x12 : Int) (x42 : (List Int)) (x44 : Int) : Option (((List Int) × Int × Unit) ⊕ (((List Int) × Unit) ⊕ (((List Int) × Unit) ⊕ (((List Int) × Bool × Unit) × Unit)))) := iter k (fun (rec : ((List Int) × Int × (List Int) × Int × Unit) → Option (((List Int) × Int × Unit) ⊕ (((List Int) × Unit) ⊕ (((List Int) × Unit) ⊕ (((List Int) × Bool × Unit) × Unit))))) (x : ((List Int) × Int × (List Int) × Int × Unit)) => spec_CompleteAfter_l2_b k y39 (fun x8_1 x12 x42 x44 => rec (x8_1, x12, x42, x44, ())) x.1 x.2.1 x.2.2.1 x.2.2.2.1) (x8_1, x12, x42, x44, ())
noncomputable def spec_CompleteAfter_l1_b (k : Nat) (p0 : Int) (p1 : (List Int)) (rec : (List Int) → Int → Option (((List Int) × Unit) ⊕ (((List Int) × Bool × Unit) × Unit))) (x8 : (List Int)) (x30 : Int) : Option (((List Int) × Unit) ⊕ (((List Int) × Bool × Unit) × Unit)) :=
  (cond (decide (x30 < ((List.length p1 : Nat) : Int))) (met (chk (decide (0 ≤ (iw (x30 + 1)))) (chk (decide ((iw (x30 + 1)) ≤ ((List.length p1 : Nat) : Int))) (Option.bind (spec_laCounts_f k p0 (List.take (Int.toNat (iw (x30 + 1))) p1)) (fun y39 => (met (spec_CompleteAfter_l2 k y39 x8 0 y39.1.1 0) (fun j5 => (chk (decide (List.length j5.1 + List.length [j5.2.1] ≤ 15637498706147)) (some (.inl ((j5.1 ++ [j5.2.1]), ())))))))))) (fun j6 => (rec j6.1 (iw (x30 + 1))))) (some (.inl (x8, ()))))
noncomputable def spec_CompleteAfter_l1 (k : Nat) (p0 : Int) (p1 : (List Int)) (x8 : (List Int)) (x30 : Int) : Option (((List Int) × Unit) ⊕ (((List Int) × Bool × Unit) × Unit)) := iter k (fun (rec : ((List Int) × Int × Unit) → Option (((List Int) × Unit) ⊕ (((List Int) × Bool × Unit) × Unit))) (x : ((List Int) × Int × Unit)) => spec_CompleteAfter_l1_b k p0 p1 (fun x8 x30 => rec (x8, x30, ())) x.1 x.2.1) (x8, x30, ())
noncomputable def spec_CompleteAfter_f (k : Nat) (p0 : Int) (p1 : (List Int)) : Option (((List Int) × Bool × Unit) × Unit) :=
  (Option.bind (spec_l1In_f k p0 1 20) (fun y16 => (cond (!y16.1.1) (some (([], false, ()), ())) (Option.bind (spec_laCounts_f k p0 p1) (fun y21 => (cond (!y21.1.2.1) (some (([], false, ()), ())) (met (spec_CompleteAfter_l1 k p0 p1 [p0] 0) (fun j7 => (some ((j7.1, true, ()), ()))))))))))
noncomputable def spec_CompleteAfter_a : Ann := (.q .o (.q .o (.q .o (.q .o (.q (.q .o (.m [(8, 100512, .own false 3 (.int .i64))] (.l [(8, 100512, .own false 3 (.int .i64)), (30, 101920, .v (.int .i64))] (.q .o (.q .o (.q (.m [(8, 100512, .own false 3 (.int .i64))] (.q .o (.q .o (.q .o (.q (.q .o (.m [(8, 100512, .own false 3 (.int .i64)), (12, 100768, .v (.int .i64))] (.l [(8, 100512, .own false 3 (.int .i64)), (12, 100768, .v (.int .i64)), (42, 102688, .v (.slc 3 (.int .i64))), (44, 102816, .v (.int .i64))] (.q .o (.q .o (.q (.m [(8, 100512, .own false 3 (.int .i64)), (12, 100768, .v (.int .i64))] (.q .o (.q .o (.j [(8, 100512, .own false 3 (.int .i64)), (12, 100768, .v (.int .i64))] .o .o)))) .o)))))) .o))))) .o)))))) .o)))))
theorem spec_CompleteAfter_run (k : Nat) (p0 : Int) (p1 : (List Int)) : funX Tryz.prog (callT [spec_l1In_c k, spec_laCounts_c k]) k Tryz.f51 spec_CompleteAfter_a [.v (.int .i64), .v (.slc 3 (.int .i64))] [.own false 3 (.int .i64), .v .bool] (p0, p1, ()) = spec_CompleteAfter_f k p0 p1 := by kernel_rfl
noncomputable def spec_CompleteAfter_c (k : Nat) : Con := ⟨51, [.v (.int .i64), .v (.slc 3 (.int .i64))], [.own false 3 (.int .i64), .v .bool], fun x => spec_CompleteAfter_f k x.1 x.2.1⟩
theorem spec_CompleteAfter_ok (k : Nat) : (spec_CompleteAfter_c k).Sound Tryz.prog GL := con_ok (k := k) (fn := Tryz.f51) (A := spec_CompleteAfter_a) (C := callT [spec_l1In_c k, spec_laCounts_c k]) Tryz.func51 (by kernel_rfl) (show Tryz.f51.body = some (bodyX Tryz.f51) by rfl) (fun X hX => callT_at (TableOk.cons (spec_l1In_ok k) (TableOk.cons (spec_laCounts_ok k) TableOk.nil)) X hX) (Nat.le_of_ble_eq_true (by kernel_rfl)) (fun ⟨p0, p1, _⟩ y h => by rw [← h]; exact spec_CompleteAfter_run k p0 p1)
noncomputable def spec_laLeft_l2_b (k : Nat) (x8 : Int) (rec : (List Int) → Int → Option (((List Int) × Unit) ⊕ (((List Int) × Unit) ⊕ (((List Int) × Unit) ⊕ (((List Int) × Unit) × Unit))))) (x3_1 : (List Int)) (x5 : Int) : Option (((List Int) × Unit) ⊕ (((List Int) × Unit) ⊕ (((List Int) × Unit) ⊕ (((List Int) × Unit) × Unit)))) :=
  (cond (decide (x5 > 0)) (chk (decide (List.length x3_1 + List.length [x8] ≤ 15637498706147)) (rec (x3_1 ++ [x8]) (iw (x5 - 1)))) (some (.inl (x3_1, ()))))
noncomputable def spec_laLeft_l2 (k : Nat) (x8 : Int) (x3_1 : (List Int)) (x5 : Int) : Option (((List Int) × Unit) ⊕ (((List Int) × Unit) ⊕ (((List Int) × Unit) ⊕ (((List Int) × Unit) × Unit)))) := iter k (fun (rec : ((List Int) × Int × Unit) → Option (((List Int) × Unit) ⊕ (((List Int) × Unit) ⊕ (((List Int) × Unit) ⊕ (((List Int) × Unit) × Unit))))) (x : ((List Int) × Int × Unit)) => spec_laLeft_l2_b k x8 (fun x3_1 x5 => rec (x3_1, x5, ())) x.1 x.2.1) (x3_1, x5, ())
noncomputable def spec_laLeft_l1_b (k : Nat) (p0 : (List Int)) (rec : (List Int) → Int → Option (((List Int) × Unit) ⊕ (((List Int) × Unit) × Unit))) (x3 : (List Int)) (x8 : Int) : Option (((List Int) × Unit) ⊕ (((List Int) × Unit) × Unit)) :=
  (cond (decide (x8 < ((List.length p0 : Nat) : Int))) (met (ixk x8 (List.length p0) (met (spec_laLeft_l2 k x8 x3 (rd p0 x8)) (fun j3 => (some (.inl (j3.1, ())))))) (fun j4 => (rec j4.1 (iw (x8 + 1))))) (some (.inl (x3, ()))))
noncomputable def spec_laLeft_l1 (k : Nat) (p0 : (List Int)) (x3 : (List Int)) (x8 : Int) : Option (((List Int) × Unit) ⊕ (((List Int) × Unit) × Unit)) := iter k (fun (rec : ((List Int) × Int × Unit) → Option (((List Int) × Unit) ⊕ (((List Int) × Unit) × Unit))) (x : ((List Int) × Int × Unit)) => spec_laLeft_l1_b k p0 (fun x3 x8 => rec (x3, x8, ())) x.1 x.2.1) (x3, x8, ())
noncomputable def spec_laLeft_f (k : Nat) (p0 : (List Int)) : Option (((List Int) × Unit) × Unit) :=
  (met (spec_laLeft_l1 k p0 [] 0) (fun j5 => (some ((j5.1, ()), ()))))
noncomputable def spec_laLeft_a : Ann := (.q .o (.q .o (.q (.q .o (.m [(3, 100192, .own false 3 (.int .i64))] (.l [(3, 100192, .own false 3 (.int .i64)), (8, 100512, .v (.int .i64))] (.q .o (.q .o (.q (.m [(3, 100192, .own false 3 (.int .i64))] (.q .o (.m [(3, 100192, .own false 3 (.int .i64))] (.l [(3, 100192, .own false 3 (.int .i64)), (5, 100320, .v (.int .i64))] .o)))) .o)))))) .o)))
theorem spec_laLeft_run (k : Nat) (p0 : (List Int)) : funX Tryz.prog (callT []) k Tryz.f105 spec_laLeft_a [.v (.slc 3 (.int .i64))] [.own false 3 (.int .i64)] (p0, ()) = spec_laLeft_f k p0 := by kernel_rfl
noncomputable def spec_laLeft_c (k : Nat) : Con := ⟨105, [.v (.slc 3 (.int .i64))], [.own false 3 (.int .i64)], fun x => spec_laLeft_f k x.1⟩
theorem spec_laLeft_ok (k : Nat) : (spec_laLeft_c k).Sound Tryz.prog GL := con_ok (k := k) (fn := Tryz.f105) (A := spec_laLeft_a) (C := callT []) Tryz.func105 (by kernel_rfl) (show Tryz.f105.body = some (bodyX Tryz.f105) by rfl) (fun X hX => callT_at TableOk.nil X hX) (Nat.le_of_ble_eq_true (by kernel_rfl)) (fun ⟨p0, _⟩ y h => by rw [← h]; exact spec_laLeft_run k p0)
noncomputable def spec_BasketAfter_l1_b (k : Nat) (y17 : (((List Int) × Bool × Unit) × Unit)) (rec : (List Int) → (List Int) → Int → Option (((List Int) × Unit) ⊕ (((List Int) × Bool × Unit) × Unit))) (x8 : (List Int)) (x22 : (List Int)) (x24 : Int) : Option (((List Int) × Unit) ⊕ (((List Int) × Bool × Unit) × Unit)) :=
  (cond (decide (x24 < ((List.length y17.1.1 : Nat) : Int))) (ixk x24 (List.length x22) (chk (decide (List.length x8 + List.length [(iw (2 - (rd x22 x24)))] ≤ 15637498706147)) (rec (x8 ++ [(iw (2 - (rd x22 x24)))]) x22 (iw (x24 + 1))))) (some (.inl (x8, ()))))
noncomputable def spec_BasketAfter_l1 (k : Nat) (y17 : (((List Int) × Bool × Unit) × Unit)) (x8 : (List Int)) (x22 : (List Int)) (x24 : Int) : Option (((List Int) × Unit) ⊕ (((List Int) × Bool × Unit) × Unit)) := iter k (fun (rec : ((List Int) × (List Int) × Int × Unit) → Option (((List Int) × Unit) ⊕ (((List Int) × Bool × Unit) × Unit))) (x : ((List Int) × (List Int) × Int × Unit)) => spec_BasketAfter_l1_b k y17 (fun x8 x22 x24 => rec (x8, x22, x24, ())) x.1 x.2.1 x.2.2.1) (x8, x22, x24, ())
noncomputable def spec_BasketAfter_f (k : Nat) (p0 : Int) (p1 : (List Int)) : Option (((List Int) × Bool × Unit) × Unit) :=
  (Option.bind (spec_l1In_f k p0 1 20) (fun y12 => (cond (!y12.1.1) (some (([], false, ()), ())) (Option.bind (spec_laCounts_f k p0 p1) (fun y17 => (cond (!y17.1.2.1) (some (([], false, ()), ())) (met (spec_BasketAfter_l1 k y17 [] y17.1.1 0) (fun j2 => (Option.bind (spec_laLeft_f k j2.1) (fun y35 => (some ((y35.1.1, true, ()), ()))))))))))))
noncomputable def spec_BasketAfter_a : Ann := (.q .o (.q .o (.q .o (.q .o (.q .o (.q (.q .o (.m [(8, 100512, .v (.slc 3 (.int .i64)))] (.l [(8, 100512, .own false 3 (.int .i64)), (22, 101408, .v (.slc 3 (.int .i64))), (24, 101536, .v (.int .i64))] .o))) .o))))))
theorem spec_BasketAfter_run (k : Nat) (p0 : Int) (p1 : (List Int)) : funX Tryz.prog (callT [spec_l1In_c k, spec_laCounts_c k, spec_laLeft_c k]) k Tryz.f52 spec_BasketAfter_a [.v (.int .i64), .v (.slc 3 (.int .i64))] [.own false 3 (.int .i64), .v .bool] (p0, p1, ()) = spec_BasketAfter_f k p0 p1 := by kernel_rfl
noncomputable def spec_BasketAfter_c (k : Nat) : Con := ⟨52, [.v (.int .i64), .v (.slc 3 (.int .i64))], [.own false 3 (.int .i64), .v .bool], fun x => spec_BasketAfter_f k x.1 x.2.1⟩
theorem spec_BasketAfter_ok (k : Nat) : (spec_BasketAfter_c k).Sound Tryz.prog GL := con_ok (k := k) (fn := Tryz.f52) (A := spec_BasketAfter_a) (C := callT [spec_l1In_c k, spec_laCounts_c k, spec_laLeft_c k]) Tryz.func52 (by kernel_rfl) (show Tryz.f52.body = some (bodyX Tryz.f52) by rfl) (fun X hX => callT_at (TableOk.cons (spec_l1In_ok k) (TableOk.cons (spec_laCounts_ok k) (TableOk.cons (spec_laLeft_ok k) TableOk.nil))) X hX) (Nat.le_of_ble_eq_true (by kernel_rfl)) (fun ⟨p0, p1, _⟩ y h => by rw [← h]; exact spec_BasketAfter_run k p0 p1)
noncomputable def spec_DrawJoinBaskets_l2_b (k : Nat) (x40 : Int) (rec : ((List Int) × Int × Int × Unit) → (List Int) → (List Int) → Int → Option ((((List Int) × Int × Int × Unit) × (List Int) × (List Int) × Unit) ⊕ ((((List Int) × Int × Int × Unit) × (List Int) × (List Int) × Unit) ⊕ (((List Int) × (List Int) × Unit) ⊕ (((List Int) × (List Int) × Unit) ⊕ ((Int × (List Int) × (List Int) × Unit) × Unit)))))) (x5_1 : ((List Int) × Int × Int × Unit)) (x7_1 : (List Int)) (x10_1 : (List Int)) (x13 : Int) : Option ((((List Int) × Int × Int × Unit) × (List Int) × (List Int) × Unit) ⊕ ((((List Int) × Int × Int × Unit) × (List Int) × (List Int) × Unit) ⊕ (((List Int) × (List Int) × Unit) ⊕ (((List Int) × (List Int) × Unit) ⊕ ((Int × (List Int) × (List Int) × Unit) × Unit))))) :=
  (cond (decide (x13 > 0)) (chk (decide (List.length x10_1 + List.length [x40] ≤ 15637498706147)) (rec (x5_1.1, x5_1.2.1, x5_1.2.2.1, ()) x7_1 (x10_1 ++ [x40]) (iw (x13 - 1)))) (some (.inl ((x5_1.1, x5_1.2.1, x5_1.2.2.1, ()), x7_1, x10_1, ()))))
noncomputable def spec_DrawJoinBaskets_l2 (k : Nat) (x40 : Int) (x5_1 : ((List Int) × Int × Int × Unit)) (x7_1 : (List Int)) (x10_1 : (List Int)) (x13 : Int) : Option ((((List Int) × Int × Int × Unit) × (List Int) × (List Int) × Unit) ⊕ ((((List Int) × Int × Int × Unit) × (List Int) × (List Int) × Unit) ⊕ (((List Int) × (List Int) × Unit) ⊕ (((List Int) × (List Int) × Unit) ⊕ ((Int × (List Int) × (List Int) × Unit) × Unit))))) := iter k (fun (rec : (((List Int) × Int × Int × Unit) × (List Int) × (List Int) × Int × Unit) → Option ((((List Int) × Int × Int × Unit) × (List Int) × (List Int) × Unit) ⊕ ((((List Int) × Int × Int × Unit) × (List Int) × (List Int) × Unit) ⊕ (((List Int) × (List Int) × Unit) ⊕ (((List Int) × (List Int) × Unit) ⊕ ((Int × (List Int) × (List Int) × Unit) × Unit)))))) (x : (((List Int) × Int × Int × Unit) × (List Int) × (List Int) × Int × Unit)) => spec_DrawJoinBaskets_l2_b k x40 (fun x5_1 x7_1 x10_1 x13 => rec (x5_1, x7_1, x10_1, x13, ())) x.1 x.2.1 x.2.2.1 x.2.2.2.1) (x5_1, x7_1, x10_1, x13, ())
noncomputable def spec_DrawJoinBaskets_l1_b (k : Nat) (y34 : (((List Int) × Bool × Unit) × Unit)) (rec : ((List Int) × Int × Int × Unit) → (List Int) → (List Int) → (List Int) → Int → Option (((List Int) × (List Int) × Unit) ⊕ (((List Int) × (List Int) × Unit) ⊕ ((Int × (List Int) × (List Int) × Unit) × Unit)))) (x5 : ((List Int) × Int × Int × Unit)) (x7 : (List Int)) (x10 : (List Int)) (x38 : (List Int)) (x40 : Int) : Option (((List Int) × (List Int) × Unit) ⊕ (((List Int) × (List Int) × Unit) ⊕ ((Int × (List Int) × (List Int) × Unit) × Unit))) :=
  (cond (decide (x40 < ((List.length y34.1.1 : Nat) : Int))) (met (ixk x40 (List.length x38) (Option.bind (spec_l1Cur_pick_f k (x5.1, x5.2.1, x5.2.2.1, ()) (iw (3 - (rd x38 x40)))) (fun y48 => (met (spec_DrawJoinBaskets_l2 k x40 (y48.2.1.1, y48.2.1.2.1, y48.2.1.2.2.1, ()) x7 x10 y48.1.1) (fun j3 => (some (.inl ((j3.1.1, j3.1.2.1, j3.1.2.2.1, ()), j3.2.1, j3.2.2.1, ())))))))) (fun j4 => (rec (j4.1.1, j4.1.2.1, j4.1.2.2.1, ()) j4.2.1 j4.2.2.1 x38 (iw (x40 + 1))))) (some (.inl (x7, x10, ()))))
noncomputable def spec_DrawJoinBaskets_l1 (k : Nat) (y34 : (((List Int) × Bool × Unit) × Unit)) (x5 : ((List Int) × Int × Int × Unit)) (x7 : (List Int)) (x10 : (List Int)) (x38 : (List Int)) (x40 : Int) : Option (((List Int) × (List Int) × Unit) ⊕ (((List Int) × (List Int) × Unit) ⊕ ((Int × (List Int) × (List Int) × Unit) × Unit))) := iter k (fun (rec : (((List Int) × Int × Int × Unit) × (List Int) × (List Int) × (List Int) × Int × Unit) → Option (((List Int) × (List Int) × Unit) ⊕ (((List Int) × (List Int) × Unit) ⊕ ((Int × (List Int) × (List Int) × Unit) × Unit)))) (x : (((List Int) × Int × Int × Unit) × (List Int) × (List Int) × (List Int) × Int × Unit)) => spec_DrawJoinBaskets_l1_b k y34 (fun x5 x7 x10 x38 x40 => rec (x5, x7, x10, x38, x40, ())) x.1 x.2.1 x.2.2.1 x.2.2.2.1 x.2.2.2.2.1) (x5, x7, x10, x38, x40, ())
noncomputable def spec_DrawJoinBaskets_f (k : Nat) (p0 : (List Int)) : Option ((Int × (List Int) × (List Int) × Unit) × Unit) :=
  (Option.bind (spec_l1Cur_pairs_f k (p0, 0, 0, ())) (fun y18 => (Option.bind (spec_l1Cur_basket_f k (y18.2.1.1, y18.2.1.2.1, y18.2.1.2.2.1, ()) y18.1.1) (fun y21 => (Option.bind (spec_l1Cur_one_f k (y21.2.1.1, y21.2.1.2.1, y21.2.1.2.2.1, ()) 3) (fun y23 => (cond y23.1.1 (Option.bind (spec_l1Cur_basket_f k (y23.2.1.1, y23.2.1.2.1, y23.2.1.2.2.1, ()) y18.1.1) (fun y28 => (some ((y18.1.1, y21.1.1, y28.1.1, ()), ())))) (Option.bind (spec_l1Least_f k y18.1.1 20) (fun y31 => (Option.bind (spec_l1Most_f k 1 y31.1.1) (fun y32 => (Option.bind (spec_laCounts_f k y32.1.1 y21.1.1) (fun y34 => (met (cond y34.1.2.1 (met (spec_DrawJoinBaskets_l1 k y34 (y23.2.1.1, y23.2.1.2.1, y23.2.1.2.2.1, ()) y21.1.1 [] y34.1.1 0) (fun j5 => (some (.inl (j5.1, j5.2.1, ()))))) (some (.inl (y21.1.1, [], ())))) (fun j6 => (some ((y18.1.1, j6.1, j6.2.1, ()), ())))))))))))))))))
noncomputable def spec_DrawJoinBaskets_a : Ann := (.q .o (.q .o (.q .o (.q .o (.q .o (.q .o (.q .o (.q (.q .o (.j [(7, 100448, .own false 3 (.int .i64)), (10, 100640, .own false 3 (.int .i64))] (.q .o (.m [(7, 100448, .own false 3 (.int .i64)), (10, 100640, .own false 3 (.int .i64))] (.l [(5, 100320, .box false [.v (.slc 5 (.int .u8)), .v (.int .i64), .v (.int .u64)]), (7, 100448, .own false 3 (.int .i64)), (10, 100640, .own false 3 (.int .i64)), (38, 102432, .v (.slc 3 (.int .i64))), (40, 102560, .v (.int .i64))] (.q .o (.q .o (.q (.m [(5, 100320, .box false [.v (.slc 5 (.int .u8)), .v (.int .i64), .v (.int .u64)]), (7, 100448, .own false 3 (.int .i64)), (10, 100640, .own false 3 (.int .i64))] (.q .o (.q .o (.m [(5, 100320, .box false [.v (.slc 5 (.int .u8)), .v (.int .i64), .v (.int .u64)]), (7, 100448, .own false 3 (.int .i64)), (10, 100640, .own false 3 (.int .i64))] (.l [(5, 100320, .box false [.v (.slc 5 (.int .u8)), .v (.int .i64), .v (.int .u64)]), (7, 100448, .own false 3 (.int .i64)), (10, 100640, .own false 3 (.int .i64)), (13, 100832, .v (.int .i64))] .o))))) .o)))))) .o)) .o))))))))
theorem spec_DrawJoinBaskets_run (k : Nat) (p0 : (List Int)) : funX Tryz.prog (callT [spec_l1Cur_pairs_c k, spec_l1Cur_basket_c k, spec_l1Cur_one_c k, spec_l1Least_c k, spec_l1Most_c k, spec_laCounts_c k, spec_l1Cur_pick_c k]) k Tryz.f53 spec_DrawJoinBaskets_a [.v (.slc 5 (.int .u8))] [.v (.int .i64), .own false 3 (.int .i64), .own false 3 (.int .i64)] (p0, ()) = spec_DrawJoinBaskets_f k p0 := by kernel_rfl
noncomputable def spec_DrawJoinBaskets_c (k : Nat) : Con := ⟨53, [.v (.slc 5 (.int .u8))], [.v (.int .i64), .own false 3 (.int .i64), .own false 3 (.int .i64)], fun x => spec_DrawJoinBaskets_f k x.1⟩
theorem spec_DrawJoinBaskets_ok (k : Nat) : (spec_DrawJoinBaskets_c k).Sound Tryz.prog GL := con_ok (k := k) (fn := Tryz.f53) (A := spec_DrawJoinBaskets_a) (C := callT [spec_l1Cur_pairs_c k, spec_l1Cur_basket_c k, spec_l1Cur_one_c k, spec_l1Least_c k, spec_l1Most_c k, spec_laCounts_c k, spec_l1Cur_pick_c k]) Tryz.func53 (by kernel_rfl) (show Tryz.f53.body = some (bodyX Tryz.f53) by rfl) (fun X hX => callT_at (TableOk.cons (spec_l1Cur_pairs_ok k) (TableOk.cons (spec_l1Cur_basket_ok k) (TableOk.cons (spec_l1Cur_one_ok k) (TableOk.cons (spec_l1Least_ok k) (TableOk.cons (spec_l1Most_ok k) (TableOk.cons (spec_laCounts_ok k) (TableOk.cons (spec_l1Cur_pick_ok k) TableOk.nil))))))) X hX) (Nat.le_of_ble_eq_true (by kernel_rfl)) (fun ⟨p0, _⟩ y h => by rw [← h]; exact spec_DrawJoinBaskets_run k p0)
noncomputable def spec_l1Own_f (k : Nat) (p0 : (List Int)) : Option (((List Int) × Unit) × Unit) :=
  (chk (decide (0 + List.length p0 ≤ 15637498706147)) (some ((p0, ()), ())))
noncomputable def spec_l1Own_a : Ann := .o
theorem spec_l1Own_run (k : Nat) (p0 : (List Int)) : funX Tryz.prog (callT []) k Tryz.f109 spec_l1Own_a [.v (.slc 3 (.int .i64))] [.own false 3 (.int .i64)] (p0, ()) = spec_l1Own_f k p0 := by kernel_rfl
noncomputable def spec_l1Own_c (k : Nat) : Con := ⟨109, [.v (.slc 3 (.int .i64))], [.own false 3 (.int .i64)], fun x => spec_l1Own_f k x.1⟩
theorem spec_l1Own_ok (k : Nat) : (spec_l1Own_c k).Sound Tryz.prog GL := con_ok (k := k) (fn := Tryz.f109) (A := spec_l1Own_a) (C := callT []) Tryz.func109 (by kernel_rfl) (show Tryz.f109.body = some (bodyX Tryz.f109) by rfl) (fun X hX => callT_at TableOk.nil X hX) (Nat.le_of_ble_eq_true (by kernel_rfl)) (fun ⟨p0, _⟩ y h => by rw [← h]; exact spec_l1Own_run k p0)
noncomputable def spec_JoinBaskets_f (k : Nat) (p0 : Int) (p1 : (List Int)) (p2 : (List Int)) : Option (((List Int) × Bool × Unit) × Unit) :=
  (met (Option.bind (spec_laBasket_f k p0 p1) (fun y12 => (cond (!y12.1.1) (some (.inl (true, ()))) (Option.bind (spec_laBasket_f k p0 p2) (fun y17 => (some (.inl ((!y17.1.1), ())))))))) (fun j1 => (cond j1.1 (some (([], false, ()), ())) (Option.bind (spec_l1Own_f k p1) (fun y23 => (chk (decide (List.length y23.1.1 + List.length p2 ≤ 15637498706147)) (Option.bind (spec_laCounts_f k p0 (y23.1.1 ++ p2)) (fun y26 => (cond (!y26.1.2.1) (some (([], false, ()), ())) (Option.bind (spec_laLeft_f k y26.1.1) (fun y32 => (some ((y32.1.1, true, ()), ())))))))))))))
noncomputable def spec_JoinBaskets_a : Ann := (.q .o (.q (.q (.r [(19, 101216, .v .bool)]) .o) .o))
theorem spec_JoinBaskets_run (k : Nat) (p0 : Int) (p1 : (List Int)) (p2 : (List Int)) : funX Tryz.prog (callT [spec_laBasket_c k, spec_l1Own_c k, spec_laCounts_c k, spec_laLeft_c k]) k Tryz.f54 spec_JoinBaskets_a [.v (.int .i64), .v (.slc 3 (.int .i64)), .v (.slc 3 (.int .i64))] [.own false 3 (.int .i64), .v .bool] (p0, p1, p2, ()) = spec_JoinBaskets_f k p0 p1 p2 := by kernel_rfl
noncomputable def spec_JoinBaskets_c (k : Nat) : Con := ⟨54, [.v (.int .i64), .v (.slc 3 (.int .i64)), .v (.slc 3 (.int .i64))], [.own false 3 (.int .i64), .v .bool], fun x => spec_JoinBaskets_f k x.1 x.2.1 x.2.2.1⟩
theorem spec_JoinBaskets_ok (k : Nat) : (spec_JoinBaskets_c k).Sound Tryz.prog GL := con_ok (k := k) (fn := Tryz.f54) (A := spec_JoinBaskets_a) (C := callT [spec_laBasket_c k, spec_l1Own_c k, spec_laCounts_c k, spec_laLeft_c k]) Tryz.func54 (by kernel_rfl) (show Tryz.f54.body = some (bodyX Tryz.f54) by rfl) (fun X hX => callT_at (TableOk.cons (spec_laBasket_ok k) (TableOk.cons (spec_l1Own_ok k) (TableOk.cons (spec_laCounts_ok k) (TableOk.cons (spec_laLeft_ok k) TableOk.nil)))) X hX) (Nat.le_of_ble_eq_true (by kernel_rfl)) (fun ⟨p0, p1, p2, _⟩ y h => by rw [← h]; exact spec_JoinBaskets_run k p0 p1 p2)
noncomputable def spec_DrawBasketText_f (k : Nat) (p0 : (List Int)) : Option (((List Int) × Unit) × Unit) :=
  (Option.bind (spec_DrawIsBasket_f k p0) (fun y7 => (some ((y7.1.2.1, ()), ()))))
noncomputable def spec_DrawBasketText_a : Ann := .o
theorem spec_DrawBasketText_run (k : Nat) (p0 : (List Int)) : funX Tryz.prog (callT [spec_DrawIsBasket_c k]) k Tryz.f55 spec_DrawBasketText_a [.v (.slc 5 (.int .u8))] [.own false 3 (.int .i64)] (p0, ()) = spec_DrawBasketText_f k p0 := by kernel_rfl
noncomputable def spec_DrawBasketText_c (k : Nat) : Con := ⟨55, [.v (.slc 5 (.int .u8))], [.own false 3 (.int .i64)], fun x => spec_DrawBasketText_f k x.1⟩
theorem spec_DrawBasketText_ok (k : Nat) : (spec_DrawBasketText_c k).Sound Tryz.prog GL := con_ok (k := k) (fn := Tryz.f55) (A := spec_DrawBasketText_a) (C := callT [spec_DrawIsBasket_c k]) Tryz.func55 (by kernel_rfl) (show Tryz.f55.body = some (bodyX Tryz.f55) by rfl) (fun X hX => callT_at (TableOk.cons (spec_DrawIsBasket_ok k) TableOk.nil) X hX) (Nat.le_of_ble_eq_true (by kernel_rfl)) (fun ⟨p0, _⟩ y h => by rw [← h]; exact spec_DrawBasketText_run k p0)
noncomputable def strconv_Itoa_f (k : Nat) (p0 : Int) : Option ((ByteArray × Unit) × Unit) := (itoaL p0).map fun y => (y, ())
noncomputable def strconv_Itoa_c (k : Nat) : Con := ⟨118, [.v (.int .i64)], [.v .str], fun x => (itoaL x.1).map fun y => (y, ())⟩
theorem strconv_Itoa_ok (k : Nat) : (strconv_Itoa_c k).Sound Tryz.prog GL := itoa_leaf ⟨Tryz.f118, Tryz.func118, by kernel_rfl, by rfl⟩ (fun i hi w => lay_strconv_Itoa_small i hi w)
noncomputable def strings_Join_f (k : Nat) (p0 : (List ByteArray)) (p1 : ByteArray) : Option ((ByteArray × Unit) × Unit) := (joinL p0 p1).map fun y => (y, ())
noncomputable def strings_Join_c (k : Nat) : Con := ⟨119, [.v (.slc 9 .str), .v .str], [.v .str], fun x => (joinL x.1 x.2.1).map fun y => (y, ())⟩
theorem strings_Join_ok (k : Nat) : (strings_Join_c k).Sound Tryz.prog GL := join_leaf ⟨Tryz.f119, Tryz.func119, by kernel_rfl, by rfl⟩ (fun bk o c xs sep w h1 h2 h3 h4 h5 => lay_strings_Join bk o c xs sep w h1 h2 h3 h4 h5) (fun a c sep w => lay_strings_Join_none a c sep w)
noncomputable def impl_joined_l1_b (k : Nat) (p0 : (List Int)) (rec : (List ByteArray) → Int → Option (((List ByteArray) × Unit) ⊕ ((ByteArray × Unit) × Unit))) (x5 : (List ByteArray)) (x11 : Int) : Option (((List ByteArray) × Unit) ⊕ ((ByteArray × Unit) × Unit)) :=
  (cond (decide (x11 < ((List.length p0 : Nat) : Int))) (ixk x11 (List.length p0) (Option.bind (strconv_Itoa_f k (rd p0 x11)) (fun y17 => (chk (decide (List.length x5 + List.length [y17.1.1] ≤ 8278675785607)) (rec (x5 ++ [y17.1.1]) (iw (x11 + 1))))))) (some (.inl (x5, ()))))
noncomputable def impl_joined_l1 (k : Nat) (p0 : (List Int)) (x5 : (List ByteArray)) (x11 : Int) : Option (((List ByteArray) × Unit) ⊕ ((ByteArray × Unit) × Unit)) := iter k (fun (rec : ((List ByteArray) × Int × Unit) → Option (((List ByteArray) × Unit) ⊕ ((ByteArray × Unit) × Unit))) (x : ((List ByteArray) × Int × Unit)) => impl_joined_l1_b k p0 (fun x5 x11 => rec (x5, x11, ())) x.1 x.2.1) (x5, x11, ())
noncomputable def impl_joined_f (k : Nat) (p0 : (List Int)) (p1 : ByteArray) : Option ((ByteArray × Unit) × Unit) :=
  (met (impl_joined_l1 k p0 [] 0) (fun j2 => (Option.bind (strings_Join_f k j2.1 p1) (fun y23 => (some ((y23.1.1, ()), ()))))))
noncomputable def impl_joined_a : Ann := (.q .o (.q .o (.q (.q .o (.m [(5, 100320, .v (.slc 9 .str))] (.l [(5, 100320, .own false 9 .str), (11, 100704, .v (.int .i64))] .o))) .o)))
theorem impl_joined_run (k : Nat) (p0 : (List Int)) (p1 : ByteArray) : funX Tryz.prog (callT [strconv_Itoa_c k, strings_Join_c k]) k Tryz.f81 impl_joined_a [.v (.slc 3 (.int .i64)), .v .str] [.v .str] (p0, p1, ()) = impl_joined_f k p0 p1 := by kernel_rfl
noncomputable def impl_joined_c (k : Nat) : Con := ⟨81, [.v (.slc 3 (.int .i64)), .v .str], [.v .str], fun x => impl_joined_f k x.1 x.2.1⟩
theorem impl_joined_ok (k : Nat) : (impl_joined_c k).Sound Tryz.prog GL := con_ok (k := k) (fn := Tryz.f81) (A := impl_joined_a) (C := callT [strconv_Itoa_c k, strings_Join_c k]) Tryz.func81 (by kernel_rfl) (show Tryz.f81.body = some (bodyX Tryz.f81) by rfl) (fun X hX => callT_at (TableOk.cons (strconv_Itoa_ok k) (TableOk.cons (strings_Join_ok k) TableOk.nil)) X hX) (Nat.le_of_ble_eq_true (by kernel_rfl)) (fun ⟨p0, p1, _⟩ y h => by rw [← h]; exact impl_joined_run k p0 p1)
noncomputable def impl_basketText_f (k : Nat) (p0 : (List Int)) : Option ((ByteArray × Unit) × Unit) :=
  (cond (((List.length p0 : Nat) : Int) == 0) (some (((lit [45]), ()), ())) (Option.bind (impl_joined_f k p0 (lit [46])) (fun y7 => (some ((y7.1.1, ()), ())))))
noncomputable def impl_basketText_a : Ann := .o
theorem impl_basketText_run (k : Nat) (p0 : (List Int)) : funX Tryz.prog (callT [impl_joined_c k]) k Tryz.f110 impl_basketText_a [.v (.slc 3 (.int .i64))] [.v .str] (p0, ()) = impl_basketText_f k p0 := by kernel_rfl
noncomputable def impl_basketText_c (k : Nat) : Con := ⟨110, [.v (.slc 3 (.int .i64))], [.v .str], fun x => impl_basketText_f k x.1⟩
theorem impl_basketText_ok (k : Nat) : (impl_basketText_c k).Sound Tryz.prog GL := con_ok (k := k) (fn := Tryz.f110) (A := impl_basketText_a) (C := callT [impl_joined_c k]) Tryz.func110 (by kernel_rfl) (show Tryz.f110.body = some (bodyX Tryz.f110) by rfl) (fun X hX => callT_at (TableOk.cons (impl_joined_ok k) TableOk.nil) X hX) (Nat.le_of_ble_eq_true (by kernel_rfl)) (fun ⟨p0, _⟩ y h => by rw [← h]; exact impl_basketText_run k p0)
noncomputable def impl_BasketText_f (k : Nat) (p0 : (List Int)) : Option ((ByteArray × Bool × Unit) × Unit) :=
  (Option.bind (impl_isBasket_f k 20 p0) (fun y5 => (cond (!y5.1.1) (some ((ByteArray.empty, false, ()), ())) (Option.bind (impl_basketText_f k p0) (fun y8 => (some ((y8.1.1, true, ()), ())))))))
noncomputable def impl_BasketText_a : Ann := .o
theorem impl_BasketText_run (k : Nat) (p0 : (List Int)) : funX Tryz.prog (callT [impl_isBasket_c k, impl_basketText_c k]) k Tryz.f56 impl_BasketText_a [.v (.slc 3 (.int .i64))] [.v .str, .v .bool] (p0, ()) = impl_BasketText_f k p0 := by kernel_rfl
noncomputable def impl_BasketText_c (k : Nat) : Con := ⟨56, [.v (.slc 3 (.int .i64))], [.v .str, .v .bool], fun x => impl_BasketText_f k x.1⟩
theorem impl_BasketText_ok (k : Nat) : (impl_BasketText_c k).Sound Tryz.prog GL := con_ok (k := k) (fn := Tryz.f56) (A := impl_BasketText_a) (C := callT [impl_isBasket_c k, impl_basketText_c k]) Tryz.func56 (by kernel_rfl) (show Tryz.f56.body = some (bodyX Tryz.f56) by rfl) (fun X hX => callT_at (TableOk.cons (impl_isBasket_ok k) (TableOk.cons (impl_basketText_ok k) TableOk.nil)) X hX) (Nat.le_of_ble_eq_true (by kernel_rfl)) (fun ⟨p0, _⟩ y h => by rw [← h]; exact impl_BasketText_run k p0)
noncomputable def spec_l1Num_s (k : Nat) (me : Int → Option ((ByteArray × Unit) × Unit)) (p0 : Int) : Option ((ByteArray × Unit) × Unit) :=
  (cond (decide (p0 < 10)) (some (((strOfNums [(IntKind.wrap .u8 ((iw (48 + p0))))]), ()), ())) (met (andX (Option.bind (me (iw (Int.tdiv p0 10))) (fun y12 => (chk (decide (y12.1.1.size + (strOfNums [(IntKind.wrap .u8 ((iw (48 + (Int.tmod p0 10)))))]).size ≤ 9223372036854775807)) (some (.inl ((y12.1.1 ++ (strOfNums [(IntKind.wrap .u8 ((iw (48 + (Int.tmod p0 10)))))])), ())))))) ((fun q => andX q q) (Option.bind (me (iw (Int.tdiv p0 10))) (fun y12_1 => (chk (decide (y12_1.1.1.size + (strOfNums [(IntKind.wrap .u8 ((iw (48 + (Int.tmod p0 10)))))]).size ≤ 9223372036854775807)) (some (.inl ((y12_1.1.1 ++ (strOfNums [(IntKind.wrap .u8 ((iw (48 + (Int.tmod p0 10)))))])), ())))))))) (fun j1 => (some ((j1.1, ()), ())))))
noncomputable def spec_l1Num_r (k : Nat) : Nat → Int → Option ((ByteArray × Unit) × Unit)
  | 0 => fun _ => none
  | n + 1 => spec_l1Num_s k (spec_l1Num_r k n)
noncomputable def spec_l1Num_f (k : Nat) : Int → Option ((ByteArray × Unit) × Unit) := spec_l1Num_r k k
noncomputable def spec_l1Num_a : Ann := (.q .o (.q .o (.q (.d [] [10] [(2, 100128, .v .str)]) .o)))
noncomputable def spec_l1Num_d (k n : Nat) : Con := ⟨120, [.v (.int .i64)], [.v .str], fun x => spec_l1Num_r k n x.1⟩
theorem spec_l1Num_run (k n : Nat) (p0 : Int) : funX Tryz.prog (callT [spec_l1Num_d k n]) k Tryz.f120 spec_l1Num_a [.v (.int .i64)] [.v .str] (p0, ()) = spec_l1Num_r k (n + 1) p0 := by kernel_rfl
theorem spec_l1Num_rec (k : Nat) : ∀ n : Nat, (spec_l1Num_d k n).Sound Tryz.prog GL
  | 0 => con_none Tryz.func120 (by kernel_rfl) (show Tryz.f120.body = some (bodyX Tryz.f120) by rfl) (fun _ => rfl)
  | n + 1 => con_ok (k := k) (fn := Tryz.f120) (A := spec_l1Num_a) (C := callT [spec_l1Num_d k n]) Tryz.func120 (by kernel_rfl) (show Tryz.f120.body = some (bodyX Tryz.f120) by rfl) (fun X hX => callT_at (TableOk.cons (spec_l1Num_rec k n) TableOk.nil) X hX) (Nat.le_of_ble_eq_true (by kernel_rfl)) (fun ⟨p0, _⟩ y h => by rw [← h]; exact spec_l1Num_run k n p0)
noncomputable def spec_l1Num_c (k : Nat) : Con := ⟨120, [.v (.int .i64)], [.v .str], fun x => spec_l1Num_f k x.1⟩
theorem spec_l1Num_ok (k : Nat) : (spec_l1Num_c k).Sound Tryz.prog GL := spec_l1Num_rec k k
noncomputable def spec_laText_l1_b (k : Nat) (p0 : (List Int)) (rec : ByteArray → Int → Option ((ByteArray × Unit) ⊕ ((ByteArray × Unit) × Unit))) (x3 : ByteArray) (x11 : Int) : Option ((ByteArray × Unit) ⊕ ((ByteArray × Unit) × Unit)) :=
  (cond (decide (x11 < ((List.length p0 : Nat) : Int))) (ixk x11 (List.length p0) (met (cond (decide (x11 > 0)) (chk (decide (x3.size + (lit [46]).size ≤ 9223372036854775807)) (some (.inl ((x3 ++ (lit [46])), ())))) (some (.inl (x3, ())))) (fun j2 => (Option.bind (spec_l1Num_f k (rd p0 x11)) (fun y22 => (chk (decide (j2.1.size + y22.1.1.size ≤ 9223372036854775807)) (rec (j2.1 ++ y22.1.1) (iw (x11 + 1))))))))) (some (.inl (x3, ()))))
noncomputable def spec_laText_l1 (k : Nat) (p0 : (List Int)) (x3 : ByteArray) (x11 : Int) : Option ((ByteArray × Unit) ⊕ ((ByteArray × Unit) × Unit)) := iter k (fun (rec : (ByteArray × Int × Unit) → Option ((ByteArray × Unit) ⊕ ((ByteArray × Unit) × Unit))) (x : (ByteArray × Int × Unit)) => spec_laText_l1_b k p0 (fun x3 x11 => rec (x3, x11, ())) x.1 x.2.1) (x3, x11, ())
noncomputable def spec_laText_f (k : Nat) (p0 : (List Int)) : Option ((ByteArray × Unit) × Unit) :=
  (cond (((List.length p0 : Nat) : Int) == 0) (some (((lit [45]), ()), ())) (met (spec_laText_l1 k p0 ByteArray.empty 0) (fun j3 => (some ((j3.1, ()), ())))))
noncomputable def spec_laText_a : Ann := (.q .o (.q .o (.q .o (.q (.q .o (.m [(3, 100192, .v .str)] (.l [(3, 100192, .v .str), (11, 100704, .v (.int .i64))] (.q .o (.q .o (.q (.b (.q .o (.q (.q .o (.j [(3, 100192, .v .str)] .o .o)) .o))) .o)))))) .o))))
theorem spec_laText_run (k : Nat) (p0 : (List Int)) : funX Tryz.prog (callT [spec_l1Num_c k]) k Tryz.f111 spec_laText_a [.v (.slc 3 (.int .i64))] [.v .str] (p0, ()) = spec_laText_f k p0 := by kernel_rfl
noncomputable def spec_laText_c (k : Nat) : Con := ⟨111, [.v (.slc 3 (.int .i64))], [.v .str], fun x => spec_laText_f k x.1⟩
theorem spec_laText_ok (k : Nat) : (spec_laText_c k).Sound Tryz.prog GL := con_ok (k := k) (fn := Tryz.f111) (A := spec_laText_a) (C := callT [spec_l1Num_c k]) Tryz.func111 (by kernel_rfl) (show Tryz.f111.body = some (bodyX Tryz.f111) by rfl) (fun X hX => callT_at (TableOk.cons (spec_l1Num_ok k) TableOk.nil) X hX) (Nat.le_of_ble_eq_true (by kernel_rfl)) (fun ⟨p0, _⟩ y h => by rw [← h]; exact spec_laText_run k p0)
noncomputable def spec_BasketText_f (k : Nat) (p0 : (List Int)) : Option ((ByteArray × Bool × Unit) × Unit) :=
  (Option.bind (spec_laIs_f k 20 p0) (fun y5 => (cond (!y5.1.1) (some ((ByteArray.empty, false, ()), ())) (Option.bind (spec_laText_f k p0) (fun y8 => (some ((y8.1.1, true, ()), ())))))))
noncomputable def spec_BasketText_a : Ann := .o
theorem spec_BasketText_run (k : Nat) (p0 : (List Int)) : funX Tryz.prog (callT [spec_laIs_c k, spec_laText_c k]) k Tryz.f57 spec_BasketText_a [.v (.slc 3 (.int .i64))] [.v .str, .v .bool] (p0, ()) = spec_BasketText_f k p0 := by kernel_rfl
noncomputable def spec_BasketText_c (k : Nat) : Con := ⟨57, [.v (.slc 3 (.int .i64))], [.v .str, .v .bool], fun x => spec_BasketText_f k x.1⟩
theorem spec_BasketText_ok (k : Nat) : (spec_BasketText_c k).Sound Tryz.prog GL := con_ok (k := k) (fn := Tryz.f57) (A := spec_BasketText_a) (C := callT [spec_laIs_c k, spec_laText_c k]) Tryz.func57 (by kernel_rfl) (show Tryz.f57.body = some (bodyX Tryz.f57) by rfl) (fun X hX => callT_at (TableOk.cons (spec_laIs_ok k) (TableOk.cons (spec_laText_ok k) TableOk.nil)) X hX) (Nat.le_of_ble_eq_true (by kernel_rfl)) (fun ⟨p0, _⟩ y h => by rw [← h]; exact spec_BasketText_run k p0)
noncomputable def spec_l1Cur_spoilt_l1_b (k : Nat) (p2 : ByteArray) (rec : ((List Int) × Int × Int × Unit) → ByteArray → Int → Option ((((List Int) × Int × Int × Unit) × ByteArray × Unit) ⊕ ((ByteArray × Unit) × (((List Int) × Int × Int × Unit) × Unit)))) (x0 : ((List Int) × Int × Int × Unit)) (x1 : ByteArray) (x7 : Int) : Option ((((List Int) × Int × Int × Unit) × ByteArray × Unit) ⊕ ((ByteArray × Unit) × (((List Int) × Int × Int × Unit) × Unit))) :=
  (met (cond (decide (x7 > 0)) (some (.inl ((x0.1, x0.2.1, x0.2.2.1, ()), (decide (((ByteArray.size x1 : Nat) : Int) > 0)), ()))) (some (.inl ((x0.1, x0.2.1, x0.2.2.1, ()), false, ())))) (fun j2 => (cond j2.2.1 (met (Option.bind (spec_l1Cur_pick_f k (j2.1.1, j2.1.2.1, j2.1.2.2.1, ()) ((ByteArray.size x1 : Nat) : Int)) (fun y25 => (Option.bind (spec_l1Cur_pick_f k (y25.2.1.1, y25.2.1.2.1, y25.2.1.2.2.1, ()) ((ByteArray.size p2 : Nat) : Int)) (fun y30 => (ixk y30.1.1 (ByteArray.size p2) (Option.bind (spec_l1Cur_pick_f k (y30.2.1.1, y30.2.1.2.1, y30.2.1.2.2.1, ()) 3) (fun y35 => (met (met (cond (y35.1.1 == 0) (chk (decide (0 ≤ y25.1.1)) (chk (decide (y25.1.1 ≤ ((ByteArray.size x1 : Nat) : Int))) (chk (decide ((ByteArray.extract x1 0 (Int.toNat y25.1.1)).size + (strOfNums [(byteAt p2 y30.1.1)]).size ≤ 9223372036854775807)) (chk (decide (0 ≤ y25.1.1)) (chk (decide (y25.1.1 ≤ ((ByteArray.size x1 : Nat) : Int))) (chk (decide (((ByteArray.extract x1 0 (Int.toNat y25.1.1)) ++ (strOfNums [(byteAt p2 y30.1.1)])).size + (ByteArray.extract x1 (Int.toNat y25.1.1) (ByteArray.size x1)).size ≤ 9223372036854775807)) (some (.inl ((y35.2.1.1, y35.2.1.2.1, y35.2.1.2.2.1, ()), (((ByteArray.extract x1 0 (Int.toNat y25.1.1)) ++ (strOfNums [(byteAt p2 y30.1.1)])) ++ (ByteArray.extract x1 (Int.toNat y25.1.1) (ByteArray.size x1))), ()))))))))) (met (cond (y35.1.1 == 1) (chk (decide (0 ≤ y25.1.1)) (chk (decide (y25.1.1 ≤ ((ByteArray.size x1 : Nat) : Int))) (chk (decide ((ByteArray.extract x1 0 (Int.toNat y25.1.1)).size + (strOfNums [(byteAt p2 y30.1.1)]).size ≤ 9223372036854775807)) (chk (decide (0 ≤ (iw (y25.1.1 + 1)))) (chk (decide ((iw (y25.1.1 + 1)) ≤ ((ByteArray.size x1 : Nat) : Int))) (chk (decide (((ByteArray.extract x1 0 (Int.toNat y25.1.1)) ++ (strOfNums [(byteAt p2 y30.1.1)])).size + (ByteArray.extract x1 (Int.toNat (iw (y25.1.1 + 1))) (ByteArray.size x1)).size ≤ 9223372036854775807)) (some (.inl ((y35.2.1.1, y35.2.1.2.1, y35.2.1.2.2.1, ()), (((ByteArray.extract x1 0 (Int.toNat y25.1.1)) ++ (strOfNums [(byteAt p2 y30.1.1)])) ++ (ByteArray.extract x1 (Int.toNat (iw (y25.1.1 + 1))) (ByteArray.size x1))), ()))))))))) (chk (decide (0 ≤ y25.1.1)) (chk (decide (y25.1.1 ≤ ((ByteArray.size x1 : Nat) : Int))) (chk (decide (0 ≤ (iw (y25.1.1 + 1)))) (chk (decide ((iw (y25.1.1 + 1)) ≤ ((ByteArray.size x1 : Nat) : Int))) (chk (decide ((ByteArray.extract x1 0 (Int.toNat y25.1.1)).size + (ByteArray.extract x1 (Int.toNat (iw (y25.1.1 + 1))) (ByteArray.size x1)).size ≤ 9223372036854775807)) (some (.inl ((y35.2.1.1, y35.2.1.2.1, y35.2.1.2.2.1, ()), ((ByteArray.extract x1 0 (Int.toNat y25.1.1)) ++ (ByteArray.extract x1 (Int.toNat (iw (y25.1.1 + 1))) (ByteArray.size x1))), ()))))))))) (fun j3 => (some (.inl ((j3.1.1, j3.1.2.1, j3.1.2.2.1, ()), j3.2.1, ())))))) (fun j4 => (some (.inl ((j4.1.1, j4.1.2.1, j4.1.2.2.1, ()), j4.2.1, ()))))) (fun j5 => (some (.inl ((j5.1.1, j5.1.2.1, j5.1.2.2.1, ()), j5.2.1, ())))))))))))) (fun j6 => (rec (j6.1.1, j6.1.2.1, j6.1.2.2.1, ()) j6.2.1 (iw (x7 - 1))))) (some (.inl ((j2.1.1, j2.1.2.1, j2.1.2.2.1, ()), x1, ()))))))
noncomputable def spec_l1Cur_spoilt_l1 (k : Nat) (p2 : ByteArray) (x0 : ((List Int) × Int × Int × Unit)) (x1 : ByteArray) (x7 : Int) : Option ((((List Int) × Int × Int × Unit) × ByteArray × Unit) ⊕ ((ByteArray × Unit) × (((List Int) × Int × Int × Unit) × Unit))) := iter k (fun (rec : (((List Int) × Int × Int × Unit) × ByteArray × Int × Unit) → Option ((((List Int) × Int × Int × Unit) × ByteArray × Unit) ⊕ ((ByteArray × Unit) × (((List Int) × Int × Int × Unit) × Unit)))) (x : (((List Int) × Int × Int × Unit) × ByteArray × Int × Unit)) => spec_l1Cur_spoilt_l1_b k p2 (fun x0 x1 x7 => rec (x0, x1, x7, ())) x.1 x.2.1 x.2.2.1) (x0, x1, x7, ())
noncomputable def spec_l1Cur_spoilt_f (k : Nat) (p0 : ((List Int) × Int × Int × Unit)) (p1 : ByteArray) (p2 : ByteArray) : Option ((ByteArray × Unit) × (((List Int) × Int × Int × Unit) × Unit)) :=
  (Option.bind (spec_l1Cur_pick_f k (p0.1, p0.2.1, p0.2.2.1, ()) 2) (fun y11 => (met (spec_l1Cur_spoilt_l1 k p2 (y11.2.1.1, y11.2.1.2.1, y11.2.1.2.2.1, ()) p1 (iw (1 + y11.1.1))) (fun j7 => (some ((j7.2.1, ()), ((j7.1.1, j7.1.2.1, j7.1.2.2.1, ()), ())))))))
noncomputable def spec_l1Cur_spoilt_a : Ann := (.q .o (.q (.q .o (.m [(0, 3000000, .box true [.v (.slc 5 (.int .u8)), .v (.int .i64), .v (.int .u64)]), (1, 100064, .v .str)] (.l [(0, 3000000, .box true [.v (.slc 5 (.int .u8)), .v (.int .i64), .v (.int .u64)]), (1, 100064, .v .str), (7, 100448, .v (.int .i64))] (.q (.q (.r [(0, 3000000, .box true [.v (.slc 5 (.int .u8)), .v (.int .i64), .v (.int .u64)]), (19, 101216, .v .bool)]) .o) (.q (.m [(0, 3000000, .box true [.v (.slc 5 (.int .u8)), .v (.int .i64), .v (.int .u64)]), (1, 100064, .v .str)] (.q .o (.q .o (.q .o (.m [(0, 3000000, .box true [.v (.slc 5 (.int .u8)), .v (.int .i64), .v (.int .u64)]), (1, 100064, .v .str)] (.q .o (.j [(0, 3000000, .box true [.v (.slc 5 (.int .u8)), .v (.int .i64), .v (.int .u64)]), (1, 100064, .v .str)] (.e [] [9]) (.q .o (.j [(0, 3000000, .box true [.v (.slc 5 (.int .u8)), .v (.int .i64), .v (.int .u64)]), (1, 100064, .v .str)] (.e [] [10]) (.e [] [8])))))))))) .o))))) .o))
theorem spec_l1Cur_spoilt_run (k : Nat) (p0 : ((List Int) × Int × Int × Unit)) (p1 : ByteArray) (p2 : ByteArray) : funX Tryz.prog (callT [spec_l1Cur_pick_c k]) k Tryz.f90 spec_l1Cur_spoilt_a [.box true [.v (.slc 5 (.int .u8)), .v (.int .i64), .v (.int .u64)], .v .str, .v .str] [.v .str] (p0, p1, p2, ()) = spec_l1Cur_spoilt_f k p0 p1 p2 := by kernel_rfl
noncomputable def spec_l1Cur_spoilt_c (k : Nat) : Con := ⟨90, [.box true [.v (.slc 5 (.int .u8)), .v (.int .i64), .v (.int .u64)], .v .str, .v .str], [.v .str], fun x => spec_l1Cur_spoilt_f k x.1 x.2.1 x.2.2.1⟩
theorem spec_l1Cur_spoilt_ok (k : Nat) : (spec_l1Cur_spoilt_c k).Sound Tryz.prog GL := con_ok (k := k) (fn := Tryz.f90) (A := spec_l1Cur_spoilt_a) (C := callT [spec_l1Cur_pick_c k]) Tryz.func90 (by kernel_rfl) (show Tryz.f90.body = some (bodyX Tryz.f90) by rfl) (fun X hX => callT_at (TableOk.cons (spec_l1Cur_pick_ok k) TableOk.nil) X hX) (Nat.le_of_ble_eq_true (by kernel_rfl)) (fun ⟨p0, p1, p2, _⟩ y h => by rw [← h]; exact spec_l1Cur_spoilt_run k p0 p1 p2)
noncomputable def spec_DrawParseBasket_f (k : Nat) (p0 : (List Int)) : Option ((ByteArray × Unit) × Unit) :=
  (Option.bind (spec_l1Cur_basket_f k (p0, 0, 0, ()) 4) (fun y9 => (Option.bind (spec_laText_f k y9.1.1) (fun y10 => (Option.bind (spec_l1Cur_one_f k (y9.2.1.1, y9.2.1.2.1, y9.2.1.2.2.1, ()) 3) (fun y12 => (cond y12.1.1 (Option.bind (spec_l1Cur_spoilt_f k (y12.2.1.1, y12.2.1.2.1, y12.2.1.2.2.1, ()) y10.1.1 (lit [48, 49, 50, 51, 46, 45, 120])) (fun y15 => (some ((y15.1.1, ()), ())))) (some ((y10.1.1, ()), ())))))))))
noncomputable def spec_DrawParseBasket_a : Ann := .o
theorem spec_DrawParseBasket_run (k : Nat) (p0 : (List Int)) : funX Tryz.prog (callT [spec_l1Cur_basket_c k, spec_laText_c k, spec_l1Cur_one_c k, spec_l1Cur_spoilt_c k]) k Tryz.f58 spec_DrawParseBasket_a [.v (.slc 5 (.int .u8))] [.v .str] (p0, ()) = spec_DrawParseBasket_f k p0 := by kernel_rfl
noncomputable def spec_DrawParseBasket_c (k : Nat) : Con := ⟨58, [.v (.slc 5 (.int .u8))], [.v .str], fun x => spec_DrawParseBasket_f k x.1⟩
theorem spec_DrawParseBasket_ok (k : Nat) : (spec_DrawParseBasket_c k).Sound Tryz.prog GL := con_ok (k := k) (fn := Tryz.f58) (A := spec_DrawParseBasket_a) (C := callT [spec_l1Cur_basket_c k, spec_laText_c k, spec_l1Cur_one_c k, spec_l1Cur_spoilt_c k]) Tryz.func58 (by kernel_rfl) (show Tryz.f58.body = some (bodyX Tryz.f58) by rfl) (fun X hX => callT_at (TableOk.cons (spec_l1Cur_basket_ok k) (TableOk.cons (spec_laText_ok k) (TableOk.cons (spec_l1Cur_one_ok k) (TableOk.cons (spec_l1Cur_spoilt_ok k) TableOk.nil)))) X hX) (Nat.le_of_ble_eq_true (by kernel_rfl)) (fun ⟨p0, _⟩ y h => by rw [← h]; exact spec_DrawParseBasket_run k p0)
noncomputable def strings_SplitN_f (k : Nat) (p0 : ByteArray) (p1 : ByteArray) (p2 : Int) : Option (((List ByteArray) × Unit) × Unit) := (splitNL p0 p1 p2).map fun l => ((l, ()), ())
noncomputable def strings_SplitN_c (k : Nat) : Con := ⟨132, [.v .str, .v .str, .v (.int .i64)], [.own false 9 .str], fun x => (splitNL x.1 x.2.1 x.2.2.1).map fun l => ((l, ()), ())⟩
theorem strings_SplitN_ok (k : Nat) : (strings_SplitN_c k).Sound Tryz.prog GL := splitN_leaf (k := 0) (by decide) ⟨Tryz.f132, Tryz.func132, by kernel_rfl, by rfl⟩ (fun s sep n m w h1 h2 h3 h4 h5 => lay_strings_SplitN s sep n m w h1 h2 h3 h4 h5)
noncomputable def strings_Trim_f (k : Nat) (p0 : ByteArray) (p1 : ByteArray) : Option ((ByteArray × Unit) × Unit) := (trimL p0 p1).map fun y => (y, ())
noncomputable def strings_Trim_c (k : Nat) : Con := ⟨85, [.v .str, .v .str], [.v .str], fun x => (trimL x.1 x.2.1).map fun y => (y, ())⟩
theorem strings_Trim_ok (k : Nat) : (strings_Trim_c k).Sound Tryz.prog GL := trim_leaf ⟨Tryz.f85, Tryz.func85, by kernel_rfl, by rfl⟩ (fun s c w h1 h2 h3 => lay_strings_Trim_laid s c w h1 h2 h3)
noncomputable def strconv_Atoi_f (k : Nat) (p0 : ByteArray) : Option ((Int × Unit × Unit) × Unit) := (atoiL p0).map fun y => (y, ())
noncomputable def strconv_Atoi_c (k : Nat) : Con := ⟨128, [.v .str], [.v (.int .i64), .nilI], fun x => (atoiL x.1).map fun y => (y, ())⟩
theorem strconv_Atoi_ok (k : Nat) : (strconv_Atoi_c k).Sound Tryz.prog GL := atoi_leaf (t := 5) ⟨Tryz.f128, Tryz.func128, by kernel_rfl, by rfl⟩ (fun s h1 v h2 w => lay_strconv_Atoi_ok s h1 v h2 w)
noncomputable def impl_number_f (k : Nat) (p0 : ByteArray) (p1 : Int) : Option ((Int × Bool × Unit) × Unit) :=
  (met (Option.bind (impl_within_f k ((ByteArray.size p0 : Nat) : Int) 1 p1) (fun y11 => (cond (!y11.1.1) (some (.inl (true, ()))) (Option.bind (strings_Trim_f k p0 (lit [48, 49, 50, 51, 52, 53, 54, 55, 56, 57])) (fun y15 => (cond (!(y15.1.1.toList == ByteArray.empty.toList)) (some (.inl (true, ()))) (chk (decide ((0 : Int) < ((ByteArray.size p0 : Nat) : Int))) (cond ((byteAt p0 0) == 48) (some (.inl ((decide (((ByteArray.size p0 : Nat) : Int) > 1)), ()))) (some (.inl (false, ()))))))))))) (fun j1 => (cond j1.1 (some ((0, false, ()), ())) (Option.bind (strconv_Atoi_f k p0) (fun y30 => (some ((y30.1.1, true, ()), ())))))))
noncomputable def impl_number_a : Ann := (.q .o (.q (.q (.r [(27, 101728, .v .bool)]) .o) (.q .o (.q (.e [] [4]) .o))))
theorem impl_number_run (k : Nat) (p0 : ByteArray) (p1 : Int) : funX Tryz.prog (callT [impl_within_c k, strings_Trim_c k, strconv_Atoi_c k]) k Tryz.f87 impl_number_a [.v .str, .v (.int .i64)] [.v (.int .i64), .v .bool] (p0, p1, ()) = impl_number_f k p0 p1 := by kernel_rfl
noncomputable def impl_number_c (k : Nat) : Con := ⟨87, [.v .str, .v (.int .i64)], [.v (.int .i64), .v .bool], fun x => impl_number_f k x.1 x.2.1⟩
theorem impl_number_ok (k : Nat) : (impl_number_c k).Sound Tryz.prog GL := con_ok (k := k) (fn := Tryz.f87) (A := impl_number_a) (C := callT [impl_within_c k, strings_Trim_c k, strconv_Atoi_c k]) Tryz.func87 (by kernel_rfl) (show Tryz.f87.body = some (bodyX Tryz.f87) by rfl) (fun X hX => callT_at (TableOk.cons (impl_within_ok k) (TableOk.cons (strings_Trim_ok k) (TableOk.cons (strconv_Atoi_ok k) TableOk.nil))) X hX) (Nat.le_of_ble_eq_true (by kernel_rfl)) (fun ⟨p0, p1, _⟩ y h => by rw [← h]; exact impl_number_run k p0 p1)
noncomputable def impl_parted_l1_b (k : Nat) (y18 : (((List ByteArray) × Unit) × Unit)) (rec : (List Int) → (List ByteArray) → Int → Option (((List Int) × Unit) ⊕ (((List Int) × Bool × Unit) × Unit))) (x9 : (List Int)) (x24 : (List ByteArray)) (x26 : Int) : Option (((List Int) × Unit) ⊕ (((List Int) × Bool × Unit) × Unit)) :=
  (cond (decide (x26 < ((List.length y18.1.1 : Nat) : Int))) (ixk x26 (List.length x24) (Option.bind (impl_number_f k (rdG ByteArray.empty x24 x26) 2) (fun y32 => (cond (!y32.1.2.1) (some (.inr (([], false, ()), ()))) (chk (decide (List.length x9 + List.length [y32.1.1] ≤ 15637498706147)) (rec (x9 ++ [y32.1.1]) x24 (iw (x26 + 1)))))))) (some (.inl (x9, ()))))
noncomputable def impl_parted_l1 (k : Nat) (y18 : (((List ByteArray) × Unit) × Unit)) (x9 : (List Int)) (x24 : (List ByteArray)) (x26 : Int) : Option (((List Int) × Unit) ⊕ (((List Int) × Bool × Unit) × Unit)) := iter k (fun (rec : ((List Int) × (List ByteArray) × Int × Unit) → Option (((List Int) × Unit) ⊕ (((List Int) × Bool × Unit) × Unit))) (x : ((List Int) × (List ByteArray) × Int × Unit)) => impl_parted_l1_b k y18 (fun x9 x24 x26 => rec (x9, x24, x26, ())) x.1 x.2.1 x.2.2.1) (x9, x24, x26, ())
noncomputable def impl_parted_f (k : Nat) (p0 : ByteArray) (p1 : ByteArray) (p2 : Int) : Option (((List Int) × Bool × Unit) × Unit) :=
  (Option.bind (strings_SplitN_f k p0 p1 (iw (p2 + 1))) (fun y18 => (cond (decide (((List.length y18.1.1 : Nat) : Int) > p2)) (some (([], false, ()), ())) (met (impl_parted_l1 k y18 [] y18.1.1 0) (fun j2 => (some ((j2.1, true, ()), ())))))))
noncomputable def impl_parted_a : Ann := (.q .o (.q .o (.q .o (.q .o (.q (.q .o (.m [(9, 100576, .own false 3 (.int .i64))] (.l [(9, 100576, .own false 3 (.int .i64)), (24, 101536, .v (.slc 9 .str)), (26, 101664, .v (.int .i64))] .o))) .o)))))
theorem impl_parted_run (k : Nat) (p0 : ByteArray) (p1 : ByteArray) (p2 : Int) : funX Tryz.prog (callT [strings_SplitN_c k, impl_number_c k]) k Tryz.f112 impl_parted_a [.v .str, .v .str, .v (.int .i64)] [.own false 3 (.int .i64), .v .bool] (p0, p1, p2, ()) = impl_parted_f k p0 p1 p2 := by kernel_rfl
noncomputable def impl_parted_c (k : Nat) : Con := ⟨112, [.v .str, .v .str, .v (.int .i64)], [.own false 3 (.int .i64), .v .bool], fun x => impl_parted_f k x.1 x.2.1 x.2.2.1⟩
theorem impl_parted_ok (k : Nat) : (impl_parted_c k).Sound Tryz.prog GL := con_ok (k := k) (fn := Tryz.f112) (A := impl_parted_a) (C := callT [strings_SplitN_c k, impl_number_c k]) Tryz.func112 (by kernel_rfl) (show Tryz.f112.body = some (bodyX Tryz.f112) by rfl) (fun X hX => callT_at (TableOk.cons (strings_SplitN_ok k) (TableOk.cons (impl_number_ok k) TableOk.nil)) X hX) (Nat.le_of_ble_eq_true (by kernel_rfl)) (fun ⟨p0, p1, p2, _⟩ y h => by rw [← h]; exact impl_parted_run k p0 p1 p2)
noncomputable def impl_ParseBasket_f (k : Nat) (p0 : ByteArray) : Option (((List Int) × Bool × Unit) × Unit) :=
  (cond (p0.toList == (lit [45]).toList) (some (([], true, ()), ())) (Option.bind (impl_parted_f k p0 (lit [46]) 40) (fun y11 => (met (cond (!y11.1.2.1) (some (.inl (y11.1.1, true, ()))) (Option.bind (impl_isBasket_f k 20 y11.1.1) (fun y18 => (some (.inl (y11.1.1, (!y18.1.1), ())))))) (fun j1 => (cond j1.2.1 (some (([], false, ()), ())) (some ((j1.1, true, ()), ()))))))))
noncomputable def impl_ParseBasket_a : Ann := (.q .o (.q .o (.q .o (.q (.q (.r [(4, 100256, .own false 3 (.int .i64)), (20, 101280, .v .bool)]) .o) .o))))
theorem impl_ParseBasket_run (k : Nat) (p0 : ByteArray) : funX Tryz.prog (callT [impl_parted_c k, impl_isBasket_c k]) k Tryz.f59 impl_ParseBasket_a [.v .str] [.own false 3 (.int .i64), .v .bool] (p0, ()) = impl_ParseBasket_f k p0 := by kernel_rfl
noncomputable def impl_ParseBasket_c (k : Nat) : Con := ⟨59, [.v .str], [.own false 3 (.int .i64), .v .bool], fun x => impl_ParseBasket_f k x.1⟩
theorem impl_ParseBasket_ok (k : Nat) : (impl_ParseBasket_c k).Sound Tryz.prog GL := con_ok (k := k) (fn := Tryz.f59) (A := impl_ParseBasket_a) (C := callT [impl_parted_c k, impl_isBasket_c k]) Tryz.func59 (by kernel_rfl) (show Tryz.f59.body = some (bodyX Tryz.f59) by rfl) (fun X hX => callT_at (TableOk.cons (impl_parted_ok k) (TableOk.cons (impl_isBasket_ok k) TableOk.nil)) X hX) (Nat.le_of_ble_eq_true (by kernel_rfl)) (fun ⟨p0, _⟩ y h => by rw [← h]; exact impl_ParseBasket_run k p0)
noncomputable def spec_l1Split_l1_b (k : Nat) (p0 : ByteArray) (p1 : Int) (rec : (List ByteArray) → Int → Int → Option (((List ByteArray) × Int × Unit) ⊕ (((List ByteArray) × Unit) × Unit))) (x5 : (List ByteArray)) (x6 : Int) (x7 : Int) : Option (((List ByteArray) × Int × Unit) ⊕ (((List ByteArray) × Unit) × Unit)) :=
  (cond (decide (x7 < ((ByteArray.size p0 : Nat) : Int))) (met (ixk x7 (ByteArray.size p0) (met (cond ((byteAt p0 x7) == p1) (chk (decide (0 ≤ x7)) (chk (decide (x7 ≤ ((ByteArray.size p0 : Nat) : Int))) (chk (decide (0 ≤ x6)) (chk (decide (x6 ≤ x7)) (chk (decide (List.length x5 + List.length [(ByteArray.extract p0 (Int.toNat x6) (Int.toNat x7))] ≤ 8278675785607)) (some (.inl ((x5 ++ [(ByteArray.extract p0 (Int.toNat x6) (Int.toNat x7))]), (iw (x7 + 1)), ())))))))) (some (.inl (x5, x6, ())))) (fun j2 => (some (.inl (j2.1, j2.2.1, ())))))) (fun j3 => (rec j3.1 j3.2.1 (iw (x7 + 1))))) (some (.inl (x5, x6, ()))))
noncomputable def spec_l1Split_l1 (k : Nat) (p0 : ByteArray) (p1 : Int) (x5 : (List ByteArray)) (x6 : Int) (x7 : Int) : Option (((List ByteArray) × Int × Unit) ⊕ (((List ByteArray) × Unit) × Unit)) := iter k (fun (rec : ((List ByteArray) × Int × Int × Unit) → Option (((List ByteArray) × Int × Unit) ⊕ (((List ByteArray) × Unit) × Unit))) (x : ((List ByteArray) × Int × Int × Unit)) => spec_l1Split_l1_b k p0 p1 (fun x5 x6 x7 => rec (x5, x6, x7, ())) x.1 x.2.1 x.2.2.1) (x5, x6, x7, ())
noncomputable def spec_l1Split_f (k : Nat) (p0 : ByteArray) (p1 : Int) : Option (((List ByteArray) × Unit) × Unit) :=
  (met (spec_l1Split_l1 k p0 p1 [] 0 0) (fun j4 => (chk (decide (0 ≤ j4.2.1)) (chk (decide (j4.2.1 ≤ ((ByteArray.size p0 : Nat) : Int))) (chk (decide (List.length j4.1 + List.length [(ByteArray.extract p0 (Int.toNat j4.2.1) (ByteArray.size p0))] ≤ 8278675785607)) (some (((j4.1 ++ [(ByteArray.extract p0 (Int.toNat j4.2.1) (ByteArray.size p0))]), ()), ())))))))
noncomputable def spec_l1Split_a : Ann := (.q .o (.q .o (.q .o (.q (.q .o (.m [(5, 100320, .own false 9 .str), (6, 100384, .v (.int .i64))] (.l [(5, 100320, .own false 9 .str), (6, 100384, .v (.int .i64)), (7, 100448, .v (.int .i64))] (.q .o (.q (.m [(5, 100320, .own false 9 .str), (6, 100384, .v (.int .i64))] (.q .o (.j [(5, 100320, .own false 9 .str), (6, 100384, .v (.int .i64))] .o .o))) .o))))) .o))))
theorem spec_l1Split_run (k : Nat) (p0 : ByteArray) (p1 : Int) : funX Tryz.prog (callT []) k Tryz.f133 spec_l1Split_a [.v .str, .v (.int .u8)] [.own false 9 .str] (p0, p1, ()) = spec_l1Split_f k p0 p1 := by kernel_rfl
noncomputable def spec_l1Split_c (k : Nat) : Con := ⟨133, [.v .str, .v (.int .u8)], [.own false 9 .str], fun x => spec_l1Split_f k x.1 x.2.1⟩
theorem spec_l1Split_ok (k : Nat) : (spec_l1Split_c k).Sound Tryz.prog GL := con_ok (k := k) (fn := Tryz.f133) (A := spec_l1Split_a) (C := callT []) Tryz.func133 (by kernel_rfl) (show Tryz.f133.body = some (bodyX Tryz.f133) by rfl) (fun X hX => callT_at TableOk.nil X hX) (Nat.le_of_ble_eq_true (by kernel_rfl)) (fun ⟨p0, p1, _⟩ y h => by rw [← h]; exact spec_l1Split_run k p0 p1)
noncomputable def spec_l1Read_l2_b (k : Nat) (p0 : ByteArray) (rec : Int → Int → Option ((Int × Unit) ⊕ ((Int × Unit) × Unit))) (x3 : Int) (x4 : Int) : Option ((Int × Unit) ⊕ ((Int × Unit) × Unit)) :=
  (cond (decide (x4 < ((ByteArray.size p0 : Nat) : Int))) (met (ixk x4 (ByteArray.size p0) (cond (decide ((byteAt p0 x4) < 48)) (some (.inl (true, ()))) (ixk x4 (ByteArray.size p0) (some (.inl ((decide ((byteAt p0 x4) > 57)), ())))))) (fun j3 => (cond j3.1 (some (.inr (((-1), ()), ()))) (ixk x4 (ByteArray.size p0) (rec (iw ((iw (10 * x3)) + (iw ((IntKind.wrap .u8 ((byteAt p0 x4) - 48)))))) (iw (x4 + 1))))))) (some (.inl (x3, ()))))
noncomputable def spec_l1Read_l2 (k : Nat) (p0 : ByteArray) (x3 : Int) (x4 : Int) : Option ((Int × Unit) ⊕ ((Int × Unit) × Unit)) := iter k (fun (rec : (Int × Int × Unit) → Option ((Int × Unit) ⊕ ((Int × Unit) × Unit))) (x : (Int × Int × Unit)) => spec_l1Read_l2_b k p0 (fun x3 x4 => rec (x3, x4, ())) x.1 x.2.1) (x3, x4, ())
noncomputable def spec_l1Read_f (k : Nat) (p0 : ByteArray) : Option ((Int × Unit) × Unit) :=
  (met (Option.bind (spec_l1In_f k ((ByteArray.size p0 : Nat) : Int) 1 6) (fun y7 => (cond (!y7.1.1) (some (.inl (true, ()))) (chk (decide ((0 : Int) < ((ByteArray.size p0 : Nat) : Int))) (cond ((byteAt p0 0) == 48) (some (.inl ((decide (((ByteArray.size p0 : Nat) : Int) > 1)), ()))) (some (.inl (false, ())))))))) (fun j1 => (cond j1.1 (some (((-1), ()), ())) (met (spec_l1Read_l2 k p0 0 0) (fun j4 => (some ((j4.1, ()), ())))))))
noncomputable def spec_l1Read_a : Ann := (.q .o (.q (.q (.r [(18, 101152, .v .bool)]) .o) (.q .o (.q (.q .o (.m [(3, 100192, .v (.int .i64))] (.l [(3, 100192, .v (.int .i64)), (4, 100256, .v (.int .i64))] (.q .o (.q (.b (.q (.q (.r [(34, 102176, .v .bool)]) .o) .o)) .o))))) .o))))
theorem spec_l1Read_run (k : Nat) (p0 : ByteArray) : funX Tryz.prog (callT [spec_l1In_c k]) k Tryz.f129 spec_l1Read_a [.v .str] [.v (.int .i64)] (p0, ()) = spec_l1Read_f k p0 := by kernel_rfl
noncomputable def spec_l1Read_c (k : Nat) : Con := ⟨129, [.v .str], [.v (.int .i64)], fun x => spec_l1Read_f k x.1⟩
theorem spec_l1Read_ok (k : Nat) : (spec_l1Read_c k).Sound Tryz.prog GL := con_ok (k := k) (fn := Tryz.f129) (A := spec_l1Read_a) (C := callT [spec_l1In_c k]) Tryz.func129 (by kernel_rfl) (show Tryz.f129.body = some (bodyX Tryz.f129) by rfl) (fun X hX => callT_at (TableOk.cons (spec_l1In_ok k) TableOk.nil) X hX) (Nat.le_of_ble_eq_true (by kernel_rfl)) (fun ⟨p0, _⟩ y h => by rw [← h]; exact spec_l1Read_run k p0)
noncomputable def spec_laParse_l1_b (k : Nat) (y13 : (((List ByteArray) × Unit) × Unit)) (rec : (List Int) → (List ByteArray) → Int → Option (((List Int) × Unit) ⊕ (((List Int) × Bool × Unit) × Unit))) (x4 : (List Int)) (x13 : (List ByteArray)) (x15 : Int) : Option (((List Int) × Unit) ⊕ (((List Int) × Bool × Unit) × Unit)) :=
  (cond (decide (x15 < ((List.length y13.1.1 : Nat) : Int))) (ixk x15 (List.length x13) (Option.bind (spec_l1Read_f k (rdG ByteArray.empty x13 x15)) (fun y21 => (chk (decide (List.length x4 + List.length [y21.1.1] ≤ 15637498706147)) (rec (x4 ++ [y21.1.1]) x13 (iw (x15 + 1))))))) (some (.inl (x4, ()))))
noncomputable def spec_laParse_l1 (k : Nat) (y13 : (((List ByteArray) × Unit) × Unit)) (x4 : (List Int)) (x13 : (List ByteArray)) (x15 : Int) : Option (((List Int) × Unit) ⊕ (((List Int) × Bool × Unit) × Unit)) := iter k (fun (rec : ((List Int) × (List ByteArray) × Int × Unit) → Option (((List Int) × Unit) ⊕ (((List Int) × Bool × Unit) × Unit))) (x : ((List Int) × (List ByteArray) × Int × Unit)) => spec_laParse_l1_b k y13 (fun x4 x13 x15 => rec (x4, x13, x15, ())) x.1 x.2.1 x.2.2.1) (x4, x13, x15, ())
noncomputable def spec_laParse_f (k : Nat) (p0 : ByteArray) : Option (((List Int) × Bool × Unit) × Unit) :=
  (cond (p0.toList == (lit [45]).toList) (some (([], true, ()), ())) (cond (decide (((ByteArray.size p0 : Nat) : Int) > 120)) (some (([], false, ()), ())) (Option.bind (spec_l1Split_f k p0 46) (fun y13 => (met (spec_laParse_l1 k y13 [] y13.1.1 0) (fun j2 => (Option.bind (spec_laIs_f k 20 j2.1) (fun y26 => (cond (!y26.1.1) (some (([], false, ()), ())) (some ((j2.1, true, ()), ())))))))))))
noncomputable def spec_laParse_a : Ann := (.q .o (.q .o (.q .o (.q .o (.q (.q .o (.m [(4, 100256, .own false 3 (.int .i64))] (.l [(4, 100256, .own false 3 (.int .i64)), (13, 100832, .v (.slc 9 .str)), (15, 100960, .v (.int .i64))] .o))) .o)))))
theorem spec_laParse_run (k : Nat) (p0 : ByteArray) : funX Tryz.prog (callT [spec_l1Split_c k, spec_l1Read_c k, spec_laIs_c k]) k Tryz.f113 spec_laParse_a [.v .str] [.own false 3 (.int .i64), .v .bool] (p0, ()) = spec_laParse_f k p0 := by kernel_rfl
noncomputable def spec_laParse_c (k : Nat) : Con := ⟨113, [.v .str], [.own false 3 (.int .i64), .v .bool], fun x => spec_laParse_f k x.1⟩
theorem spec_laParse_ok (k : Nat) : (spec_laParse_c k).Sound Tryz.prog GL := con_ok (k := k) (fn := Tryz.f113) (A := spec_laParse_a) (C := callT [spec_l1Split_c k, spec_l1Read_c k, spec_laIs_c k]) Tryz.func113 (by kernel_rfl) (show Tryz.f113.body = some (bodyX Tryz.f113) by rfl) (fun X hX => callT_at (TableOk.cons (spec_l1Split_ok k) (TableOk.cons (spec_l1Read_ok k) (TableOk.cons (spec_laIs_ok k) TableOk.nil))) X hX) (Nat.le_of_ble_eq_true (by kernel_rfl)) (fun ⟨p0, _⟩ y h => by rw [← h]; exact spec_laParse_run k p0)
noncomputable def spec_ParseBasket_f (k : Nat) (p0 : ByteArray) : Option (((List Int) × Bool × Unit) × Unit) :=
  (Option.bind (spec_laParse_f k p0) (fun y5 => (some ((y5.1.1, y5.1.2.1, ()), ()))))
noncomputable def spec_ParseBasket_a : Ann := .o
theorem spec_ParseBasket_run (k : Nat) (p0 : ByteArray) : funX Tryz.prog (callT [spec_laParse_c k]) k Tryz.f60 spec_ParseBasket_a [.v .str] [.own false 3 (.int .i64), .v .bool] (p0, ()) = spec_ParseBasket_f k p0 := by kernel_rfl
noncomputable def spec_ParseBasket_c (k : Nat) : Con := ⟨60, [.v .str], [.own false 3 (.int .i64), .v .bool], fun x => spec_ParseBasket_f k x.1⟩
theorem spec_ParseBasket_ok (k : Nat) : (spec_ParseBasket_c k).Sound Tryz.prog GL := con_ok (k := k) (fn := Tryz.f60) (A := spec_ParseBasket_a) (C := callT [spec_laParse_c k]) Tryz.func60 (by kernel_rfl) (show Tryz.f60.body = some (bodyX Tryz.f60) by rfl) (fun X hX => callT_at (TableOk.cons (spec_laParse_ok k) TableOk.nil) X hX) (Nat.le_of_ble_eq_true (by kernel_rfl)) (fun ⟨p0, _⟩ y h => by rw [← h]; exact spec_ParseBasket_run k p0)
noncomputable def laws_FnLaundryBaskets_l4_b (k : Nat) (y74 : ((Int × (List Int) × Unit) × Unit)) (x23 : Int) (rec : Int → Int → Option ((Int × Unit) ⊕ (Unit ⊕ (Unit ⊕ (Unit ⊕ ((Bool × Unit) × Unit)))))) (x24 : Int) (x228 : Int) : Option ((Int × Unit) ⊕ (Unit ⊕ (Unit ⊕ (Unit ⊕ ((Bool × Unit) × Unit))))) :=
  (cond (decide (x228 < ((List.length y74.1.2.1 : Nat) : Int))) (met (ixk x228 (List.length y74.1.2.1) (met (cond ((rd y74.1.2.1 x228) == x23) (some (.inl ((iw (x24 + 1)), ()))) (some (.inl (x24, ())))) (fun j5 => (some (.inl (j5.1, ())))))) (fun j6 => (rec j6.1 (iw (x228 + 1))))) (some (.inl (x24, ()))))
noncomputable def laws_FnLaundryBaskets_l4 (k : Nat) (y74 : ((Int × (List Int) × Unit) × Unit)) (x23 : Int) (x24 : Int) (x228 : Int) : Option ((Int × Unit) ⊕ (Unit ⊕ (Unit ⊕ (Unit ⊕ ((Bool × Unit) × Unit))))) := iter k (fun (rec : (Int × Int × Unit) → Option ((Int × Unit) ⊕ (Unit ⊕ (Unit ⊕ (Unit ⊕ ((Bool × Unit) × Unit)))))) (x : (Int × Int × Unit)) => laws_FnLaundryBaskets_l4_b k y74 x23 (fun x24 x228 => rec (x24, x228, ())) x.1 x.2.1) (x24, x228, ())
noncomputable def laws_FnLaundryBaskets_l3_b (k : Nat) (y74 : ((Int × (List Int) × Unit) × Unit)) (y80 : (((List Int) × Bool × Unit) × Unit)) (y92 : (((List Int) × Bool × Unit) × Unit)) (y104 : (((List Int) × Bool × Unit) × Unit)) (rec : Int → Option (Unit ⊕ (Unit ⊕ ((Bool × Unit) × Unit)))) (x23 : Int) : Option (Unit ⊕ (Unit ⊕ ((Bool × Unit) × Unit))) :=
  (cond (decide (x23 < y74.1.1)) (met (met (laws_FnLaundryBaskets_l4 k y74 x23 0 0) (fun j7 => (met (Option.bind (laws_zHas_f k y80.1.1 x23) (fun y240 => (cond (!(y240.1.1 == (j7.1 == 2))) (some (.inl (true, ()))) (Option.bind (laws_zHas_f k y92.1.1 x23) (fun y247 => (cond (!(y247.1.1 == (j7.1 == 1))) (some (.inl (true, ()))) (Option.bind (laws_zHas_f k y104.1.1 x23) (fun y255 => (some (.inl ((!(y255.1.1 == (j7.1 == 0))), ()))))))))))) (fun j8 => (cond j8.1 (some (.inr (.inr (.inr ((false, ()), ()))))) (some (.inl ()))))))) (fun j9 => (rec (iw (x23 + 1))))) (some (.inl ())))
noncomputable def laws_FnLaundryBaskets_l3 (k : Nat) (y74 : ((Int × (List Int) × Unit) × Unit)) (y80 : (((List Int) × Bool × Unit) × Unit)) (y92 : (((List Int) × Bool × Unit) × Unit)) (y104 : (((List Int) × Bool × Unit) × Unit)) (x23 : Int) : Option (Unit ⊕ (Unit ⊕ ((Bool × Unit) × Unit))) := iter k (fun (rec : (Int × Unit) → Option (Unit ⊕ (Unit ⊕ ((Bool × Unit) × Unit)))) (x : (Int × Unit)) => laws_FnLaundryBaskets_l3_b k y74 y80 y92 y104 (fun x23 => rec (x23, ())) x.1) (x23, ())
noncomputable def laws_FnLaundryBaskets_l15_b (k : Nat) (y303 : ((Int × (List Int) × Unit) × Unit)) (y309 : (((List Int) × Bool × Unit) × Unit)) (rec : Int → Option (Unit ⊕ (Unit ⊕ ((Bool × Unit) × Unit)))) (x62 : Int) : Option (Unit ⊕ (Unit ⊕ ((Bool × Unit) × Unit))) :=
  (cond (decide (x62 < ((List.length y309.1.1 : Nat) : Int))) (met (ixk x62 (List.length y309.1.1) (ixk (iw (x62 - 1)) (List.length y309.1.1) (cond (decide ((rd y309.1.1 x62) > (rd y309.1.1 (iw (x62 - 1))))) (some (.inl (true, ()))) (ixk x62 (List.length y309.1.1) (ixk (iw (x62 - 1)) (List.length y309.1.1) (cond (decide ((rd y309.1.1 x62) < (iw ((rd y309.1.1 (iw (x62 - 1))) - 1)))) (some (.inl (true, ()))) (ixk x62 (List.length y309.1.1) (ixk (iw (x62 - 1)) (List.length y309.1.1) (chk (decide (0 ≤ (iw (x62 - 1)))) (chk (decide ((iw (x62 - 1)) ≤ ((List.length y303.1.2.1 : Nat) : Int))) (ixk (iw (x62 - 1)) (List.length y303.1.2.1) (Option.bind (laws_zHas_f k (List.take (Int.toNat (iw (x62 - 1))) y303.1.2.1) (rd y303.1.2.1 (iw (x62 - 1)))) (fun y524 => (some (.inl ((!(((rd y309.1.1 x62) == (rd y309.1.1 (iw (x62 - 1)))) == y524.1.1)), ())))))))))))))))) (fun j16 => (cond j16.1 (some (.inr (.inr ((false, ()), ())))) (rec (iw (x62 + 1)))))) (some (.inl ())))
noncomputable def laws_FnLaundryBaskets_l15 (k : Nat) (y303 : ((Int × (List Int) × Unit) × Unit)) (y309 : (((List Int) × Bool × Unit) × Unit)) (x62 : Int) : Option (Unit ⊕ (Unit ⊕ ((Bool × Unit) × Unit))) := iter k (fun (rec : (Int × Unit) → Option (Unit ⊕ (Unit ⊕ ((Bool × Unit) × Unit)))) (x : (Int × Unit)) => laws_FnLaundryBaskets_l15_b k y303 y309 (fun x62 => rec (x62, ())) x.1) (x62, ())
noncomputable def laws_FnLaundryBaskets_f (k : Nat) (p0 : (List Int)) (p1 : (List Int)) : Option ((Bool × Unit) × Unit) :=
  (Option.bind (laws_big_f k p0 p1) (fun y71 => (cond y71.1.1 (some ((true, ()), ())) (Option.bind (spec_DrawCompleteIn_f k p0) (fun y74 => (Option.bind (impl_CompleteIn_f k y74.1.1 y74.1.2.1) (fun y80 => (Option.bind (spec_CompleteIn_f k y74.1.1 y74.1.2.1) (fun y86 => (Option.bind (impl_SinglesIn_f k y74.1.1 y74.1.2.1) (fun y92 => (Option.bind (spec_SinglesIn_f k y74.1.1 y74.1.2.1) (fun y98 => (Option.bind (impl_GoneFrom_f k y74.1.1 y74.1.2.1) (fun y104 => (Option.bind (spec_GoneFrom_f k y74.1.1 y74.1.2.1) (fun y110 => (Option.bind (impl_IsBasket_f k y74.1.1 y74.1.2.1) (fun y116 => (Option.bind (spec_IsBasket_f k y74.1.1 y74.1.2.1) (fun y122 => (met (cond (!(y80.1.2.1 == y86.1.2.1)) (some (.inl (true, ()))) (Option.bind (laws_zSame_f k y80.1.1 y86.1.1) (fun y131 => (cond (!y131.1.1) (some (.inl (true, ()))) (cond (!(y92.1.2.1 == y98.1.2.1)) (some (.inl (true, ()))) (Option.bind (laws_zSame_f k y92.1.1 y98.1.1) (fun y142 => (cond (!y142.1.1) (some (.inl (true, ()))) (cond (!(y104.1.2.1 == y110.1.2.1)) (some (.inl (true, ()))) (Option.bind (laws_zSame_f k y104.1.1 y110.1.1) (fun y153 => (cond (!y153.1.1) (some (.inl (true, ()))) (cond (!(y116.1.2.1 == y122.1.2.1)) (some (.inl (true, ()))) (cond (!(y116.1.1 == y122.1.1)) (some (.inl (true, ()))) (cond y116.1.2.1 (cond (!(y80.1.2.1 == y116.1.1)) (some (.inl (true, ()))) (cond (!(y92.1.2.1 == y80.1.2.1)) (some (.inl (true, ()))) (some (.inl ((!(y104.1.2.1 == y80.1.2.1)), ()))))) (cond (!(y80.1.2.1 == false)) (some (.inl (true, ()))) (cond (!(y92.1.2.1 == y80.1.2.1)) (some (.inl (true, ()))) (some (.inl ((!(y104.1.2.1 == y80.1.2.1)), ())))))))))))))))))))) (fun j1 => (cond j1.1 (some ((false, ()), ())) (met (cond y80.1.2.1 (met (Option.bind (laws_zRises_f k y80.1.1) (fun y186 => (cond (!y186.1.1) (some (.inl (true, ()))) (Option.bind (laws_zRises_f k y92.1.1) (fun y190 => (cond (!y190.1.1) (some (.inl (true, ()))) (Option.bind (laws_zRises_f k y104.1.1) (fun y195 => (cond (!y195.1.1) (some (.inl (true, ()))) (cond ((iw ((iw (((List.length y80.1.1 : Nat) : Int) + ((List.length y92.1.1 : Nat) : Int))) + ((List.length y104.1.1 : Nat) : Int))) != y74.1.1) (some (.inl (true, ()))) (some (.inl (((iw ((iw (2 * ((List.length y80.1.1 : Nat) : Int))) + ((List.length y92.1.1 : Nat) : Int))) != ((List.length y74.1.2.1 : Nat) : Int)), ()))))))))))))) (fun j2 => (cond j2.1 (some (.inr ((false, ()), ()))) (met (laws_FnLaundryBaskets_l3 k y74 y80 y92 y104 0) (fun j10 => (Option.bind (impl_BasketAfter_f k y74.1.1 []) (fun y262 => (Option.bind (impl_BasketAfter_f k y74.1.1 y74.1.2.1) (fun y268 => (Option.bind (impl_JoinBaskets_f k y74.1.1 y74.1.2.1 y268.1.1) (fun y275 => (met (cond (!y262.1.2.1) (some (.inl (true, ()))) (cond (((List.length y262.1.1 : Nat) : Int) != (iw (2 * y74.1.1))) (some (.inl (true, ()))) (cond (!y268.1.2.1) (some (.inl (true, ()))) (cond (!y275.1.2.1) (some (.inl (true, ()))) (Option.bind (laws_zSame_f k y275.1.1 y262.1.1) (fun y298 => (some (.inl ((!y298.1.1), ()))))))))) (fun j11 => (cond j11.1 (some (.inr ((false, ()), ()))) (some (.inl ())))))))))))))))) (some (.inl ()))) (fun j12 => (Option.bind (spec_DrawCompleteAfter_f k p1) (fun y303 => (Option.bind (impl_CompleteAfter_f k y303.1.1 y303.1.2.1) (fun y309 => (Option.bind (spec_CompleteAfter_f k y303.1.1 y303.1.2.1) (fun y315 => (Option.bind (impl_BasketAfter_f k y303.1.1 y303.1.2.1) (fun y321 => (Option.bind (spec_BasketAfter_f k y303.1.1 y303.1.2.1) (fun y327 => (Option.bind (spec_DrawJoinBaskets_f k p1) (fun y332 => (Option.bind (impl_JoinBaskets_f k y332.1.1 y332.1.2.1 y332.1.2.2.1) (fun y340 => (Option.bind (spec_JoinBaskets_f k y332.1.1 y332.1.2.1 y332.1.2.2.1) (fun y347 => (Option.bind (spec_DrawBasketText_f k p1) (fun y351 => (Option.bind (impl_BasketText_f k y351.1.1) (fun y354 => (Option.bind (spec_BasketText_f k y351.1.1) (fun y359 => (Option.bind (spec_DrawParseBasket_f k p1) (fun y363 => (Option.bind (impl_ParseBasket_f k y363.1.1) (fun y366 => (Option.bind (spec_ParseBasket_f k y363.1.1) (fun y371 => (met (cond (!(y309.1.2.1 == y315.1.2.1)) (some (.inl (true, ()))) (Option.bind (laws_zSame_f k y309.1.1 y315.1.1) (fun y380 => (cond (!y380.1.1) (some (.inl (true, ()))) (cond (!(y321.1.2.1 == y327.1.2.1)) (some (.inl (true, ()))) (Option.bind (laws_zSame_f k y321.1.1 y327.1.1) (fun y391 => (cond (!y391.1.1) (some (.inl (true, ()))) (cond (!(y321.1.2.1 == y309.1.2.1)) (some (.inl (true, ()))) (cond (!(y340.1.2.1 == y347.1.2.1)) (some (.inl (true, ()))) (Option.bind (laws_zSame_f k y340.1.1 y347.1.1) (fun y407 => (cond (!y407.1.1) (some (.inl (true, ()))) (cond (!(y354.1.2.1 == y359.1.2.1)) (some (.inl (true, ()))) (cond (!(y354.1.1.toList == y359.1.1.toList)) (some (.inl (true, ()))) (cond (!(y366.1.2.1 == y371.1.2.1)) (some (.inl (true, ()))) (Option.bind (laws_zSame_f k y366.1.1 y371.1.1) (fun y428 => (some (.inl ((!y428.1.1), ()))))))))))))))))))))) (fun j13 => (cond j13.1 (some ((false, ()), ())) (met (cond y309.1.2.1 (Option.bind (impl_CompleteIn_f k y303.1.1 y321.1.1) (fun y435 => (met (cond (((List.length y309.1.1 : Nat) : Int) != (iw (((List.length y303.1.2.1 : Nat) : Int) + 1))) (some (.inl (true, ()))) (chk (decide ((0 : Int) < ((List.length y309.1.1 : Nat) : Int))) (cond ((rd y309.1.1 0) != y303.1.1) (some (.inl (true, ()))) (cond (!y435.1.2.1) (some (.inl (true, ()))) (ixk ((List.length y303.1.2.1 : Nat) : Int) (List.length y309.1.1) (cond (((List.length y435.1.1 : Nat) : Int) != (rd y309.1.1 ((List.length y303.1.2.1 : Nat) : Int))) (some (.inl (true, ()))) (some (.inl (((iw (((List.length y321.1.1 : Nat) : Int) + ((List.length y303.1.2.1 : Nat) : Int))) != (iw (2 * y303.1.1))), ()))))))))) (fun j14 => (cond j14.1 (some (.inr ((false, ()), ()))) (met (laws_FnLaundryBaskets_l15 k y303 y309 1) (fun j17 => (some (.inl ()))))))))) (some (.inl ()))) (fun j18 => (met (cond y340.1.2.1 (Option.bind (impl_JoinBaskets_f k y332.1.1 y332.1.2.2.1 y332.1.2.1) (fun y532 => (met (cond (((List.length y340.1.1 : Nat) : Int) != (iw (((List.length y332.1.2.1 : Nat) : Int) + ((List.length y332.1.2.2.1 : Nat) : Int)))) (some (.inl (true, ()))) (cond (!y532.1.2.1) (some (.inl (true, ()))) (Option.bind (laws_zSame_f k y532.1.1 y340.1.1) (fun y550 => (some (.inl ((!y550.1.1), ()))))))) (fun j19 => (cond j19.1 (some (.inr ((false, ()), ()))) (some (.inl ()))))))) (some (.inl ()))) (fun j20 => (met (cond y354.1.2.1 (Option.bind (impl_ParseBasket_f k y354.1.1) (fun y556 => (met (cond (!y556.1.2.1) (some (.inl (true, ()))) (Option.bind (laws_zSame_f k y556.1.1 y351.1.1) (fun y564 => (some (.inl ((!y564.1.1), ())))))) (fun j21 => (cond j21.1 (some (.inr ((false, ()), ()))) (some (.inl ()))))))) (some (.inl ()))) (fun j22 => (cond y366.1.2.1 (Option.bind (impl_BasketText_f k y366.1.1) (fun y570 => (met (cond y570.1.2.1 (some (.inl ((y570.1.1.toList == y363.1.1.toList), ()))) (some (.inl (false, ())))) (fun j23 => (some ((j23.1, ()), ())))))) (some ((true, ()), ()))))))))))))))))))))))))))))))))))))))))))))))))))))))))))))))))))
noncomputable def laws_FnLaundryBaskets_a : Ann := (.q .o (.q .o (.q .o (.q .o (.q .o (.q .o (.q .o (.q .o (.q .o (.q .o (.q .o (.q (.q (.z [6, 7, 9, 11, 13, 15, 17, 76, 79, 81, 85, 87, 91, 93, 97, 99, 103, 105, 109, 111, 115, 121] (.r [(183, 111712, .v .bool)])) .o) (.q (.q .o (.j [] (.q (.q (.r [(220, 114080, .v .bool)]) .o) (.q (.q .o (.m [] (.l [(23, 101472, .v (.int .i64))] (.q .o (.q (.m [] (.q .o (.q (.q .o (.m [(24, 101536, .v (.int .i64))] (.l [(24, 101536, .v (.int .i64)), (228, 114592, .v (.int .i64))] (.q .o (.q .o (.q (.m [(24, 101536, .v (.int .i64))] (.q .o (.q .o (.j [(24, 101536, .v (.int .i64))] .o .o)))) .o)))))) (.q (.r [(259, 116576, .v .bool)]) .o)))) .o))))) (.q .o (.q .o (.q .o (.q (.r [(300, 119200, .v .bool)]) .o)))))) .o)) (.q .o (.q .o (.q .o (.q .o (.q .o (.q .o (.q .o (.q .o (.q .o (.q .o (.q .o (.q .o (.q .o (.q .o (.q (.q (.z [34, 35, 37, 39, 41, 44, 45, 46, 48, 50, 56, 58, 305, 308, 310, 314, 316, 320, 322, 326, 328, 334, 335, 338, 339, 341, 345, 346, 348, 351, 353, 358, 367, 372] (.r [(430, 127520, .v .bool)])) .o) (.q (.q .o (.j [] (.q .o (.q (.q (.r [(474, 130336, .v .bool)]) .o) (.q .o (.m [] (.l [(62, 103968, .v (.int .i64))] (.q .o (.q (.b (.q (.f [] [(0, true), (1, true), (2, true), (3, true), (4, true), (5, true), (6, true), (7, true), (8, true), (9, true), (10, true), (11, true), (12, true), (13, true), (14, true), (15, true), (16, true), (17, true), (18, true), (19, true), (20, true), (21, true), (22, true), (23, true), (24, true), (25, true), (26, true), (27, true), (28, true), (29, true), (30, true), (31, true), (32, true), (33, true), (34, true), (35, true), (36, true), (37, true), (38, true), (39, true), (40, true), (41, true), (42, true), (43, false), (44, true), (45, true)] [(526, 133664, .v .bool)]) .o)) .o))))))) .o)) (.q (.q .o (.j [] (.q .o (.q (.r [(552, 135328, .v .bool)]) .o)) .o)) (.q (.q .o (.j [] (.q .o (.q (.r [(566, 136224, .v .bool)]) .o)) .o)) (.q (.q .o (.c (.q .o (.q (.r [(4, 100256, .v .bool)]) .o)) .o)) .o))))))))))))))))))))))))))))))))
theorem laws_FnLaundryBaskets_run (k : Nat) (p0 : (List Int)) (p1 : (List Int)) : funX Tryz.prog (callT [laws_big_c k, spec_DrawCompleteIn_c k, impl_CompleteIn_c k, spec_CompleteIn_c k, impl_SinglesIn_c k, spec_SinglesIn_c k, impl_GoneFrom_c k, spec_GoneFrom_c k, impl_IsBasket_c k, spec_IsBasket_c k, laws_zSame_c k, laws_zRises_c k, laws_zHas_c k, impl_BasketAfter_c k, impl_JoinBaskets_c k, spec_DrawCompleteAfter_c k, impl_CompleteAfter_c k, spec_CompleteAfter_c k, spec_BasketAfter_c k, spec_DrawJoinBaskets_c k, spec_JoinBaskets_c k, spec_DrawBasketText_c k, impl_BasketText_c k, spec_BasketText_c k, spec_DrawParseBasket_c k, impl_ParseBasket_c k, spec_ParseBasket_c k]) k Tryz.f4 laws_FnLaundryBaskets_a [.v (.slc 5 (.int .u8)), .v (.slc 5 (.int .u8))] [.v .bool] (p0, p1, ()) = laws_FnLaundryBaskets_f k p0 p1 := by kernel_rfl
noncomputable def laws_FnLaundryBaskets_c (k : Nat) : Con := ⟨4, [.v (.slc 5 (.int .u8)), .v (.slc 5 (.int .u8))], [.v .bool], fun x => laws_FnLaundryBaskets_f k x.1 x.2.1⟩
theorem laws_FnLaundryBaskets_ok (k : Nat) : (laws_FnLaundryBaskets_c k).Sound Tryz.prog GL := con_ok (k := k) (fn := Tryz.f4) (A := laws_FnLaundryBaskets_a) (C := callT [laws_big_c k, spec_DrawCompleteIn_c k, impl_CompleteIn_c k, spec_CompleteIn_c k, impl_SinglesIn_c k, spec_SinglesIn_c k, impl_GoneFrom_c k, spec_GoneFrom_c k, impl_IsBasket_c k, spec_IsBasket_c k, laws_zSame_c k, laws_zRises_c k, laws_zHas_c k, impl_BasketAfter_c k, impl_JoinBaskets_c k, spec_DrawCompleteAfter_c k, impl_CompleteAfter_c k, spec_CompleteAfter_c k, spec_BasketAfter_c k, spec_DrawJoinBaskets_c k, spec_JoinBaskets_c k, spec_DrawBasketText_c k, impl_BasketText_c k, spec_BasketText_c k, spec_DrawParseBasket_c k, impl_ParseBasket_c k, spec_ParseBasket_c k]) Tryz.func4 (by kernel_rfl) (show Tryz.f4.body = some (bodyX Tryz.f4) by rfl) (fun X hX => callT_at (TableOk.cons (laws_big_ok k) (TableOk.cons (spec_DrawCompleteIn_ok k) (TableOk.cons (impl_CompleteIn_ok k) (TableOk.cons (spec_CompleteIn_ok k) (TableOk.cons (impl_SinglesIn_ok k) (TableOk.cons (spec_SinglesIn_ok k) (TableOk.cons (impl_GoneFrom_ok k) (TableOk.cons (spec_GoneFrom_ok k) (TableOk.cons (impl_IsBasket_ok k) (TableOk.cons (spec_IsBasket_ok k) (TableOk.cons (laws_zSame_ok k) (TableOk.cons (laws_zRises_ok k) (TableOk.cons (laws_zHas_ok k) (TableOk.cons (impl_BasketAfter_ok k) (TableOk.cons (impl_JoinBaskets_ok k) (TableOk.cons (spec_DrawCompleteAfter_ok k) (TableOk.cons (impl_CompleteAfter_ok k) (TableOk.cons (spec_CompleteAfter_ok k) (TableOk.cons (spec_BasketAfter_ok k) (TableOk.cons (spec_DrawJoinBaskets_ok k) (TableOk.cons (spec_JoinBaskets_ok k) (TableOk.cons (spec_DrawBasketText_ok k) (TableOk.cons (impl_BasketText_ok k) (TableOk.cons (spec_BasketText_ok k) (TableOk.cons (spec_DrawParseBasket_ok k) (TableOk.cons (impl_ParseBasket_ok k) (TableOk.cons (spec_ParseBasket_ok k) TableOk.nil))))))))))))))))))))))))))) X hX) (Nat.le_of_ble_eq_true (by kernel_rfl)) (fun ⟨p0, p1, _⟩ y h => by rw [← h]; exact laws_FnLaundryBaskets_run k p0 p1)
end Go.Proofs.YtjdglbkjdfidoaaGreatDoorV.Law
