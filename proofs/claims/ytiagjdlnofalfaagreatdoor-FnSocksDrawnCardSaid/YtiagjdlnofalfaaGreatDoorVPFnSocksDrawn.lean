/- The functions that a law reaches, as plain Lean functions; each is what the run of its code comes to. Printed by a program of this session. Conditions: none. -/
import Derived.Test.YtiagjdlnofalfaaGreatDoorVaiNice
import Derived.Test.YtiagjdlnofalfaaGreatDoorVaiText
import Derived.Shelf.LaysM
import Derived.Shelf.Strconv.Itoa3
import Derived.Shelf.Strings.OnBuilder
import Derived.Lib.CountLaws
import Derived.Shelf.Strings.Split
import Derived.Lib.SplitLaws
import Derived.Shelf.Strings.SlTrimAscii
import Derived.Lib.AtoiErrMem
import Derived.Shelf.LaysC
import Derived.Shelf.Strconv.AtoiAll
import Derived.Test.YtiagjdlnofalfaaGreatDoorProg
import Derived.KernelRfl
namespace Go.Proofs.YtiagjdlnofalfaaGreatDoorV.Law
set_option linter.unusedSimpArgs false
open Go.Proofs Go.Proofs.YtiagjdlnofalfaaGreatDoorV
open Go.Shelf Go.Sort Go.RowKit Go.Lib
set_option maxRecDepth 1000000
set_option linter.unusedVariables false
abbrev GL : List Nat := [1]
def lay_lays171_ren : Go.Shelf.Ren := ⟨fun | 171 => 71 | 243 => 81 | 246 => 89 | 283 => 104 | 284 => 105 | 285 => 106 | 286 => 107 | 129 => 123 | 317 => 122 | 318 => 124 | 319 => 125 | 320 => 126 | 337 => 137 | 338 => 138 | n => n, fun | 3 => 3 | 9 => 9 | 2 => 2 | 4 => 4 | 171 => 104 | 0 => 0 | 53 => 54 | 37 => 22 | 5 => 5 | 173 => 107 | 212 => 124 | 51 => 125 | 20 => 20 | 213 => 126 | 46 => 80 | 232 => 148 | 233 => 149 | n => n, fun | 17 => 0 | 18 => 6 | 19 => 7 | n => n⟩
theorem lay_lays171 : Go.Proofs.Lays.n171 Tryz.prog lay_lays171_ren := {
  mixed := by kernel_rfl
  f129 := Tryz.func123.trans (congrArg some (by kernel_rfl))
  f171 := Tryz.func71.trans (congrArg some (by kernel_rfl))
  f243 := Tryz.func81.trans (congrArg some (by kernel_rfl))
  f246 := Tryz.func89.trans (congrArg some (by kernel_rfl))
  f283 := Tryz.func104.trans (congrArg some (by kernel_rfl))
  f284 := Tryz.func105.trans (congrArg some (by kernel_rfl))
  f285 := Tryz.func106.trans (congrArg some (by kernel_rfl))
  f286 := Tryz.func107.trans (congrArg some (by kernel_rfl))
  f317 := Tryz.func122.trans (congrArg some (by kernel_rfl))
  f318 := Tryz.func124.trans (congrArg some (by kernel_rfl))
  f319 := Tryz.func125.trans (congrArg some (by kernel_rfl))
  f320 := Tryz.func126.trans (congrArg some (by kernel_rfl))
  f337 := Tryz.func137.trans (congrArg some (by kernel_rfl))
  f338 := Tryz.func138.trans (congrArg some (by kernel_rfl))
  t0 := Tryz.underlying0
  a0 := Tryz.isAgg0
  z0 := Tryz.sizeOf0
  v0 := Tryz.zeroValue0
  t2 := Tryz.underlying2
  a2 := Tryz.isAgg2
  z2 := Tryz.sizeOf2
  v2 := Tryz.zeroValue2
  t3 := Tryz.underlying3
  a3 := Tryz.isAgg3
  z3 := Tryz.sizeOf3
  v3 := Tryz.zeroValue3
  t4 := Tryz.underlying4
  a4 := Tryz.isAgg4
  z4 := Tryz.sizeOf4
  v4 := Tryz.zeroValue4
  t5 := Tryz.underlying5
  a5 := Tryz.isAgg5
  z5 := Tryz.sizeOf5
  v5 := Tryz.zeroValue5
  t9 := Tryz.underlying9
  a9 := Tryz.isAgg9
  z9 := Tryz.sizeOf9
  v9 := Tryz.zeroValue9
  t20 := Tryz.underlying20
  a20 := Tryz.isAgg20
  z20 := Tryz.sizeOf20
  v20 := Tryz.zeroValue20
  t37 := Tryz.underlying22
  a37 := Tryz.isAgg22
  z37 := Tryz.sizeOf22
  v37 := Tryz.zeroValue22
  t46 := Tryz.underlying80
  a46 := Tryz.isAgg80
  z46 := Tryz.sizeOf80
  v46 := Tryz.zeroValue80
  t51 := Tryz.underlying125
  a51 := Tryz.isAgg125
  z51 := Tryz.sizeOf125
  v51 := Tryz.zeroValue125
  t53 := Tryz.underlying54
  a53 := Tryz.isAgg54
  z53 := Tryz.sizeOf54
  v53 := Tryz.zeroValue54
  t171 := Tryz.underlying104
  a171 := Tryz.isAgg104
  z171 := Tryz.sizeOf104
  v171 := Tryz.zeroValue104
  t173 := Tryz.underlying107
  a173 := Tryz.isAgg107
  z173 := Tryz.sizeOf107
  v173 := Tryz.zeroValue107
  t212 := Tryz.underlying124
  a212 := Tryz.isAgg124
  z212 := Tryz.sizeOf124
  v212 := Tryz.zeroValue124
  t213 := Tryz.underlying126
  a213 := Tryz.isAgg126
  z213 := Tryz.sizeOf126
  t232 := Tryz.underlying148
  a232 := Tryz.isAgg148
  z232 := Tryz.sizeOf148
  v232 := Tryz.zeroValue148
  t233 := Tryz.underlying149
  a233 := Tryz.isAgg149
  z233 := Tryz.sizeOf149
  v233 := Tryz.zeroValue149
  g17 := by kernel_rfl
  g18 := by kernel_rfl
  g19 := by kernel_rfl }
open Go.RowKit Go.Sort Go.Lib in
theorem lay_strconv_Itoa_small (i : Nat) (hi : i < 100) (w : World) :
    Calls Tryz.prog 71 #[.int .i64 i] w fun e w' => e = .returned (.string ⟨(Lib.decDigits i).toArray⟩) ∧ w' = w := Any.strconv_Itoa_small lay_lays171 i hi w

def lay_lays156_ren : Go.Shelf.Ren := ⟨fun | 156 => 72 | 165 => 82 | 166 => 83 | 169 => 84 | 240 => 90 | 241 => 91 | 276 => 108 | 277 => 109 | n => n, fun | 31 => 71 | 9 => 9 | 3 => 3 | 4 => 4 | 0 => 0 | 20 => 20 | 72 => 83 | 76 => 87 | 70 => 81 | 37 => 22 | 75 => 86 | 127 => 93 | 164 => 109 | 5 => 5 | 80 => 89 | n => n, fun | n => n⟩
theorem lay_lays156 : Go.Proofs.Lays.n156 Tryz.prog lay_lays156_ren := {
  mixed := by kernel_rfl
  f156 := Tryz.func72.trans (congrArg some (by kernel_rfl))
  f165 := Tryz.func82.trans (congrArg some (by kernel_rfl))
  f166 := Tryz.func83.trans (congrArg some (by kernel_rfl))
  f169 := Tryz.func84.trans (congrArg some (by kernel_rfl))
  f240 := Tryz.func90.trans (congrArg some (by kernel_rfl))
  f241 := Tryz.func91.trans (congrArg some (by kernel_rfl))
  f276 := Tryz.func108.trans (congrArg some (by kernel_rfl))
  f277 := Tryz.func109.trans (congrArg some (by kernel_rfl))
  t0 := Tryz.underlying0
  a0 := Tryz.isAgg0
  z0 := Tryz.sizeOf0
  v0 := Tryz.zeroValue0
  t3 := Tryz.underlying3
  a3 := Tryz.isAgg3
  z3 := Tryz.sizeOf3
  v3 := Tryz.zeroValue3
  t4 := Tryz.underlying4
  a4 := Tryz.isAgg4
  z4 := Tryz.sizeOf4
  v4 := Tryz.zeroValue4
  t9 := Tryz.underlying9
  a9 := Tryz.isAgg9
  z9 := Tryz.sizeOf9
  v9 := Tryz.zeroValue9
  t20 := Tryz.underlying20
  a20 := Tryz.isAgg20
  z20 := Tryz.sizeOf20
  v20 := Tryz.zeroValue20
  t31 := Tryz.underlying71
  a31 := Tryz.isAgg71
  z31 := Tryz.sizeOf71
  v31 := Tryz.zeroValue71
  t37 := Tryz.underlying22
  a37 := Tryz.isAgg22
  z37 := Tryz.sizeOf22
  v37 := Tryz.zeroValue22
  t70 := Tryz.underlying81
  a70 := Tryz.isAgg81
  z70 := Tryz.sizeOf81
  v70 := Tryz.zeroValue81
  t72 := Tryz.underlying83
  a72 := Tryz.isAgg83
  z72 := Tryz.sizeOf83
  v72 := Tryz.zeroValue83
  t75 := Tryz.underlying86
  a75 := Tryz.isAgg86
  z75 := Tryz.sizeOf86
  v75 := Tryz.zeroValue86
  t76 := Tryz.underlying87
  a76 := Tryz.isAgg87
  z76 := Tryz.sizeOf87
  v76 := Tryz.zeroValue87
  t127 := Tryz.underlying93
  a127 := Tryz.isAgg93
  z127 := Tryz.sizeOf93
  v127 := Tryz.zeroValue93
  t164 := Tryz.underlying109
  a164 := Tryz.isAgg109
  z164 := Tryz.sizeOf109
  v164 := Tryz.zeroValue109 }
theorem lay_Builder_Extra_156 : Builder.Extra Tryz.prog lay_lays156_ren := {
  sizeBuilder := by kernel_rfl
  liesBuilder := by kernel_rfl
  t5 := Tryz.underlying5
  a5 := Tryz.isAgg5
  z5 := Tryz.sizeOf5
  v5 := Tryz.zeroValue5
  infoByte := by kernel_rfl
  cellsByte := by kernel_rfl
  sizeByte := by kernel_rfl
  neB5 := by decide }
open Go.RowKit in
theorem lay_strings_Join (bk o c : Nat) (xs : List ByteArray) (sep : ByteArray) (w : World) (hcells : ∀ (j : Nat) x, xs[j]? = some x → w.cell? ⟨bk, o + j, none⟩ = some (.string x)) (hbk : bk < w.heap.size) (hN : xs.length ≤ 140737488355328) (hcap : xs.length ≤ c) (hlen : (Lib.join (xs.map (·.data.toList)) sep.data.toList).length ≤ 140737488355328) :
    Calls Tryz.prog 72 #[.slice (some ⟨bk, o, none⟩) xs.length c, .string sep] w fun e w' => e = .returned (.string ⟨(Lib.join (xs.map (·.data.toList)) sep.data.toList).toArray⟩) ∧ Below w.heap.size w w' := Any.strings_Join lay_lays156 lay_Builder_Extra_156 bk o c xs sep w hcells hbk hN hcap hlen
theorem lay_strings_Join_none (a : Option Addr) (c : Nat) (sep : ByteArray) (w : World) :
    Calls Tryz.prog 72 #[.slice a 0 c, .string sep] w fun e w' => e = .returned (.string ⟨#[]⟩) ∧ w' = w := Any.strings_Join_none lay_lays156 lay_Builder_Extra_156 a c sep w

def lay_lays147_ren : Go.Shelf.Ren := ⟨fun | 147 => 74 | 221 => 85 | 268 => 92 | 138 => 93 | 143 => 94 | 195 => 110 | 197 => 111 | 218 => 112 | 219 => 113 | 260 => 127 | 217 => 128 | 225 => 129 | 224 => 130 | 267 => 131 | 266 => 139 | 314 => 140 | n => n, fun | 9 => 9 | 3 => 3 | 31 => 71 | 4 => 4 | 0 => 0 | 105 => 112 | 21 => 21 | 5 => 5 | 46 => 80 | 119 => 136 | 139 => 139 | 138 => 138 | 146 => 140 | 51 => 125 | n => n, fun | 1 => 1 | 3 => 4 | 4 => 5 | n => n⟩
theorem lay_lays147 : Go.Proofs.Lays.n147 Tryz.prog lay_lays147_ren := {
  mixed := by kernel_rfl
  f138 := Tryz.func93.trans (congrArg some (by kernel_rfl))
  f143 := Tryz.func94.trans (congrArg some (by kernel_rfl))
  f147 := Tryz.func74.trans (congrArg some (by kernel_rfl))
  f195 := Tryz.func110.trans (congrArg some (by kernel_rfl))
  f197 := Tryz.func111.trans (congrArg some (by kernel_rfl))
  f217 := Tryz.func128.trans (congrArg some (by kernel_rfl))
  f218 := Tryz.func112.trans (congrArg some (by kernel_rfl))
  f219 := Tryz.func113.trans (congrArg some (by kernel_rfl))
  f221 := Tryz.func85.trans (congrArg some (by kernel_rfl))
  f224 := Tryz.func130.trans (congrArg some (by kernel_rfl))
  f225 := Tryz.func129.trans (congrArg some (by kernel_rfl))
  f260 := Tryz.func127.trans (congrArg some (by kernel_rfl))
  f266 := Tryz.func139.trans (congrArg some (by kernel_rfl))
  f267 := Tryz.func131.trans (congrArg some (by kernel_rfl))
  f268 := Tryz.func92.trans (congrArg some (by kernel_rfl))
  f314 := Tryz.func140.trans (congrArg some (by kernel_rfl))
  t0 := Tryz.underlying0
  a0 := Tryz.isAgg0
  z0 := Tryz.sizeOf0
  v0 := Tryz.zeroValue0
  t3 := Tryz.underlying3
  a3 := Tryz.isAgg3
  z3 := Tryz.sizeOf3
  v3 := Tryz.zeroValue3
  t4 := Tryz.underlying4
  a4 := Tryz.isAgg4
  z4 := Tryz.sizeOf4
  v4 := Tryz.zeroValue4
  t5 := Tryz.underlying5
  a5 := Tryz.isAgg5
  z5 := Tryz.sizeOf5
  v5 := Tryz.zeroValue5
  t9 := Tryz.underlying9
  a9 := Tryz.isAgg9
  z9 := Tryz.sizeOf9
  v9 := Tryz.zeroValue9
  t21 := Tryz.underlying21
  a21 := Tryz.isAgg21
  z21 := Tryz.sizeOf21
  v21 := Tryz.zeroValue21
  t31 := Tryz.underlying71
  a31 := Tryz.isAgg71
  z31 := Tryz.sizeOf71
  v31 := Tryz.zeroValue71
  t46 := Tryz.underlying80
  a46 := Tryz.isAgg80
  z46 := Tryz.sizeOf80
  v46 := Tryz.zeroValue80
  t51 := Tryz.underlying125
  a51 := Tryz.isAgg125
  z51 := Tryz.sizeOf125
  v51 := Tryz.zeroValue125
  t105 := Tryz.underlying112
  a105 := Tryz.isAgg112
  z105 := Tryz.sizeOf112
  v105 := Tryz.zeroValue112
  t119 := Tryz.underlying136
  a119 := Tryz.isAgg136
  z119 := Tryz.sizeOf136
  t138 := Tryz.underlying138
  a138 := Tryz.isAgg138
  z138 := Tryz.sizeOf138
  v138 := Tryz.zeroValue138
  t139 := Tryz.underlying139
  a139 := Tryz.isAgg139
  z139 := Tryz.sizeOf139
  v139 := Tryz.zeroValue139
  t146 := Tryz.underlying140
  a146 := Tryz.isAgg140
  z146 := Tryz.sizeOf140
  v146 := Tryz.zeroValue140
  g1 := by kernel_rfl
  g3 := by kernel_rfl
  g4 := by kernel_rfl }
open Go.RowKit Go.Lib in
theorem lay_strings_SplitN (s sep : ByteArray) (n : Nat) (m : Int) (w : World) (hs : s.size < 4294967281) (hm : w.cell? ⟨1, 0, none⟩ = some (.int .i64 m)) (h1 : 1 ≤ sep.size) (hn : 1 ≤ n) (hn63 : n ≤ 9223372036854775807) :
    Calls Tryz.prog 74 #[.string s, .string sep, .int .i64 n] w fun e w' =>
      e = .returned (.slice (some ⟨w.heap.size, 0, none⟩) (Lib.splitB sep 0 (min n (s.size + 1) - 1) s).length (min n (s.size + 1))) ∧ w' = w.alloc (.cells (Lib.cellsOf (Lib.splitB sep 0 (min n (s.size + 1) - 1) s) (min n (s.size + 1))) 9) := Any.strings_SplitN lay_lays147 (by kernel_rfl) s sep n m w hs hm h1 hn hn63

def lay_lays160_ren : Go.Shelf.Ren := ⟨fun | 160 => 86 | 232 => 96 | 231 => 95 | 227 => 97 | 234 => 99 | 233 => 98 | 236 => 101 | 235 => 100 | 228 => 114 | 271 => 116 | 151 => 115 | 197 => 111 | 120 => 133 | 152 => 132 | 260 => 127 | 137 => 141 | 119 => 142 | 224 => 130 | 225 => 129 | 217 => 128 | 266 => 139 | n => n, fun | 9 => 9 | 4 => 4 | 3 => 3 | 5 => 5 | 117 => 99 | 116 => 98 | 0 => 0 | 124 => 102 | 21 => 21 | 105 => 112 | 46 => 80 | 119 => 136 | 139 => 139 | 138 => 138 | n => n, fun | 3 => 4 | 4 => 5 | n => n⟩
theorem lay_lays160 : Go.Proofs.Lays.n160 Tryz.prog lay_lays160_ren := {
  mixed := by kernel_rfl
  f119 := Tryz.func142.trans (congrArg some (by kernel_rfl))
  f120 := Tryz.func133.trans (congrArg some (by kernel_rfl))
  f137 := Tryz.func141.trans (congrArg some (by kernel_rfl))
  f151 := Tryz.func115.trans (congrArg some (by kernel_rfl))
  f152 := Tryz.func132.trans (congrArg some (by kernel_rfl))
  f160 := Tryz.func86.trans (congrArg some (by kernel_rfl))
  f197 := Tryz.func111.trans (congrArg some (by kernel_rfl))
  f217 := Tryz.func128.trans (congrArg some (by kernel_rfl))
  f224 := Tryz.func130.trans (congrArg some (by kernel_rfl))
  f225 := Tryz.func129.trans (congrArg some (by kernel_rfl))
  f227 := Tryz.func97.trans (congrArg some (by kernel_rfl))
  f228 := Tryz.func114.trans (congrArg some (by kernel_rfl))
  f231 := Tryz.func95.trans (congrArg some (by kernel_rfl))
  f232 := Tryz.func96.trans (congrArg some (by kernel_rfl))
  f233 := Tryz.func98.trans (congrArg some (by kernel_rfl))
  f234 := Tryz.func99.trans (congrArg some (by kernel_rfl))
  f235 := Tryz.func100.trans (congrArg some (by kernel_rfl))
  f236 := Tryz.func101.trans (congrArg some (by kernel_rfl))
  f260 := Tryz.func127.trans (congrArg some (by kernel_rfl))
  f266 := Tryz.func139.trans (congrArg some (by kernel_rfl))
  f271 := Tryz.func116.trans (congrArg some (by kernel_rfl))
  t0 := Tryz.underlying0
  a0 := Tryz.isAgg0
  z0 := Tryz.sizeOf0
  v0 := Tryz.zeroValue0
  t3 := Tryz.underlying3
  a3 := Tryz.isAgg3
  z3 := Tryz.sizeOf3
  v3 := Tryz.zeroValue3
  t4 := Tryz.underlying4
  a4 := Tryz.isAgg4
  z4 := Tryz.sizeOf4
  v4 := Tryz.zeroValue4
  t5 := Tryz.underlying5
  a5 := Tryz.isAgg5
  z5 := Tryz.sizeOf5
  v5 := Tryz.zeroValue5
  t9 := Tryz.underlying9
  a9 := Tryz.isAgg9
  z9 := Tryz.sizeOf9
  v9 := Tryz.zeroValue9
  t21 := Tryz.underlying21
  a21 := Tryz.isAgg21
  z21 := Tryz.sizeOf21
  v21 := Tryz.zeroValue21
  t46 := Tryz.underlying80
  a46 := Tryz.isAgg80
  z46 := Tryz.sizeOf80
  v46 := Tryz.zeroValue80
  t105 := Tryz.underlying112
  a105 := Tryz.isAgg112
  z105 := Tryz.sizeOf112
  v105 := Tryz.zeroValue112
  t116 := Tryz.underlying98
  a116 := Tryz.isAgg98
  z116 := Tryz.sizeOf98
  t117 := Tryz.underlying99
  a117 := Tryz.isAgg99
  z117 := Tryz.sizeOf99
  v117 := Tryz.zeroValue99
  t119 := Tryz.underlying136
  a119 := Tryz.isAgg136
  z119 := Tryz.sizeOf136
  t124 := Tryz.underlying102
  a124 := Tryz.isAgg102
  z124 := Tryz.sizeOf102
  v124 := Tryz.zeroValue102
  t138 := Tryz.underlying138
  a138 := Tryz.isAgg138
  z138 := Tryz.sizeOf138
  v138 := Tryz.zeroValue138
  t139 := Tryz.underlying139
  a139 := Tryz.isAgg139
  z139 := Tryz.sizeOf139
  v139 := Tryz.zeroValue139
  g3 := by kernel_rfl
  g4 := by kernel_rfl }
theorem lay_strings_Trim_laid (s cutset : ByteArray) (w : World) (hs : s.size ≤ 9223372036854775807) (hcs : cutset.size < 4294967281) (hascii : ∀ (j : Nat) b, cutset.data.toList[j]? = some b → b.toNat < 128) :
    Calls Tryz.prog 86 #[.string s, .string cutset] w fun e w' => e = .returned (.string ⟨(Lib.trimS s.data.toList cutset.data.toList).toArray⟩) ∧ Below w.heap.size w w' := Any.strings_Trim_laid lay_lays160 (by kernel_rfl) s cutset w hs hcs hascii

def lay_laysC172_ren : Go.Shelf.Ren := ⟨fun | 172 => 87 | 244 => 102 | 245 => 103 | 247 => 117 | 279 => 118 | 280 => 119 | 281 => 120 | 282 => 121 | 287 => 134 | 316 => 135 | 171 => 71 | 205 => 136 | 321 => 143 | 322 => 144 | 243 => 81 | 246 => 89 | 283 => 104 | 284 => 105 | 285 => 106 | 286 => 107 | 129 => 123 | 317 => 122 | 318 => 124 | 319 => 125 | 320 => 126 | 337 => 137 | 338 => 138 | n => n, fun | 9 => 9 | 3 => 3 | 75 => 86 | 76 => 87 | 4 => 4 | 5 => 5 | 167 => 117 | 37 => 22 | 0 => 0 | 85 => 118 | 2 => 2 | 168 => 120 | 53 => 54 | 175 => 129 | 46 => 80 | 210 => 133 | 127 => 93 | 145 => 147 | 143 => 145 | 21 => 21 | 171 => 104 | 173 => 107 | 212 => 124 | 51 => 125 | 20 => 20 | 213 => 126 | 232 => 148 | 233 => 149 | 80 => 89 | n => n, fun | 15 => 2 | 16 => 3 | 17 => 0 | 18 => 6 | 19 => 7 | n => n⟩
theorem lay_laysC172 : Go.Proofs.LaysC.n172 Tryz.prog lay_laysC172_ren := {
  mixed := by kernel_rfl
  f129 := Tryz.func123.trans (congrArg some (by kernel_rfl))
  f171 := Tryz.func71.trans (congrArg some (by kernel_rfl))
  f172 := Tryz.func87.trans (congrArg some (by kernel_rfl))
  f205 := Tryz.func136.trans (congrArg some (by kernel_rfl))
  f243 := Tryz.func81.trans (congrArg some (by kernel_rfl))
  f244 := Tryz.func102.trans (congrArg some (by kernel_rfl))
  f245 := Tryz.func103.trans (congrArg some (by kernel_rfl))
  f246 := Tryz.func89.trans (congrArg some (by kernel_rfl))
  f247 := Tryz.func117.trans (congrArg some (by kernel_rfl))
  f279 := Tryz.func118.trans (congrArg some (by kernel_rfl))
  f280 := Tryz.func119.trans (congrArg some (by kernel_rfl))
  f281 := Tryz.func120.trans (congrArg some (by kernel_rfl))
  f282 := Tryz.func121.trans (congrArg some (by kernel_rfl))
  f283 := Tryz.func104.trans (congrArg some (by kernel_rfl))
  f284 := Tryz.func105.trans (congrArg some (by kernel_rfl))
  f285 := Tryz.func106.trans (congrArg some (by kernel_rfl))
  f286 := Tryz.func107.trans (congrArg some (by kernel_rfl))
  f287 := Tryz.func134.trans (congrArg some (by kernel_rfl))
  f316 := Tryz.func135.trans (congrArg some (by kernel_rfl))
  f317 := Tryz.func122.trans (congrArg some (by kernel_rfl))
  f318 := Tryz.func124.trans (congrArg some (by kernel_rfl))
  f319 := Tryz.func125.trans (congrArg some (by kernel_rfl))
  f320 := Tryz.func126.trans (congrArg some (by kernel_rfl))
  f321 := Tryz.func143.trans (congrArg some (by kernel_rfl))
  f322 := Tryz.func144.trans (congrArg some (by kernel_rfl))
  f337 := Tryz.func137.trans (congrArg some (by kernel_rfl))
  f338 := Tryz.func138.trans (congrArg some (by kernel_rfl))
  t0 := Tryz.underlying0
  a0 := Tryz.isAgg0
  z0 := Tryz.sizeOf0
  v0 := Tryz.zeroValue0
  t2 := Tryz.underlying2
  a2 := Tryz.isAgg2
  z2 := Tryz.sizeOf2
  v2 := Tryz.zeroValue2
  t3 := Tryz.underlying3
  a3 := Tryz.isAgg3
  z3 := Tryz.sizeOf3
  v3 := Tryz.zeroValue3
  t4 := Tryz.underlying4
  a4 := Tryz.isAgg4
  z4 := Tryz.sizeOf4
  v4 := Tryz.zeroValue4
  t5 := Tryz.underlying5
  a5 := Tryz.isAgg5
  z5 := Tryz.sizeOf5
  v5 := Tryz.zeroValue5
  t9 := Tryz.underlying9
  a9 := Tryz.isAgg9
  z9 := Tryz.sizeOf9
  v9 := Tryz.zeroValue9
  t20 := Tryz.underlying20
  a20 := Tryz.isAgg20
  z20 := Tryz.sizeOf20
  v20 := Tryz.zeroValue20
  t21 := Tryz.underlying21
  a21 := Tryz.isAgg21
  z21 := Tryz.sizeOf21
  v21 := Tryz.zeroValue21
  t37 := Tryz.underlying22
  a37 := Tryz.isAgg22
  z37 := Tryz.sizeOf22
  v37 := Tryz.zeroValue22
  t46 := Tryz.underlying80
  a46 := Tryz.isAgg80
  z46 := Tryz.sizeOf80
  v46 := Tryz.zeroValue80
  t51 := Tryz.underlying125
  a51 := Tryz.isAgg125
  z51 := Tryz.sizeOf125
  v51 := Tryz.zeroValue125
  t53 := Tryz.underlying54
  a53 := Tryz.isAgg54
  z53 := Tryz.sizeOf54
  v53 := Tryz.zeroValue54
  t75 := Tryz.underlying86
  a75 := Tryz.isAgg86
  z75 := Tryz.sizeOf86
  v75 := Tryz.zeroValue86
  t76 := Tryz.underlying87
  a76 := Tryz.isAgg87
  z76 := Tryz.sizeOf87
  v76 := Tryz.zeroValue87
  t85 := Tryz.underlying118
  a85 := Tryz.isAgg118
  z85 := Tryz.sizeOf118
  v85 := Tryz.zeroValue118
  t127 := Tryz.underlying93
  a127 := Tryz.isAgg93
  z127 := Tryz.sizeOf93
  v127 := Tryz.zeroValue93
  t143 := Tryz.underlying145
  a143 := Tryz.isAgg145
  z143 := Tryz.sizeOf145
  v143 := Tryz.zeroValue145
  t145 := Tryz.underlying147
  a145 := Tryz.isAgg147
  z145 := Tryz.sizeOf147
  v145 := Tryz.zeroValue147
  t167 := Tryz.underlying117
  a167 := Tryz.isAgg117
  z167 := Tryz.sizeOf117
  v167 := Tryz.zeroValue117
  t168 := Tryz.underlying120
  a168 := Tryz.isAgg120
  z168 := Tryz.sizeOf120
  v168 := Tryz.zeroValue120
  t171 := Tryz.underlying104
  a171 := Tryz.isAgg104
  z171 := Tryz.sizeOf104
  v171 := Tryz.zeroValue104
  t173 := Tryz.underlying107
  a173 := Tryz.isAgg107
  z173 := Tryz.sizeOf107
  v173 := Tryz.zeroValue107
  t175 := Tryz.underlying129
  a175 := Tryz.isAgg129
  z175 := Tryz.sizeOf129
  v175 := Tryz.zeroValue129
  t210 := Tryz.underlying133
  a210 := Tryz.isAgg133
  z210 := Tryz.sizeOf133
  v210 := Tryz.zeroValue133
  t212 := Tryz.underlying124
  a212 := Tryz.isAgg124
  z212 := Tryz.sizeOf124
  v212 := Tryz.zeroValue124
  t213 := Tryz.underlying126
  a213 := Tryz.isAgg126
  z213 := Tryz.sizeOf126
  t232 := Tryz.underlying148
  a232 := Tryz.isAgg148
  z232 := Tryz.sizeOf148
  v232 := Tryz.zeroValue148
  t233 := Tryz.underlying149
  a233 := Tryz.isAgg149
  z233 := Tryz.sizeOf149
  v233 := Tryz.zeroValue149
  g15 := by kernel_rfl
  g16 := by kernel_rfl
  g17 := by kernel_rfl
  g18 := by kernel_rfl
  g19 := by kernel_rfl
  t80 := Tryz.underlying89
  a80 := Tryz.isAgg89
  z80 := Tryz.sizeOf89
  v80 := Tryz.zeroValue89
  i0 := by kernel_rfl
  i2 := by kernel_rfl
  i3 := by kernel_rfl
  i4 := by kernel_rfl
  i5 := by kernel_rfl
  i9 := by kernel_rfl
  i20 := by kernel_rfl
  i21 := by kernel_rfl
  i37 := by kernel_rfl
  i46 := by kernel_rfl
  i51 := by kernel_rfl
  i53 := by kernel_rfl
  i75 := by kernel_rfl
  i76 := by kernel_rfl
  i80 := by kernel_rfl
  i85 := by kernel_rfl
  i127 := by kernel_rfl
  i143 := by kernel_rfl
  i145 := by kernel_rfl
  i167 := by kernel_rfl
  i168 := by kernel_rfl
  i171 := by kernel_rfl
  i173 := by kernel_rfl
  i175 := by kernel_rfl
  i210 := by kernel_rfl
  i212 := by kernel_rfl
  i232 := by kernel_rfl
  i233 := by kernel_rfl
  m15 := by kernel_rfl
  m16 := by kernel_rfl
  m17 := by kernel_rfl
  m18 := by kernel_rfl
  m19 := by kernel_rfl
  c0 := by kernel_rfl
  c2 := by kernel_rfl
  c3 := by kernel_rfl
  c4 := by kernel_rfl
  c5 := by kernel_rfl
  c9 := by kernel_rfl
  c20 := by kernel_rfl
  c21 := by kernel_rfl
  c37 := by kernel_rfl
  c46 := by kernel_rfl
  c51 := by kernel_rfl
  c53 := by kernel_rfl
  c75 := by kernel_rfl
  c76 := by kernel_rfl
  c80 := by kernel_rfl
  c85 := by kernel_rfl
  c127 := by kernel_rfl
  c143 := by kernel_rfl
  c145 := by kernel_rfl
  c167 := by kernel_rfl
  c168 := by kernel_rfl
  c171 := by kernel_rfl
  c173 := by kernel_rfl
  c175 := by kernel_rfl
  c210 := by kernel_rfl
  c212 := by kernel_rfl
  c213 := by kernel_rfl
  c232 := by kernel_rfl
  c233 := by kernel_rfl }
theorem lay_strconv_Atoi_ok (s : ByteArray) (hmax : s.size ≤ 9223372036854775806) (v : Int) (h : Lib.atoiAll s.data.toList = .ok v) (w : World) :
    Calls Tryz.prog 87 #[.string s] w fun e w' => e = .returned (.tuple #[.int .i64 v, .nilIface]) ∧ (w' = w ∨ ∃ t, w' = Lib.bytesWorld w 5 t) := Any.strconv_Atoi_ok lay_laysC172 s hmax v h w

noncomputable def laws_big_f (k : Nat) (p0 : (List Int)) (p1 : (List Int)) : Option ((Bool × Unit) × Unit) :=
  (met (cond (decide (((List.length p0 : Nat) : Int) > 1048576)) (some (.inl (true, ()))) (some (.inl ((decide (((List.length p1 : Nat) : Int) > (iw (1048576 - ((List.length p0 : Nat) : Int))))), ())))) (fun j1 => (some ((j1.1, ()), ()))))
noncomputable def laws_big_a : Ann := (.q .o (.q (.r [(4, 100256, .v .bool)]) .o))
theorem laws_big_run (k : Nat) (p0 : (List Int)) (p1 : (List Int)) : funX Tryz.prog (callT []) k Tryz.f4 laws_big_a [.v (.slc 5 (.int .u8)), .v (.slc 5 (.int .u8))] [.v .bool] (p0, p1, ()) = laws_big_f k p0 p1 := by kernel_rfl
noncomputable def laws_big_c (k : Nat) : Con := ⟨4, [.v (.slc 5 (.int .u8)), .v (.slc 5 (.int .u8))], [.v .bool], fun x => laws_big_f k x.1 x.2.1⟩
theorem laws_big_ok (k : Nat) : (laws_big_c k).Sound Tryz.prog GL := con_ok (k := k) (fn := Tryz.f4) (A := laws_big_a) (C := callT []) Tryz.func4 (by kernel_rfl) (show Tryz.f4.body = some (bodyX Tryz.f4) by rfl) (fun X hX => callT_at TableOk.nil X hX) (Nat.le_of_ble_eq_true (by kernel_rfl)) (fun ⟨p0, p1, _⟩ y h => by rw [← h]; exact laws_big_run k p0 p1)
noncomputable def spec_l1Cur_next_f (k : Nat) (p0 : ((List Int) × Int × Int × Unit)) : Option ((Int × Unit) × (((List Int) × Int × Int × Unit) × Unit)) :=
  (met (cond (decide (p0.2.1 < ((List.length p0.1 : Nat) : Int))) (ixk p0.2.1 (List.length p0.1) (some (.inl ((p0.1, p0.2.1, p0.2.2.1, ()), (iw ((rd p0.1 p0.2.1))), ())))) (some (.inl ((p0.1, p0.2.1, p0.2.2.1, ()), 0, ())))) (fun j1 => (cond (decide ((iw (j1.1.2.1 + 1)) ≤ ((List.length j1.1.1 : Nat) : Int))) (some ((j1.2.1, ()), ((j1.1.1, (iw (j1.1.2.1 + 1)), (IntKind.wrap .u64 ((IntKind.wrap .u64 ((IntKind.wrap .u64 (j1.1.2.2.1 * 6364136223846793005)) + (IntKind.wrap .u64 (j1.2.1)))) + 1442695040888963407)), ()), ()))) (some (((iw ((andI .u64 (shrI .u64 (IntKind.wrap .u64 ((IntKind.wrap .u64 ((IntKind.wrap .u64 (j1.1.2.2.1 * 6364136223846793005)) + (IntKind.wrap .u64 (j1.2.1)))) + 1442695040888963407)) 40) 255))), ()), ((j1.1.1, (iw (j1.1.2.1 + 1)), (IntKind.wrap .u64 ((IntKind.wrap .u64 ((IntKind.wrap .u64 (j1.1.2.2.1 * 6364136223846793005)) + (IntKind.wrap .u64 (j1.2.1)))) + 1442695040888963407)), ()), ()))))))
noncomputable def spec_l1Cur_next_a : Ann := (.q .o (.q .o (.q (.q .o (.j [(0, 3000000, .box true [.v (.slc 5 (.int .u8)), .v (.int .i64), .v (.int .u64)]), (3, 100192, .v (.int .i64))] (.e [] [11]) .o)) .o)))
theorem spec_l1Cur_next_run (k : Nat) (p0 : ((List Int) × Int × Int × Unit)) : funX Tryz.prog (callT []) k Tryz.f70 spec_l1Cur_next_a [.box true [.v (.slc 5 (.int .u8)), .v (.int .i64), .v (.int .u64)]] [.v (.int .i64)] (p0, ()) = spec_l1Cur_next_f k p0 := by kernel_rfl
noncomputable def spec_l1Cur_next_c (k : Nat) : Con := ⟨70, [.box true [.v (.slc 5 (.int .u8)), .v (.int .i64), .v (.int .u64)]], [.v (.int .i64)], fun x => spec_l1Cur_next_f k x.1⟩
theorem spec_l1Cur_next_ok (k : Nat) : (spec_l1Cur_next_c k).Sound Tryz.prog GL := con_ok (k := k) (fn := Tryz.f70) (A := spec_l1Cur_next_a) (C := callT []) Tryz.func70 (by kernel_rfl) (show Tryz.f70.body = some (bodyX Tryz.f70) by rfl) (fun X hX => callT_at TableOk.nil X hX) (Nat.le_of_ble_eq_true (by kernel_rfl)) (fun ⟨p0, _⟩ y h => by rw [← h]; exact spec_l1Cur_next_run k p0)
noncomputable def spec_l1Cur_pick_f (k : Nat) (p0 : ((List Int) × Int × Int × Unit)) (p1 : Int) : Option ((Int × Unit) × (((List Int) × Int × Int × Unit) × Unit)) :=
  (cond (decide (p1 ≤ 1)) (some ((0, ()), ((p0.1, p0.2.1, p0.2.2.1, ()), ()))) (Option.bind (spec_l1Cur_next_f k (p0.1, p0.2.1, p0.2.2.1, ())) (fun y9 => (met (cond (decide (p1 > 200)) (Option.bind (spec_l1Cur_next_f k (y9.2.1.1, y9.2.1.2.1, y9.2.1.2.2.1, ())) (fun y15 => (some (.inl ((y15.2.1.1, y15.2.1.2.1, y15.2.1.2.2.1, ()), (iw ((iw (y9.1.1 * 256)) + y15.1.1)), ()))))) (some (.inl ((y9.2.1.1, y9.2.1.2.1, y9.2.1.2.2.1, ()), y9.1.1, ())))) (fun j1 => (chk (!(p1 == 0)) (some (((Int.tmod j1.2.1 p1), ()), ((j1.1.1, j1.1.2.1, j1.1.2.2.1, ()), ())))))))))
noncomputable def spec_l1Cur_pick_a : Ann := (.q .o (.q .o (.q .o (.q (.q .o (.j [(0, 3000000, .box true [.v (.slc 5 (.int .u8)), .v (.int .i64), .v (.int .u64)]), (5, 100320, .v (.int .i64))] .o .o)) .o))))
theorem spec_l1Cur_pick_run (k : Nat) (p0 : ((List Int) × Int × Int × Unit)) (p1 : Int) : funX Tryz.prog (callT [spec_l1Cur_next_c k]) k Tryz.f53 spec_l1Cur_pick_a [.box true [.v (.slc 5 (.int .u8)), .v (.int .i64), .v (.int .u64)], .v (.int .i64)] [.v (.int .i64)] (p0, p1, ()) = spec_l1Cur_pick_f k p0 p1 := by kernel_rfl
noncomputable def spec_l1Cur_pick_c (k : Nat) : Con := ⟨53, [.box true [.v (.slc 5 (.int .u8)), .v (.int .i64), .v (.int .u64)], .v (.int .i64)], [.v (.int .i64)], fun x => spec_l1Cur_pick_f k x.1 x.2.1⟩
theorem spec_l1Cur_pick_ok (k : Nat) : (spec_l1Cur_pick_c k).Sound Tryz.prog GL := con_ok (k := k) (fn := Tryz.f53) (A := spec_l1Cur_pick_a) (C := callT [spec_l1Cur_next_c k]) Tryz.func53 (by kernel_rfl) (show Tryz.f53.body = some (bodyX Tryz.f53) by rfl) (fun X hX => callT_at (TableOk.cons (spec_l1Cur_next_ok k) TableOk.nil) X hX) (Nat.le_of_ble_eq_true (by kernel_rfl)) (fun ⟨p0, p1, _⟩ y h => by rw [← h]; exact spec_l1Cur_pick_run k p0 p1)
noncomputable def spec_l1Cur_sureSocks_l1_b (k : Nat) (rec : ((List Int) × Int × Int × Unit) → (List Int) → Int → Option ((((List Int) × Int × Int × Unit) × (List Int) × Unit) ⊕ (((List Int) × Unit) × (((List Int) × Int × Int × Unit) × Unit)))) (x0 : ((List Int) × Int × Int × Unit)) (x3 : (List Int)) (x4 : Int) : Option ((((List Int) × Int × Int × Unit) × (List Int) × Unit) ⊕ (((List Int) × Unit) × (((List Int) × Int × Int × Unit) × Unit))) :=
  (cond (decide (x4 > 0)) (Option.bind (spec_l1Cur_pick_f k (x0.1, x0.2.1, x0.2.2.1, ()) 6) (fun y13 => (chk (decide (List.length x3 + List.length [y13.1.1] ≤ 15637498706147)) (rec (y13.2.1.1, y13.2.1.2.1, y13.2.1.2.2.1, ()) (x3 ++ [y13.1.1]) (iw (x4 - 1)))))) (some (.inl ((x0.1, x0.2.1, x0.2.2.1, ()), x3, ()))))
noncomputable def spec_l1Cur_sureSocks_l1 (k : Nat) (x0 : ((List Int) × Int × Int × Unit)) (x3 : (List Int)) (x4 : Int) : Option ((((List Int) × Int × Int × Unit) × (List Int) × Unit) ⊕ (((List Int) × Unit) × (((List Int) × Int × Int × Unit) × Unit))) := iter k (fun (rec : (((List Int) × Int × Int × Unit) × (List Int) × Int × Unit) → Option ((((List Int) × Int × Int × Unit) × (List Int) × Unit) ⊕ (((List Int) × Unit) × (((List Int) × Int × Int × Unit) × Unit)))) (x : (((List Int) × Int × Int × Unit) × (List Int) × Int × Unit)) => spec_l1Cur_sureSocks_l1_b k (fun x0 x3 x4 => rec (x0, x3, x4, ())) x.1 x.2.1 x.2.2.1) (x0, x3, x4, ())
noncomputable def spec_l1Cur_sureSocks_f (k : Nat) (p0 : ((List Int) × Int × Int × Unit)) : Option (((List Int) × Unit) × (((List Int) × Int × Int × Unit) × Unit)) :=
  (Option.bind (spec_l1Cur_pick_f k (p0.1, p0.2.1, p0.2.2.1, ()) 4) (fun y6 => (met (spec_l1Cur_sureSocks_l1 k (y6.2.1.1, y6.2.1.2.1, y6.2.1.2.2.1, ()) [] y6.1.1) (fun j2 => (Option.bind (spec_l1Cur_pick_f k (j2.1.1, j2.1.2.1, j2.1.2.2.1, ()) 5) (fun y18 => (chk (decide (List.length j2.2.1 + List.length [(iw (1 + y18.1.1))] ≤ 15637498706147)) (some (((j2.2.1 ++ [(iw (1 + y18.1.1))]), ()), ((y18.2.1.1, y18.2.1.2.1, y18.2.1.2.2.1, ()), ()))))))))))
noncomputable def spec_l1Cur_sureSocks_a : Ann := (.q .o (.q .o (.q (.q .o (.m [(0, 3000000, .box true [.v (.slc 5 (.int .u8)), .v (.int .i64), .v (.int .u64)]), (3, 100192, .own false 3 (.int .i64))] (.l [(0, 3000000, .box true [.v (.slc 5 (.int .u8)), .v (.int .i64), .v (.int .u64)]), (3, 100192, .own false 3 (.int .i64)), (4, 100256, .v (.int .i64))] .o))) .o)))
theorem spec_l1Cur_sureSocks_run (k : Nat) (p0 : ((List Int) × Int × Int × Unit)) : funX Tryz.prog (callT [spec_l1Cur_pick_c k]) k Tryz.f57 spec_l1Cur_sureSocks_a [.box true [.v (.slc 5 (.int .u8)), .v (.int .i64), .v (.int .u64)]] [.own false 3 (.int .i64)] (p0, ()) = spec_l1Cur_sureSocks_f k p0 := by kernel_rfl
noncomputable def spec_l1Cur_sureSocks_c (k : Nat) : Con := ⟨57, [.box true [.v (.slc 5 (.int .u8)), .v (.int .i64), .v (.int .u64)]], [.own false 3 (.int .i64)], fun x => spec_l1Cur_sureSocks_f k x.1⟩
theorem spec_l1Cur_sureSocks_ok (k : Nat) : (spec_l1Cur_sureSocks_c k).Sound Tryz.prog GL := con_ok (k := k) (fn := Tryz.f57) (A := spec_l1Cur_sureSocks_a) (C := callT [spec_l1Cur_pick_c k]) Tryz.func57 (by kernel_rfl) (show Tryz.f57.body = some (bodyX Tryz.f57) by rfl) (fun X hX => callT_at (TableOk.cons (spec_l1Cur_pick_ok k) TableOk.nil) X hX) (Nat.le_of_ble_eq_true (by kernel_rfl)) (fun ⟨p0, _⟩ y h => by rw [← h]; exact spec_l1Cur_sureSocks_run k p0)
noncomputable def spec_l1Cur_among_f (k : Nat) (p0 : ((List Int) × Int × Int × Unit)) (p1 : (List Int)) : Option ((Int × Unit) × (((List Int) × Int × Int × Unit) × Unit)) :=
  (Option.bind (spec_l1Cur_pick_f k (p0.1, p0.2.1, p0.2.2.1, ()) ((List.length p1 : Nat) : Int)) (fun y9 => (ixk y9.1.1 (List.length p1) (some (((rd p1 y9.1.1), ()), ((y9.2.1.1, y9.2.1.2.1, y9.2.1.2.2.1, ()), ()))))))
noncomputable def spec_l1Cur_among_a : Ann := .o
theorem spec_l1Cur_among_run (k : Nat) (p0 : ((List Int) × Int × Int × Unit)) (p1 : (List Int)) : funX Tryz.prog (callT [spec_l1Cur_pick_c k]) k Tryz.f50 spec_l1Cur_among_a [.box true [.v (.slc 5 (.int .u8)), .v (.int .i64), .v (.int .u64)], .v (.slc 3 (.int .i64))] [.v (.int .i64)] (p0, p1, ()) = spec_l1Cur_among_f k p0 p1 := by kernel_rfl
noncomputable def spec_l1Cur_among_c (k : Nat) : Con := ⟨50, [.box true [.v (.slc 5 (.int .u8)), .v (.int .i64), .v (.int .u64)], .v (.slc 3 (.int .i64))], [.v (.int .i64)], fun x => spec_l1Cur_among_f k x.1 x.2.1⟩
theorem spec_l1Cur_among_ok (k : Nat) : (spec_l1Cur_among_c k).Sound Tryz.prog GL := con_ok (k := k) (fn := Tryz.f50) (A := spec_l1Cur_among_a) (C := callT [spec_l1Cur_pick_c k]) Tryz.func50 (by kernel_rfl) (show Tryz.f50.body = some (bodyX Tryz.f50) by rfl) (fun X hX => callT_at (TableOk.cons (spec_l1Cur_pick_ok k) TableOk.nil) X hX) (Nat.le_of_ble_eq_true (by kernel_rfl)) (fun ⟨p0, p1, _⟩ y h => by rw [← h]; exact spec_l1Cur_among_run k p0 p1)
noncomputable def spec_l1Cur_socks_l1_b (k : Nat) (rec : ((List Int) × Int × Int × Unit) → (List Int) → Option ((((List Int) × Int × Int × Unit) × (List Int) × Unit) ⊕ ((((List Int) × Int × Int × Unit) × (List Int) × Unit) ⊕ ((((List Int) × Int × Int × Unit) × (List Int) × Unit) ⊕ ((((List Int) × Int × Int × Unit) × (List Int) × Unit) ⊕ ((((List Int) × Int × Int × Unit) × (List Int) × Unit) ⊕ ((((List Int) × Int × Int × Unit) × (List Int) × Unit) ⊕ (((List Int) × Unit) × (((List Int) × Int × Int × Unit) × Unit))))))))) (x0 : ((List Int) × Int × Int × Unit)) (x3 : (List Int)) : Option ((((List Int) × Int × Int × Unit) × (List Int) × Unit) ⊕ ((((List Int) × Int × Int × Unit) × (List Int) × Unit) ⊕ ((((List Int) × Int × Int × Unit) × (List Int) × Unit) ⊕ ((((List Int) × Int × Int × Unit) × (List Int) × Unit) ⊕ ((((List Int) × Int × Int × Unit) × (List Int) × Unit) ⊕ ((((List Int) × Int × Int × Unit) × (List Int) × Unit) ⊕ (((List Int) × Unit) × (((List Int) × Int × Int × Unit) × Unit)))))))) :=
  (cond (decide (((List.length x3 : Nat) : Int) < 8)) (chk (decide (List.length x3 + List.length [20] ≤ 15637498706147)) (rec (x0.1, x0.2.1, x0.2.2.1, ()) (x3 ++ [20]))) (some (.inl ((x0.1, x0.2.1, x0.2.2.1, ()), x3, ()))))
noncomputable def spec_l1Cur_socks_l1 (k : Nat) (x0 : ((List Int) × Int × Int × Unit)) (x3 : (List Int)) : Option ((((List Int) × Int × Int × Unit) × (List Int) × Unit) ⊕ ((((List Int) × Int × Int × Unit) × (List Int) × Unit) ⊕ ((((List Int) × Int × Int × Unit) × (List Int) × Unit) ⊕ ((((List Int) × Int × Int × Unit) × (List Int) × Unit) ⊕ ((((List Int) × Int × Int × Unit) × (List Int) × Unit) ⊕ ((((List Int) × Int × Int × Unit) × (List Int) × Unit) ⊕ (((List Int) × Unit) × (((List Int) × Int × Int × Unit) × Unit)))))))) := iter k (fun (rec : (((List Int) × Int × Int × Unit) × (List Int) × Unit) → Option ((((List Int) × Int × Int × Unit) × (List Int) × Unit) ⊕ ((((List Int) × Int × Int × Unit) × (List Int) × Unit) ⊕ ((((List Int) × Int × Int × Unit) × (List Int) × Unit) ⊕ ((((List Int) × Int × Int × Unit) × (List Int) × Unit) ⊕ ((((List Int) × Int × Int × Unit) × (List Int) × Unit) ⊕ ((((List Int) × Int × Int × Unit) × (List Int) × Unit) ⊕ (((List Int) × Unit) × (((List Int) × Int × Int × Unit) × Unit))))))))) (x : (((List Int) × Int × Int × Unit) × (List Int) × Unit)) => spec_l1Cur_socks_l1_b k (fun x0 x3 => rec (x0, x3, ())) x.1 x.2.1) (x0, x3, ())
noncomputable def spec_l1Cur_socks_f (k : Nat) (p0 : ((List Int) × Int × Int × Unit)) : Option (((List Int) × Unit) × (((List Int) × Int × Int × Unit) × Unit)) :=
  (Option.bind (spec_l1Cur_sureSocks_f k (p0.1, p0.2.1, p0.2.2.1, ())) (fun y5 => (Option.bind (spec_l1Cur_pick_f k (y5.2.1.1, y5.2.1.2.1, y5.2.1.2.2.1, ()) 16) (fun y7 => (met (met (cond (y7.1.1 == 0) (some (.inr (.inr (([], ()), ((y7.2.1.1, y7.2.1.2.1, y7.2.1.2.2.1, ()), ()))))) (met (cond (y7.1.1 == 1) (some (.inr (.inr (.inr (([0, 0], ()), ((y7.2.1.1, y7.2.1.2.1, y7.2.1.2.2.1, ()), ())))))) (met (cond (y7.1.1 == 2) (Option.bind (spec_l1Cur_among_f k (y7.2.1.1, y7.2.1.2.1, y7.2.1.2.2.1, ()) [(-1), 20, 21, 4611686018427387904]) (fun y18 => (chk (decide ((0 : Int) < ((List.length y5.1.1 : Nat) : Int))) (some (.inl ((y18.2.1.1, y18.2.1.2.1, y18.2.1.2.2.1, ()), (setI y5.1.1 0 y18.1.1), ())))))) (met (cond (y7.1.1 == 3) (met (spec_l1Cur_socks_l1 k (y7.2.1.1, y7.2.1.2.1, y7.2.1.2.2.1, ()) y5.1.1) (fun j2 => (some (.inl ((j2.1.1, j2.1.2.1, j2.1.2.2.1, ()), j2.2.1, ()))))) (some (.inl ((y7.2.1.1, y7.2.1.2.1, y7.2.1.2.2.1, ()), y5.1.1, ())))) (fun j3 => (some (.inl ((j3.1.1, j3.1.2.1, j3.1.2.2.1, ()), j3.2.1, ())))))) (fun j4 => (some (.inl ((j4.1.1, j4.1.2.1, j4.1.2.2.1, ()), j4.2.1, ())))))) (fun j5 => (some (.inl ((j5.1.1, j5.1.2.1, j5.1.2.2.1, ()), j5.2.1, ())))))) (fun j6 => (some (.inl ((j6.1.1, j6.1.2.1, j6.1.2.2.1, ()), j6.2.1, ()))))) (fun j7 => (some ((j7.2.1, ()), ((j7.1.1, j7.1.2.1, j7.1.2.2.1, ()), ())))))))))
noncomputable def spec_l1Cur_socks_a : Ann := (.q .o (.q .o (.q (.q .o (.m [(0, 3000000, .box true [.v (.slc 5 (.int .u8)), .v (.int .i64), .v (.int .u64)]), (3, 100192, .own false 3 (.int .i64))] (.q .o (.j [(0, 3000000, .box true [.v (.slc 5 (.int .u8)), .v (.int .i64), .v (.int .u64)]), (3, 100192, .own false 3 (.int .i64))] .o (.q .o (.j [(0, 3000000, .box true [.v (.slc 5 (.int .u8)), .v (.int .i64), .v (.int .u64)]), (3, 100192, .own false 3 (.int .i64))] .o (.q .o (.j [(0, 3000000, .box true [.v (.slc 5 (.int .u8)), .v (.int .i64), .v (.int .u64)]), (3, 100192, .own false 3 (.int .i64))] .o (.q .o (.j [(0, 3000000, .box true [.v (.slc 5 (.int .u8)), .v (.int .i64), .v (.int .u64)]), (3, 100192, .own false 3 (.int .i64))] (.m [(0, 3000000, .box true [.v (.slc 5 (.int .u8)), .v (.int .i64), .v (.int .u64)]), (3, 100192, .own false 3 (.int .i64))] (.l [(0, 3000000, .box true [.v (.slc 5 (.int .u8)), .v (.int .i64), .v (.int .u64)]), (3, 100192, .own false 3 (.int .i64))] .o)) .o)))))))))) .o)))
theorem spec_l1Cur_socks_run (k : Nat) (p0 : ((List Int) × Int × Int × Unit)) : funX Tryz.prog (callT [spec_l1Cur_sureSocks_c k, spec_l1Cur_pick_c k, spec_l1Cur_among_c k]) k Tryz.f49 spec_l1Cur_socks_a [.box true [.v (.slc 5 (.int .u8)), .v (.int .i64), .v (.int .u64)]] [.own false 3 (.int .i64)] (p0, ()) = spec_l1Cur_socks_f k p0 := by kernel_rfl
noncomputable def spec_l1Cur_socks_c (k : Nat) : Con := ⟨49, [.box true [.v (.slc 5 (.int .u8)), .v (.int .i64), .v (.int .u64)]], [.own false 3 (.int .i64)], fun x => spec_l1Cur_socks_f k x.1⟩
theorem spec_l1Cur_socks_ok (k : Nat) : (spec_l1Cur_socks_c k).Sound Tryz.prog GL := con_ok (k := k) (fn := Tryz.f49) (A := spec_l1Cur_socks_a) (C := callT [spec_l1Cur_sureSocks_c k, spec_l1Cur_pick_c k, spec_l1Cur_among_c k]) Tryz.func49 (by kernel_rfl) (show Tryz.f49.body = some (bodyX Tryz.f49) by rfl) (fun X hX => callT_at (TableOk.cons (spec_l1Cur_sureSocks_ok k) (TableOk.cons (spec_l1Cur_pick_ok k) (TableOk.cons (spec_l1Cur_among_ok k) TableOk.nil))) X hX) (Nat.le_of_ble_eq_true (by kernel_rfl)) (fun ⟨p0, _⟩ y h => by rw [← h]; exact spec_l1Cur_socks_run k p0)
noncomputable def spec_l1Most_f (k : Nat) (p0 : Int) (p1 : Int) : Option ((Int × Unit) × Unit) :=
  (cond (decide (p0 > p1)) (some ((p0, ()), ())) (some ((p1, ()), ())))
noncomputable def spec_l1Most_a : Ann := .o
theorem spec_l1Most_run (k : Nat) (p0 : Int) (p1 : Int) : funX Tryz.prog (callT []) k Tryz.f68 spec_l1Most_a [.v (.int .i64), .v (.int .i64)] [.v (.int .i64)] (p0, p1, ()) = spec_l1Most_f k p0 p1 := by kernel_rfl
noncomputable def spec_l1Most_c (k : Nat) : Con := ⟨68, [.v (.int .i64), .v (.int .i64)], [.v (.int .i64)], fun x => spec_l1Most_f k x.1 x.2.1⟩
theorem spec_l1Most_ok (k : Nat) : (spec_l1Most_c k).Sound Tryz.prog GL := con_ok (k := k) (fn := Tryz.f68) (A := spec_l1Most_a) (C := callT []) Tryz.func68 (by kernel_rfl) (show Tryz.f68.body = some (bodyX Tryz.f68) by rfl) (fun X hX => callT_at TableOk.nil X hX) (Nat.le_of_ble_eq_true (by kernel_rfl)) (fun ⟨p0, p1, _⟩ y h => by rw [← h]; exact spec_l1Most_run k p0 p1)
noncomputable def spec_l1Least_f (k : Nat) (p0 : Int) (p1 : Int) : Option ((Int × Unit) × Unit) :=
  (cond (decide (p0 < p1)) (some ((p0, ()), ())) (some ((p1, ()), ())))
noncomputable def spec_l1Least_a : Ann := .o
theorem spec_l1Least_run (k : Nat) (p0 : Int) (p1 : Int) : funX Tryz.prog (callT []) k Tryz.f69 spec_l1Least_a [.v (.int .i64), .v (.int .i64)] [.v (.int .i64)] (p0, p1, ()) = spec_l1Least_f k p0 p1 := by kernel_rfl
noncomputable def spec_l1Least_c (k : Nat) : Con := ⟨69, [.v (.int .i64), .v (.int .i64)], [.v (.int .i64)], fun x => spec_l1Least_f k x.1 x.2.1⟩
theorem spec_l1Least_ok (k : Nat) : (spec_l1Least_c k).Sound Tryz.prog GL := con_ok (k := k) (fn := Tryz.f69) (A := spec_l1Least_a) (C := callT []) Tryz.func69 (by kernel_rfl) (show Tryz.f69.body = some (bodyX Tryz.f69) by rfl) (fun X hX => callT_at TableOk.nil X hX) (Nat.le_of_ble_eq_true (by kernel_rfl)) (fun ⟨p0, p1, _⟩ y h => by rw [← h]; exact spec_l1Least_run k p0 p1)
noncomputable def spec_l1Cur_one_f (k : Nat) (p0 : ((List Int) × Int × Int × Unit)) (p1 : Int) : Option ((Bool × Unit) × (((List Int) × Int × Int × Unit) × Unit)) :=
  (Option.bind (spec_l1Cur_pick_f k (p0.1, p0.2.1, p0.2.2.1, ()) p1) (fun y7 => (some (((y7.1.1 == 0), ()), ((y7.2.1.1, y7.2.1.2.1, y7.2.1.2.2.1, ()), ())))))
noncomputable def spec_l1Cur_one_a : Ann := .o
theorem spec_l1Cur_one_run (k : Nat) (p0 : ((List Int) × Int × Int × Unit)) (p1 : Int) : funX Tryz.prog (callT [spec_l1Cur_pick_c k]) k Tryz.f52 spec_l1Cur_one_a [.box true [.v (.slc 5 (.int .u8)), .v (.int .i64), .v (.int .u64)], .v (.int .i64)] [.v .bool] (p0, p1, ()) = spec_l1Cur_one_f k p0 p1 := by kernel_rfl
noncomputable def spec_l1Cur_one_c (k : Nat) : Con := ⟨52, [.box true [.v (.slc 5 (.int .u8)), .v (.int .i64), .v (.int .u64)], .v (.int .i64)], [.v .bool], fun x => spec_l1Cur_one_f k x.1 x.2.1⟩
theorem spec_l1Cur_one_ok (k : Nat) : (spec_l1Cur_one_c k).Sound Tryz.prog GL := con_ok (k := k) (fn := Tryz.f52) (A := spec_l1Cur_one_a) (C := callT [spec_l1Cur_pick_c k]) Tryz.func52 (by kernel_rfl) (show Tryz.f52.body = some (bodyX Tryz.f52) by rfl) (fun X hX => callT_at (TableOk.cons (spec_l1Cur_pick_ok k) TableOk.nil) X hX) (Nat.le_of_ble_eq_true (by kernel_rfl)) (fun ⟨p0, p1, _⟩ y h => by rw [← h]; exact spec_l1Cur_one_run k p0 p1)
noncomputable def spec_l1Cur_some_l1_b (k : Nat) (y9 : (((List Int) × Unit) × (((List Int) × Int × Int × Unit) × Unit))) (rec : ((List Int) × Int × Int × Unit) → (List Int) → (List Int) → (List Int) → Int → Option ((((List Int) × Int × Int × Unit) × (List Int) × (List Int) × Unit) ⊕ (((List Int) × (List Int) × Unit) × (((List Int) × Int × Int × Unit) × Unit)))) (x0 : ((List Int) × Int × Int × Unit)) (x4 : (List Int)) (x5 : (List Int)) (x10 : (List Int)) (x12 : Int) : Option ((((List Int) × Int × Int × Unit) × (List Int) × (List Int) × Unit) ⊕ (((List Int) × (List Int) × Unit) × (((List Int) × Int × Int × Unit) × Unit))) :=
  (cond (decide (x12 < ((List.length y9.1.1 : Nat) : Int))) (ixk x12 (List.length x10) (Option.bind (spec_l1Most_f k (rd x10 x12) 0) (fun y19 => (Option.bind (spec_l1Least_f k y19.1.1 20) (fun y20 => (Option.bind (spec_l1Cur_pick_f k (x0.1, x0.2.1, x0.2.2.1, ()) (iw (y20.1.1 + 1))) (fun y22 => (chk (decide (List.length x5 + List.length [y22.1.1] ≤ 15637498706147)) (rec (y22.2.1.1, y22.2.1.2.1, y22.2.1.2.2.1, ()) x4 (x5 ++ [y22.1.1]) x10 (iw (x12 + 1))))))))))) (some (.inl ((x0.1, x0.2.1, x0.2.2.1, ()), x4, x5, ()))))
noncomputable def spec_l1Cur_some_l1 (k : Nat) (y9 : (((List Int) × Unit) × (((List Int) × Int × Int × Unit) × Unit))) (x0 : ((List Int) × Int × Int × Unit)) (x4 : (List Int)) (x5 : (List Int)) (x10 : (List Int)) (x12 : Int) : Option ((((List Int) × Int × Int × Unit) × (List Int) × (List Int) × Unit) ⊕ (((List Int) × (List Int) × Unit) × (((List Int) × Int × Int × Unit) × Unit))) := iter k (fun (rec : (((List Int) × Int × Int × Unit) × (List Int) × (List Int) × (List Int) × Int × Unit) → Option ((((List Int) × Int × Int × Unit) × (List Int) × (List Int) × Unit) ⊕ (((List Int) × (List Int) × Unit) × (((List Int) × Int × Int × Unit) × Unit)))) (x : (((List Int) × Int × Int × Unit) × (List Int) × (List Int) × (List Int) × Int × Unit)) => spec_l1Cur_some_l1_b k y9 (fun x0 x4 x5 x10 x12 => rec (x0, x4, x5, x10, x12, ())) x.1 x.2.1 x.2.2.1 x.2.2.2.1 x.2.2.2.2.1) (x0, x4, x5, x10, x12, ())
noncomputable def spec_l1Cur_some_f (k : Nat) (p0 : ((List Int) × Int × Int × Unit)) : Option (((List Int) × (List Int) × Unit) × (((List Int) × Int × Int × Unit) × Unit)) :=
  (Option.bind (spec_l1Cur_socks_f k (p0.1, p0.2.1, p0.2.2.1, ())) (fun y9 => (met (spec_l1Cur_some_l1 k y9 (y9.2.1.1, y9.2.1.2.1, y9.2.1.2.2.1, ()) y9.1.1 [] y9.1.1 0) (fun j2 => (Option.bind (spec_l1Cur_one_f k (j2.1.1, j2.1.2.1, j2.1.2.2.1, ()) 12) (fun y27 => (met (cond y27.1.1 (Option.bind (spec_l1Cur_among_f k (y27.2.1.1, y27.2.1.2.1, y27.2.1.2.2.1, ()) [(-1), 0, 1]) (fun y31 => (chk (decide (List.length j2.2.2.1 + List.length [y31.1.1] ≤ 15637498706147)) (some (.inl ((y31.2.1.1, y31.2.1.2.1, y31.2.1.2.2.1, ()), (j2.2.2.1 ++ [y31.1.1]), ())))))) (some (.inl ((y27.2.1.1, y27.2.1.2.1, y27.2.1.2.2.1, ()), j2.2.2.1, ())))) (fun j3 => (met (Option.bind (spec_l1Cur_one_f k (j3.1.1, j3.1.2.1, j3.1.2.2.1, ()) 12) (fun y35 => (cond y35.1.1 (some (.inl ((y35.2.1.1, y35.2.1.2.1, y35.2.1.2.2.1, ()), j3.2.1, (decide (((List.length j3.2.1 : Nat) : Int) > 0)), ()))) (some (.inl ((y35.2.1.1, y35.2.1.2.1, y35.2.1.2.2.1, ()), j3.2.1, false, ())))))) (fun j4 => (met (cond j4.2.2.1 (Option.bind (spec_l1Cur_among_f k (j4.1.1, j4.1.2.1, j4.1.2.2.1, ()) [(-1), 21, 4611686018427387904]) (fun y44 => (chk (decide ((0 : Int) < ((List.length j4.2.1 : Nat) : Int))) (some (.inl ((y44.2.1.1, y44.2.1.2.1, y44.2.1.2.2.1, ()), (setI j4.2.1 0 y44.1.1), ())))))) (some (.inl ((j4.1.1, j4.1.2.1, j4.1.2.2.1, ()), j4.2.1, ())))) (fun j5 => (some ((j2.2.1, j5.2.1, ()), ((j5.1.1, j5.1.2.1, j5.1.2.2.1, ()), ())))))))))))))))
noncomputable def spec_l1Cur_some_a : Ann := (.q .o (.q .o (.q .o (.q (.q .o (.m [(0, 3000000, .box true [.v (.slc 5 (.int .u8)), .v (.int .i64), .v (.int .u64)]), (4, 100256, .v (.slc 3 (.int .i64))), (5, 100320, .own false 3 (.int .i64))] (.l [(0, 3000000, .box true [.v (.slc 5 (.int .u8)), .v (.int .i64), .v (.int .u64)]), (4, 100256, .v (.slc 3 (.int .i64))), (5, 100320, .own false 3 (.int .i64)), (10, 100640, .v (.slc 3 (.int .i64))), (12, 100768, .v (.int .i64))] .o))) (.q (.q .o (.j [(0, 3000000, .box true [.v (.slc 5 (.int .u8)), .v (.int .i64), .v (.int .u64)]), (5, 100320, .own false 3 (.int .i64))] .o .o)) (.q (.q (.r [(0, 3000000, .box true [.v (.slc 5 (.int .u8)), .v (.int .i64), .v (.int .u64)]), (5, 100320, .own false 3 (.int .i64)), (40, 102560, .v .bool)]) (.j [(0, 3000000, .box true [.v (.slc 5 (.int .u8)), .v (.int .i64), .v (.int .u64)]), (5, 100320, .own false 3 (.int .i64))] .o .o)) .o))))))
theorem spec_l1Cur_some_run (k : Nat) (p0 : ((List Int) × Int × Int × Unit)) : funX Tryz.prog (callT [spec_l1Cur_socks_c k, spec_l1Most_c k, spec_l1Least_c k, spec_l1Cur_pick_c k, spec_l1Cur_one_c k, spec_l1Cur_among_c k]) k Tryz.f61 spec_l1Cur_some_a [.box true [.v (.slc 5 (.int .u8)), .v (.int .i64), .v (.int .u64)]] [.v (.slc 3 (.int .i64)), .own false 3 (.int .i64)] (p0, ()) = spec_l1Cur_some_f k p0 := by kernel_rfl
noncomputable def spec_l1Cur_some_c (k : Nat) : Con := ⟨61, [.box true [.v (.slc 5 (.int .u8)), .v (.int .i64), .v (.int .u64)]], [.v (.slc 3 (.int .i64)), .own false 3 (.int .i64)], fun x => spec_l1Cur_some_f k x.1⟩
theorem spec_l1Cur_some_ok (k : Nat) : (spec_l1Cur_some_c k).Sound Tryz.prog GL := con_ok (k := k) (fn := Tryz.f61) (A := spec_l1Cur_some_a) (C := callT [spec_l1Cur_socks_c k, spec_l1Most_c k, spec_l1Least_c k, spec_l1Cur_pick_c k, spec_l1Cur_one_c k, spec_l1Cur_among_c k]) Tryz.func61 (by kernel_rfl) (show Tryz.f61.body = some (bodyX Tryz.f61) by rfl) (fun X hX => callT_at (TableOk.cons (spec_l1Cur_socks_ok k) (TableOk.cons (spec_l1Most_ok k) (TableOk.cons (spec_l1Least_ok k) (TableOk.cons (spec_l1Cur_pick_ok k) (TableOk.cons (spec_l1Cur_one_ok k) (TableOk.cons (spec_l1Cur_among_ok k) TableOk.nil)))))) X hX) (Nat.le_of_ble_eq_true (by kernel_rfl)) (fun ⟨p0, _⟩ y h => by rw [← h]; exact spec_l1Cur_some_run k p0)
noncomputable def spec_DrawIsDraw_f (k : Nat) (p0 : (List Int)) : Option (((List Int) × (List Int) × Unit) × Unit) :=
  (Option.bind (spec_l1Cur_some_f k (p0, 0, 0, ())) (fun y9 => (some ((y9.1.1, y9.1.2.1, ()), ()))))
noncomputable def spec_DrawIsDraw_a : Ann := .o
theorem spec_DrawIsDraw_run (k : Nat) (p0 : (List Int)) : funX Tryz.prog (callT [spec_l1Cur_some_c k]) k Tryz.f35 spec_DrawIsDraw_a [.v (.slc 5 (.int .u8))] [.v (.slc 3 (.int .i64)), .own false 3 (.int .i64)] (p0, ()) = spec_DrawIsDraw_f k p0 := by kernel_rfl
noncomputable def spec_DrawIsDraw_c (k : Nat) : Con := ⟨35, [.v (.slc 5 (.int .u8))], [.v (.slc 3 (.int .i64)), .own false 3 (.int .i64)], fun x => spec_DrawIsDraw_f k x.1⟩
theorem spec_DrawIsDraw_ok (k : Nat) : (spec_DrawIsDraw_c k).Sound Tryz.prog GL := con_ok (k := k) (fn := Tryz.f35) (A := spec_DrawIsDraw_a) (C := callT [spec_l1Cur_some_c k]) Tryz.func35 (by kernel_rfl) (show Tryz.f35.body = some (bodyX Tryz.f35) by rfl) (fun X hX => callT_at (TableOk.cons (spec_l1Cur_some_ok k) TableOk.nil) X hX) (Nat.le_of_ble_eq_true (by kernel_rfl)) (fun ⟨p0, _⟩ y h => by rw [← h]; exact spec_DrawIsDraw_run k p0)
noncomputable def spec_DrawRankOfDraw_f (k : Nat) (p0 : (List Int)) : Option (((List Int) × (List Int) × Unit) × Unit) :=
  (Option.bind (spec_DrawIsDraw_f k p0) (fun y5 => (some ((y5.1.1, y5.1.2.1, ()), ()))))
noncomputable def spec_DrawRankOfDraw_a : Ann := .o
theorem spec_DrawRankOfDraw_run (k : Nat) (p0 : (List Int)) : funX Tryz.prog (callT [spec_DrawIsDraw_c k]) k Tryz.f5 spec_DrawRankOfDraw_a [.v (.slc 5 (.int .u8))] [.v (.slc 3 (.int .i64)), .own false 3 (.int .i64)] (p0, ()) = spec_DrawRankOfDraw_f k p0 := by kernel_rfl
noncomputable def spec_DrawRankOfDraw_c (k : Nat) : Con := ⟨5, [.v (.slc 5 (.int .u8))], [.v (.slc 3 (.int .i64)), .own false 3 (.int .i64)], fun x => spec_DrawRankOfDraw_f k x.1⟩
theorem spec_DrawRankOfDraw_ok (k : Nat) : (spec_DrawRankOfDraw_c k).Sound Tryz.prog GL := con_ok (k := k) (fn := Tryz.f5) (A := spec_DrawRankOfDraw_a) (C := callT [spec_DrawIsDraw_c k]) Tryz.func5 (by kernel_rfl) (show Tryz.f5.body = some (bodyX Tryz.f5) by rfl) (fun X hX => callT_at (TableOk.cons (spec_DrawIsDraw_ok k) TableOk.nil) X hX) (Nat.le_of_ble_eq_true (by kernel_rfl)) (fun ⟨p0, _⟩ y h => by rw [← h]; exact spec_DrawRankOfDraw_run k p0)
noncomputable def impl_within_f (k : Nat) (p0 : Int) (p1 : Int) (p2 : Int) : Option ((Bool × Unit) × Unit) :=
  (met (cond (decide (p1 ≤ p0)) (some (.inl ((decide (p0 ≤ p2)), ()))) (some (.inl (false, ())))) (fun j1 => (some ((j1.1, ()), ()))))
noncomputable def impl_within_a : Ann := (.q .o (.q (.r [(6, 100384, .v .bool)]) .o))
theorem impl_within_run (k : Nat) (p0 : Int) (p1 : Int) (p2 : Int) : funX Tryz.prog (callT []) k Tryz.f46 impl_within_a [.v (.int .i64), .v (.int .i64), .v (.int .i64)] [.v .bool] (p0, p1, p2, ()) = impl_within_f k p0 p1 p2 := by kernel_rfl
noncomputable def impl_within_c (k : Nat) : Con := ⟨46, [.v (.int .i64), .v (.int .i64), .v (.int .i64)], [.v .bool], fun x => impl_within_f k x.1 x.2.1 x.2.2.1⟩
theorem impl_within_ok (k : Nat) : (impl_within_c k).Sound Tryz.prog GL := con_ok (k := k) (fn := Tryz.f46) (A := impl_within_a) (C := callT []) Tryz.func46 (by kernel_rfl) (show Tryz.f46.body = some (bodyX Tryz.f46) by rfl) (fun X hX => callT_at TableOk.nil X hX) (Nat.le_of_ble_eq_true (by kernel_rfl)) (fun ⟨p0, p1, p2, _⟩ y h => by rw [← h]; exact impl_within_run k p0 p1 p2)
noncomputable def impl_areWithin_1_f (k : Nat) (p0 : Int) (p1 : (Int × Unit)) (p2 : (Int × Unit)) : Option ((Bool × Unit) × Unit) :=
  (Option.bind (impl_within_f k p0 p1.1 p2.1) (fun y8 => (some (((!y8.1.1), ()), ()))))
noncomputable def impl_areWithin_1_a : Ann := .o
theorem impl_areWithin_1_run (k : Nat) (p0 : Int) (p1 : (Int × Unit)) (p2 : (Int × Unit)) : funX Tryz.prog (callT [impl_within_c k]) k Tryz.f80 impl_areWithin_1_a [.v (.int .i64), .rbox [(.int .i64)], .rbox [(.int .i64)]] [.v .bool] (p0, p1, p2, ()) = impl_areWithin_1_f k p0 p1 p2 := by kernel_rfl
noncomputable def impl_areWithin_1_c (k : Nat) : Con := ⟨80, [.v (.int .i64), .rbox [(.int .i64)], .rbox [(.int .i64)]], [.v .bool], fun x => impl_areWithin_1_f k x.1 x.2.1 x.2.2.1⟩
theorem impl_areWithin_1_ok (k : Nat) : (impl_areWithin_1_c k).Sound Tryz.prog GL := con_ok (k := k) (fn := Tryz.f80) (A := impl_areWithin_1_a) (C := callT [impl_within_c k]) Tryz.func80 (by kernel_rfl) (show Tryz.f80.body = some (bodyX Tryz.f80) by rfl) (fun X hX => callT_at (TableOk.cons (impl_within_ok k) TableOk.nil) X hX) (Nat.le_of_ble_eq_true (by kernel_rfl)) (fun ⟨p0, p1, p2, _⟩ y h => by rw [← h]; exact impl_areWithin_1_run k p0 p1 p2)
noncomputable def slices_IndexFunc_int_int__impl_areWithin_1_l1_b (k : Nat) (p0 : (List Int)) (p1 : ((Int × Unit) × (Int × Unit) × Unit)) (rec : Int → Option (Unit ⊕ ((Int × Unit) × Unit))) (x8 : Int) : Option (Unit ⊕ ((Int × Unit) × Unit)) :=
  (cond (decide (x8 < ((List.length p0 : Nat) : Int))) (ixk x8 (List.length p0) (Option.bind (impl_areWithin_1_f k (rd p0 x8) (p1.1.1, ()) (p1.2.1.1, ())) (fun y16 => (cond y16.1.1 (some (.inr ((x8, ()), ()))) (rec (iw (x8 + 1))))))) (some (.inl ())))
noncomputable def slices_IndexFunc_int_int__impl_areWithin_1_l1 (k : Nat) (p0 : (List Int)) (p1 : ((Int × Unit) × (Int × Unit) × Unit)) (x8 : Int) : Option (Unit ⊕ ((Int × Unit) × Unit)) := iter k (fun (rec : (Int × Unit) → Option (Unit ⊕ ((Int × Unit) × Unit))) (x : (Int × Unit)) => slices_IndexFunc_int_int__impl_areWithin_1_l1_b k p0 p1 (fun x8 => rec (x8, ())) x.1) (x8, ())
noncomputable def slices_IndexFunc_int_int__impl_areWithin_1_f (k : Nat) (p0 : (List Int)) (p1 : ((Int × Unit) × (Int × Unit) × Unit)) : Option ((Int × Unit) × Unit) :=
  (met (slices_IndexFunc_int_int__impl_areWithin_1_l1 k p0 p1 0) (fun j2 => (some (((-1), ()), ()))))
noncomputable def slices_IndexFunc_int_int__impl_areWithin_1_a : Ann := (.q .o (.q (.q .o (.m [] (.l [(8, 100512, .v (.int .i64))] .o))) .o))
theorem slices_IndexFunc_int_int__impl_areWithin_1_run (k : Nat) (p0 : (List Int)) (p1 : ((Int × Unit) × (Int × Unit) × Unit)) : funX Tryz.prog (callT [impl_areWithin_1_c k]) k Tryz.f88 slices_IndexFunc_int_int__impl_areWithin_1_a [.v (.slc 3 (.int .i64)), .fn 80 [.r [(.int .i64)], .r [(.int .i64)]]] [.v (.int .i64)] (p0, p1, ()) = slices_IndexFunc_int_int__impl_areWithin_1_f k p0 p1 := by kernel_rfl
noncomputable def slices_IndexFunc_int_int__impl_areWithin_1_c (k : Nat) : Con := ⟨88, [.v (.slc 3 (.int .i64)), .fn 80 [.r [(.int .i64)], .r [(.int .i64)]]], [.v (.int .i64)], fun x => slices_IndexFunc_int_int__impl_areWithin_1_f k x.1 x.2.1⟩
theorem slices_IndexFunc_int_int__impl_areWithin_1_ok (k : Nat) : (slices_IndexFunc_int_int__impl_areWithin_1_c k).Sound Tryz.prog GL := con_ok (k := k) (fn := Tryz.f88) (A := slices_IndexFunc_int_int__impl_areWithin_1_a) (C := callT [impl_areWithin_1_c k]) Tryz.func88 (by kernel_rfl) (show Tryz.f88.body = some (bodyX Tryz.f88) by rfl) (fun X hX => callT_at (TableOk.cons (impl_areWithin_1_ok k) TableOk.nil) X hX) (Nat.le_of_ble_eq_true (by kernel_rfl)) (fun ⟨p0, p1, _⟩ y h => by rw [← h]; exact slices_IndexFunc_int_int__impl_areWithin_1_run k p0 p1)
noncomputable def slices_ContainsFunc_int_int__impl_areWithin_1_f (k : Nat) (p0 : (List Int)) (p1 : ((Int × Unit) × (Int × Unit) × Unit)) : Option ((Bool × Unit) × Unit) :=
  (Option.bind (slices_IndexFunc_int_int__impl_areWithin_1_f k p0 ((p1.1.1, ()), (p1.2.1.1, ()), ())) (fun y7 => (some (((decide (y7.1.1 ≥ 0)), ()), ()))))
noncomputable def slices_ContainsFunc_int_int__impl_areWithin_1_a : Ann := .o
theorem slices_ContainsFunc_int_int__impl_areWithin_1_run (k : Nat) (p0 : (List Int)) (p1 : ((Int × Unit) × (Int × Unit) × Unit)) : funX Tryz.prog (callT [slices_IndexFunc_int_int__impl_areWithin_1_c k]) k Tryz.f79 slices_ContainsFunc_int_int__impl_areWithin_1_a [.v (.slc 3 (.int .i64)), .fn 80 [.r [(.int .i64)], .r [(.int .i64)]]] [.v .bool] (p0, p1, ()) = slices_ContainsFunc_int_int__impl_areWithin_1_f k p0 p1 := by kernel_rfl
noncomputable def slices_ContainsFunc_int_int__impl_areWithin_1_c (k : Nat) : Con := ⟨79, [.v (.slc 3 (.int .i64)), .fn 80 [.r [(.int .i64)], .r [(.int .i64)]]], [.v .bool], fun x => slices_ContainsFunc_int_int__impl_areWithin_1_f k x.1 x.2.1⟩
theorem slices_ContainsFunc_int_int__impl_areWithin_1_ok (k : Nat) : (slices_ContainsFunc_int_int__impl_areWithin_1_c k).Sound Tryz.prog GL := con_ok (k := k) (fn := Tryz.f79) (A := slices_ContainsFunc_int_int__impl_areWithin_1_a) (C := callT [slices_IndexFunc_int_int__impl_areWithin_1_c k]) Tryz.func79 (by kernel_rfl) (show Tryz.f79.body = some (bodyX Tryz.f79) by rfl) (fun X hX => callT_at (TableOk.cons (slices_IndexFunc_int_int__impl_areWithin_1_ok k) TableOk.nil) X hX) (Nat.le_of_ble_eq_true (by kernel_rfl)) (fun ⟨p0, p1, _⟩ y h => by rw [← h]; exact slices_ContainsFunc_int_int__impl_areWithin_1_run k p0 p1)
noncomputable def impl_areWithin_f (k : Nat) (p0 : (List Int)) (p1 : Int) (p2 : Int) : Option ((Bool × Unit) × Unit) :=
  (Option.bind (slices_ContainsFunc_int_int__impl_areWithin_1_f k p0 ((p1, ()), (p2, ()), ())) (fun y9 => (some (((!y9.1.1), ()), ()))))
noncomputable def impl_areWithin_a : Ann := .o
theorem impl_areWithin_run (k : Nat) (p0 : (List Int)) (p1 : Int) (p2 : Int) : funX Tryz.prog (callT [slices_ContainsFunc_int_int__impl_areWithin_1_c k]) k Tryz.f65 impl_areWithin_a [.v (.slc 3 (.int .i64)), .v (.int .i64), .v (.int .i64)] [.v .bool] (p0, p1, p2, ()) = impl_areWithin_f k p0 p1 p2 := by kernel_rfl
noncomputable def impl_areWithin_c (k : Nat) : Con := ⟨65, [.v (.slc 3 (.int .i64)), .v (.int .i64), .v (.int .i64)], [.v .bool], fun x => impl_areWithin_f k x.1 x.2.1 x.2.2.1⟩
theorem impl_areWithin_ok (k : Nat) : (impl_areWithin_c k).Sound Tryz.prog GL := con_ok (k := k) (fn := Tryz.f65) (A := impl_areWithin_a) (C := callT [slices_ContainsFunc_int_int__impl_areWithin_1_c k]) Tryz.func65 (by kernel_rfl) (show Tryz.f65.body = some (bodyX Tryz.f65) by rfl) (fun X hX => callT_at (TableOk.cons (slices_ContainsFunc_int_int__impl_areWithin_1_ok k) TableOk.nil) X hX) (Nat.le_of_ble_eq_true (by kernel_rfl)) (fun ⟨p0, p1, p2, _⟩ y h => by rw [← h]; exact impl_areWithin_run k p0 p1 p2)
noncomputable def impl_total_l1_b (k : Nat) (p0 : (List Int)) (rec : Int → Int → Option ((Int × Unit) ⊕ ((Int × Unit) × Unit))) (x3 : Int) (x8 : Int) : Option ((Int × Unit) ⊕ ((Int × Unit) × Unit)) :=
  (cond (decide (x8 < ((List.length p0 : Nat) : Int))) (ixk x8 (List.length p0) (rec (iw (x3 + (rd p0 x8))) (iw (x8 + 1)))) (some (.inl (x3, ()))))
noncomputable def impl_total_l1 (k : Nat) (p0 : (List Int)) (x3 : Int) (x8 : Int) : Option ((Int × Unit) ⊕ ((Int × Unit) × Unit)) := iter k (fun (rec : (Int × Int × Unit) → Option ((Int × Unit) ⊕ ((Int × Unit) × Unit))) (x : (Int × Int × Unit)) => impl_total_l1_b k p0 (fun x3 x8 => rec (x3, x8, ())) x.1 x.2.1) (x3, x8, ())
noncomputable def impl_total_f (k : Nat) (p0 : (List Int)) : Option ((Int × Unit) × Unit) :=
  (met (impl_total_l1 k p0 0 0) (fun j2 => (some ((j2.1, ()), ()))))
noncomputable def impl_total_a : Ann := (.q .o (.q .o (.q (.q .o (.m [(3, 100192, .v (.int .i64))] (.l [(3, 100192, .v (.int .i64)), (8, 100512, .v (.int .i64))] .o))) .o)))
theorem impl_total_run (k : Nat) (p0 : (List Int)) : funX Tryz.prog (callT []) k Tryz.f37 impl_total_a [.v (.slc 3 (.int .i64))] [.v (.int .i64)] (p0, ()) = impl_total_f k p0 := by kernel_rfl
noncomputable def impl_total_c (k : Nat) : Con := ⟨37, [.v (.slc 3 (.int .i64))], [.v (.int .i64)], fun x => impl_total_f k x.1⟩
theorem impl_total_ok (k : Nat) : (impl_total_c k).Sound Tryz.prog GL := con_ok (k := k) (fn := Tryz.f37) (A := impl_total_a) (C := callT []) Tryz.func37 (by kernel_rfl) (show Tryz.f37.body = some (bodyX Tryz.f37) by rfl) (fun X hX => callT_at TableOk.nil X hX) (Nat.le_of_ble_eq_true (by kernel_rfl)) (fun ⟨p0, _⟩ y h => by rw [← h]; exact impl_total_run k p0)
noncomputable def impl_AreSocks_f (k : Nat) (p0 : (List Int)) : Option ((Bool × Unit) × Unit) :=
  (met (Option.bind (impl_within_f k ((List.length p0 : Nat) : Int) 1 8) (fun y5 => (cond y5.1.1 (Option.bind (impl_areWithin_f k p0 0 20) (fun y8 => (cond y8.1.1 (Option.bind (impl_total_f k p0) (fun y12 => (some (.inl ((decide (y12.1.1 > 0)), ()))))) (some (.inl (false, ())))))) (some (.inl (false, ())))))) (fun j1 => (some ((j1.1, ()), ()))))
noncomputable def impl_AreSocks_a : Ann := (.q .o (.q (.r [(2, 100128, .v .bool)]) .o))
theorem impl_AreSocks_run (k : Nat) (p0 : (List Int)) : funX Tryz.prog (callT [impl_within_c k, impl_areWithin_c k, impl_total_c k]) k Tryz.f45 impl_AreSocks_a [.v (.slc 3 (.int .i64))] [.v .bool] (p0, ()) = impl_AreSocks_f k p0 := by kernel_rfl
noncomputable def impl_AreSocks_c (k : Nat) : Con := ⟨45, [.v (.slc 3 (.int .i64))], [.v .bool], fun x => impl_AreSocks_f k x.1⟩
theorem impl_AreSocks_ok (k : Nat) : (impl_AreSocks_c k).Sound Tryz.prog GL := con_ok (k := k) (fn := Tryz.f45) (A := impl_AreSocks_a) (C := callT [impl_within_c k, impl_areWithin_c k, impl_total_c k]) Tryz.func45 (by kernel_rfl) (show Tryz.f45.body = some (bodyX Tryz.f45) by rfl) (fun X hX => callT_at (TableOk.cons (impl_within_ok k) (TableOk.cons (impl_areWithin_ok k) (TableOk.cons (impl_total_ok k) TableOk.nil))) X hX) (Nat.le_of_ble_eq_true (by kernel_rfl)) (fun ⟨p0, _⟩ y h => by rw [← h]; exact impl_AreSocks_run k p0)
noncomputable def impl_IsDraw_l1_b (k : Nat) (p0 : (List Int)) (p1 : (List Int)) (rec : Int → Option (Unit ⊕ ((Bool × Bool × Unit) × Unit))) (x18 : Int) : Option (Unit ⊕ ((Bool × Bool × Unit) × Unit)) :=
  (cond (decide (x18 < ((List.length p1 : Nat) : Int))) (ixk x18 (List.length p1) (ixk x18 (List.length p0) (Option.bind (impl_within_f k (rd p1 x18) 0 (rd p0 x18)) (fun y28 => (cond (!y28.1.1) (some (.inr ((false, true, ()), ()))) (rec (iw (x18 + 1)))))))) (some (.inl ())))
noncomputable def impl_IsDraw_l1 (k : Nat) (p0 : (List Int)) (p1 : (List Int)) (x18 : Int) : Option (Unit ⊕ ((Bool × Bool × Unit) × Unit)) := iter k (fun (rec : (Int × Unit) → Option (Unit ⊕ ((Bool × Bool × Unit) × Unit))) (x : (Int × Unit)) => impl_IsDraw_l1_b k p0 p1 (fun x18 => rec (x18, ())) x.1) (x18, ())
noncomputable def impl_IsDraw_f (k : Nat) (p0 : (List Int)) (p1 : (List Int)) : Option ((Bool × Bool × Unit) × Unit) :=
  (Option.bind (impl_AreSocks_f k p0) (fun y9 => (cond (!y9.1.1) (some ((false, false, ()), ())) (cond (((List.length p1 : Nat) : Int) != ((List.length p0 : Nat) : Int)) (some ((false, true, ()), ())) (met (impl_IsDraw_l1 k p0 p1 0) (fun j2 => (some ((true, true, ()), ()))))))))
noncomputable def impl_IsDraw_a : Ann := (.q .o (.q .o (.q .o (.q (.q .o (.m [] (.l [(18, 101152, .v (.int .i64))] .o))) .o))))
theorem impl_IsDraw_run (k : Nat) (p0 : (List Int)) (p1 : (List Int)) : funX Tryz.prog (callT [impl_AreSocks_c k, impl_within_c k]) k Tryz.f12 impl_IsDraw_a [.v (.slc 3 (.int .i64)), .v (.slc 3 (.int .i64))] [.v .bool, .v .bool] (p0, p1, ()) = impl_IsDraw_f k p0 p1 := by kernel_rfl
noncomputable def impl_IsDraw_c (k : Nat) : Con := ⟨12, [.v (.slc 3 (.int .i64)), .v (.slc 3 (.int .i64))], [.v .bool, .v .bool], fun x => impl_IsDraw_f k x.1 x.2.1⟩
theorem impl_IsDraw_ok (k : Nat) : (impl_IsDraw_c k).Sound Tryz.prog GL := con_ok (k := k) (fn := Tryz.f12) (A := impl_IsDraw_a) (C := callT [impl_AreSocks_c k, impl_within_c k]) Tryz.func12 (by kernel_rfl) (show Tryz.f12.body = some (bodyX Tryz.f12) by rfl) (fun X hX => callT_at (TableOk.cons (impl_AreSocks_ok k) (TableOk.cons (impl_within_ok k) TableOk.nil)) X hX) (Nat.le_of_ble_eq_true (by kernel_rfl)) (fun ⟨p0, p1, _⟩ y h => by rw [← h]; exact impl_IsDraw_run k p0 p1)
noncomputable def impl_isDraw_f (k : Nat) (p0 : (List Int)) (p1 : (List Int)) : Option ((Bool × Unit) × Unit) :=
  (Option.bind (impl_IsDraw_f k p0 p1) (fun y10 => (some ((y10.1.1, ()), ()))))
noncomputable def impl_isDraw_a : Ann := .o
theorem impl_isDraw_run (k : Nat) (p0 : (List Int)) (p1 : (List Int)) : funX Tryz.prog (callT [impl_IsDraw_c k]) k Tryz.f36 impl_isDraw_a [.v (.slc 3 (.int .i64)), .v (.slc 3 (.int .i64))] [.v .bool] (p0, p1, ()) = impl_isDraw_f k p0 p1 := by kernel_rfl
noncomputable def impl_isDraw_c (k : Nat) : Con := ⟨36, [.v (.slc 3 (.int .i64)), .v (.slc 3 (.int .i64))], [.v .bool], fun x => impl_isDraw_f k x.1 x.2.1⟩
theorem impl_isDraw_ok (k : Nat) : (impl_isDraw_c k).Sound Tryz.prog GL := con_ok (k := k) (fn := Tryz.f36) (A := impl_isDraw_a) (C := callT [impl_IsDraw_c k]) Tryz.func36 (by kernel_rfl) (show Tryz.f36.body = some (bodyX Tryz.f36) by rfl) (fun X hX => callT_at (TableOk.cons (impl_IsDraw_ok k) TableOk.nil) X hX) (Nat.le_of_ble_eq_true (by kernel_rfl)) (fun ⟨p0, p1, _⟩ y h => by rw [← h]; exact impl_isDraw_run k p0 p1)
noncomputable def impl_draws_1_f (k : Nat) (p0 : Int) (p1 : Int) : Option ((Int × Unit) × Unit) :=
  (some ((1, ()), ()))
noncomputable def impl_draws_1_a : Ann := .o
theorem impl_draws_1_run (k : Nat) (p0 : Int) (p1 : Int) : funX Tryz.prog (callT []) k Tryz.f63 impl_draws_1_a [.v (.int .i64), .v (.int .i64)] [.v (.int .i64)] (p0, p1, ()) = impl_draws_1_f k p0 p1 := by kernel_rfl
noncomputable def impl_draws_1_c (k : Nat) : Con := ⟨63, [.v (.int .i64), .v (.int .i64)], [.v (.int .i64)], fun x => impl_draws_1_f k x.1 x.2.1⟩
theorem impl_draws_1_ok (k : Nat) : (impl_draws_1_c k).Sound Tryz.prog GL := con_ok (k := k) (fn := Tryz.f63) (A := impl_draws_1_a) (C := callT []) Tryz.func63 (by kernel_rfl) (show Tryz.f63.body = some (bodyX Tryz.f63) by rfl) (fun X hX => callT_at TableOk.nil X hX) (Nat.le_of_ble_eq_true (by kernel_rfl)) (fun ⟨p0, p1, _⟩ y h => by rw [← h]; exact impl_draws_1_run k p0 p1)
noncomputable def impl_pairsOf_l1_b (k : Nat) (p0 : (List Int)) (rec : Int → Int → Option ((Int × Unit) ⊕ ((Int × Unit) × Unit))) (x3 : Int) (x8 : Int) : Option ((Int × Unit) ⊕ ((Int × Unit) × Unit)) :=
  (cond (decide (x8 < ((List.length p0 : Nat) : Int))) (ixk x8 (List.length p0) (rec (iw (x3 + (iw (Int.tdiv (rd p0 x8) 2)))) (iw (x8 + 1)))) (some (.inl (x3, ()))))
noncomputable def impl_pairsOf_l1 (k : Nat) (p0 : (List Int)) (x3 : Int) (x8 : Int) : Option ((Int × Unit) ⊕ ((Int × Unit) × Unit)) := iter k (fun (rec : (Int × Int × Unit) → Option ((Int × Unit) ⊕ ((Int × Unit) × Unit))) (x : (Int × Int × Unit)) => impl_pairsOf_l1_b k p0 (fun x3 x8 => rec (x3, x8, ())) x.1 x.2.1) (x3, x8, ())
noncomputable def impl_pairsOf_f (k : Nat) (p0 : (List Int)) : Option ((Int × Unit) × Unit) :=
  (met (impl_pairsOf_l1 k p0 0 0) (fun j2 => (some ((j2.1, ()), ()))))
noncomputable def impl_pairsOf_a : Ann := (.q .o (.q .o (.q (.q .o (.m [(3, 100192, .v (.int .i64))] (.l [(3, 100192, .v (.int .i64)), (8, 100512, .v (.int .i64))] .o))) .o)))
theorem impl_pairsOf_run (k : Nat) (p0 : (List Int)) : funX Tryz.prog (callT []) k Tryz.f42 impl_pairsOf_a [.v (.slc 3 (.int .i64))] [.v (.int .i64)] (p0, ()) = impl_pairsOf_f k p0 := by kernel_rfl
noncomputable def impl_pairsOf_c (k : Nat) : Con := ⟨42, [.v (.slc 3 (.int .i64))], [.v (.int .i64)], fun x => impl_pairsOf_f k x.1⟩
theorem impl_pairsOf_ok (k : Nat) : (impl_pairsOf_c k).Sound Tryz.prog GL := con_ok (k := k) (fn := Tryz.f42) (A := impl_pairsOf_a) (C := callT []) Tryz.func42 (by kernel_rfl) (show Tryz.f42.body = some (bodyX Tryz.f42) by rfl) (fun X hX => callT_at TableOk.nil X hX) (Nat.le_of_ble_eq_true (by kernel_rfl)) (fun ⟨p0, _⟩ y h => by rw [← h]; exact impl_pairsOf_run k p0)
noncomputable def impl_waysOf_1_l1_b (k : Nat) (p0 : (Int × Unit)) (p1 : (Int × Unit)) (rec : (List (List Int)) → Int → Option (((List (List Int)) × Unit) ⊕ (((List (List Int)) × Unit) × Unit))) (x3 : (List (List Int))) (x10 : Int) : Option (((List (List Int)) × Unit) ⊕ (((List (List Int)) × Unit) × Unit)) :=
  (cond (decide (x10 < ((List.length (List.replicate (Int.toNat (iw (p0.1 + 1))) ([] : (List Int))) : Nat) : Int))) (chk (decide ((0 : Int) ≤ (iw (p1.1 + 1)))) (chk (decide ((iw (p1.1 + 1)) ≤ ((15637498706147 : Nat) : Int))) (ixk x10 (List.length x3) (rec (setI x3 x10 (List.replicate (Int.toNat (iw (p1.1 + 1))) (0 : Int))) (iw (x10 + 1)))))) (some (.inl (x3, ()))))
noncomputable def impl_waysOf_1_l1 (k : Nat) (p0 : (Int × Unit)) (p1 : (Int × Unit)) (x3 : (List (List Int))) (x10 : Int) : Option (((List (List Int)) × Unit) ⊕ (((List (List Int)) × Unit) × Unit)) := iter k (fun (rec : ((List (List Int)) × Int × Unit) → Option (((List (List Int)) × Unit) ⊕ (((List (List Int)) × Unit) × Unit))) (x : ((List (List Int)) × Int × Unit)) => impl_waysOf_1_l1_b k p0 p1 (fun x3 x10 => rec (x3, x10, ())) x.1 x.2.1) (x3, x10, ())
noncomputable def impl_waysOf_1_f (k : Nat) (p0 : (Int × Unit)) (p1 : (Int × Unit)) : Option (((List (List Int)) × Unit) × Unit) :=
  (chk (decide ((0 : Int) ≤ (iw (p0.1 + 1)))) (chk (decide ((iw (p0.1 + 1)) ≤ ((5629499534213 : Nat) : Int))) (met (impl_waysOf_1_l1 k p0 p1 (List.replicate (Int.toNat (iw (p0.1 + 1))) ([] : (List Int))) 0) (fun j2 => (some ((j2.1, ()), ()))))))
noncomputable def impl_waysOf_1_a : Ann := (.q .o (.q .o (.q (.q .o (.m [(3, 100192, .deep 24 (.slc 3 (.int .i64)))] (.l [(3, 100192, .deep 24 (.slc 3 (.int .i64))), (10, 100640, .v (.int .i64))] .o))) .o)))
theorem impl_waysOf_1_run (k : Nat) (p0 : (Int × Unit)) (p1 : (Int × Unit)) : funX Tryz.prog (callT []) k Tryz.f78 impl_waysOf_1_a [.rbox [(.int .i64)], .rbox [(.int .i64)]] [.deep 24 (.slc 3 (.int .i64))] (p0, p1, ()) = impl_waysOf_1_f k p0 p1 := by kernel_rfl
noncomputable def impl_waysOf_1_c (k : Nat) : Con := ⟨78, [.rbox [(.int .i64)], .rbox [(.int .i64)]], [.deep 24 (.slc 3 (.int .i64))], fun x => impl_waysOf_1_f k x.1 x.2.1⟩
theorem impl_waysOf_1_ok (k : Nat) : (impl_waysOf_1_c k).Sound Tryz.prog GL := con_ok (k := k) (fn := Tryz.f78) (A := impl_waysOf_1_a) (C := callT []) Tryz.func78 (by kernel_rfl) (show Tryz.f78.body = some (bodyX Tryz.f78) by rfl) (fun X hX => callT_at TableOk.nil X hX) (Nat.le_of_ble_eq_true (by kernel_rfl)) (fun ⟨p0, p1, _⟩ y h => by rw [← h]; exact impl_waysOf_1_run k p0 p1)
noncomputable def impl_waysOf__impl_draws_1_l4_b (k : Nat) (y17 : ((Int × Unit) × Unit)) (x9 : Int) (x54 : Int) (y60 : ((Int × Unit) × Unit)) (x12 : Int) (rec : (List (List (List Int))) → Int → Option (((List (List (List Int))) × Unit) ⊕ (((List (List (List Int))) × Unit) ⊕ (((List (List (List Int))) × Unit) ⊕ (((List (List (List Int))) × Unit) ⊕ (((List (List (List Int))) × Unit) ⊕ (((List (List (List Int))) × Unit) ⊕ (((List (List (List Int))) × Unit) ⊕ (((List (List (List Int))) × Unit) × Unit))))))))) (x8_3 : (List (List (List Int)))) (x13 : Int) : Option (((List (List (List Int))) × Unit) ⊕ (((List (List (List Int))) × Unit) ⊕ (((List (List (List Int))) × Unit) ⊕ (((List (List (List Int))) × Unit) ⊕ (((List (List (List Int))) × Unit) ⊕ (((List (List (List Int))) × Unit) ⊕ (((List (List (List Int))) × Unit) ⊕ (((List (List (List Int))) × Unit) × Unit)))))))) :=
  (cond (decide (x13 ≤ y17.1.1)) (ixk x9 (List.length x8_3) (ixk x12 (List.length (rdG [] x8_3 x9)) (ixk x13 (List.length (rdG [] (rdG [] x8_3 x9) x12)) (ixk (iw (x9 + 1)) (List.length x8_3) (ixk (iw (x12 - x54)) (List.length (rdG [] x8_3 (iw (x9 + 1)))) (ixk (iw (x13 - (iw (Int.tdiv x54 2)))) (List.length (rdG [] (rdG [] x8_3 (iw (x9 + 1))) (iw (x12 - x54)))) (ixk x13 (List.length (rdG [] (rdG [] x8_3 x9) x12)) (rec (setI x8_3 x9 (setI (rdG [] x8_3 x9) x12 (setI (rdG [] (rdG [] x8_3 x9) x12) x13 (iw ((rd (rdG [] (rdG [] x8_3 x9) x12) x13) + (iw (y60.1.1 * (rd (rdG [] (rdG [] x8_3 (iw (x9 + 1))) (iw (x12 - x54))) (iw (x13 - (iw (Int.tdiv x54 2)))))))))))) (iw (x13 + 1)))))))))) (some (.inl (x8_3, ()))))
noncomputable def impl_waysOf__impl_draws_1_l4 (k : Nat) (y17 : ((Int × Unit) × Unit)) (x9 : Int) (x54 : Int) (y60 : ((Int × Unit) × Unit)) (x12 : Int) (x8_3 : (List (List (List Int)))) (x13 : Int) : Option (((List (List (List Int))) × Unit) ⊕ (((List (List (List Int))) × Unit) ⊕ (((List (List (List Int))) × Unit) ⊕ (((List (List (List Int))) × Unit) ⊕ (((List (List (List Int))) × Unit) ⊕ (((List (List (List Int))) × Unit) ⊕ (((List (List (List Int))) × Unit) ⊕ (((List (List (List Int))) × Unit) × Unit)))))))) := iter k (fun (rec : ((List (List (List Int))) × Int × Unit) → Option (((List (List (List Int))) × Unit) ⊕ (((List (List (List Int))) × Unit) ⊕ (((List (List (List Int))) × Unit) ⊕ (((List (List (List Int))) × Unit) ⊕ (((List (List (List Int))) × Unit) ⊕ (((List (List (List Int))) × Unit) ⊕ (((List (List (List Int))) × Unit) ⊕ (((List (List (List Int))) × Unit) × Unit))))))))) (x : ((List (List (List Int))) × Int × Unit)) => impl_waysOf__impl_draws_1_l4_b k y17 x9 x54 y60 x12 (fun x8_3 x13 => rec (x8_3, x13, ())) x.1 x.2.1) (x8_3, x13, ())
noncomputable def impl_waysOf__impl_draws_1_l3_b (k : Nat) (y15 : ((Int × Unit) × Unit)) (y17 : ((Int × Unit) × Unit)) (x9 : Int) (x54 : Int) (y60 : ((Int × Unit) × Unit)) (rec : (List (List (List Int))) → Int → Option (((List (List (List Int))) × Unit) ⊕ (((List (List (List Int))) × Unit) ⊕ (((List (List (List Int))) × Unit) ⊕ (((List (List (List Int))) × Unit) ⊕ (((List (List (List Int))) × Unit) ⊕ (((List (List (List Int))) × Unit) × Unit))))))) (x8_2 : (List (List (List Int)))) (x12 : Int) : Option (((List (List (List Int))) × Unit) ⊕ (((List (List (List Int))) × Unit) ⊕ (((List (List (List Int))) × Unit) ⊕ (((List (List (List Int))) × Unit) ⊕ (((List (List (List Int))) × Unit) ⊕ (((List (List (List Int))) × Unit) × Unit)))))) :=
  (cond (decide (x12 ≤ y15.1.1)) (met (met (impl_waysOf__impl_draws_1_l4 k y17 x9 x54 y60 x12 x8_2 (iw (Int.tdiv x54 2))) (fun j5 => (some (.inl (j5.1, ()))))) (fun j6 => (rec j6.1 (iw (x12 + 1))))) (some (.inl (x8_2, ()))))
noncomputable def impl_waysOf__impl_draws_1_l3 (k : Nat) (y15 : ((Int × Unit) × Unit)) (y17 : ((Int × Unit) × Unit)) (x9 : Int) (x54 : Int) (y60 : ((Int × Unit) × Unit)) (x8_2 : (List (List (List Int)))) (x12 : Int) : Option (((List (List (List Int))) × Unit) ⊕ (((List (List (List Int))) × Unit) ⊕ (((List (List (List Int))) × Unit) ⊕ (((List (List (List Int))) × Unit) ⊕ (((List (List (List Int))) × Unit) ⊕ (((List (List (List Int))) × Unit) × Unit)))))) := iter k (fun (rec : ((List (List (List Int))) × Int × Unit) → Option (((List (List (List Int))) × Unit) ⊕ (((List (List (List Int))) × Unit) ⊕ (((List (List (List Int))) × Unit) ⊕ (((List (List (List Int))) × Unit) ⊕ (((List (List (List Int))) × Unit) ⊕ (((List (List (List Int))) × Unit) × Unit))))))) (x : ((List (List (List Int))) × Int × Unit)) => impl_waysOf__impl_draws_1_l3_b k y15 y17 x9 x54 y60 (fun x8_2 x12 => rec (x8_2, x12, ())) x.1 x.2.1) (x8_2, x12, ())
noncomputable def impl_waysOf__impl_draws_1_l2_b (k : Nat) (p0 : (List Int)) (y15 : ((Int × Unit) × Unit)) (y17 : ((Int × Unit) × Unit)) (x9 : Int) (rec : (List (List (List Int))) → Int → Option (((List (List (List Int))) × Unit) ⊕ (((List (List (List Int))) × Unit) ⊕ (((List (List (List Int))) × Unit) ⊕ (((List (List (List Int))) × Unit) × Unit))))) (x8_1 : (List (List (List Int)))) (x54 : Int) : Option (((List (List (List Int))) × Unit) ⊕ (((List (List (List Int))) × Unit) ⊕ (((List (List (List Int))) × Unit) ⊕ (((List (List (List Int))) × Unit) × Unit)))) :=
  (cond (decide (x54 < (iw ((rd p0 x9) + 1)))) (met (Option.bind (impl_draws_1_f k x9 x54) (fun y60 => (met (impl_waysOf__impl_draws_1_l3 k y15 y17 x9 x54 y60 x8_1 x54) (fun j7 => (some (.inl (j7.1, ()))))))) (fun j8 => (rec j8.1 (iw (x54 + 1))))) (some (.inl (x8_1, ()))))
noncomputable def impl_waysOf__impl_draws_1_l2 (k : Nat) (p0 : (List Int)) (y15 : ((Int × Unit) × Unit)) (y17 : ((Int × Unit) × Unit)) (x9 : Int) (x8_1 : (List (List (List Int)))) (x54 : Int) : Option (((List (List (List Int))) × Unit) ⊕ (((List (List (List Int))) × Unit) ⊕ (((List (List (List Int))) × Unit) ⊕ (((List (List (List Int))) × Unit) × Unit)))) := iter k (fun (rec : ((List (List (List Int))) × Int × Unit) → Option (((List (List (List Int))) × Unit) ⊕ (((List (List (List Int))) × Unit) ⊕ (((List (List (List Int))) × Unit) ⊕ (((List (List (List Int))) × Unit) × Unit))))) (x : ((List (List (List Int))) × Int × Unit)) => impl_waysOf__impl_draws_1_l2_b k p0 y15 y17 x9 (fun x8_1 x54 => rec (x8_1, x54, ())) x.1 x.2.1) (x8_1, x54, ())
noncomputable def impl_waysOf__impl_draws_1_l1_b (k : Nat) (p0 : (List Int)) (y15 : ((Int × Unit) × Unit)) (y17 : ((Int × Unit) × Unit)) (rec : (List (List (List Int))) → Int → Option (((List (List (List Int))) × Unit) ⊕ (((List (List (List Int))) × Unit) × Unit))) (x8 : (List (List (List Int)))) (x9 : Int) : Option (((List (List (List Int))) × Unit) ⊕ (((List (List (List Int))) × Unit) × Unit)) :=
  (cond (decide (x9 ≥ 0)) (met (Option.bind (impl_waysOf_1_f k (y15.1.1, ()) (y17.1.1, ())) (fun y47 => (ixk x9 (List.length x8) (ixk x9 (List.length p0) (met (impl_waysOf__impl_draws_1_l2 k p0 y15 y17 x9 (setI x8 x9 y47.1.1) 0) (fun j9 => (some (.inl (j9.1, ()))))))))) (fun j10 => (rec j10.1 (iw (x9 - 1))))) (some (.inl (x8, ()))))
noncomputable def impl_waysOf__impl_draws_1_l1 (k : Nat) (p0 : (List Int)) (y15 : ((Int × Unit) × Unit)) (y17 : ((Int × Unit) × Unit)) (x8 : (List (List (List Int)))) (x9 : Int) : Option (((List (List (List Int))) × Unit) ⊕ (((List (List (List Int))) × Unit) × Unit)) := iter k (fun (rec : ((List (List (List Int))) × Int × Unit) → Option (((List (List (List Int))) × Unit) ⊕ (((List (List (List Int))) × Unit) × Unit))) (x : ((List (List (List Int))) × Int × Unit)) => impl_waysOf__impl_draws_1_l1_b k p0 y15 y17 (fun x8 x9 => rec (x8, x9, ())) x.1 x.2.1) (x8, x9, ())
noncomputable def impl_waysOf__impl_draws_1_f (k : Nat) (p0 : (List Int)) (p1 : Unit) : Option (((List (List (List Int))) × Unit) × Unit) :=
  (Option.bind (impl_total_f k p0) (fun y15 => (Option.bind (impl_pairsOf_f k p0) (fun y17 => (chk (decide ((0 : Int) ≤ (iw (((List.length p0 : Nat) : Int) + 1)))) (chk (decide ((iw (((List.length p0 : Nat) : Int) + 1)) ≤ ((5629499534213 : Nat) : Int))) (Option.bind (impl_waysOf_1_f k (y15.1.1, ()) (y17.1.1, ())) (fun y27 => (ixk ((List.length p0 : Nat) : Int) (List.length (List.replicate (Int.toNat (iw (((List.length p0 : Nat) : Int) + 1))) ([] : (List (List Int))))) (ixk ((List.length p0 : Nat) : Int) (List.length (setI (List.replicate (Int.toNat (iw (((List.length p0 : Nat) : Int) + 1))) ([] : (List (List Int)))) ((List.length p0 : Nat) : Int) y27.1.1)) (chk (decide ((0 : Int) < ((List.length (rdG [] (setI (List.replicate (Int.toNat (iw (((List.length p0 : Nat) : Int) + 1))) ([] : (List (List Int)))) ((List.length p0 : Nat) : Int) y27.1.1) ((List.length p0 : Nat) : Int)) : Nat) : Int))) (chk (decide ((0 : Int) < ((List.length (rdG [] (rdG [] (setI (List.replicate (Int.toNat (iw (((List.length p0 : Nat) : Int) + 1))) ([] : (List (List Int)))) ((List.length p0 : Nat) : Int) y27.1.1) ((List.length p0 : Nat) : Int)) 0) : Nat) : Int))) (met (impl_waysOf__impl_draws_1_l1 k p0 y15 y17 (setI (setI (List.replicate (Int.toNat (iw (((List.length p0 : Nat) : Int) + 1))) ([] : (List (List Int)))) ((List.length p0 : Nat) : Int) y27.1.1) ((List.length p0 : Nat) : Int) (setI (rdG [] (setI (List.replicate (Int.toNat (iw (((List.length p0 : Nat) : Int) + 1))) ([] : (List (List Int)))) ((List.length p0 : Nat) : Int) y27.1.1) ((List.length p0 : Nat) : Int)) 0 (setI (rdG [] (rdG [] (setI (List.replicate (Int.toNat (iw (((List.length p0 : Nat) : Int) + 1))) ([] : (List (List Int)))) ((List.length p0 : Nat) : Int) y27.1.1) ((List.length p0 : Nat) : Int)) 0) 0 1))) (iw (((List.length p0 : Nat) : Int) - 1))) (fun j11 => (some ((j11.1, ()), ()))))))))))))))))
noncomputable def impl_waysOf__impl_draws_1_a : Ann := (.q .o (.q .o (.q .o (.q .o (.q .o (.q .o (.q (.q .o (.m [(8, 100512, .deep 48 (.slc 24 (.slc 3 (.int .i64))))] (.l [(8, 100512, .deep 48 (.slc 24 (.slc 3 (.int .i64)))), (9, 100576, .v (.int .i64))] (.q .o (.q (.m [(8, 100512, .deep 48 (.slc 24 (.slc 3 (.int .i64))))] (.q .o (.q .o (.m [(8, 100512, .deep 48 (.slc 24 (.slc 3 (.int .i64))))] (.l [(8, 100512, .deep 48 (.slc 24 (.slc 3 (.int .i64)))), (54, 103456, .v (.int .i64))] (.q .o (.q .o (.q (.m [(8, 100512, .deep 48 (.slc 24 (.slc 3 (.int .i64))))] (.q .o (.q .o (.q .o (.m [(8, 100512, .deep 48 (.slc 24 (.slc 3 (.int .i64))))] (.l [(8, 100512, .deep 48 (.slc 24 (.slc 3 (.int .i64)))), (12, 100768, .v (.int .i64))] (.q .o (.q (.m [(8, 100512, .deep 48 (.slc 24 (.slc 3 (.int .i64))))] (.q .o (.m [(8, 100512, .deep 48 (.slc 24 (.slc 3 (.int .i64))))] (.l [(8, 100512, .deep 48 (.slc 24 (.slc 3 (.int .i64)))), (13, 100832, .v (.int .i64))] (.q .o (.q (.b (.e [] [29, 30])) .o)))))) .o)))))))) .o)))))))) .o))))) .o)))))))
theorem impl_waysOf__impl_draws_1_run (k : Nat) (p0 : (List Int)) (p1 : Unit) : funX Tryz.prog (callT [impl_total_c k, impl_pairsOf_c k, impl_waysOf_1_c k, impl_draws_1_c k]) k Tryz.f62 impl_waysOf__impl_draws_1_a [.v (.slc 3 (.int .i64)), .fn 63 []] [.deep 48 (.slc 24 (.slc 3 (.int .i64)))] (p0, p1, ()) = impl_waysOf__impl_draws_1_f k p0 p1 := by kernel_rfl
noncomputable def impl_waysOf__impl_draws_1_c (k : Nat) : Con := ⟨62, [.v (.slc 3 (.int .i64)), .fn 63 []], [.deep 48 (.slc 24 (.slc 3 (.int .i64)))], fun x => impl_waysOf__impl_draws_1_f k x.1 x.2.1⟩
theorem impl_waysOf__impl_draws_1_ok (k : Nat) : (impl_waysOf__impl_draws_1_c k).Sound Tryz.prog GL := con_ok (k := k) (fn := Tryz.f62) (A := impl_waysOf__impl_draws_1_a) (C := callT [impl_total_c k, impl_pairsOf_c k, impl_waysOf_1_c k, impl_draws_1_c k]) Tryz.func62 (by kernel_rfl) (show Tryz.f62.body = some (bodyX Tryz.f62) by rfl) (fun X hX => callT_at (TableOk.cons (impl_total_ok k) (TableOk.cons (impl_pairsOf_ok k) (TableOk.cons (impl_waysOf_1_ok k) (TableOk.cons (impl_draws_1_ok k) TableOk.nil)))) X hX) (Nat.le_of_ble_eq_true (by kernel_rfl)) (fun ⟨p0, p1, _⟩ y h => by rw [← h]; exact impl_waysOf__impl_draws_1_run k p0 p1)
noncomputable def impl_draws_f (k : Nat) (p0 : (List Int)) : Option (((List (List (List Int))) × Unit) × Unit) :=
  (Option.bind (impl_waysOf__impl_draws_1_f k p0 ()) (fun y4 => (some ((y4.1.1, ()), ()))))
noncomputable def impl_draws_a : Ann := .o
theorem impl_draws_run (k : Nat) (p0 : (List Int)) : funX Tryz.prog (callT [impl_waysOf__impl_draws_1_c k]) k Tryz.f38 impl_draws_a [.v (.slc 3 (.int .i64))] [.deep 48 (.slc 24 (.slc 3 (.int .i64)))] (p0, ()) = impl_draws_f k p0 := by kernel_rfl
noncomputable def impl_draws_c (k : Nat) : Con := ⟨38, [.v (.slc 3 (.int .i64))], [.deep 48 (.slc 24 (.slc 3 (.int .i64)))], fun x => impl_draws_f k x.1⟩
theorem impl_draws_ok (k : Nat) : (impl_draws_c k).Sound Tryz.prog GL := con_ok (k := k) (fn := Tryz.f38) (A := impl_draws_a) (C := callT [impl_waysOf__impl_draws_1_c k]) Tryz.func38 (by kernel_rfl) (show Tryz.f38.body = some (bodyX Tryz.f38) by rfl) (fun X hX => callT_at (TableOk.cons (impl_waysOf__impl_draws_1_ok k) TableOk.nil) X hX) (Nat.le_of_ble_eq_true (by kernel_rfl)) (fun ⟨p0, _⟩ y h => by rw [← h]; exact impl_draws_run k p0)
noncomputable def impl_CountDraws_f (k : Nat) (p0 : (List Int)) (p1 : Int) : Option ((Int × Bool × Unit) × Unit) :=
  (met (Option.bind (impl_AreSocks_f k p0) (fun y8 => (cond (!y8.1.1) (some (.inl (true, ()))) (some (.inl ((decide (p1 < 0)), ())))))) (fun j1 => (cond j1.1 (some ((0, false, ()), ())) (Option.bind (impl_total_f k p0) (fun y16 => (cond (decide (p1 > y16.1.1)) (some ((0, true, ()), ())) (Option.bind (impl_draws_f k p0) (fun y19 => (chk (decide ((0 : Int) < ((List.length y19.1.1 : Nat) : Int))) (ixk p1 (List.length (rdG [] y19.1.1 0)) (Option.bind (impl_total_f k (rdG [] (rdG [] y19.1.1 0) p1)) (fun y25 => (cond (decide (y25.1.1 > 1000000000000)) (some ((0, false, ()), ())) (some ((y25.1.1, true, ()), ())))))))))))))))
noncomputable def impl_CountDraws_a : Ann := (.q .o (.q (.q (.r [(13, 100832, .v .bool)]) .o) .o))
theorem impl_CountDraws_run (k : Nat) (p0 : (List Int)) (p1 : Int) : funX Tryz.prog (callT [impl_AreSocks_c k, impl_total_c k, impl_draws_c k]) k Tryz.f19 impl_CountDraws_a [.v (.slc 3 (.int .i64)), .v (.int .i64)] [.v (.int .i64), .v .bool] (p0, p1, ()) = impl_CountDraws_f k p0 p1 := by kernel_rfl
noncomputable def impl_CountDraws_c (k : Nat) : Con := ⟨19, [.v (.slc 3 (.int .i64)), .v (.int .i64)], [.v (.int .i64), .v .bool], fun x => impl_CountDraws_f k x.1 x.2.1⟩
theorem impl_CountDraws_ok (k : Nat) : (impl_CountDraws_c k).Sound Tryz.prog GL := con_ok (k := k) (fn := Tryz.f19) (A := impl_CountDraws_a) (C := callT [impl_AreSocks_c k, impl_total_c k, impl_draws_c k]) Tryz.func19 (by kernel_rfl) (show Tryz.f19.body = some (bodyX Tryz.f19) by rfl) (fun X hX => callT_at (TableOk.cons (impl_AreSocks_ok k) (TableOk.cons (impl_total_ok k) (TableOk.cons (impl_draws_ok k) TableOk.nil))) X hX) (Nat.le_of_ble_eq_true (by kernel_rfl)) (fun ⟨p0, p1, _⟩ y h => by rw [← h]; exact impl_CountDraws_run k p0 p1)
noncomputable def impl_RankOfDraw_l2_b (k : Nat) (p1 : (List Int)) (x6 : Int) (x32 : Int) (rec : (List (List (List Int))) → Int → Int → Option (((List (List (List Int))) × Int × Unit) ⊕ ((Int × (List (List (List Int))) × Int × Unit) ⊕ ((Int × Unit) ⊕ ((Int × Bool × Unit) × Unit))))) (x9_1 : (List (List (List Int)))) (x10_1 : Int) (x38 : Int) : Option (((List (List (List Int))) × Int × Unit) ⊕ ((Int × (List (List (List Int))) × Int × Unit) ⊕ ((Int × Unit) ⊕ ((Int × Bool × Unit) × Unit)))) :=
  (cond (decide (x38 < (rd p1 x32))) (ixk (iw (x32 + 1)) (List.length x9_1) (ixk (iw (x6 - x38)) (List.length (rdG [] x9_1 (iw (x32 + 1)))) (Option.bind (impl_total_f k (rdG [] (rdG [] x9_1 (iw (x32 + 1))) (iw (x6 - x38)))) (fun y52 => (rec x9_1 (iw (x10_1 + y52.1.1)) (iw (x38 + 1))))))) (some (.inl (x9_1, x10_1, ()))))
noncomputable def impl_RankOfDraw_l2 (k : Nat) (p1 : (List Int)) (x6 : Int) (x32 : Int) (x9_1 : (List (List (List Int)))) (x10_1 : Int) (x38 : Int) : Option (((List (List (List Int))) × Int × Unit) ⊕ ((Int × (List (List (List Int))) × Int × Unit) ⊕ ((Int × Unit) ⊕ ((Int × Bool × Unit) × Unit)))) := iter k (fun (rec : ((List (List (List Int))) × Int × Int × Unit) → Option (((List (List (List Int))) × Int × Unit) ⊕ ((Int × (List (List (List Int))) × Int × Unit) ⊕ ((Int × Unit) ⊕ ((Int × Bool × Unit) × Unit))))) (x : ((List (List (List Int))) × Int × Int × Unit)) => impl_RankOfDraw_l2_b k p1 x6 x32 (fun x9_1 x10_1 x38 => rec (x9_1, x10_1, x38, ())) x.1 x.2.1 x.2.2.1) (x9_1, x10_1, x38, ())
noncomputable def impl_RankOfDraw_l1_b (k : Nat) (p1 : (List Int)) (rec : Int → (List (List (List Int))) → Int → Int → Option ((Int × Unit) ⊕ ((Int × Bool × Unit) × Unit))) (x6 : Int) (x9 : (List (List (List Int)))) (x10 : Int) (x32 : Int) : Option ((Int × Unit) ⊕ ((Int × Bool × Unit) × Unit)) :=
  (cond (decide (x32 < ((List.length p1 : Nat) : Int))) (met (ixk x32 (List.length p1) (met (impl_RankOfDraw_l2 k p1 x6 x32 x9 x10 0) (fun j3 => (some (.inl ((iw (x6 - (rd p1 x32))), j3.1, j3.2.1, ())))))) (fun j4 => (rec j4.1 j4.2.1 j4.2.2.1 (iw (x32 + 1))))) (some (.inl (x10, ()))))
noncomputable def impl_RankOfDraw_l1 (k : Nat) (p1 : (List Int)) (x6 : Int) (x9 : (List (List (List Int)))) (x10 : Int) (x32 : Int) : Option ((Int × Unit) ⊕ ((Int × Bool × Unit) × Unit)) := iter k (fun (rec : (Int × (List (List (List Int))) × Int × Int × Unit) → Option ((Int × Unit) ⊕ ((Int × Bool × Unit) × Unit))) (x : (Int × (List (List (List Int))) × Int × Int × Unit)) => impl_RankOfDraw_l1_b k p1 (fun x6 x9 x10 x32 => rec (x6, x9, x10, x32, ())) x.1 x.2.1 x.2.2.1 x.2.2.2.1) (x6, x9, x10, x32, ())
noncomputable def impl_RankOfDraw_f (k : Nat) (p0 : (List Int)) (p1 : (List Int)) : Option ((Int × Bool × Unit) × Unit) :=
  (Option.bind (impl_isDraw_f k p0 p1) (fun y16 => (cond (!y16.1.1) (some ((0, false, ()), ())) (Option.bind (impl_total_f k p1) (fun y19 => (Option.bind (impl_CountDraws_f k p0 y19.1.1) (fun y23 => (cond (!y23.1.2.1) (some ((0, false, ()), ())) (Option.bind (impl_draws_f k p0) (fun y29 => (met (impl_RankOfDraw_l1 k p1 y19.1.1 y29.1.1 0 0) (fun j5 => (some ((j5.1, true, ()), ()))))))))))))))
noncomputable def impl_RankOfDraw_a : Ann := (.q .o (.q .o (.q .o (.q .o (.q .o (.q (.q .o (.m [(10, 100640, .v (.int .i64))] (.l [(6, 100384, .v (.int .i64)), (9, 100576, .deep 48 (.slc 24 (.slc 3 (.int .i64)))), (10, 100640, .v (.int .i64)), (32, 102048, .v (.int .i64))] (.q .o (.q .o (.q (.m [(6, 100384, .v (.int .i64)), (9, 100576, .deep 48 (.slc 24 (.slc 3 (.int .i64)))), (10, 100640, .v (.int .i64))] (.q .o (.q (.q .o (.m [(9, 100576, .deep 48 (.slc 24 (.slc 3 (.int .i64)))), (10, 100640, .v (.int .i64))] (.l [(9, 100576, .deep 48 (.slc 24 (.slc 3 (.int .i64)))), (10, 100640, .v (.int .i64)), (38, 102432, .v (.int .i64))] .o))) .o))) .o)))))) .o))))))
theorem impl_RankOfDraw_run (k : Nat) (p0 : (List Int)) (p1 : (List Int)) : funX Tryz.prog (callT [impl_isDraw_c k, impl_total_c k, impl_CountDraws_c k, impl_draws_c k]) k Tryz.f6 impl_RankOfDraw_a [.v (.slc 3 (.int .i64)), .v (.slc 3 (.int .i64))] [.v (.int .i64), .v .bool] (p0, p1, ()) = impl_RankOfDraw_f k p0 p1 := by kernel_rfl
noncomputable def impl_RankOfDraw_c (k : Nat) : Con := ⟨6, [.v (.slc 3 (.int .i64)), .v (.slc 3 (.int .i64))], [.v (.int .i64), .v .bool], fun x => impl_RankOfDraw_f k x.1 x.2.1⟩
theorem impl_RankOfDraw_ok (k : Nat) : (impl_RankOfDraw_c k).Sound Tryz.prog GL := con_ok (k := k) (fn := Tryz.f6) (A := impl_RankOfDraw_a) (C := callT [impl_isDraw_c k, impl_total_c k, impl_CountDraws_c k, impl_draws_c k]) Tryz.func6 (by kernel_rfl) (show Tryz.f6.body = some (bodyX Tryz.f6) by rfl) (fun X hX => callT_at (TableOk.cons (impl_isDraw_ok k) (TableOk.cons (impl_total_ok k) (TableOk.cons (impl_CountDraws_ok k) (TableOk.cons (impl_draws_ok k) TableOk.nil)))) X hX) (Nat.le_of_ble_eq_true (by kernel_rfl)) (fun ⟨p0, p1, _⟩ y h => by rw [← h]; exact impl_RankOfDraw_run k p0 p1)
noncomputable def spec_l1In_f (k : Nat) (p0 : Int) (p1 : Int) (p2 : Int) : Option ((Bool × Unit) × Unit) :=
  (met (cond (decide (p0 ≥ p1)) (some (.inl ((decide (p0 ≤ p2)), ()))) (some (.inl (false, ())))) (fun j1 => (some ((j1.1, ()), ()))))
noncomputable def spec_l1In_a : Ann := (.q .o (.q (.r [(6, 100384, .v .bool)]) .o))
theorem spec_l1In_run (k : Nat) (p0 : Int) (p1 : Int) (p2 : Int) : funX Tryz.prog (callT []) k Tryz.f66 spec_l1In_a [.v (.int .i64), .v (.int .i64), .v (.int .i64)] [.v .bool] (p0, p1, p2, ()) = spec_l1In_f k p0 p1 p2 := by kernel_rfl
noncomputable def spec_l1In_c (k : Nat) : Con := ⟨66, [.v (.int .i64), .v (.int .i64), .v (.int .i64)], [.v .bool], fun x => spec_l1In_f k x.1 x.2.1 x.2.2.1⟩
theorem spec_l1In_ok (k : Nat) : (spec_l1In_c k).Sound Tryz.prog GL := con_ok (k := k) (fn := Tryz.f66) (A := spec_l1In_a) (C := callT []) Tryz.func66 (by kernel_rfl) (show Tryz.f66.body = some (bodyX Tryz.f66) by rfl) (fun X hX => callT_at TableOk.nil X hX) (Nat.le_of_ble_eq_true (by kernel_rfl)) (fun ⟨p0, p1, p2, _⟩ y h => by rw [← h]; exact spec_l1In_run k p0 p1 p2)
noncomputable def spec_l1All_l1_b (k : Nat) (p0 : (List Int)) (p1 : Int) (p2 : Int) (rec : Int → Option (Unit ⊕ ((Bool × Unit) × Unit))) (x11 : Int) : Option (Unit ⊕ ((Bool × Unit) × Unit)) :=
  (cond (decide (x11 < ((List.length p0 : Nat) : Int))) (ixk x11 (List.length p0) (Option.bind (spec_l1In_f k (rd p0 x11) p1 p2) (fun y18 => (cond (!y18.1.1) (some (.inr ((false, ()), ()))) (rec (iw (x11 + 1))))))) (some (.inl ())))
noncomputable def spec_l1All_l1 (k : Nat) (p0 : (List Int)) (p1 : Int) (p2 : Int) (x11 : Int) : Option (Unit ⊕ ((Bool × Unit) × Unit)) := iter k (fun (rec : (Int × Unit) → Option (Unit ⊕ ((Bool × Unit) × Unit))) (x : (Int × Unit)) => spec_l1All_l1_b k p0 p1 p2 (fun x11 => rec (x11, ())) x.1) (x11, ())
noncomputable def spec_l1All_f (k : Nat) (p0 : (List Int)) (p1 : Int) (p2 : Int) : Option ((Bool × Unit) × Unit) :=
  (met (spec_l1All_l1 k p0 p1 p2 0) (fun j2 => (some ((true, ()), ()))))
noncomputable def spec_l1All_a : Ann := (.q .o (.q (.q .o (.m [] (.l [(11, 100704, .v (.int .i64))] .o))) .o))
theorem spec_l1All_run (k : Nat) (p0 : (List Int)) (p1 : Int) (p2 : Int) : funX Tryz.prog (callT [spec_l1In_c k]) k Tryz.f67 spec_l1All_a [.v (.slc 3 (.int .i64)), .v (.int .i64), .v (.int .i64)] [.v .bool] (p0, p1, p2, ()) = spec_l1All_f k p0 p1 p2 := by kernel_rfl
noncomputable def spec_l1All_c (k : Nat) : Con := ⟨67, [.v (.slc 3 (.int .i64)), .v (.int .i64), .v (.int .i64)], [.v .bool], fun x => spec_l1All_f k x.1 x.2.1 x.2.2.1⟩
theorem spec_l1All_ok (k : Nat) : (spec_l1All_c k).Sound Tryz.prog GL := con_ok (k := k) (fn := Tryz.f67) (A := spec_l1All_a) (C := callT [spec_l1In_c k]) Tryz.func67 (by kernel_rfl) (show Tryz.f67.body = some (bodyX Tryz.f67) by rfl) (fun X hX => callT_at (TableOk.cons (spec_l1In_ok k) TableOk.nil) X hX) (Nat.le_of_ble_eq_true (by kernel_rfl)) (fun ⟨p0, p1, p2, _⟩ y h => by rw [← h]; exact spec_l1All_run k p0 p1 p2)
noncomputable def spec_soSum_l1_b (k : Nat) (p0 : (List Int)) (rec : Int → Int → Option ((Int × Unit) ⊕ ((Int × Unit) × Unit))) (x3 : Int) (x8 : Int) : Option ((Int × Unit) ⊕ ((Int × Unit) × Unit)) :=
  (cond (decide (x8 < ((List.length p0 : Nat) : Int))) (ixk x8 (List.length p0) (rec (iw (x3 + (rd p0 x8))) (iw (x8 + 1)))) (some (.inl (x3, ()))))
noncomputable def spec_soSum_l1 (k : Nat) (p0 : (List Int)) (x3 : Int) (x8 : Int) : Option ((Int × Unit) ⊕ ((Int × Unit) × Unit)) := iter k (fun (rec : (Int × Int × Unit) → Option ((Int × Unit) ⊕ ((Int × Unit) × Unit))) (x : (Int × Int × Unit)) => spec_soSum_l1_b k p0 (fun x3 x8 => rec (x3, x8, ())) x.1 x.2.1) (x3, x8, ())
noncomputable def spec_soSum_f (k : Nat) (p0 : (List Int)) : Option ((Int × Unit) × Unit) :=
  (met (spec_soSum_l1 k p0 0 0) (fun j2 => (some ((j2.1, ()), ()))))
noncomputable def spec_soSum_a : Ann := (.q .o (.q .o (.q (.q .o (.m [(3, 100192, .v (.int .i64))] (.l [(3, 100192, .v (.int .i64)), (8, 100512, .v (.int .i64))] .o))) .o)))
theorem spec_soSum_run (k : Nat) (p0 : (List Int)) : funX Tryz.prog (callT []) k Tryz.f41 spec_soSum_a [.v (.slc 3 (.int .i64))] [.v (.int .i64)] (p0, ()) = spec_soSum_f k p0 := by kernel_rfl
noncomputable def spec_soSum_c (k : Nat) : Con := ⟨41, [.v (.slc 3 (.int .i64))], [.v (.int .i64)], fun x => spec_soSum_f k x.1⟩
theorem spec_soSum_ok (k : Nat) : (spec_soSum_c k).Sound Tryz.prog GL := con_ok (k := k) (fn := Tryz.f41) (A := spec_soSum_a) (C := callT []) Tryz.func41 (by kernel_rfl) (show Tryz.f41.body = some (bodyX Tryz.f41) by rfl) (fun X hX => callT_at TableOk.nil X hX) (Nat.le_of_ble_eq_true (by kernel_rfl)) (fun ⟨p0, _⟩ y h => by rw [← h]; exact spec_soSum_run k p0)
noncomputable def spec_soGood_f (k : Nat) (p0 : (List Int)) : Option ((Bool × Unit) × Unit) :=
  (met (Option.bind (spec_l1In_f k ((List.length p0 : Nat) : Int) 1 8) (fun y5 => (cond y5.1.1 (Option.bind (spec_l1All_f k p0 0 20) (fun y8 => (cond y8.1.1 (Option.bind (spec_soSum_f k p0) (fun y12 => (some (.inl ((decide (y12.1.1 > 0)), ()))))) (some (.inl (false, ())))))) (some (.inl (false, ())))))) (fun j1 => (some ((j1.1, ()), ()))))
noncomputable def spec_soGood_a : Ann := (.q .o (.q (.r [(2, 100128, .v .bool)]) .o))
theorem spec_soGood_run (k : Nat) (p0 : (List Int)) : funX Tryz.prog (callT [spec_l1In_c k, spec_l1All_c k, spec_soSum_c k]) k Tryz.f47 spec_soGood_a [.v (.slc 3 (.int .i64))] [.v .bool] (p0, ()) = spec_soGood_f k p0 := by kernel_rfl
noncomputable def spec_soGood_c (k : Nat) : Con := ⟨47, [.v (.slc 3 (.int .i64))], [.v .bool], fun x => spec_soGood_f k x.1⟩
theorem spec_soGood_ok (k : Nat) : (spec_soGood_c k).Sound Tryz.prog GL := con_ok (k := k) (fn := Tryz.f47) (A := spec_soGood_a) (C := callT [spec_l1In_c k, spec_l1All_c k, spec_soSum_c k]) Tryz.func47 (by kernel_rfl) (show Tryz.f47.body = some (bodyX Tryz.f47) by rfl) (fun X hX => callT_at (TableOk.cons (spec_l1In_ok k) (TableOk.cons (spec_l1All_ok k) (TableOk.cons (spec_soSum_ok k) TableOk.nil))) X hX) (Nat.le_of_ble_eq_true (by kernel_rfl)) (fun ⟨p0, _⟩ y h => by rw [← h]; exact spec_soGood_run k p0)
noncomputable def spec_soIs_l1_b (k : Nat) (p0 : (List Int)) (p1 : (List Int)) (rec : Int → Option (Unit ⊕ ((Bool × Unit) × Unit))) (x14 : Int) : Option (Unit ⊕ ((Bool × Unit) × Unit)) :=
  (cond (decide (x14 < ((List.length p1 : Nat) : Int))) (ixk x14 (List.length p1) (ixk x14 (List.length p0) (Option.bind (spec_l1In_f k (rd p1 x14) 0 (rd p0 x14)) (fun y24 => (cond (!y24.1.1) (some (.inr ((false, ()), ()))) (rec (iw (x14 + 1)))))))) (some (.inl ())))
noncomputable def spec_soIs_l1 (k : Nat) (p0 : (List Int)) (p1 : (List Int)) (x14 : Int) : Option (Unit ⊕ ((Bool × Unit) × Unit)) := iter k (fun (rec : (Int × Unit) → Option (Unit ⊕ ((Bool × Unit) × Unit))) (x : (Int × Unit)) => spec_soIs_l1_b k p0 p1 (fun x14 => rec (x14, ())) x.1) (x14, ())
noncomputable def spec_soIs_f (k : Nat) (p0 : (List Int)) (p1 : (List Int)) : Option ((Bool × Unit) × Unit) :=
  (cond (((List.length p1 : Nat) : Int) != ((List.length p0 : Nat) : Int)) (some ((false, ()), ())) (met (spec_soIs_l1 k p0 p1 0) (fun j2 => (some ((true, ()), ())))))
noncomputable def spec_soIs_a : Ann := (.q .o (.q .o (.q (.q .o (.m [] (.l [(14, 100896, .v (.int .i64))] .o))) .o)))
theorem spec_soIs_run (k : Nat) (p0 : (List Int)) (p1 : (List Int)) : funX Tryz.prog (callT [spec_l1In_c k]) k Tryz.f48 spec_soIs_a [.v (.slc 3 (.int .i64)), .v (.slc 3 (.int .i64))] [.v .bool] (p0, p1, ()) = spec_soIs_f k p0 p1 := by kernel_rfl
noncomputable def spec_soIs_c (k : Nat) : Con := ⟨48, [.v (.slc 3 (.int .i64)), .v (.slc 3 (.int .i64))], [.v .bool], fun x => spec_soIs_f k x.1 x.2.1⟩
theorem spec_soIs_ok (k : Nat) : (spec_soIs_c k).Sound Tryz.prog GL := con_ok (k := k) (fn := Tryz.f48) (A := spec_soIs_a) (C := callT [spec_l1In_c k]) Tryz.func48 (by kernel_rfl) (show Tryz.f48.body = some (bodyX Tryz.f48) by rfl) (fun X hX => callT_at (TableOk.cons (spec_l1In_ok k) TableOk.nil) X hX) (Nat.le_of_ble_eq_true (by kernel_rfl)) (fun ⟨p0, p1, _⟩ y h => by rw [← h]; exact spec_soIs_run k p0 p1)
noncomputable def spec_soBoth_f (k : Nat) (p0 : (List Int)) (p1 : (List Int)) : Option ((Bool × Unit) × Unit) :=
  (met (Option.bind (spec_soGood_f k p0) (fun y6 => (cond y6.1.1 (Option.bind (spec_soIs_f k p0 p1) (fun y10 => (some (.inl (y10.1.1, ()))))) (some (.inl (false, ())))))) (fun j1 => (some ((j1.1, ()), ()))))
noncomputable def spec_soBoth_a : Ann := (.q .o (.q (.r [(4, 100256, .v .bool)]) .o))
theorem spec_soBoth_run (k : Nat) (p0 : (List Int)) (p1 : (List Int)) : funX Tryz.prog (callT [spec_soGood_c k, spec_soIs_c k]) k Tryz.f39 spec_soBoth_a [.v (.slc 3 (.int .i64)), .v (.slc 3 (.int .i64))] [.v .bool] (p0, p1, ()) = spec_soBoth_f k p0 p1 := by kernel_rfl
noncomputable def spec_soBoth_c (k : Nat) : Con := ⟨39, [.v (.slc 3 (.int .i64)), .v (.slc 3 (.int .i64))], [.v .bool], fun x => spec_soBoth_f k x.1 x.2.1⟩
theorem spec_soBoth_ok (k : Nat) : (spec_soBoth_c k).Sound Tryz.prog GL := con_ok (k := k) (fn := Tryz.f39) (A := spec_soBoth_a) (C := callT [spec_soGood_c k, spec_soIs_c k]) Tryz.func39 (by kernel_rfl) (show Tryz.f39.body = some (bodyX Tryz.f39) by rfl) (fun X hX => callT_at (TableOk.cons (spec_soGood_ok k) (TableOk.cons (spec_soIs_ok k) TableOk.nil)) X hX) (Nat.le_of_ble_eq_true (by kernel_rfl)) (fun ⟨p0, p1, _⟩ y h => by rw [← h]; exact spec_soBoth_run k p0 p1)
noncomputable def spec_soCounts_l3_b (k : Nat) (p0 : (List Int)) (p1 : Int) (p2 : Int) (y20 : ((Int × Unit) × Unit)) (x8 : (List Int)) (x31 : Int) (x40 : Int) (rec : (List Int) → Int → Option (((List Int) × Unit) ⊕ (((List Int) × Unit) ⊕ (((List Int) × Unit) ⊕ (((List Int) × Unit) ⊕ (((List Int) × Unit) ⊕ ((Int × Unit) × Unit))))))) (x11_1 : (List Int)) (x16 : Int) : Option (((List Int) × Unit) ⊕ (((List Int) × Unit) ⊕ (((List Int) × Unit) ⊕ (((List Int) × Unit) ⊕ (((List Int) × Unit) ⊕ ((Int × Unit) × Unit)))))) :=
  (met (cond (decide (x16 ≤ (rd p0 x31))) (some (.inl (x11_1, (decide ((iw ((iw (Int.tdiv x40 (iw (y20.1.1 + 1)))) + x16)) ≤ p1)), ()))) (some (.inl (x11_1, false, ())))) (fun j4 => (cond j4.2.1 (met (met (cond (decide (p2 ≥ 0)) (some (.inl (j4.1, (iw ((Int.tmod x40 (iw (y20.1.1 + 1))) + (iw (Int.tdiv x16 2)))), ()))) (some (.inl (j4.1, (Int.tmod x40 (iw (y20.1.1 + 1))), ())))) (fun j5 => (met (cond (decide (j5.2.1 < (iw (y20.1.1 + 1)))) (ixk (iw ((iw ((iw ((iw (Int.tdiv x40 (iw (y20.1.1 + 1)))) + x16)) * (iw (y20.1.1 + 1)))) + j5.2.1)) (List.length j5.1) (Option.bind (spec_l1Least_f k (iw ((rd j5.1 (iw ((iw ((iw ((iw (Int.tdiv x40 (iw (y20.1.1 + 1)))) + x16)) * (iw (y20.1.1 + 1)))) + j5.2.1))) + (rd x8 x40))) 1000000000001) (fun y90 => (ixk (iw ((iw ((iw ((iw (Int.tdiv x40 (iw (y20.1.1 + 1)))) + x16)) * (iw (y20.1.1 + 1)))) + j5.2.1)) (List.length j5.1) (some (.inl ((setI j5.1 (iw ((iw ((iw ((iw (Int.tdiv x40 (iw (y20.1.1 + 1)))) + x16)) * (iw (y20.1.1 + 1)))) + j5.2.1)) y90.1.1), ()))))))) (some (.inl (j5.1, ())))) (fun j6 => (some (.inl (j6.1, ()))))))) (fun j7 => (rec j7.1 (iw (x16 + 1))))) (some (.inl (j4.1, ()))))))
noncomputable def spec_soCounts_l3 (k : Nat) (p0 : (List Int)) (p1 : Int) (p2 : Int) (y20 : ((Int × Unit) × Unit)) (x8 : (List Int)) (x31 : Int) (x40 : Int) (x11_1 : (List Int)) (x16 : Int) : Option (((List Int) × Unit) ⊕ (((List Int) × Unit) ⊕ (((List Int) × Unit) ⊕ (((List Int) × Unit) ⊕ (((List Int) × Unit) ⊕ ((Int × Unit) × Unit)))))) := iter k (fun (rec : ((List Int) × Int × Unit) → Option (((List Int) × Unit) ⊕ (((List Int) × Unit) ⊕ (((List Int) × Unit) ⊕ (((List Int) × Unit) ⊕ (((List Int) × Unit) ⊕ ((Int × Unit) × Unit))))))) (x : ((List Int) × Int × Unit)) => spec_soCounts_l3_b k p0 p1 p2 y20 x8 x31 x40 (fun x11_1 x16 => rec (x11_1, x16, ())) x.1 x.2.1) (x11_1, x16, ())
noncomputable def spec_soCounts_l2_b (k : Nat) (p0 : (List Int)) (p1 : Int) (p2 : Int) (y20 : ((Int × Unit) × Unit)) (x8 : (List Int)) (x31 : Int) (rec : (List Int) → Int → Option (((List Int) × Unit) ⊕ (((List Int) × Unit) ⊕ (((List Int) × Unit) ⊕ ((Int × Unit) × Unit))))) (x11 : (List Int)) (x40 : Int) : Option (((List Int) × Unit) ⊕ (((List Int) × Unit) ⊕ (((List Int) × Unit) ⊕ ((Int × Unit) × Unit)))) :=
  (cond (decide (x40 < ((List.length x8 : Nat) : Int))) (met (ixk x40 (List.length x8) (cond ((rd x8 x40) == 0) (some (.inl (x11, ()))) (chk (!((iw (y20.1.1 + 1)) == 0)) (chk (!((iw (y20.1.1 + 1)) == 0)) (met (spec_soCounts_l3 k p0 p1 p2 y20 x8 x31 x40 x11 0) (fun j8 => (some (.inl (j8.1, ()))))))))) (fun j9 => (rec j9.1 (iw (x40 + 1))))) (some (.inl (x11, ()))))
noncomputable def spec_soCounts_l2 (k : Nat) (p0 : (List Int)) (p1 : Int) (p2 : Int) (y20 : ((Int × Unit) × Unit)) (x8 : (List Int)) (x31 : Int) (x11 : (List Int)) (x40 : Int) : Option (((List Int) × Unit) ⊕ (((List Int) × Unit) ⊕ (((List Int) × Unit) ⊕ ((Int × Unit) × Unit)))) := iter k (fun (rec : ((List Int) × Int × Unit) → Option (((List Int) × Unit) ⊕ (((List Int) × Unit) ⊕ (((List Int) × Unit) ⊕ ((Int × Unit) × Unit))))) (x : ((List Int) × Int × Unit)) => spec_soCounts_l2_b k p0 p1 p2 y20 x8 x31 (fun x11 x40 => rec (x11, x40, ())) x.1 x.2.1) (x11, x40, ())
noncomputable def spec_soCounts_l1_b (k : Nat) (p0 : (List Int)) (p1 : Int) (p2 : Int) (y20 : ((Int × Unit) × Unit)) (rec : (List Int) → Int → Option (((List Int) × Unit) ⊕ ((Int × Unit) × Unit))) (x8 : (List Int)) (x31 : Int) : Option (((List Int) × Unit) ⊕ ((Int × Unit) × Unit)) :=
  (cond (decide (x31 < ((List.length p0 : Nat) : Int))) (met (ixk x31 (List.length p0) (chk (decide ((0 : Int) ≤ ((List.length x8 : Nat) : Int))) (chk (decide (((List.length x8 : Nat) : Int) ≤ ((15637498706147 : Nat) : Int))) (met (spec_soCounts_l2 k p0 p1 p2 y20 x8 x31 (List.replicate (Int.toNat ((List.length x8 : Nat) : Int)) (0 : Int)) 0) (fun j10 => (some (.inl (j10.1, ())))))))) (fun j11 => (rec j11.1 (iw (x31 + 1))))) (some (.inl (x8, ()))))
noncomputable def spec_soCounts_l1 (k : Nat) (p0 : (List Int)) (p1 : Int) (p2 : Int) (y20 : ((Int × Unit) × Unit)) (x8 : (List Int)) (x31 : Int) : Option (((List Int) × Unit) ⊕ ((Int × Unit) × Unit)) := iter k (fun (rec : ((List Int) × Int × Unit) → Option (((List Int) × Unit) ⊕ ((Int × Unit) × Unit))) (x : ((List Int) × Int × Unit)) => spec_soCounts_l1_b k p0 p1 p2 y20 (fun x8 x31 => rec (x8, x31, ())) x.1 x.2.1) (x8, x31, ())
noncomputable def spec_soCounts_f (k : Nat) (p0 : (List Int)) (p1 : Int) (p2 : Int) : Option ((Int × Unit) × Unit) :=
  (Option.bind (spec_l1Most_f k p2 0) (fun y20 => (chk (decide ((0 : Int) ≤ (iw ((iw (p1 + 1)) * (iw (y20.1.1 + 1)))))) (chk (decide ((iw ((iw (p1 + 1)) * (iw (y20.1.1 + 1)))) ≤ ((15637498706147 : Nat) : Int))) (chk (decide ((0 : Int) < ((List.length (List.replicate (Int.toNat (iw ((iw (p1 + 1)) * (iw (y20.1.1 + 1))))) (0 : Int)) : Nat) : Int))) (met (spec_soCounts_l1 k p0 p1 p2 y20 (setI (List.replicate (Int.toNat (iw ((iw (p1 + 1)) * (iw (y20.1.1 + 1))))) (0 : Int)) 0 1) 0) (fun j12 => (Option.bind (spec_l1Most_f k p2 0) (fun y100 => (ixk (iw ((iw (p1 * (iw (y20.1.1 + 1)))) + y100.1.1)) (List.length j12.1) (some (((rd j12.1 (iw ((iw (p1 * (iw (y20.1.1 + 1)))) + y100.1.1))), ()), ()))))))))))))
noncomputable def spec_soCounts_a : Ann := (.q .o (.q .o (.q .o (.q .o (.q (.q .o (.m [(8, 100512, .v (.slc 3 (.int .i64)))] (.l [(8, 100512, .v (.slc 3 (.int .i64))), (31, 101984, .v (.int .i64))] (.q .o (.q .o (.q (.m [(8, 100512, .v (.slc 3 (.int .i64)))] (.q .o (.q .o (.q (.q .o (.m [(11, 100704, .v (.slc 3 (.int .i64)))] (.l [(11, 100704, .own false 3 (.int .i64)), (40, 102560, .v (.int .i64))] (.q .o (.q .o (.q (.m [(11, 100704, .own false 3 (.int .i64))] (.q .o (.q .o (.q (.e [] [7]) (.q .o (.m [(11, 100704, .own false 3 (.int .i64))] (.l [(11, 100704, .own false 3 (.int .i64)), (16, 101024, .v (.int .i64))] (.q (.q (.r [(11, 100704, .own false 3 (.int .i64)), (62, 103968, .v .bool)]) .o) (.q (.m [(11, 100704, .own false 3 (.int .i64))] (.q .o (.q (.q .o (.j [(11, 100704, .own false 3 (.int .i64)), (17, 101088, .v (.int .i64))] .o .o)) (.q .o (.j [(11, 100704, .own false 3 (.int .i64))] .o .o))))) .o))))))))) .o)))))) .o)))) .o)))))) .o)))))
theorem spec_soCounts_run (k : Nat) (p0 : (List Int)) (p1 : Int) (p2 : Int) : funX Tryz.prog (callT [spec_l1Most_c k, spec_l1Least_c k]) k Tryz.f51 spec_soCounts_a [.v (.slc 3 (.int .i64)), .v (.int .i64), .v (.int .i64)] [.v (.int .i64)] (p0, p1, p2, ()) = spec_soCounts_f k p0 p1 p2 := by kernel_rfl
noncomputable def spec_soCounts_c (k : Nat) : Con := ⟨51, [.v (.slc 3 (.int .i64)), .v (.int .i64), .v (.int .i64)], [.v (.int .i64)], fun x => spec_soCounts_f k x.1 x.2.1 x.2.2.1⟩
theorem spec_soCounts_ok (k : Nat) : (spec_soCounts_c k).Sound Tryz.prog GL := con_ok (k := k) (fn := Tryz.f51) (A := spec_soCounts_a) (C := callT [spec_l1Most_c k, spec_l1Least_c k]) Tryz.func51 (by kernel_rfl) (show Tryz.f51.body = some (bodyX Tryz.f51) by rfl) (fun X hX => callT_at (TableOk.cons (spec_l1Most_ok k) (TableOk.cons (spec_l1Least_ok k) TableOk.nil)) X hX) (Nat.le_of_ble_eq_true (by kernel_rfl)) (fun ⟨p0, p1, p2, _⟩ y h => by rw [← h]; exact spec_soCounts_run k p0 p1 p2)
noncomputable def spec_soDraws_f (k : Nat) (p0 : (List Int)) (p1 : Int) : Option ((Int × Unit) × Unit) :=
  (Option.bind (spec_soSum_f k p0) (fun y7 => (cond (decide (p1 > y7.1.1)) (some ((0, ()), ())) (Option.bind (spec_soCounts_f k p0 p1 (-1)) (fun y11 => (some ((y11.1.1, ()), ())))))))
noncomputable def spec_soDraws_a : Ann := .o
theorem spec_soDraws_run (k : Nat) (p0 : (List Int)) (p1 : Int) : funX Tryz.prog (callT [spec_soSum_c k, spec_soCounts_c k]) k Tryz.f40 spec_soDraws_a [.v (.slc 3 (.int .i64)), .v (.int .i64)] [.v (.int .i64)] (p0, p1, ()) = spec_soDraws_f k p0 p1 := by kernel_rfl
noncomputable def spec_soDraws_c (k : Nat) : Con := ⟨40, [.v (.slc 3 (.int .i64)), .v (.int .i64)], [.v (.int .i64)], fun x => spec_soDraws_f k x.1 x.2.1⟩
theorem spec_soDraws_ok (k : Nat) : (spec_soDraws_c k).Sound Tryz.prog GL := con_ok (k := k) (fn := Tryz.f40) (A := spec_soDraws_a) (C := callT [spec_soSum_c k, spec_soCounts_c k]) Tryz.func40 (by kernel_rfl) (show Tryz.f40.body = some (bodyX Tryz.f40) by rfl) (fun X hX => callT_at (TableOk.cons (spec_soSum_ok k) (TableOk.cons (spec_soCounts_ok k) TableOk.nil)) X hX) (Nat.le_of_ble_eq_true (by kernel_rfl)) (fun ⟨p0, p1, _⟩ y h => by rw [← h]; exact spec_soDraws_run k p0 p1)
noncomputable def spec_RankOfDraw_l3_b (k : Nat) (p0 : (List Int)) (p1 : (List Int)) (x7 : Int) (x26 : Int) (rec : Int → Int → Option ((Int × Unit) ⊕ ((Int × Int × Unit) ⊕ ((Int × Unit) ⊕ ((Int × Bool × Unit) × Unit))))) (x6_1 : Int) (x10 : Int) : Option ((Int × Unit) ⊕ ((Int × Int × Unit) ⊕ ((Int × Unit) ⊕ ((Int × Bool × Unit) × Unit)))) :=
  (cond (decide (x10 < (rd p1 x26))) (chk (decide (0 ≤ (iw (x26 + 1)))) (chk (decide ((iw (x26 + 1)) ≤ ((List.length p0 : Nat) : Int))) (Option.bind (spec_soDraws_f k (List.drop (Int.toNat (iw (x26 + 1))) p0) (iw (x7 - x10))) (fun y44 => (rec (iw (x6_1 + y44.1.1)) (iw (x10 + 1))))))) (some (.inl (x6_1, ()))))
noncomputable def spec_RankOfDraw_l3 (k : Nat) (p0 : (List Int)) (p1 : (List Int)) (x7 : Int) (x26 : Int) (x6_1 : Int) (x10 : Int) : Option ((Int × Unit) ⊕ ((Int × Int × Unit) ⊕ ((Int × Unit) ⊕ ((Int × Bool × Unit) × Unit)))) := iter k (fun (rec : (Int × Int × Unit) → Option ((Int × Unit) ⊕ ((Int × Int × Unit) ⊕ ((Int × Unit) ⊕ ((Int × Bool × Unit) × Unit))))) (x : (Int × Int × Unit)) => spec_RankOfDraw_l3_b k p0 p1 x7 x26 (fun x6_1 x10 => rec (x6_1, x10, ())) x.1 x.2.1) (x6_1, x10, ())
noncomputable def spec_RankOfDraw_l2_b (k : Nat) (p0 : (List Int)) (p1 : (List Int)) (rec : Int → Int → Int → Option ((Int × Unit) ⊕ ((Int × Bool × Unit) × Unit))) (x6 : Int) (x7 : Int) (x26 : Int) : Option ((Int × Unit) ⊕ ((Int × Bool × Unit) × Unit)) :=
  (cond (decide (x26 < ((List.length p1 : Nat) : Int))) (met (ixk x26 (List.length p1) (met (spec_RankOfDraw_l3 k p0 p1 x7 x26 x6 0) (fun j4 => (some (.inl (j4.1, (iw (x7 - (rd p1 x26))), ())))))) (fun j5 => (rec j5.1 j5.2.1 (iw (x26 + 1))))) (some (.inl (x6, ()))))
noncomputable def spec_RankOfDraw_l2 (k : Nat) (p0 : (List Int)) (p1 : (List Int)) (x6 : Int) (x7 : Int) (x26 : Int) : Option ((Int × Unit) ⊕ ((Int × Bool × Unit) × Unit)) := iter k (fun (rec : (Int × Int × Int × Unit) → Option ((Int × Unit) ⊕ ((Int × Bool × Unit) × Unit))) (x : (Int × Int × Int × Unit)) => spec_RankOfDraw_l2_b k p0 p1 (fun x6 x7 x26 => rec (x6, x7, x26, ())) x.1 x.2.1 x.2.2.1) (x6, x7, x26, ())
noncomputable def spec_RankOfDraw_f (k : Nat) (p0 : (List Int)) (p1 : (List Int)) : Option ((Int × Bool × Unit) × Unit) :=
  (met (Option.bind (spec_soBoth_f k p0 p1) (fun y13 => (cond (!y13.1.1) (some (.inl (true, ()))) (Option.bind (spec_soSum_f k p1) (fun y18 => (Option.bind (spec_soDraws_f k p0 y18.1.1) (fun y19 => (some (.inl ((decide (y19.1.1 > 1000000000000)), ())))))))))) (fun j1 => (cond j1.1 (some ((0, false, ()), ())) (Option.bind (spec_soSum_f k p1) (fun y23 => (met (spec_RankOfDraw_l2 k p0 p1 0 y23.1.1 0) (fun j6 => (some ((j6.1, true, ()), ())))))))))
noncomputable def spec_RankOfDraw_a : Ann := (.q .o (.q (.q (.r [(21, 101344, .v .bool)]) .o) (.q .o (.q (.q .o (.m [(6, 100384, .v (.int .i64))] (.l [(6, 100384, .v (.int .i64)), (7, 100448, .v (.int .i64)), (26, 101664, .v (.int .i64))] (.q .o (.q .o (.q (.m [(6, 100384, .v (.int .i64)), (7, 100448, .v (.int .i64))] (.q .o (.q (.q .o (.m [(6, 100384, .v (.int .i64))] (.l [(6, 100384, .v (.int .i64)), (10, 100640, .v (.int .i64))] .o))) .o))) .o)))))) .o))))
theorem spec_RankOfDraw_run (k : Nat) (p0 : (List Int)) (p1 : (List Int)) : funX Tryz.prog (callT [spec_soBoth_c k, spec_soSum_c k, spec_soDraws_c k]) k Tryz.f7 spec_RankOfDraw_a [.v (.slc 3 (.int .i64)), .v (.slc 3 (.int .i64))] [.v (.int .i64), .v .bool] (p0, p1, ()) = spec_RankOfDraw_f k p0 p1 := by kernel_rfl
noncomputable def spec_RankOfDraw_c (k : Nat) : Con := ⟨7, [.v (.slc 3 (.int .i64)), .v (.slc 3 (.int .i64))], [.v (.int .i64), .v .bool], fun x => spec_RankOfDraw_f k x.1 x.2.1⟩
theorem spec_RankOfDraw_ok (k : Nat) : (spec_RankOfDraw_c k).Sound Tryz.prog GL := con_ok (k := k) (fn := Tryz.f7) (A := spec_RankOfDraw_a) (C := callT [spec_soBoth_c k, spec_soSum_c k, spec_soDraws_c k]) Tryz.func7 (by kernel_rfl) (show Tryz.f7.body = some (bodyX Tryz.f7) by rfl) (fun X hX => callT_at (TableOk.cons (spec_soBoth_ok k) (TableOk.cons (spec_soSum_ok k) (TableOk.cons (spec_soDraws_ok k) TableOk.nil))) X hX) (Nat.le_of_ble_eq_true (by kernel_rfl)) (fun ⟨p0, p1, _⟩ y h => by rw [← h]; exact spec_RankOfDraw_run k p0 p1)
noncomputable def impl_PairsOfDraw_f (k : Nat) (p0 : (List Int)) (p1 : (List Int)) : Option ((Int × Bool × Unit) × Unit) :=
  (Option.bind (impl_isDraw_f k p0 p1) (fun y8 => (cond (!y8.1.1) (some ((0, false, ()), ())) (Option.bind (impl_pairsOf_f k p1) (fun y11 => (some ((y11.1.1, true, ()), ())))))))
noncomputable def impl_PairsOfDraw_a : Ann := .o
theorem impl_PairsOfDraw_run (k : Nat) (p0 : (List Int)) (p1 : (List Int)) : funX Tryz.prog (callT [impl_isDraw_c k, impl_pairsOf_c k]) k Tryz.f8 impl_PairsOfDraw_a [.v (.slc 3 (.int .i64)), .v (.slc 3 (.int .i64))] [.v (.int .i64), .v .bool] (p0, p1, ()) = impl_PairsOfDraw_f k p0 p1 := by kernel_rfl
noncomputable def impl_PairsOfDraw_c (k : Nat) : Con := ⟨8, [.v (.slc 3 (.int .i64)), .v (.slc 3 (.int .i64))], [.v (.int .i64), .v .bool], fun x => impl_PairsOfDraw_f k x.1 x.2.1⟩
theorem impl_PairsOfDraw_ok (k : Nat) : (impl_PairsOfDraw_c k).Sound Tryz.prog GL := con_ok (k := k) (fn := Tryz.f8) (A := impl_PairsOfDraw_a) (C := callT [impl_isDraw_c k, impl_pairsOf_c k]) Tryz.func8 (by kernel_rfl) (show Tryz.f8.body = some (bodyX Tryz.f8) by rfl) (fun X hX => callT_at (TableOk.cons (impl_isDraw_ok k) (TableOk.cons (impl_pairsOf_ok k) TableOk.nil)) X hX) (Nat.le_of_ble_eq_true (by kernel_rfl)) (fun ⟨p0, p1, _⟩ y h => by rw [← h]; exact impl_PairsOfDraw_run k p0 p1)
noncomputable def spec_soPairs_l1_b (k : Nat) (p0 : (List Int)) (rec : Int → Int → Option ((Int × Unit) ⊕ ((Int × Unit) × Unit))) (x3 : Int) (x8 : Int) : Option ((Int × Unit) ⊕ ((Int × Unit) × Unit)) :=
  (cond (decide (x8 < ((List.length p0 : Nat) : Int))) (ixk x8 (List.length p0) (rec (iw (x3 + (iw (Int.tdiv (rd p0 x8) 2)))) (iw (x8 + 1)))) (some (.inl (x3, ()))))
noncomputable def spec_soPairs_l1 (k : Nat) (p0 : (List Int)) (x3 : Int) (x8 : Int) : Option ((Int × Unit) ⊕ ((Int × Unit) × Unit)) := iter k (fun (rec : (Int × Int × Unit) → Option ((Int × Unit) ⊕ ((Int × Unit) × Unit))) (x : (Int × Int × Unit)) => spec_soPairs_l1_b k p0 (fun x3 x8 => rec (x3, x8, ())) x.1 x.2.1) (x3, x8, ())
noncomputable def spec_soPairs_f (k : Nat) (p0 : (List Int)) : Option ((Int × Unit) × Unit) :=
  (met (spec_soPairs_l1 k p0 0 0) (fun j2 => (some ((j2.1, ()), ()))))
noncomputable def spec_soPairs_a : Ann := (.q .o (.q .o (.q (.q .o (.m [(3, 100192, .v (.int .i64))] (.l [(3, 100192, .v (.int .i64)), (8, 100512, .v (.int .i64))] .o))) .o)))
theorem spec_soPairs_run (k : Nat) (p0 : (List Int)) : funX Tryz.prog (callT []) k Tryz.f43 spec_soPairs_a [.v (.slc 3 (.int .i64))] [.v (.int .i64)] (p0, ()) = spec_soPairs_f k p0 := by kernel_rfl
noncomputable def spec_soPairs_c (k : Nat) : Con := ⟨43, [.v (.slc 3 (.int .i64))], [.v (.int .i64)], fun x => spec_soPairs_f k x.1⟩
theorem spec_soPairs_ok (k : Nat) : (spec_soPairs_c k).Sound Tryz.prog GL := con_ok (k := k) (fn := Tryz.f43) (A := spec_soPairs_a) (C := callT []) Tryz.func43 (by kernel_rfl) (show Tryz.f43.body = some (bodyX Tryz.f43) by rfl) (fun X hX => callT_at TableOk.nil X hX) (Nat.le_of_ble_eq_true (by kernel_rfl)) (fun ⟨p0, _⟩ y h => by rw [← h]; exact spec_soPairs_run k p0)
noncomputable def spec_PairsOfDraw_f (k : Nat) (p0 : (List Int)) (p1 : (List Int)) : Option ((Int × Bool × Unit) × Unit) :=
  (Option.bind (spec_soBoth_f k p0 p1) (fun y8 => (cond (!y8.1.1) (some ((0, false, ()), ())) (Option.bind (spec_soPairs_f k p1) (fun y11 => (some ((y11.1.1, true, ()), ())))))))
noncomputable def spec_PairsOfDraw_a : Ann := .o
theorem spec_PairsOfDraw_run (k : Nat) (p0 : (List Int)) (p1 : (List Int)) : funX Tryz.prog (callT [spec_soBoth_c k, spec_soPairs_c k]) k Tryz.f9 spec_PairsOfDraw_a [.v (.slc 3 (.int .i64)), .v (.slc 3 (.int .i64))] [.v (.int .i64), .v .bool] (p0, p1, ()) = spec_PairsOfDraw_f k p0 p1 := by kernel_rfl
noncomputable def spec_PairsOfDraw_c (k : Nat) : Con := ⟨9, [.v (.slc 3 (.int .i64)), .v (.slc 3 (.int .i64))], [.v (.int .i64), .v .bool], fun x => spec_PairsOfDraw_f k x.1 x.2.1⟩
theorem spec_PairsOfDraw_ok (k : Nat) : (spec_PairsOfDraw_c k).Sound Tryz.prog GL := con_ok (k := k) (fn := Tryz.f9) (A := spec_PairsOfDraw_a) (C := callT [spec_soBoth_c k, spec_soPairs_c k]) Tryz.func9 (by kernel_rfl) (show Tryz.f9.body = some (bodyX Tryz.f9) by rfl) (fun X hX => callT_at (TableOk.cons (spec_soBoth_ok k) (TableOk.cons (spec_soPairs_ok k) TableOk.nil)) X hX) (Nat.le_of_ble_eq_true (by kernel_rfl)) (fun ⟨p0, p1, _⟩ y h => by rw [← h]; exact spec_PairsOfDraw_run k p0 p1)
noncomputable def slices_Clone_int_int_f (k : Nat) (p0 : (List Int)) : Option (((List Int) × Unit) × Unit) :=
  (cond (List.isEmpty p0) (andX (some (([], ()), ())) (chk (decide (0 + List.length p0 ≤ 15637498706147)) (some ((p0, ()), ())))) (chk (decide (0 + List.length p0 ≤ 15637498706147)) (some ((p0, ()), ()))))
noncomputable def slices_Clone_int_int_a : Ann := .o
theorem slices_Clone_int_int_run (k : Nat) (p0 : (List Int)) : funX Tryz.prog (callT []) k Tryz.f64 slices_Clone_int_int_a [.v (.slc 3 (.int .i64))] [.own false 3 (.int .i64)] (p0, ()) = slices_Clone_int_int_f k p0 := by kernel_rfl
noncomputable def slices_Clone_int_int_c (k : Nat) : Con := ⟨64, [.v (.slc 3 (.int .i64))], [.own false 3 (.int .i64)], fun x => slices_Clone_int_int_f k x.1⟩
theorem slices_Clone_int_int_ok (k : Nat) : (slices_Clone_int_int_c k).Sound Tryz.prog GL := con_ok (k := k) (fn := Tryz.f64) (A := slices_Clone_int_int_a) (C := callT []) Tryz.func64 (by kernel_rfl) (show Tryz.f64.body = some (bodyX Tryz.f64) by rfl) (fun X hX => callT_at TableOk.nil X hX) (Nat.le_of_ble_eq_true (by kernel_rfl)) (fun ⟨p0, _⟩ y h => by rw [← h]; exact slices_Clone_int_int_run k p0)
noncomputable def impl_less_l1_b (k : Nat) (p1 : (List Int)) (rec : (List Int) → Int → Option (((List Int) × Unit) ⊕ (((List Int) × Unit) × Unit))) (x5 : (List Int)) (x12 : Int) : Option (((List Int) × Unit) ⊕ (((List Int) × Unit) × Unit)) :=
  (cond (decide (x12 < ((List.length p1 : Nat) : Int))) (ixk x12 (List.length p1) (ixk x12 (List.length x5) (ixk x12 (List.length x5) (rec (setI x5 x12 (iw ((rd x5 x12) - (rd p1 x12)))) (iw (x12 + 1)))))) (some (.inl (x5, ()))))
noncomputable def impl_less_l1 (k : Nat) (p1 : (List Int)) (x5 : (List Int)) (x12 : Int) : Option (((List Int) × Unit) ⊕ (((List Int) × Unit) × Unit)) := iter k (fun (rec : ((List Int) × Int × Unit) → Option (((List Int) × Unit) ⊕ (((List Int) × Unit) × Unit))) (x : ((List Int) × Int × Unit)) => impl_less_l1_b k p1 (fun x5 x12 => rec (x5, x12, ())) x.1 x.2.1) (x5, x12, ())
noncomputable def impl_less_f (k : Nat) (p0 : (List Int)) (p1 : (List Int)) : Option (((List Int) × Unit) × Unit) :=
  (Option.bind (slices_Clone_int_int_f k p0) (fun y9 => (met (impl_less_l1 k p1 y9.1.1 0) (fun j2 => (some ((j2.1, ()), ()))))))
noncomputable def impl_less_a : Ann := (.q .o (.q .o (.q (.q .o (.m [(5, 100320, .own false 3 (.int .i64))] (.l [(5, 100320, .own false 3 (.int .i64)), (12, 100768, .v (.int .i64))] .o))) .o)))
theorem impl_less_run (k : Nat) (p0 : (List Int)) (p1 : (List Int)) : funX Tryz.prog (callT [slices_Clone_int_int_c k]) k Tryz.f44 impl_less_a [.v (.slc 3 (.int .i64)), .v (.slc 3 (.int .i64))] [.own false 3 (.int .i64)] (p0, p1, ()) = impl_less_f k p0 p1 := by kernel_rfl
noncomputable def impl_less_c (k : Nat) : Con := ⟨44, [.v (.slc 3 (.int .i64)), .v (.slc 3 (.int .i64))], [.own false 3 (.int .i64)], fun x => impl_less_f k x.1 x.2.1⟩
theorem impl_less_ok (k : Nat) : (impl_less_c k).Sound Tryz.prog GL := con_ok (k := k) (fn := Tryz.f44) (A := impl_less_a) (C := callT [slices_Clone_int_int_c k]) Tryz.func44 (by kernel_rfl) (show Tryz.f44.body = some (bodyX Tryz.f44) by rfl) (fun X hX => callT_at (TableOk.cons (slices_Clone_int_int_ok k) TableOk.nil) X hX) (Nat.le_of_ble_eq_true (by kernel_rfl)) (fun ⟨p0, p1, _⟩ y h => by rw [← h]; exact impl_less_run k p0 p1)
noncomputable def impl_LeftBehind_f (k : Nat) (p0 : (List Int)) (p1 : (List Int)) : Option (((List Int) × Bool × Unit) × Unit) :=
  (met (Option.bind (impl_isDraw_f k p0 p1) (fun y8 => (cond (!y8.1.1) (some (.inl (true, ()))) (Option.bind (impl_total_f k p0) (fun y12 => (Option.bind (impl_total_f k p1) (fun y14 => (some (.inl ((y12.1.1 == y14.1.1), ())))))))))) (fun j1 => (cond j1.1 (some (([], false, ()), ())) (Option.bind (impl_less_f k p0 p1) (fun y19 => (some ((y19.1.1, true, ()), ())))))))
noncomputable def impl_LeftBehind_a : Ann := (.q .o (.q (.q (.r [(16, 101024, .v .bool)]) .o) .o))
theorem impl_LeftBehind_run (k : Nat) (p0 : (List Int)) (p1 : (List Int)) : funX Tryz.prog (callT [impl_isDraw_c k, impl_total_c k, impl_less_c k]) k Tryz.f10 impl_LeftBehind_a [.v (.slc 3 (.int .i64)), .v (.slc 3 (.int .i64))] [.own false 3 (.int .i64), .v .bool] (p0, p1, ()) = impl_LeftBehind_f k p0 p1 := by kernel_rfl
noncomputable def impl_LeftBehind_c (k : Nat) : Con := ⟨10, [.v (.slc 3 (.int .i64)), .v (.slc 3 (.int .i64))], [.own false 3 (.int .i64), .v .bool], fun x => impl_LeftBehind_f k x.1 x.2.1⟩
theorem impl_LeftBehind_ok (k : Nat) : (impl_LeftBehind_c k).Sound Tryz.prog GL := con_ok (k := k) (fn := Tryz.f10) (A := impl_LeftBehind_a) (C := callT [impl_isDraw_c k, impl_total_c k, impl_less_c k]) Tryz.func10 (by kernel_rfl) (show Tryz.f10.body = some (bodyX Tryz.f10) by rfl) (fun X hX => callT_at (TableOk.cons (impl_isDraw_ok k) (TableOk.cons (impl_total_ok k) (TableOk.cons (impl_less_ok k) TableOk.nil))) X hX) (Nat.le_of_ble_eq_true (by kernel_rfl)) (fun ⟨p0, p1, _⟩ y h => by rw [← h]; exact impl_LeftBehind_run k p0 p1)
noncomputable def spec_LeftBehind_l1_b (k : Nat) (p0 : (List Int)) (p1 : (List Int)) (rec : (List Int) → Int → Option (((List Int) × Unit) ⊕ (((List Int) × Bool × Unit) × Unit))) (x6 : (List Int)) (x15 : Int) : Option (((List Int) × Unit) ⊕ (((List Int) × Bool × Unit) × Unit)) :=
  (cond (decide (x15 < ((List.length p0 : Nat) : Int))) (ixk x15 (List.length p0) (ixk x15 (List.length p1) (chk (decide (List.length x6 + List.length [(iw ((rd p0 x15) - (rd p1 x15)))] ≤ 15637498706147)) (rec (x6 ++ [(iw ((rd p0 x15) - (rd p1 x15)))]) (iw (x15 + 1)))))) (some (.inl (x6, ()))))
noncomputable def spec_LeftBehind_l1 (k : Nat) (p0 : (List Int)) (p1 : (List Int)) (x6 : (List Int)) (x15 : Int) : Option (((List Int) × Unit) ⊕ (((List Int) × Bool × Unit) × Unit)) := iter k (fun (rec : ((List Int) × Int × Unit) → Option (((List Int) × Unit) ⊕ (((List Int) × Bool × Unit) × Unit))) (x : ((List Int) × Int × Unit)) => spec_LeftBehind_l1_b k p0 p1 (fun x6 x15 => rec (x6, x15, ())) x.1 x.2.1) (x6, x15, ())
noncomputable def spec_LeftBehind_f (k : Nat) (p0 : (List Int)) (p1 : (List Int)) : Option (((List Int) × Bool × Unit) × Unit) :=
  (Option.bind (spec_soBoth_f k p0 p1) (fun y11 => (cond (!y11.1.1) (some (([], false, ()), ())) (met (spec_LeftBehind_l1 k p0 p1 [] 0) (fun j2 => (Option.bind (spec_soSum_f k j2.1) (fun y31 => (cond (y31.1.1 == 0) (some (([], false, ()), ())) (some ((j2.1, true, ()), ()))))))))))
noncomputable def spec_LeftBehind_a : Ann := (.q .o (.q .o (.q .o (.q (.q .o (.m [(6, 100384, .own false 3 (.int .i64))] (.l [(6, 100384, .own false 3 (.int .i64)), (15, 100960, .v (.int .i64))] .o))) .o))))
theorem spec_LeftBehind_run (k : Nat) (p0 : (List Int)) (p1 : (List Int)) : funX Tryz.prog (callT [spec_soBoth_c k, spec_soSum_c k]) k Tryz.f11 spec_LeftBehind_a [.v (.slc 3 (.int .i64)), .v (.slc 3 (.int .i64))] [.own false 3 (.int .i64), .v .bool] (p0, p1, ()) = spec_LeftBehind_f k p0 p1 := by kernel_rfl
noncomputable def spec_LeftBehind_c (k : Nat) : Con := ⟨11, [.v (.slc 3 (.int .i64)), .v (.slc 3 (.int .i64))], [.own false 3 (.int .i64), .v .bool], fun x => spec_LeftBehind_f k x.1 x.2.1⟩
theorem spec_LeftBehind_ok (k : Nat) : (spec_LeftBehind_c k).Sound Tryz.prog GL := con_ok (k := k) (fn := Tryz.f11) (A := spec_LeftBehind_a) (C := callT [spec_soBoth_c k, spec_soSum_c k]) Tryz.func11 (by kernel_rfl) (show Tryz.f11.body = some (bodyX Tryz.f11) by rfl) (fun X hX => callT_at (TableOk.cons (spec_soBoth_ok k) (TableOk.cons (spec_soSum_ok k) TableOk.nil)) X hX) (Nat.le_of_ble_eq_true (by kernel_rfl)) (fun ⟨p0, p1, _⟩ y h => by rw [← h]; exact spec_LeftBehind_run k p0 p1)
noncomputable def spec_IsDraw_f (k : Nat) (p0 : (List Int)) (p1 : (List Int)) : Option ((Bool × Bool × Unit) × Unit) :=
  (Option.bind (spec_soGood_f k p0) (fun y7 => (cond (!y7.1.1) (some ((false, false, ()), ())) (Option.bind (spec_soIs_f k p0 p1) (fun y11 => (some ((y11.1.1, true, ()), ())))))))
noncomputable def spec_IsDraw_a : Ann := .o
theorem spec_IsDraw_run (k : Nat) (p0 : (List Int)) (p1 : (List Int)) : funX Tryz.prog (callT [spec_soGood_c k, spec_soIs_c k]) k Tryz.f13 spec_IsDraw_a [.v (.slc 3 (.int .i64)), .v (.slc 3 (.int .i64))] [.v .bool, .v .bool] (p0, p1, ()) = spec_IsDraw_f k p0 p1 := by kernel_rfl
noncomputable def spec_IsDraw_c (k : Nat) : Con := ⟨13, [.v (.slc 3 (.int .i64)), .v (.slc 3 (.int .i64))], [.v .bool, .v .bool], fun x => spec_IsDraw_f k x.1 x.2.1⟩
theorem spec_IsDraw_ok (k : Nat) : (spec_IsDraw_c k).Sound Tryz.prog GL := con_ok (k := k) (fn := Tryz.f13) (A := spec_IsDraw_a) (C := callT [spec_soGood_c k, spec_soIs_c k]) Tryz.func13 (by kernel_rfl) (show Tryz.f13.body = some (bodyX Tryz.f13) by rfl) (fun X hX => callT_at (TableOk.cons (spec_soGood_ok k) (TableOk.cons (spec_soIs_ok k) TableOk.nil)) X hX) (Nat.le_of_ble_eq_true (by kernel_rfl)) (fun ⟨p0, p1, _⟩ y h => by rw [← h]; exact spec_IsDraw_run k p0 p1)
noncomputable def laws_zSame_l1_b (k : Nat) (p0 : (List Int)) (p1 : (List Int)) (rec : Int → Option (Unit ⊕ ((Bool × Unit) × Unit))) (x13 : Int) : Option (Unit ⊕ ((Bool × Unit) × Unit)) :=
  (cond (decide (x13 < ((List.length p0 : Nat) : Int))) (ixk x13 (List.length p0) (ixk x13 (List.length p1) (cond ((rd p0 x13) != (rd p1 x13)) (some (.inr ((false, ()), ()))) (rec (iw (x13 + 1)))))) (some (.inl ())))
noncomputable def laws_zSame_l1 (k : Nat) (p0 : (List Int)) (p1 : (List Int)) (x13 : Int) : Option (Unit ⊕ ((Bool × Unit) × Unit)) := iter k (fun (rec : (Int × Unit) → Option (Unit ⊕ ((Bool × Unit) × Unit))) (x : (Int × Unit)) => laws_zSame_l1_b k p0 p1 (fun x13 => rec (x13, ())) x.1) (x13, ())
noncomputable def laws_zSame_f (k : Nat) (p0 : (List Int)) (p1 : (List Int)) : Option ((Bool × Unit) × Unit) :=
  (cond (((List.length p0 : Nat) : Int) != ((List.length p1 : Nat) : Int)) (some ((false, ()), ())) (met (laws_zSame_l1 k p0 p1 0) (fun j2 => (some ((true, ()), ())))))
noncomputable def laws_zSame_a : Ann := (.q .o (.q .o (.q (.q .o (.m [] (.l [(13, 100832, .v (.int .i64))] .o))) .o)))
theorem laws_zSame_run (k : Nat) (p0 : (List Int)) (p1 : (List Int)) : funX Tryz.prog (callT []) k Tryz.f14 laws_zSame_a [.v (.slc 3 (.int .i64)), .v (.slc 3 (.int .i64))] [.v .bool] (p0, p1, ()) = laws_zSame_f k p0 p1 := by kernel_rfl
noncomputable def laws_zSame_c (k : Nat) : Con := ⟨14, [.v (.slc 3 (.int .i64)), .v (.slc 3 (.int .i64))], [.v .bool], fun x => laws_zSame_f k x.1 x.2.1⟩
theorem laws_zSame_ok (k : Nat) : (laws_zSame_c k).Sound Tryz.prog GL := con_ok (k := k) (fn := Tryz.f14) (A := laws_zSame_a) (C := callT []) Tryz.func14 (by kernel_rfl) (show Tryz.f14.body = some (bodyX Tryz.f14) by rfl) (fun X hX => callT_at TableOk.nil X hX) (Nat.le_of_ble_eq_true (by kernel_rfl)) (fun ⟨p0, p1, _⟩ y h => by rw [← h]; exact laws_zSame_run k p0 p1)
noncomputable def impl_CountSocks_f (k : Nat) (p0 : (List Int)) : Option ((Int × Bool × Unit) × Unit) :=
  (Option.bind (impl_AreSocks_f k p0) (fun y5 => (cond (!y5.1.1) (some ((0, false, ()), ())) (Option.bind (impl_total_f k p0) (fun y8 => (some ((y8.1.1, true, ()), ())))))))
noncomputable def impl_CountSocks_a : Ann := .o
theorem impl_CountSocks_run (k : Nat) (p0 : (List Int)) : funX Tryz.prog (callT [impl_AreSocks_c k, impl_total_c k]) k Tryz.f15 impl_CountSocks_a [.v (.slc 3 (.int .i64))] [.v (.int .i64), .v .bool] (p0, ()) = impl_CountSocks_f k p0 := by kernel_rfl
noncomputable def impl_CountSocks_c (k : Nat) : Con := ⟨15, [.v (.slc 3 (.int .i64))], [.v (.int .i64), .v .bool], fun x => impl_CountSocks_f k x.1⟩
theorem impl_CountSocks_ok (k : Nat) : (impl_CountSocks_c k).Sound Tryz.prog GL := con_ok (k := k) (fn := Tryz.f15) (A := impl_CountSocks_a) (C := callT [impl_AreSocks_c k, impl_total_c k]) Tryz.func15 (by kernel_rfl) (show Tryz.f15.body = some (bodyX Tryz.f15) by rfl) (fun X hX => callT_at (TableOk.cons (impl_AreSocks_ok k) (TableOk.cons (impl_total_ok k) TableOk.nil)) X hX) (Nat.le_of_ble_eq_true (by kernel_rfl)) (fun ⟨p0, _⟩ y h => by rw [← h]; exact impl_CountSocks_run k p0)
noncomputable def laws_zSum_l1_b (k : Nat) (p0 : (List Int)) (rec : Int → Int → Option ((Int × Unit) ⊕ ((Int × Unit) × Unit))) (x3 : Int) (x8 : Int) : Option ((Int × Unit) ⊕ ((Int × Unit) × Unit)) :=
  (cond (decide (x8 < ((List.length p0 : Nat) : Int))) (ixk x8 (List.length p0) (rec (iw (x3 + (rd p0 x8))) (iw (x8 + 1)))) (some (.inl (x3, ()))))
noncomputable def laws_zSum_l1 (k : Nat) (p0 : (List Int)) (x3 : Int) (x8 : Int) : Option ((Int × Unit) ⊕ ((Int × Unit) × Unit)) := iter k (fun (rec : (Int × Int × Unit) → Option ((Int × Unit) ⊕ ((Int × Unit) × Unit))) (x : (Int × Int × Unit)) => laws_zSum_l1_b k p0 (fun x3 x8 => rec (x3, x8, ())) x.1 x.2.1) (x3, x8, ())
noncomputable def laws_zSum_f (k : Nat) (p0 : (List Int)) : Option ((Int × Unit) × Unit) :=
  (met (laws_zSum_l1 k p0 0 0) (fun j2 => (some ((j2.1, ()), ()))))
noncomputable def laws_zSum_a : Ann := (.q .o (.q .o (.q (.q .o (.m [(3, 100192, .v (.int .i64))] (.l [(3, 100192, .v (.int .i64)), (8, 100512, .v (.int .i64))] .o))) .o)))
theorem laws_zSum_run (k : Nat) (p0 : (List Int)) : funX Tryz.prog (callT []) k Tryz.f16 laws_zSum_a [.v (.slc 3 (.int .i64))] [.v (.int .i64)] (p0, ()) = laws_zSum_f k p0 := by kernel_rfl
noncomputable def laws_zSum_c (k : Nat) : Con := ⟨16, [.v (.slc 3 (.int .i64))], [.v (.int .i64)], fun x => laws_zSum_f k x.1⟩
theorem laws_zSum_ok (k : Nat) : (laws_zSum_c k).Sound Tryz.prog GL := con_ok (k := k) (fn := Tryz.f16) (A := laws_zSum_a) (C := callT []) Tryz.func16 (by kernel_rfl) (show Tryz.f16.body = some (bodyX Tryz.f16) by rfl) (fun X hX => callT_at TableOk.nil X hX) (Nat.le_of_ble_eq_true (by kernel_rfl)) (fun ⟨p0, _⟩ y h => by rw [← h]; exact laws_zSum_run k p0)
noncomputable def impl_AddSocks_l2_b (k : Nat) (p0 : (List Int)) (p1 : (List Int)) (rec : (List Int) → Int → Option (((List Int) × Unit) ⊕ (((List Int) × Bool × Unit) × Unit))) (x6 : (List Int)) (x26 : Int) : Option (((List Int) × Unit) ⊕ (((List Int) × Bool × Unit) × Unit)) :=
  (cond (decide (x26 < ((List.length p0 : Nat) : Int))) (ixk x26 (List.length p0) (ixk x26 (List.length p1) (chk (decide (List.length x6 + List.length [(iw ((rd p0 x26) + (rd p1 x26)))] ≤ 15637498706147)) (rec (x6 ++ [(iw ((rd p0 x26) + (rd p1 x26)))]) (iw (x26 + 1)))))) (some (.inl (x6, ()))))
noncomputable def impl_AddSocks_l2 (k : Nat) (p0 : (List Int)) (p1 : (List Int)) (x6 : (List Int)) (x26 : Int) : Option (((List Int) × Unit) ⊕ (((List Int) × Bool × Unit) × Unit)) := iter k (fun (rec : ((List Int) × Int × Unit) → Option (((List Int) × Unit) ⊕ (((List Int) × Bool × Unit) × Unit))) (x : ((List Int) × Int × Unit)) => impl_AddSocks_l2_b k p0 p1 (fun x6 x26 => rec (x6, x26, ())) x.1 x.2.1) (x6, x26, ())
noncomputable def impl_AddSocks_f (k : Nat) (p0 : (List Int)) (p1 : (List Int)) : Option (((List Int) × Bool × Unit) × Unit) :=
  (met (Option.bind (impl_AreSocks_f k p0) (fun y9 => (cond (!y9.1.1) (some (.inl (true, ()))) (Option.bind (impl_AreSocks_f k p1) (fun y13 => (cond (!y13.1.1) (some (.inl (true, ()))) (some (.inl ((((List.length p0 : Nat) : Int) != ((List.length p1 : Nat) : Int)), ()))))))))) (fun j1 => (cond j1.1 (some (([], false, ()), ())) (met (impl_AddSocks_l2 k p0 p1 [] 0) (fun j3 => (Option.bind (impl_AreSocks_f k j3.1) (fun y43 => (cond (!y43.1.1) (some (([], false, ()), ())) (some ((j3.1, true, ()), ()))))))))))
noncomputable def impl_AddSocks_a : Ann := (.q .o (.q (.q (.r [(22, 101408, .v .bool)]) .o) (.q .o (.q (.q .o (.m [(6, 100384, .own false 3 (.int .i64))] (.l [(6, 100384, .own false 3 (.int .i64)), (26, 101664, .v (.int .i64))] (.q .o (.q .o (.q (.b (.q .o (.e [100384] [12]))) .o)))))) .o))))
theorem impl_AddSocks_run (k : Nat) (p0 : (List Int)) (p1 : (List Int)) : funX Tryz.prog (callT [impl_AreSocks_c k]) k Tryz.f17 impl_AddSocks_a [.v (.slc 3 (.int .i64)), .v (.slc 3 (.int .i64))] [.own false 3 (.int .i64), .v .bool] (p0, p1, ()) = impl_AddSocks_f k p0 p1 := by kernel_rfl
noncomputable def impl_AddSocks_c (k : Nat) : Con := ⟨17, [.v (.slc 3 (.int .i64)), .v (.slc 3 (.int .i64))], [.own false 3 (.int .i64), .v .bool], fun x => impl_AddSocks_f k x.1 x.2.1⟩
theorem impl_AddSocks_ok (k : Nat) : (impl_AddSocks_c k).Sound Tryz.prog GL := con_ok (k := k) (fn := Tryz.f17) (A := impl_AddSocks_a) (C := callT [impl_AreSocks_c k]) Tryz.func17 (by kernel_rfl) (show Tryz.f17.body = some (bodyX Tryz.f17) by rfl) (fun X hX => callT_at (TableOk.cons (impl_AreSocks_ok k) TableOk.nil) X hX) (Nat.le_of_ble_eq_true (by kernel_rfl)) (fun ⟨p0, p1, _⟩ y h => by rw [← h]; exact impl_AddSocks_run k p0 p1)
noncomputable def impl_DrawOfRank_l3_b (k : Nat) (x1 : Int) (x34 : Int) (rec : Int → (List (List (List Int))) → (List Int) → Int → Option ((Int × (List (List (List Int))) × (List Int) × Int × Unit) ⊕ ((Int × Int × (List (List (List Int))) × (List Int) × Unit) ⊕ (((List Int) × Unit) ⊕ (((List Int) × Bool × Unit) × Unit))))) (x2_1 : Int) (x10_1 : (List (List (List Int)))) (x11_1 : (List Int)) (x13 : Int) : Option ((Int × (List (List (List Int))) × (List Int) × Int × Unit) ⊕ ((Int × Int × (List (List (List Int))) × (List Int) × Unit) ⊕ (((List Int) × Unit) ⊕ (((List Int) × Bool × Unit) × Unit)))) :=
  (ixk (iw (x34 + 1)) (List.length x10_1) (ixk (iw (x1 - x13)) (List.length (rdG [] x10_1 (iw (x34 + 1)))) (Option.bind (impl_total_f k (rdG [] (rdG [] x10_1 (iw (x34 + 1))) (iw (x1 - x13)))) (fun y47 => (cond (decide (y47.1.1 ≤ x2_1)) (ixk (iw (x34 + 1)) (List.length x10_1) (ixk (iw (x1 - x13)) (List.length (rdG [] x10_1 (iw (x34 + 1)))) (Option.bind (impl_total_f k (rdG [] (rdG [] x10_1 (iw (x34 + 1))) (iw (x1 - x13)))) (fun y63 => (rec (iw (x2_1 - y63.1.1)) x10_1 x11_1 (iw (x13 + 1))))))) (some (.inl (x2_1, x10_1, x11_1, x13, ()))))))))
noncomputable def impl_DrawOfRank_l3 (k : Nat) (x1 : Int) (x34 : Int) (x2_1 : Int) (x10_1 : (List (List (List Int)))) (x11_1 : (List Int)) (x13 : Int) : Option ((Int × (List (List (List Int))) × (List Int) × Int × Unit) ⊕ ((Int × Int × (List (List (List Int))) × (List Int) × Unit) ⊕ (((List Int) × Unit) ⊕ (((List Int) × Bool × Unit) × Unit)))) := iter k (fun (rec : (Int × (List (List (List Int))) × (List Int) × Int × Unit) → Option ((Int × (List (List (List Int))) × (List Int) × Int × Unit) ⊕ ((Int × Int × (List (List (List Int))) × (List Int) × Unit) ⊕ (((List Int) × Unit) ⊕ (((List Int) × Bool × Unit) × Unit))))) (x : (Int × (List (List (List Int))) × (List Int) × Int × Unit)) => impl_DrawOfRank_l3_b k x1 x34 (fun x2_1 x10_1 x11_1 x13 => rec (x2_1, x10_1, x11_1, x13, ())) x.1 x.2.1 x.2.2.1 x.2.2.2.1) (x2_1, x10_1, x11_1, x13, ())
noncomputable def impl_DrawOfRank_l2_b (k : Nat) (p0 : (List Int)) (rec : Int → Int → (List (List (List Int))) → (List Int) → Int → Option (((List Int) × Unit) ⊕ (((List Int) × Bool × Unit) × Unit))) (x1 : Int) (x2 : Int) (x10 : (List (List (List Int)))) (x11 : (List Int)) (x34 : Int) : Option (((List Int) × Unit) ⊕ (((List Int) × Bool × Unit) × Unit)) :=
  (cond (decide (x34 < ((List.length p0 : Nat) : Int))) (met (met (impl_DrawOfRank_l3 k x1 x34 x2 x10 x11 0) (fun j4 => (chk (decide (List.length j4.2.2.1 + List.length [j4.2.2.2.1] ≤ 15637498706147)) (some (.inl ((iw (x1 - j4.2.2.2.1)), j4.1, j4.2.1, (j4.2.2.1 ++ [j4.2.2.2.1]), ())))))) (fun j5 => (rec j5.1 j5.2.1 j5.2.2.1 j5.2.2.2.1 (iw (x34 + 1))))) (some (.inl (x11, ()))))
noncomputable def impl_DrawOfRank_l2 (k : Nat) (p0 : (List Int)) (x1 : Int) (x2 : Int) (x10 : (List (List (List Int)))) (x11 : (List Int)) (x34 : Int) : Option (((List Int) × Unit) ⊕ (((List Int) × Bool × Unit) × Unit)) := iter k (fun (rec : (Int × Int × (List (List (List Int))) × (List Int) × Int × Unit) → Option (((List Int) × Unit) ⊕ (((List Int) × Bool × Unit) × Unit))) (x : (Int × Int × (List (List (List Int))) × (List Int) × Int × Unit)) => impl_DrawOfRank_l2_b k p0 (fun x1 x2 x10 x11 x34 => rec (x1, x2, x10, x11, x34, ())) x.1 x.2.1 x.2.2.1 x.2.2.2.1 x.2.2.2.2.1) (x1, x2, x10, x11, x34, ())
noncomputable def impl_DrawOfRank_f (k : Nat) (p0 : (List Int)) (p1 : Int) (p2 : Int) : Option (((List Int) × Bool × Unit) × Unit) :=
  (Option.bind (impl_CountDraws_f k p0 p1) (fun y17 => (met (cond (!y17.1.2.1) (some (.inl (true, ()))) (Option.bind (impl_within_f k p2 0 (iw (y17.1.1 - 1))) (fun y26 => (some (.inl ((!y26.1.1), ())))))) (fun j1 => (cond j1.1 (some (([], false, ()), ())) (Option.bind (impl_draws_f k p0) (fun y30 => (met (impl_DrawOfRank_l2 k p0 p1 p2 y30.1.1 [] 0) (fun j6 => (some ((j6.1, true, ()), ())))))))))))
noncomputable def impl_DrawOfRank_a : Ann := (.q .o (.q .o (.q (.q (.r [(28, 101792, .v .bool)]) .o) (.q .o (.q (.q .o (.m [(11, 100704, .own false 3 (.int .i64))] (.l [(1, 100064, .v (.int .i64)), (2, 100128, .v (.int .i64)), (10, 100640, .deep 48 (.slc 24 (.slc 3 (.int .i64)))), (11, 100704, .own false 3 (.int .i64)), (34, 102176, .v (.int .i64))] (.q .o (.q .o (.q (.m [(1, 100064, .v (.int .i64)), (2, 100128, .v (.int .i64)), (10, 100640, .deep 48 (.slc 24 (.slc 3 (.int .i64)))), (11, 100704, .own false 3 (.int .i64))] (.q .o (.q .o (.q (.m [(2, 100128, .v (.int .i64)), (10, 100640, .deep 48 (.slc 24 (.slc 3 (.int .i64)))), (11, 100704, .own false 3 (.int .i64)), (13, 100832, .v (.int .i64))] (.l [(2, 100128, .v (.int .i64)), (10, 100640, .deep 48 (.slc 24 (.slc 3 (.int .i64)))), (11, 100704, .own false 3 (.int .i64)), (13, 100832, .v (.int .i64))] .o)) .o)))) .o)))))) .o)))))
theorem impl_DrawOfRank_run (k : Nat) (p0 : (List Int)) (p1 : Int) (p2 : Int) : funX Tryz.prog (callT [impl_CountDraws_c k, impl_within_c k, impl_draws_c k, impl_total_c k]) k Tryz.f18 impl_DrawOfRank_a [.v (.slc 3 (.int .i64)), .v (.int .i64), .v (.int .i64)] [.own false 3 (.int .i64), .v .bool] (p0, p1, p2, ()) = impl_DrawOfRank_f k p0 p1 p2 := by kernel_rfl
noncomputable def impl_DrawOfRank_c (k : Nat) : Con := ⟨18, [.v (.slc 3 (.int .i64)), .v (.int .i64), .v (.int .i64)], [.own false 3 (.int .i64), .v .bool], fun x => impl_DrawOfRank_f k x.1 x.2.1 x.2.2.1⟩
theorem impl_DrawOfRank_ok (k : Nat) : (impl_DrawOfRank_c k).Sound Tryz.prog GL := con_ok (k := k) (fn := Tryz.f18) (A := impl_DrawOfRank_a) (C := callT [impl_CountDraws_c k, impl_within_c k, impl_draws_c k, impl_total_c k]) Tryz.func18 (by kernel_rfl) (show Tryz.f18.body = some (bodyX Tryz.f18) by rfl) (fun X hX => callT_at (TableOk.cons (impl_CountDraws_ok k) (TableOk.cons (impl_within_ok k) (TableOk.cons (impl_draws_ok k) (TableOk.cons (impl_total_ok k) TableOk.nil)))) X hX) (Nat.le_of_ble_eq_true (by kernel_rfl)) (fun ⟨p0, p1, p2, _⟩ y h => by rw [← h]; exact impl_DrawOfRank_run k p0 p1 p2)
noncomputable def spec_DrawCountPairDraws_f (k : Nat) (p0 : (List Int)) : Option (((List Int) × Int × Int × Unit) × Unit) :=
  (Option.bind (spec_l1Cur_socks_f k (p0, 0, 0, ())) (fun y12 => (Option.bind (spec_l1Cur_among_f k (y12.2.1.1, y12.2.1.2.1, y12.2.1.2.2.1, ()) [0, 1, 2, 3, 4, 5, 8, 80, (-1), 4611686018427387904]) (fun y15 => (Option.bind (spec_l1Cur_among_f k (y15.2.1.1, y15.2.1.2.1, y15.2.1.2.2.1, ()) [0, 1, 2, 3, (-1), 4611686018427387904]) (fun y20 => (some ((y12.1.1, y15.1.1, y20.1.1, ()), ()))))))))
noncomputable def spec_DrawCountPairDraws_a : Ann := .o
theorem spec_DrawCountPairDraws_run (k : Nat) (p0 : (List Int)) : funX Tryz.prog (callT [spec_l1Cur_socks_c k, spec_l1Cur_among_c k]) k Tryz.f20 spec_DrawCountPairDraws_a [.v (.slc 5 (.int .u8))] [.own false 3 (.int .i64), .v (.int .i64), .v (.int .i64)] (p0, ()) = spec_DrawCountPairDraws_f k p0 := by kernel_rfl
noncomputable def spec_DrawCountPairDraws_c (k : Nat) : Con := ⟨20, [.v (.slc 5 (.int .u8))], [.own false 3 (.int .i64), .v (.int .i64), .v (.int .i64)], fun x => spec_DrawCountPairDraws_f k x.1⟩
theorem spec_DrawCountPairDraws_ok (k : Nat) : (spec_DrawCountPairDraws_c k).Sound Tryz.prog GL := con_ok (k := k) (fn := Tryz.f20) (A := spec_DrawCountPairDraws_a) (C := callT [spec_l1Cur_socks_c k, spec_l1Cur_among_c k]) Tryz.func20 (by kernel_rfl) (show Tryz.f20.body = some (bodyX Tryz.f20) by rfl) (fun X hX => callT_at (TableOk.cons (spec_l1Cur_socks_ok k) (TableOk.cons (spec_l1Cur_among_ok k) TableOk.nil)) X hX) (Nat.le_of_ble_eq_true (by kernel_rfl)) (fun ⟨p0, _⟩ y h => by rw [← h]; exact spec_DrawCountPairDraws_run k p0)
noncomputable def impl_CountPairDraws_f (k : Nat) (p0 : (List Int)) (p1 : Int) (p2 : Int) : Option ((Int × Bool × Unit) × Unit) :=
  (Option.bind (impl_CountDraws_f k p0 p1) (fun y13 => (met (cond (!y13.1.2.1) (some (.inl (true, ()))) (some (.inl ((decide (p2 < 0)), ())))) (fun j1 => (cond j1.1 (some ((0, false, ()), ())) (met (Option.bind (impl_total_f k p0) (fun y24 => (cond (decide (p1 > y24.1.1)) (some (.inl (true, ()))) (Option.bind (impl_pairsOf_f k p0) (fun y29 => (some (.inl ((decide (p2 > y29.1.1)), ())))))))) (fun j2 => (cond j2.1 (some ((0, true, ()), ())) (Option.bind (impl_draws_f k p0) (fun y33 => (chk (decide ((0 : Int) < ((List.length y33.1.1 : Nat) : Int))) (ixk p1 (List.length (rdG [] y33.1.1 0)) (ixk p2 (List.length (rdG [] (rdG [] y33.1.1 0) p1)) (some (((rd (rdG [] (rdG [] y33.1.1 0) p1) p2), true, ()), ())))))))))))))))
noncomputable def impl_CountPairDraws_a : Ann := (.q .o (.q (.q .o (.q (.r [(21, 101344, .v .bool)]) .o)) (.q (.q (.r [(31, 101984, .v .bool)]) .o) .o)))
theorem impl_CountPairDraws_run (k : Nat) (p0 : (List Int)) (p1 : Int) (p2 : Int) : funX Tryz.prog (callT [impl_CountDraws_c k, impl_total_c k, impl_pairsOf_c k, impl_draws_c k]) k Tryz.f21 impl_CountPairDraws_a [.v (.slc 3 (.int .i64)), .v (.int .i64), .v (.int .i64)] [.v (.int .i64), .v .bool] (p0, p1, p2, ()) = impl_CountPairDraws_f k p0 p1 p2 := by kernel_rfl
noncomputable def impl_CountPairDraws_c (k : Nat) : Con := ⟨21, [.v (.slc 3 (.int .i64)), .v (.int .i64), .v (.int .i64)], [.v (.int .i64), .v .bool], fun x => impl_CountPairDraws_f k x.1 x.2.1 x.2.2.1⟩
theorem impl_CountPairDraws_ok (k : Nat) : (impl_CountPairDraws_c k).Sound Tryz.prog GL := con_ok (k := k) (fn := Tryz.f21) (A := impl_CountPairDraws_a) (C := callT [impl_CountDraws_c k, impl_total_c k, impl_pairsOf_c k, impl_draws_c k]) Tryz.func21 (by kernel_rfl) (show Tryz.f21.body = some (bodyX Tryz.f21) by rfl) (fun X hX => callT_at (TableOk.cons (impl_CountDraws_ok k) (TableOk.cons (impl_total_ok k) (TableOk.cons (impl_pairsOf_ok k) (TableOk.cons (impl_draws_ok k) TableOk.nil)))) X hX) (Nat.le_of_ble_eq_true (by kernel_rfl)) (fun ⟨p0, p1, p2, _⟩ y h => by rw [← h]; exact impl_CountPairDraws_run k p0 p1 p2)
noncomputable def spec_CountDraws_f (k : Nat) (p0 : (List Int)) (p1 : Int) : Option ((Int × Bool × Unit) × Unit) :=
  (met (Option.bind (spec_soGood_f k p0) (fun y8 => (cond (!y8.1.1) (some (.inl (true, ()))) (some (.inl ((decide (p1 < 0)), ())))))) (fun j1 => (cond j1.1 (some ((0, false, ()), ())) (Option.bind (spec_soDraws_f k p0 p1) (fun y16 => (cond (decide (y16.1.1 > 1000000000000)) (some ((0, false, ()), ())) (some ((y16.1.1, true, ()), ()))))))))
noncomputable def spec_CountDraws_a : Ann := (.q .o (.q (.q (.r [(13, 100832, .v .bool)]) .o) .o))
theorem spec_CountDraws_run (k : Nat) (p0 : (List Int)) (p1 : Int) : funX Tryz.prog (callT [spec_soGood_c k, spec_soDraws_c k]) k Tryz.f23 spec_CountDraws_a [.v (.slc 3 (.int .i64)), .v (.int .i64)] [.v (.int .i64), .v .bool] (p0, p1, ()) = spec_CountDraws_f k p0 p1 := by kernel_rfl
noncomputable def spec_CountDraws_c (k : Nat) : Con := ⟨23, [.v (.slc 3 (.int .i64)), .v (.int .i64)], [.v (.int .i64), .v .bool], fun x => spec_CountDraws_f k x.1 x.2.1⟩
theorem spec_CountDraws_ok (k : Nat) : (spec_CountDraws_c k).Sound Tryz.prog GL := con_ok (k := k) (fn := Tryz.f23) (A := spec_CountDraws_a) (C := callT [spec_soGood_c k, spec_soDraws_c k]) Tryz.func23 (by kernel_rfl) (show Tryz.f23.body = some (bodyX Tryz.f23) by rfl) (fun X hX => callT_at (TableOk.cons (spec_soGood_ok k) (TableOk.cons (spec_soDraws_ok k) TableOk.nil)) X hX) (Nat.le_of_ble_eq_true (by kernel_rfl)) (fun ⟨p0, p1, _⟩ y h => by rw [← h]; exact spec_CountDraws_run k p0 p1)
noncomputable def spec_CountPairDraws_f (k : Nat) (p0 : (List Int)) (p1 : Int) (p2 : Int) : Option ((Int × Bool × Unit) × Unit) :=
  (Option.bind (spec_CountDraws_f k p0 p1) (fun y13 => (met (cond (!y13.1.2.1) (some (.inl (true, ()))) (some (.inl ((decide (p2 < 0)), ())))) (fun j1 => (cond j1.1 (some ((0, false, ()), ())) (met (Option.bind (spec_soSum_f k p0) (fun y24 => (cond (decide (p1 > y24.1.1)) (some (.inl (true, ()))) (Option.bind (spec_soPairs_f k p0) (fun y29 => (some (.inl ((decide (p2 > y29.1.1)), ())))))))) (fun j2 => (cond j2.1 (some ((0, true, ()), ())) (Option.bind (spec_soCounts_f k p0 p1 p2) (fun y35 => (some ((y35.1.1, true, ()), ()))))))))))))
noncomputable def spec_CountPairDraws_a : Ann := (.q .o (.q (.q .o (.q (.r [(21, 101344, .v .bool)]) .o)) (.q (.q (.r [(31, 101984, .v .bool)]) .o) .o)))
theorem spec_CountPairDraws_run (k : Nat) (p0 : (List Int)) (p1 : Int) (p2 : Int) : funX Tryz.prog (callT [spec_CountDraws_c k, spec_soSum_c k, spec_soPairs_c k, spec_soCounts_c k]) k Tryz.f22 spec_CountPairDraws_a [.v (.slc 3 (.int .i64)), .v (.int .i64), .v (.int .i64)] [.v (.int .i64), .v .bool] (p0, p1, p2, ()) = spec_CountPairDraws_f k p0 p1 p2 := by kernel_rfl
noncomputable def spec_CountPairDraws_c (k : Nat) : Con := ⟨22, [.v (.slc 3 (.int .i64)), .v (.int .i64), .v (.int .i64)], [.v (.int .i64), .v .bool], fun x => spec_CountPairDraws_f k x.1 x.2.1 x.2.2.1⟩
theorem spec_CountPairDraws_ok (k : Nat) : (spec_CountPairDraws_c k).Sound Tryz.prog GL := con_ok (k := k) (fn := Tryz.f22) (A := spec_CountPairDraws_a) (C := callT [spec_CountDraws_c k, spec_soSum_c k, spec_soPairs_c k, spec_soCounts_c k]) Tryz.func22 (by kernel_rfl) (show Tryz.f22.body = some (bodyX Tryz.f22) by rfl) (fun X hX => callT_at (TableOk.cons (spec_CountDraws_ok k) (TableOk.cons (spec_soSum_ok k) (TableOk.cons (spec_soPairs_ok k) (TableOk.cons (spec_soCounts_ok k) TableOk.nil)))) X hX) (Nat.le_of_ble_eq_true (by kernel_rfl)) (fun ⟨p0, p1, p2, _⟩ y h => by rw [← h]; exact spec_CountPairDraws_run k p0 p1 p2)
noncomputable def spec_DrawDrawOfRank_f (k : Nat) (p0 : (List Int)) : Option (((List Int) × Int × Int × Unit) × Unit) :=
  (Option.bind (spec_l1Cur_socks_f k (p0, 0, 0, ())) (fun y12 => (Option.bind (spec_l1Cur_among_f k (y12.2.1.1, y12.2.1.2.1, y12.2.1.2.2.1, ()) [0, 1, 2, 3, 4, 5, 8, (-1), 4611686018427387904]) (fun y15 => (Option.bind (spec_l1Cur_among_f k (y15.2.1.1, y15.2.1.2.1, y15.2.1.2.2.1, ()) [0, 1, 2, 3, 5, 9, (-1), 4611686018427387904]) (fun y20 => (some ((y12.1.1, y15.1.1, y20.1.1, ()), ()))))))))
noncomputable def spec_DrawDrawOfRank_a : Ann := .o
theorem spec_DrawDrawOfRank_run (k : Nat) (p0 : (List Int)) : funX Tryz.prog (callT [spec_l1Cur_socks_c k, spec_l1Cur_among_c k]) k Tryz.f24 spec_DrawDrawOfRank_a [.v (.slc 5 (.int .u8))] [.own false 3 (.int .i64), .v (.int .i64), .v (.int .i64)] (p0, ()) = spec_DrawDrawOfRank_f k p0 := by kernel_rfl
noncomputable def spec_DrawDrawOfRank_c (k : Nat) : Con := ⟨24, [.v (.slc 5 (.int .u8))], [.own false 3 (.int .i64), .v (.int .i64), .v (.int .i64)], fun x => spec_DrawDrawOfRank_f k x.1⟩
theorem spec_DrawDrawOfRank_ok (k : Nat) : (spec_DrawDrawOfRank_c k).Sound Tryz.prog GL := con_ok (k := k) (fn := Tryz.f24) (A := spec_DrawDrawOfRank_a) (C := callT [spec_l1Cur_socks_c k, spec_l1Cur_among_c k]) Tryz.func24 (by kernel_rfl) (show Tryz.f24.body = some (bodyX Tryz.f24) by rfl) (fun X hX => callT_at (TableOk.cons (spec_l1Cur_socks_ok k) (TableOk.cons (spec_l1Cur_among_ok k) TableOk.nil)) X hX) (Nat.le_of_ble_eq_true (by kernel_rfl)) (fun ⟨p0, _⟩ y h => by rw [← h]; exact spec_DrawDrawOfRank_run k p0)
noncomputable def spec_DrawOfRank_l3_b (k : Nat) (p0 : (List Int)) (x36 : Int) (rec : Int → (List Int) → Int → Int → Option ((Int × (List Int) × Int × Unit) ⊕ ((Int × (List Int) × Int × Unit) ⊕ (((List Int) × Unit) ⊕ (((List Int) × Bool × Unit) × Unit))))) (x2_1 : Int) (x10_1 : (List Int)) (x11_1 : Int) (x14 : Int) : Option ((Int × (List Int) × Int × Unit) ⊕ ((Int × (List Int) × Int × Unit) ⊕ (((List Int) × Unit) ⊕ (((List Int) × Bool × Unit) × Unit)))) :=
  (met (cond (decide (x14 ≤ (rd p0 x36))) (some (.inl (x10_1, (decide (x14 ≤ x11_1)), ()))) (some (.inl (x10_1, false, ())))) (fun j4 => (cond j4.2.1 (chk (decide (0 ≤ (iw (x36 + 1)))) (chk (decide ((iw (x36 + 1)) ≤ ((List.length p0 : Nat) : Int))) (Option.bind (spec_soDraws_f k (List.drop (Int.toNat (iw (x36 + 1))) p0) (iw (x11_1 - x14))) (fun y58 => (cond (decide (x2_1 < y58.1.1)) (chk (decide (List.length j4.1 + List.length [x14] ≤ 15637498706147)) (some (.inl (x2_1, (j4.1 ++ [x14]), (iw (x11_1 - x14)), ())))) (rec (iw (x2_1 - y58.1.1)) j4.1 x11_1 (iw (x14 + 1)))))))) (some (.inl (x2_1, j4.1, x11_1, ()))))))
noncomputable def spec_DrawOfRank_l3 (k : Nat) (p0 : (List Int)) (x36 : Int) (x2_1 : Int) (x10_1 : (List Int)) (x11_1 : Int) (x14 : Int) : Option ((Int × (List Int) × Int × Unit) ⊕ ((Int × (List Int) × Int × Unit) ⊕ (((List Int) × Unit) ⊕ (((List Int) × Bool × Unit) × Unit)))) := iter k (fun (rec : (Int × (List Int) × Int × Int × Unit) → Option ((Int × (List Int) × Int × Unit) ⊕ ((Int × (List Int) × Int × Unit) ⊕ (((List Int) × Unit) ⊕ (((List Int) × Bool × Unit) × Unit))))) (x : (Int × (List Int) × Int × Int × Unit)) => spec_DrawOfRank_l3_b k p0 x36 (fun x2_1 x10_1 x11_1 x14 => rec (x2_1, x10_1, x11_1, x14, ())) x.1 x.2.1 x.2.2.1 x.2.2.2.1) (x2_1, x10_1, x11_1, x14, ())
noncomputable def spec_DrawOfRank_l2_b (k : Nat) (p0 : (List Int)) (rec : Int → (List Int) → Int → Int → Option (((List Int) × Unit) ⊕ (((List Int) × Bool × Unit) × Unit))) (x2 : Int) (x10 : (List Int)) (x11 : Int) (x36 : Int) : Option (((List Int) × Unit) ⊕ (((List Int) × Bool × Unit) × Unit)) :=
  (cond (decide (x36 < ((List.length p0 : Nat) : Int))) (met (ixk x36 (List.length p0) (met (spec_DrawOfRank_l3 k p0 x36 x2 x10 x11 0) (fun j5 => (some (.inl (j5.1, j5.2.1, j5.2.2.1, ())))))) (fun j6 => (rec j6.1 j6.2.1 j6.2.2.1 (iw (x36 + 1))))) (some (.inl (x10, ()))))
noncomputable def spec_DrawOfRank_l2 (k : Nat) (p0 : (List Int)) (x2 : Int) (x10 : (List Int)) (x11 : Int) (x36 : Int) : Option (((List Int) × Unit) ⊕ (((List Int) × Bool × Unit) × Unit)) := iter k (fun (rec : (Int × (List Int) × Int × Int × Unit) → Option (((List Int) × Unit) ⊕ (((List Int) × Bool × Unit) × Unit))) (x : (Int × (List Int) × Int × Int × Unit)) => spec_DrawOfRank_l2_b k p0 (fun x2 x10 x11 x36 => rec (x2, x10, x11, x36, ())) x.1 x.2.1 x.2.2.1 x.2.2.2.1) (x2, x10, x11, x36, ())
noncomputable def spec_DrawOfRank_f (k : Nat) (p0 : (List Int)) (p1 : Int) (p2 : Int) : Option (((List Int) × Bool × Unit) × Unit) :=
  (Option.bind (spec_CountDraws_f k p0 p1) (fun y19 => (met (cond (!y19.1.2.1) (some (.inl (true, ()))) (cond (decide (p2 < 0)) (some (.inl (true, ()))) (some (.inl ((decide (p2 ≥ y19.1.1)), ()))))) (fun j1 => (cond j1.1 (some (([], false, ()), ())) (met (spec_DrawOfRank_l2 k p0 p2 [] p1 0) (fun j7 => (some ((j7.1, true, ()), ())))))))))
noncomputable def spec_DrawOfRank_a : Ann := (.q .o (.q .o (.q (.q (.r [(32, 102048, .v .bool)]) .o) (.q .o (.q .o (.q (.q .o (.m [(10, 100640, .own false 3 (.int .i64))] (.l [(2, 100128, .v (.int .i64)), (10, 100640, .own false 3 (.int .i64)), (11, 100704, .v (.int .i64)), (36, 102304, .v (.int .i64))] (.q .o (.q .o (.q (.m [(2, 100128, .v (.int .i64)), (10, 100640, .own false 3 (.int .i64)), (11, 100704, .v (.int .i64))] (.q .o (.q .o (.m [(2, 100128, .v (.int .i64)), (10, 100640, .own false 3 (.int .i64)), (11, 100704, .v (.int .i64))] (.l [(2, 100128, .v (.int .i64)), (10, 100640, .own false 3 (.int .i64)), (11, 100704, .v (.int .i64)), (14, 100896, .v (.int .i64))] (.q (.q (.r [(10, 100640, .own false 3 (.int .i64)), (48, 103072, .v .bool)]) .o) .o)))))) .o)))))) .o))))))
theorem spec_DrawOfRank_run (k : Nat) (p0 : (List Int)) (p1 : Int) (p2 : Int) : funX Tryz.prog (callT [spec_CountDraws_c k, spec_soDraws_c k]) k Tryz.f25 spec_DrawOfRank_a [.v (.slc 3 (.int .i64)), .v (.int .i64), .v (.int .i64)] [.own false 3 (.int .i64), .v .bool] (p0, p1, p2, ()) = spec_DrawOfRank_f k p0 p1 p2 := by kernel_rfl
noncomputable def spec_DrawOfRank_c (k : Nat) : Con := ⟨25, [.v (.slc 3 (.int .i64)), .v (.int .i64), .v (.int .i64)], [.own false 3 (.int .i64), .v .bool], fun x => spec_DrawOfRank_f k x.1 x.2.1 x.2.2.1⟩
theorem spec_DrawOfRank_ok (k : Nat) : (spec_DrawOfRank_c k).Sound Tryz.prog GL := con_ok (k := k) (fn := Tryz.f25) (A := spec_DrawOfRank_a) (C := callT [spec_CountDraws_c k, spec_soDraws_c k]) Tryz.func25 (by kernel_rfl) (show Tryz.f25.body = some (bodyX Tryz.f25) by rfl) (fun X hX => callT_at (TableOk.cons (spec_CountDraws_ok k) (TableOk.cons (spec_soDraws_ok k) TableOk.nil)) X hX) (Nat.le_of_ble_eq_true (by kernel_rfl)) (fun ⟨p0, p1, p2, _⟩ y h => by rw [← h]; exact spec_DrawOfRank_run k p0 p1 p2)
noncomputable def spec_DrawAddSocks_l1_b (k : Nat) (y11 : (((List Int) × Unit) × (((List Int) × Int × Int × Unit) × Unit))) (rec : ((List Int) × Int × Int × Unit) → (List Int) → (List Int) → Int → Option (((List Int) × (List Int) × Unit) ⊕ (((List Int) × (List Int) × Unit) × Unit))) (x4 : ((List Int) × Int × Int × Unit)) (x5 : (List Int)) (x6 : (List Int)) (x19 : Int) : Option (((List Int) × (List Int) × Unit) ⊕ (((List Int) × (List Int) × Unit) × Unit)) :=
  (cond (decide (x19 < ((List.length y11.1.1 : Nat) : Int))) (Option.bind (spec_l1Cur_pick_f k (x4.1, x4.2.1, x4.2.2.1, ()) 5) (fun y23 => (chk (decide (List.length x6 + List.length [y23.1.1] ≤ 15637498706147)) (rec (y23.2.1.1, y23.2.1.2.1, y23.2.1.2.2.1, ()) x5 (x6 ++ [y23.1.1]) (iw (x19 + 1)))))) (some (.inl (x5, x6, ()))))
noncomputable def spec_DrawAddSocks_l1 (k : Nat) (y11 : (((List Int) × Unit) × (((List Int) × Int × Int × Unit) × Unit))) (x4 : ((List Int) × Int × Int × Unit)) (x5 : (List Int)) (x6 : (List Int)) (x19 : Int) : Option (((List Int) × (List Int) × Unit) ⊕ (((List Int) × (List Int) × Unit) × Unit)) := iter k (fun (rec : (((List Int) × Int × Int × Unit) × (List Int) × (List Int) × Int × Unit) → Option (((List Int) × (List Int) × Unit) ⊕ (((List Int) × (List Int) × Unit) × Unit))) (x : (((List Int) × Int × Int × Unit) × (List Int) × (List Int) × Int × Unit)) => spec_DrawAddSocks_l1_b k y11 (fun x4 x5 x6 x19 => rec (x4, x5, x6, x19, ())) x.1 x.2.1 x.2.2.1 x.2.2.2.1) (x4, x5, x6, x19, ())
noncomputable def spec_DrawAddSocks_f (k : Nat) (p0 : (List Int)) : Option (((List Int) × (List Int) × Unit) × Unit) :=
  (Option.bind (spec_l1Cur_socks_f k (p0, 0, 0, ())) (fun y11 => (Option.bind (spec_l1Cur_one_f k (y11.2.1.1, y11.2.1.2.1, y11.2.1.2.2.1, ()) 6) (fun y13 => (cond y13.1.1 (Option.bind (spec_l1Cur_socks_f k (y13.2.1.1, y13.2.1.2.1, y13.2.1.2.2.1, ())) (fun y16 => (some ((y11.1.1, y16.1.1, ()), ())))) (met (spec_DrawAddSocks_l1 k y11 (y13.2.1.1, y13.2.1.2.1, y13.2.1.2.2.1, ()) y11.1.1 [] 0) (fun j2 => (some ((j2.1, j2.2.1, ()), ())))))))))
noncomputable def spec_DrawAddSocks_a : Ann := (.q .o (.q .o (.q .o (.q .o (.q .o (.q (.q .o (.m [(5, 100320, .own false 3 (.int .i64)), (6, 100384, .own false 3 (.int .i64))] (.l [(4, 100256, .box false [.v (.slc 5 (.int .u8)), .v (.int .i64), .v (.int .u64)]), (5, 100320, .own false 3 (.int .i64)), (6, 100384, .own false 3 (.int .i64)), (19, 101216, .v (.int .i64))] .o))) .o))))))
theorem spec_DrawAddSocks_run (k : Nat) (p0 : (List Int)) : funX Tryz.prog (callT [spec_l1Cur_socks_c k, spec_l1Cur_one_c k, spec_l1Cur_pick_c k]) k Tryz.f26 spec_DrawAddSocks_a [.v (.slc 5 (.int .u8))] [.own false 3 (.int .i64), .own false 3 (.int .i64)] (p0, ()) = spec_DrawAddSocks_f k p0 := by kernel_rfl
noncomputable def spec_DrawAddSocks_c (k : Nat) : Con := ⟨26, [.v (.slc 5 (.int .u8))], [.own false 3 (.int .i64), .own false 3 (.int .i64)], fun x => spec_DrawAddSocks_f k x.1⟩
theorem spec_DrawAddSocks_ok (k : Nat) : (spec_DrawAddSocks_c k).Sound Tryz.prog GL := con_ok (k := k) (fn := Tryz.f26) (A := spec_DrawAddSocks_a) (C := callT [spec_l1Cur_socks_c k, spec_l1Cur_one_c k, spec_l1Cur_pick_c k]) Tryz.func26 (by kernel_rfl) (show Tryz.f26.body = some (bodyX Tryz.f26) by rfl) (fun X hX => callT_at (TableOk.cons (spec_l1Cur_socks_ok k) (TableOk.cons (spec_l1Cur_one_ok k) (TableOk.cons (spec_l1Cur_pick_ok k) TableOk.nil))) X hX) (Nat.le_of_ble_eq_true (by kernel_rfl)) (fun ⟨p0, _⟩ y h => by rw [← h]; exact spec_DrawAddSocks_run k p0)
noncomputable def spec_AddSocks_l2_b (k : Nat) (p0 : (List Int)) (p1 : (List Int)) (rec : (List Int) → Int → Option (((List Int) × Unit) ⊕ (((List Int) × Bool × Unit) × Unit))) (x6 : (List Int)) (x26 : Int) : Option (((List Int) × Unit) ⊕ (((List Int) × Bool × Unit) × Unit)) :=
  (cond (decide (x26 < ((List.length p0 : Nat) : Int))) (ixk x26 (List.length p0) (ixk x26 (List.length p1) (chk (decide (List.length x6 + List.length [(iw ((rd p0 x26) + (rd p1 x26)))] ≤ 15637498706147)) (rec (x6 ++ [(iw ((rd p0 x26) + (rd p1 x26)))]) (iw (x26 + 1)))))) (some (.inl (x6, ()))))
noncomputable def spec_AddSocks_l2 (k : Nat) (p0 : (List Int)) (p1 : (List Int)) (x6 : (List Int)) (x26 : Int) : Option (((List Int) × Unit) ⊕ (((List Int) × Bool × Unit) × Unit)) := iter k (fun (rec : ((List Int) × Int × Unit) → Option (((List Int) × Unit) ⊕ (((List Int) × Bool × Unit) × Unit))) (x : ((List Int) × Int × Unit)) => spec_AddSocks_l2_b k p0 p1 (fun x6 x26 => rec (x6, x26, ())) x.1 x.2.1) (x6, x26, ())
noncomputable def spec_AddSocks_f (k : Nat) (p0 : (List Int)) (p1 : (List Int)) : Option (((List Int) × Bool × Unit) × Unit) :=
  (met (Option.bind (spec_soGood_f k p0) (fun y10 => (cond (!y10.1.1) (some (.inl (true, ()))) (Option.bind (spec_soGood_f k p1) (fun y14 => (cond (!y14.1.1) (some (.inl (true, ()))) (some (.inl ((((List.length p0 : Nat) : Int) != ((List.length p1 : Nat) : Int)), ()))))))))) (fun j1 => (cond j1.1 (some (([], false, ()), ())) (met (spec_AddSocks_l2 k p0 p1 [] 0) (fun j3 => (Option.bind (spec_soGood_f k j3.1) (fun y42 => (cond (!y42.1.1) (some (([], false, ()), ())) (some ((j3.1, true, ()), ()))))))))))
noncomputable def spec_AddSocks_a : Ann := (.q .o (.q (.q (.r [(23, 101472, .v .bool)]) .o) (.q .o (.q (.q .o (.m [(6, 100384, .own false 3 (.int .i64))] (.l [(6, 100384, .own false 3 (.int .i64)), (26, 101664, .v (.int .i64))] .o))) .o))))
theorem spec_AddSocks_run (k : Nat) (p0 : (List Int)) (p1 : (List Int)) : funX Tryz.prog (callT [spec_soGood_c k]) k Tryz.f27 spec_AddSocks_a [.v (.slc 3 (.int .i64)), .v (.slc 3 (.int .i64))] [.own false 3 (.int .i64), .v .bool] (p0, p1, ()) = spec_AddSocks_f k p0 p1 := by kernel_rfl
noncomputable def spec_AddSocks_c (k : Nat) : Con := ⟨27, [.v (.slc 3 (.int .i64)), .v (.slc 3 (.int .i64))], [.own false 3 (.int .i64), .v .bool], fun x => spec_AddSocks_f k x.1 x.2.1⟩
theorem spec_AddSocks_ok (k : Nat) : (spec_AddSocks_c k).Sound Tryz.prog GL := con_ok (k := k) (fn := Tryz.f27) (A := spec_AddSocks_a) (C := callT [spec_soGood_c k]) Tryz.func27 (by kernel_rfl) (show Tryz.f27.body = some (bodyX Tryz.f27) by rfl) (fun X hX => callT_at (TableOk.cons (spec_soGood_ok k) TableOk.nil) X hX) (Nat.le_of_ble_eq_true (by kernel_rfl)) (fun ⟨p0, p1, _⟩ y h => by rw [← h]; exact spec_AddSocks_run k p0 p1)
noncomputable def spec_DrawAreSocks_f (k : Nat) (p0 : (List Int)) : Option (((List Int) × Unit) × Unit) :=
  (Option.bind (spec_l1Cur_socks_f k (p0, 0, 0, ())) (fun y8 => (some ((y8.1.1, ()), ()))))
noncomputable def spec_DrawAreSocks_a : Ann := .o
theorem spec_DrawAreSocks_run (k : Nat) (p0 : (List Int)) : funX Tryz.prog (callT [spec_l1Cur_socks_c k]) k Tryz.f54 spec_DrawAreSocks_a [.v (.slc 5 (.int .u8))] [.own false 3 (.int .i64)] (p0, ()) = spec_DrawAreSocks_f k p0 := by kernel_rfl
noncomputable def spec_DrawAreSocks_c (k : Nat) : Con := ⟨54, [.v (.slc 5 (.int .u8))], [.own false 3 (.int .i64)], fun x => spec_DrawAreSocks_f k x.1⟩
theorem spec_DrawAreSocks_ok (k : Nat) : (spec_DrawAreSocks_c k).Sound Tryz.prog GL := con_ok (k := k) (fn := Tryz.f54) (A := spec_DrawAreSocks_a) (C := callT [spec_l1Cur_socks_c k]) Tryz.func54 (by kernel_rfl) (show Tryz.f54.body = some (bodyX Tryz.f54) by rfl) (fun X hX => callT_at (TableOk.cons (spec_l1Cur_socks_ok k) TableOk.nil) X hX) (Nat.le_of_ble_eq_true (by kernel_rfl)) (fun ⟨p0, _⟩ y h => by rw [← h]; exact spec_DrawAreSocks_run k p0)
noncomputable def spec_DrawSocksText_f (k : Nat) (p0 : (List Int)) : Option (((List Int) × Unit) × Unit) :=
  (Option.bind (spec_DrawAreSocks_f k p0) (fun y4 => (some ((y4.1.1, ()), ()))))
noncomputable def spec_DrawSocksText_a : Ann := .o
theorem spec_DrawSocksText_run (k : Nat) (p0 : (List Int)) : funX Tryz.prog (callT [spec_DrawAreSocks_c k]) k Tryz.f28 spec_DrawSocksText_a [.v (.slc 5 (.int .u8))] [.own false 3 (.int .i64)] (p0, ()) = spec_DrawSocksText_f k p0 := by kernel_rfl
noncomputable def spec_DrawSocksText_c (k : Nat) : Con := ⟨28, [.v (.slc 5 (.int .u8))], [.own false 3 (.int .i64)], fun x => spec_DrawSocksText_f k x.1⟩
theorem spec_DrawSocksText_ok (k : Nat) : (spec_DrawSocksText_c k).Sound Tryz.prog GL := con_ok (k := k) (fn := Tryz.f28) (A := spec_DrawSocksText_a) (C := callT [spec_DrawAreSocks_c k]) Tryz.func28 (by kernel_rfl) (show Tryz.f28.body = some (bodyX Tryz.f28) by rfl) (fun X hX => callT_at (TableOk.cons (spec_DrawAreSocks_ok k) TableOk.nil) X hX) (Nat.le_of_ble_eq_true (by kernel_rfl)) (fun ⟨p0, _⟩ y h => by rw [← h]; exact spec_DrawSocksText_run k p0)
noncomputable def strconv_Itoa_f (k : Nat) (p0 : Int) : Option ((ByteArray × Unit) × Unit) := (itoaL p0).map fun y => (y, ())
noncomputable def strconv_Itoa_c (k : Nat) : Con := ⟨71, [.v (.int .i64)], [.v .str], fun x => (itoaL x.1).map fun y => (y, ())⟩
theorem strconv_Itoa_ok (k : Nat) : (strconv_Itoa_c k).Sound Tryz.prog GL := itoa_leaf ⟨Tryz.f71, Tryz.func71, by kernel_rfl, by rfl⟩ (fun i hi w => lay_strconv_Itoa_small i hi w)
noncomputable def strings_Join_f (k : Nat) (p0 : (List ByteArray)) (p1 : ByteArray) : Option ((ByteArray × Unit) × Unit) := (joinL p0 p1).map fun y => (y, ())
noncomputable def strings_Join_c (k : Nat) : Con := ⟨72, [.v (.slc 9 .str), .v .str], [.v .str], fun x => (joinL x.1 x.2.1).map fun y => (y, ())⟩
theorem strings_Join_ok (k : Nat) : (strings_Join_c k).Sound Tryz.prog GL := join_leaf ⟨Tryz.f72, Tryz.func72, by kernel_rfl, by rfl⟩ (fun bk o c xs sep w h1 h2 h3 h4 h5 => lay_strings_Join bk o c xs sep w h1 h2 h3 h4 h5) (fun a c sep w => lay_strings_Join_none a c sep w)
noncomputable def impl_joined_l1_b (k : Nat) (p0 : (List Int)) (rec : (List ByteArray) → Int → Option (((List ByteArray) × Unit) ⊕ ((ByteArray × Unit) × Unit))) (x5 : (List ByteArray)) (x11 : Int) : Option (((List ByteArray) × Unit) ⊕ ((ByteArray × Unit) × Unit)) :=
  (cond (decide (x11 < ((List.length p0 : Nat) : Int))) (ixk x11 (List.length p0) (Option.bind (strconv_Itoa_f k (rd p0 x11)) (fun y17 => (chk (decide (List.length x5 + List.length [y17.1.1] ≤ 8278675785607)) (rec (x5 ++ [y17.1.1]) (iw (x11 + 1))))))) (some (.inl (x5, ()))))
noncomputable def impl_joined_l1 (k : Nat) (p0 : (List Int)) (x5 : (List ByteArray)) (x11 : Int) : Option (((List ByteArray) × Unit) ⊕ ((ByteArray × Unit) × Unit)) := iter k (fun (rec : ((List ByteArray) × Int × Unit) → Option (((List ByteArray) × Unit) ⊕ ((ByteArray × Unit) × Unit))) (x : ((List ByteArray) × Int × Unit)) => impl_joined_l1_b k p0 (fun x5 x11 => rec (x5, x11, ())) x.1 x.2.1) (x5, x11, ())
noncomputable def impl_joined_f (k : Nat) (p0 : (List Int)) (p1 : ByteArray) : Option ((ByteArray × Unit) × Unit) :=
  (met (impl_joined_l1 k p0 [] 0) (fun j2 => (Option.bind (strings_Join_f k j2.1 p1) (fun y23 => (some ((y23.1.1, ()), ()))))))
noncomputable def impl_joined_a : Ann := (.q .o (.q .o (.q (.q .o (.m [(5, 100320, .v (.slc 9 .str))] (.l [(5, 100320, .own false 9 .str), (11, 100704, .v (.int .i64))] .o))) .o)))
theorem impl_joined_run (k : Nat) (p0 : (List Int)) (p1 : ByteArray) : funX Tryz.prog (callT [strconv_Itoa_c k, strings_Join_c k]) k Tryz.f55 impl_joined_a [.v (.slc 3 (.int .i64)), .v .str] [.v .str] (p0, p1, ()) = impl_joined_f k p0 p1 := by kernel_rfl
noncomputable def impl_joined_c (k : Nat) : Con := ⟨55, [.v (.slc 3 (.int .i64)), .v .str], [.v .str], fun x => impl_joined_f k x.1 x.2.1⟩
theorem impl_joined_ok (k : Nat) : (impl_joined_c k).Sound Tryz.prog GL := con_ok (k := k) (fn := Tryz.f55) (A := impl_joined_a) (C := callT [strconv_Itoa_c k, strings_Join_c k]) Tryz.func55 (by kernel_rfl) (show Tryz.f55.body = some (bodyX Tryz.f55) by rfl) (fun X hX => callT_at (TableOk.cons (strconv_Itoa_ok k) (TableOk.cons (strings_Join_ok k) TableOk.nil)) X hX) (Nat.le_of_ble_eq_true (by kernel_rfl)) (fun ⟨p0, p1, _⟩ y h => by rw [← h]; exact impl_joined_run k p0 p1)
noncomputable def impl_SocksText_f (k : Nat) (p0 : (List Int)) : Option ((ByteArray × Bool × Unit) × Unit) :=
  (Option.bind (impl_AreSocks_f k p0) (fun y5 => (cond (!y5.1.1) (some ((ByteArray.empty, false, ()), ())) (Option.bind (impl_joined_f k p0 (lit [45])) (fun y8 => (some ((y8.1.1, true, ()), ())))))))
noncomputable def impl_SocksText_a : Ann := .o
theorem impl_SocksText_run (k : Nat) (p0 : (List Int)) : funX Tryz.prog (callT [impl_AreSocks_c k, impl_joined_c k]) k Tryz.f29 impl_SocksText_a [.v (.slc 3 (.int .i64))] [.v .str, .v .bool] (p0, ()) = impl_SocksText_f k p0 := by kernel_rfl
noncomputable def impl_SocksText_c (k : Nat) : Con := ⟨29, [.v (.slc 3 (.int .i64))], [.v .str, .v .bool], fun x => impl_SocksText_f k x.1⟩
theorem impl_SocksText_ok (k : Nat) : (impl_SocksText_c k).Sound Tryz.prog GL := con_ok (k := k) (fn := Tryz.f29) (A := impl_SocksText_a) (C := callT [impl_AreSocks_c k, impl_joined_c k]) Tryz.func29 (by kernel_rfl) (show Tryz.f29.body = some (bodyX Tryz.f29) by rfl) (fun X hX => callT_at (TableOk.cons (impl_AreSocks_ok k) (TableOk.cons (impl_joined_ok k) TableOk.nil)) X hX) (Nat.le_of_ble_eq_true (by kernel_rfl)) (fun ⟨p0, _⟩ y h => by rw [← h]; exact impl_SocksText_run k p0)
noncomputable def spec_l1Num_s (k : Nat) (me : Int → Option ((ByteArray × Unit) × Unit)) (p0 : Int) : Option ((ByteArray × Unit) × Unit) :=
  (cond (decide (p0 < 10)) (some (((strOfNums [(IntKind.wrap .u8 ((iw (48 + p0))))]), ()), ())) (met (andX (Option.bind (me (iw (Int.tdiv p0 10))) (fun y12 => (chk (decide (y12.1.1.size + (strOfNums [(IntKind.wrap .u8 ((iw (48 + (Int.tmod p0 10)))))]).size ≤ 9223372036854775807)) (some (.inl ((y12.1.1 ++ (strOfNums [(IntKind.wrap .u8 ((iw (48 + (Int.tmod p0 10)))))])), ())))))) ((fun q => andX q q) (Option.bind (me (iw (Int.tdiv p0 10))) (fun y12_1 => (chk (decide (y12_1.1.1.size + (strOfNums [(IntKind.wrap .u8 ((iw (48 + (Int.tmod p0 10)))))]).size ≤ 9223372036854775807)) (some (.inl ((y12_1.1.1 ++ (strOfNums [(IntKind.wrap .u8 ((iw (48 + (Int.tmod p0 10)))))])), ())))))))) (fun j1 => (some ((j1.1, ()), ())))))
noncomputable def spec_l1Num_r (k : Nat) : Nat → Int → Option ((ByteArray × Unit) × Unit)
  | 0 => fun _ => none
  | n + 1 => spec_l1Num_s k (spec_l1Num_r k n)
noncomputable def spec_l1Num_f (k : Nat) : Int → Option ((ByteArray × Unit) × Unit) := spec_l1Num_r k k
noncomputable def spec_l1Num_a : Ann := (.q .o (.q .o (.q (.d [] [10] [(2, 100128, .v .str)]) .o)))
noncomputable def spec_l1Num_d (k n : Nat) : Con := ⟨73, [.v (.int .i64)], [.v .str], fun x => spec_l1Num_r k n x.1⟩
theorem spec_l1Num_run (k n : Nat) (p0 : Int) : funX Tryz.prog (callT [spec_l1Num_d k n]) k Tryz.f73 spec_l1Num_a [.v (.int .i64)] [.v .str] (p0, ()) = spec_l1Num_r k (n + 1) p0 := by kernel_rfl
theorem spec_l1Num_rec (k : Nat) : ∀ n : Nat, (spec_l1Num_d k n).Sound Tryz.prog GL
  | 0 => con_none Tryz.func73 (by kernel_rfl) (show Tryz.f73.body = some (bodyX Tryz.f73) by rfl) (fun _ => rfl)
  | n + 1 => con_ok (k := k) (fn := Tryz.f73) (A := spec_l1Num_a) (C := callT [spec_l1Num_d k n]) Tryz.func73 (by kernel_rfl) (show Tryz.f73.body = some (bodyX Tryz.f73) by rfl) (fun X hX => callT_at (TableOk.cons (spec_l1Num_rec k n) TableOk.nil) X hX) (Nat.le_of_ble_eq_true (by kernel_rfl)) (fun ⟨p0, _⟩ y h => by rw [← h]; exact spec_l1Num_run k n p0)
noncomputable def spec_l1Num_c (k : Nat) : Con := ⟨73, [.v (.int .i64)], [.v .str], fun x => spec_l1Num_f k x.1⟩
theorem spec_l1Num_ok (k : Nat) : (spec_l1Num_c k).Sound Tryz.prog GL := spec_l1Num_rec k k
noncomputable def spec_soText_l1_b (k : Nat) (p0 : (List Int)) (rec : ByteArray → Int → Option ((ByteArray × Unit) ⊕ ((ByteArray × Unit) × Unit))) (x3 : ByteArray) (x8 : Int) : Option ((ByteArray × Unit) ⊕ ((ByteArray × Unit) × Unit)) :=
  (cond (decide (x8 < ((List.length p0 : Nat) : Int))) (ixk x8 (List.length p0) (met (cond (decide (x8 > 0)) (chk (decide (x3.size + (lit [45]).size ≤ 9223372036854775807)) (some (.inl ((x3 ++ (lit [45])), ())))) (some (.inl (x3, ())))) (fun j2 => (Option.bind (spec_l1Num_f k (rd p0 x8)) (fun y19 => (chk (decide (j2.1.size + y19.1.1.size ≤ 9223372036854775807)) (rec (j2.1 ++ y19.1.1) (iw (x8 + 1))))))))) (some (.inl (x3, ()))))
noncomputable def spec_soText_l1 (k : Nat) (p0 : (List Int)) (x3 : ByteArray) (x8 : Int) : Option ((ByteArray × Unit) ⊕ ((ByteArray × Unit) × Unit)) := iter k (fun (rec : (ByteArray × Int × Unit) → Option ((ByteArray × Unit) ⊕ ((ByteArray × Unit) × Unit))) (x : (ByteArray × Int × Unit)) => spec_soText_l1_b k p0 (fun x3 x8 => rec (x3, x8, ())) x.1 x.2.1) (x3, x8, ())
noncomputable def spec_soText_f (k : Nat) (p0 : (List Int)) : Option ((ByteArray × Unit) × Unit) :=
  (met (spec_soText_l1 k p0 ByteArray.empty 0) (fun j3 => (some ((j3.1, ()), ()))))
noncomputable def spec_soText_a : Ann := (.q .o (.q .o (.q (.q .o (.m [(3, 100192, .v .str)] (.l [(3, 100192, .v .str), (8, 100512, .v (.int .i64))] (.q .o (.q .o (.q (.b (.q .o (.q (.q .o (.j [(3, 100192, .v .str)] .o .o)) .o))) .o)))))) .o)))
theorem spec_soText_run (k : Nat) (p0 : (List Int)) : funX Tryz.prog (callT [spec_l1Num_c k]) k Tryz.f56 spec_soText_a [.v (.slc 3 (.int .i64))] [.v .str] (p0, ()) = spec_soText_f k p0 := by kernel_rfl
noncomputable def spec_soText_c (k : Nat) : Con := ⟨56, [.v (.slc 3 (.int .i64))], [.v .str], fun x => spec_soText_f k x.1⟩
theorem spec_soText_ok (k : Nat) : (spec_soText_c k).Sound Tryz.prog GL := con_ok (k := k) (fn := Tryz.f56) (A := spec_soText_a) (C := callT [spec_l1Num_c k]) Tryz.func56 (by kernel_rfl) (show Tryz.f56.body = some (bodyX Tryz.f56) by rfl) (fun X hX => callT_at (TableOk.cons (spec_l1Num_ok k) TableOk.nil) X hX) (Nat.le_of_ble_eq_true (by kernel_rfl)) (fun ⟨p0, _⟩ y h => by rw [← h]; exact spec_soText_run k p0)
noncomputable def spec_SocksText_f (k : Nat) (p0 : (List Int)) : Option ((ByteArray × Bool × Unit) × Unit) :=
  (Option.bind (spec_soGood_f k p0) (fun y5 => (cond (!y5.1.1) (some ((ByteArray.empty, false, ()), ())) (Option.bind (spec_soText_f k p0) (fun y8 => (some ((y8.1.1, true, ()), ())))))))
noncomputable def spec_SocksText_a : Ann := .o
theorem spec_SocksText_run (k : Nat) (p0 : (List Int)) : funX Tryz.prog (callT [spec_soGood_c k, spec_soText_c k]) k Tryz.f30 spec_SocksText_a [.v (.slc 3 (.int .i64))] [.v .str, .v .bool] (p0, ()) = spec_SocksText_f k p0 := by kernel_rfl
noncomputable def spec_SocksText_c (k : Nat) : Con := ⟨30, [.v (.slc 3 (.int .i64))], [.v .str, .v .bool], fun x => spec_SocksText_f k x.1⟩
theorem spec_SocksText_ok (k : Nat) : (spec_SocksText_c k).Sound Tryz.prog GL := con_ok (k := k) (fn := Tryz.f30) (A := spec_SocksText_a) (C := callT [spec_soGood_c k, spec_soText_c k]) Tryz.func30 (by kernel_rfl) (show Tryz.f30.body = some (bodyX Tryz.f30) by rfl) (fun X hX => callT_at (TableOk.cons (spec_soGood_ok k) (TableOk.cons (spec_soText_ok k) TableOk.nil)) X hX) (Nat.le_of_ble_eq_true (by kernel_rfl)) (fun ⟨p0, _⟩ y h => by rw [← h]; exact spec_SocksText_run k p0)
noncomputable def spec_l1Cur_spoilt_l1_b (k : Nat) (p2 : ByteArray) (rec : ((List Int) × Int × Int × Unit) → ByteArray → Int → Option ((((List Int) × Int × Int × Unit) × ByteArray × Unit) ⊕ ((ByteArray × Unit) × (((List Int) × Int × Int × Unit) × Unit)))) (x0 : ((List Int) × Int × Int × Unit)) (x1 : ByteArray) (x7 : Int) : Option ((((List Int) × Int × Int × Unit) × ByteArray × Unit) ⊕ ((ByteArray × Unit) × (((List Int) × Int × Int × Unit) × Unit))) :=
  (met (cond (decide (x7 > 0)) (some (.inl ((x0.1, x0.2.1, x0.2.2.1, ()), (decide (((ByteArray.size x1 : Nat) : Int) > 0)), ()))) (some (.inl ((x0.1, x0.2.1, x0.2.2.1, ()), false, ())))) (fun j2 => (cond j2.2.1 (met (Option.bind (spec_l1Cur_pick_f k (j2.1.1, j2.1.2.1, j2.1.2.2.1, ()) ((ByteArray.size x1 : Nat) : Int)) (fun y25 => (Option.bind (spec_l1Cur_pick_f k (y25.2.1.1, y25.2.1.2.1, y25.2.1.2.2.1, ()) ((ByteArray.size p2 : Nat) : Int)) (fun y30 => (ixk y30.1.1 (ByteArray.size p2) (Option.bind (spec_l1Cur_pick_f k (y30.2.1.1, y30.2.1.2.1, y30.2.1.2.2.1, ()) 3) (fun y35 => (met (met (cond (y35.1.1 == 0) (chk (decide (0 ≤ y25.1.1)) (chk (decide (y25.1.1 ≤ ((ByteArray.size x1 : Nat) : Int))) (chk (decide ((ByteArray.extract x1 0 (Int.toNat y25.1.1)).size + (strOfNums [(byteAt p2 y30.1.1)]).size ≤ 9223372036854775807)) (chk (decide (0 ≤ y25.1.1)) (chk (decide (y25.1.1 ≤ ((ByteArray.size x1 : Nat) : Int))) (chk (decide (((ByteArray.extract x1 0 (Int.toNat y25.1.1)) ++ (strOfNums [(byteAt p2 y30.1.1)])).size + (ByteArray.extract x1 (Int.toNat y25.1.1) (ByteArray.size x1)).size ≤ 9223372036854775807)) (some (.inl ((y35.2.1.1, y35.2.1.2.1, y35.2.1.2.2.1, ()), (((ByteArray.extract x1 0 (Int.toNat y25.1.1)) ++ (strOfNums [(byteAt p2 y30.1.1)])) ++ (ByteArray.extract x1 (Int.toNat y25.1.1) (ByteArray.size x1))), ()))))))))) (met (cond (y35.1.1 == 1) (chk (decide (0 ≤ y25.1.1)) (chk (decide (y25.1.1 ≤ ((ByteArray.size x1 : Nat) : Int))) (chk (decide ((ByteArray.extract x1 0 (Int.toNat y25.1.1)).size + (strOfNums [(byteAt p2 y30.1.1)]).size ≤ 9223372036854775807)) (chk (decide (0 ≤ (iw (y25.1.1 + 1)))) (chk (decide ((iw (y25.1.1 + 1)) ≤ ((ByteArray.size x1 : Nat) : Int))) (chk (decide (((ByteArray.extract x1 0 (Int.toNat y25.1.1)) ++ (strOfNums [(byteAt p2 y30.1.1)])).size + (ByteArray.extract x1 (Int.toNat (iw (y25.1.1 + 1))) (ByteArray.size x1)).size ≤ 9223372036854775807)) (some (.inl ((y35.2.1.1, y35.2.1.2.1, y35.2.1.2.2.1, ()), (((ByteArray.extract x1 0 (Int.toNat y25.1.1)) ++ (strOfNums [(byteAt p2 y30.1.1)])) ++ (ByteArray.extract x1 (Int.toNat (iw (y25.1.1 + 1))) (ByteArray.size x1))), ()))))))))) (chk (decide (0 ≤ y25.1.1)) (chk (decide (y25.1.1 ≤ ((ByteArray.size x1 : Nat) : Int))) (chk (decide (0 ≤ (iw (y25.1.1 + 1)))) (chk (decide ((iw (y25.1.1 + 1)) ≤ ((ByteArray.size x1 : Nat) : Int))) (chk (decide ((ByteArray.extract x1 0 (Int.toNat y25.1.1)).size + (ByteArray.extract x1 (Int.toNat (iw (y25.1.1 + 1))) (ByteArray.size x1)).size ≤ 9223372036854775807)) (some (.inl ((y35.2.1.1, y35.2.1.2.1, y35.2.1.2.2.1, ()), ((ByteArray.extract x1 0 (Int.toNat y25.1.1)) ++ (ByteArray.extract x1 (Int.toNat (iw (y25.1.1 + 1))) (ByteArray.size x1))), ()))))))))) (fun j3 => (some (.inl ((j3.1.1, j3.1.2.1, j3.1.2.2.1, ()), j3.2.1, ())))))) (fun j4 => (some (.inl ((j4.1.1, j4.1.2.1, j4.1.2.2.1, ()), j4.2.1, ()))))) (fun j5 => (some (.inl ((j5.1.1, j5.1.2.1, j5.1.2.2.1, ()), j5.2.1, ())))))))))))) (fun j6 => (rec (j6.1.1, j6.1.2.1, j6.1.2.2.1, ()) j6.2.1 (iw (x7 - 1))))) (some (.inl ((j2.1.1, j2.1.2.1, j2.1.2.2.1, ()), x1, ()))))))
noncomputable def spec_l1Cur_spoilt_l1 (k : Nat) (p2 : ByteArray) (x0 : ((List Int) × Int × Int × Unit)) (x1 : ByteArray) (x7 : Int) : Option ((((List Int) × Int × Int × Unit) × ByteArray × Unit) ⊕ ((ByteArray × Unit) × (((List Int) × Int × Int × Unit) × Unit))) := iter k (fun (rec : (((List Int) × Int × Int × Unit) × ByteArray × Int × Unit) → Option ((((List Int) × Int × Int × Unit) × ByteArray × Unit) ⊕ ((ByteArray × Unit) × (((List Int) × Int × Int × Unit) × Unit)))) (x : (((List Int) × Int × Int × Unit) × ByteArray × Int × Unit)) => spec_l1Cur_spoilt_l1_b k p2 (fun x0 x1 x7 => rec (x0, x1, x7, ())) x.1 x.2.1 x.2.2.1) (x0, x1, x7, ())
noncomputable def spec_l1Cur_spoilt_f (k : Nat) (p0 : ((List Int) × Int × Int × Unit)) (p1 : ByteArray) (p2 : ByteArray) : Option ((ByteArray × Unit) × (((List Int) × Int × Int × Unit) × Unit)) :=
  (Option.bind (spec_l1Cur_pick_f k (p0.1, p0.2.1, p0.2.2.1, ()) 2) (fun y11 => (met (spec_l1Cur_spoilt_l1 k p2 (y11.2.1.1, y11.2.1.2.1, y11.2.1.2.2.1, ()) p1 (iw (1 + y11.1.1))) (fun j7 => (some ((j7.2.1, ()), ((j7.1.1, j7.1.2.1, j7.1.2.2.1, ()), ())))))))
noncomputable def spec_l1Cur_spoilt_a : Ann := (.q .o (.q (.q .o (.m [(0, 3000000, .box true [.v (.slc 5 (.int .u8)), .v (.int .i64), .v (.int .u64)]), (1, 100064, .v .str)] (.l [(0, 3000000, .box true [.v (.slc 5 (.int .u8)), .v (.int .i64), .v (.int .u64)]), (1, 100064, .v .str), (7, 100448, .v (.int .i64))] (.q (.q (.r [(0, 3000000, .box true [.v (.slc 5 (.int .u8)), .v (.int .i64), .v (.int .u64)]), (19, 101216, .v .bool)]) .o) (.q (.m [(0, 3000000, .box true [.v (.slc 5 (.int .u8)), .v (.int .i64), .v (.int .u64)]), (1, 100064, .v .str)] (.q .o (.q .o (.q .o (.m [(0, 3000000, .box true [.v (.slc 5 (.int .u8)), .v (.int .i64), .v (.int .u64)]), (1, 100064, .v .str)] (.q .o (.j [(0, 3000000, .box true [.v (.slc 5 (.int .u8)), .v (.int .i64), .v (.int .u64)]), (1, 100064, .v .str)] (.e [] [9]) (.q .o (.j [(0, 3000000, .box true [.v (.slc 5 (.int .u8)), .v (.int .i64), .v (.int .u64)]), (1, 100064, .v .str)] (.e [] [10]) (.e [] [8])))))))))) .o))))) .o))
theorem spec_l1Cur_spoilt_run (k : Nat) (p0 : ((List Int) × Int × Int × Unit)) (p1 : ByteArray) (p2 : ByteArray) : funX Tryz.prog (callT [spec_l1Cur_pick_c k]) k Tryz.f58 spec_l1Cur_spoilt_a [.box true [.v (.slc 5 (.int .u8)), .v (.int .i64), .v (.int .u64)], .v .str, .v .str] [.v .str] (p0, p1, p2, ()) = spec_l1Cur_spoilt_f k p0 p1 p2 := by kernel_rfl
noncomputable def spec_l1Cur_spoilt_c (k : Nat) : Con := ⟨58, [.box true [.v (.slc 5 (.int .u8)), .v (.int .i64), .v (.int .u64)], .v .str, .v .str], [.v .str], fun x => spec_l1Cur_spoilt_f k x.1 x.2.1 x.2.2.1⟩
theorem spec_l1Cur_spoilt_ok (k : Nat) : (spec_l1Cur_spoilt_c k).Sound Tryz.prog GL := con_ok (k := k) (fn := Tryz.f58) (A := spec_l1Cur_spoilt_a) (C := callT [spec_l1Cur_pick_c k]) Tryz.func58 (by kernel_rfl) (show Tryz.f58.body = some (bodyX Tryz.f58) by rfl) (fun X hX => callT_at (TableOk.cons (spec_l1Cur_pick_ok k) TableOk.nil) X hX) (Nat.le_of_ble_eq_true (by kernel_rfl)) (fun ⟨p0, p1, p2, _⟩ y h => by rw [← h]; exact spec_l1Cur_spoilt_run k p0 p1 p2)
noncomputable def spec_DrawParseSocks_f (k : Nat) (p0 : (List Int)) : Option ((ByteArray × Unit) × Unit) :=
  (Option.bind (spec_l1Cur_sureSocks_f k (p0, 0, 0, ())) (fun y9 => (Option.bind (spec_soText_f k y9.1.1) (fun y10 => (Option.bind (spec_l1Cur_one_f k (y9.2.1.1, y9.2.1.2.1, y9.2.1.2.2.1, ()) 3) (fun y12 => (cond y12.1.1 (Option.bind (spec_l1Cur_spoilt_f k (y12.2.1.1, y12.2.1.2.1, y12.2.1.2.2.1, ()) y10.1.1 (lit [48, 49, 50, 51, 45, 120])) (fun y15 => (some ((y15.1.1, ()), ())))) (some ((y10.1.1, ()), ())))))))))
noncomputable def spec_DrawParseSocks_a : Ann := .o
theorem spec_DrawParseSocks_run (k : Nat) (p0 : (List Int)) : funX Tryz.prog (callT [spec_l1Cur_sureSocks_c k, spec_soText_c k, spec_l1Cur_one_c k, spec_l1Cur_spoilt_c k]) k Tryz.f31 spec_DrawParseSocks_a [.v (.slc 5 (.int .u8))] [.v .str] (p0, ()) = spec_DrawParseSocks_f k p0 := by kernel_rfl
noncomputable def spec_DrawParseSocks_c (k : Nat) : Con := ⟨31, [.v (.slc 5 (.int .u8))], [.v .str], fun x => spec_DrawParseSocks_f k x.1⟩
theorem spec_DrawParseSocks_ok (k : Nat) : (spec_DrawParseSocks_c k).Sound Tryz.prog GL := con_ok (k := k) (fn := Tryz.f31) (A := spec_DrawParseSocks_a) (C := callT [spec_l1Cur_sureSocks_c k, spec_soText_c k, spec_l1Cur_one_c k, spec_l1Cur_spoilt_c k]) Tryz.func31 (by kernel_rfl) (show Tryz.f31.body = some (bodyX Tryz.f31) by rfl) (fun X hX => callT_at (TableOk.cons (spec_l1Cur_sureSocks_ok k) (TableOk.cons (spec_soText_ok k) (TableOk.cons (spec_l1Cur_one_ok k) (TableOk.cons (spec_l1Cur_spoilt_ok k) TableOk.nil)))) X hX) (Nat.le_of_ble_eq_true (by kernel_rfl)) (fun ⟨p0, _⟩ y h => by rw [← h]; exact spec_DrawParseSocks_run k p0)
noncomputable def strings_SplitN_f (k : Nat) (p0 : ByteArray) (p1 : ByteArray) (p2 : Int) : Option (((List ByteArray) × Unit) × Unit) := (splitNL p0 p1 p2).map fun l => ((l, ()), ())
noncomputable def strings_SplitN_c (k : Nat) : Con := ⟨74, [.v .str, .v .str, .v (.int .i64)], [.own false 9 .str], fun x => (splitNL x.1 x.2.1 x.2.2.1).map fun l => ((l, ()), ())⟩
theorem strings_SplitN_ok (k : Nat) : (strings_SplitN_c k).Sound Tryz.prog GL := splitN_leaf (k := 1) (by decide) ⟨Tryz.f74, Tryz.func74, by kernel_rfl, by rfl⟩ (fun s sep n m w h1 h2 h3 h4 h5 => lay_strings_SplitN s sep n m w h1 h2 h3 h4 h5)
noncomputable def strings_Trim_f (k : Nat) (p0 : ByteArray) (p1 : ByteArray) : Option ((ByteArray × Unit) × Unit) := (trimL p0 p1).map fun y => (y, ())
noncomputable def strings_Trim_c (k : Nat) : Con := ⟨86, [.v .str, .v .str], [.v .str], fun x => (trimL x.1 x.2.1).map fun y => (y, ())⟩
theorem strings_Trim_ok (k : Nat) : (strings_Trim_c k).Sound Tryz.prog GL := trim_leaf ⟨Tryz.f86, Tryz.func86, by kernel_rfl, by rfl⟩ (fun s c w h1 h2 h3 => lay_strings_Trim_laid s c w h1 h2 h3)
noncomputable def strconv_Atoi_f (k : Nat) (p0 : ByteArray) : Option ((Int × Unit × Unit) × Unit) := (atoiL p0).map fun y => (y, ())
noncomputable def strconv_Atoi_c (k : Nat) : Con := ⟨87, [.v .str], [.v (.int .i64), .nilI], fun x => (atoiL x.1).map fun y => (y, ())⟩
theorem strconv_Atoi_ok (k : Nat) : (strconv_Atoi_c k).Sound Tryz.prog GL := atoi_leaf (t := 5) ⟨Tryz.f87, Tryz.func87, by kernel_rfl, by rfl⟩ (fun s h1 v h2 w => lay_strconv_Atoi_ok s h1 v h2 w)
noncomputable def impl_number_f (k : Nat) (p0 : ByteArray) (p1 : Int) : Option ((Int × Bool × Unit) × Unit) :=
  (met (Option.bind (impl_within_f k ((ByteArray.size p0 : Nat) : Int) 1 p1) (fun y11 => (cond (!y11.1.1) (some (.inl (true, ()))) (Option.bind (strings_Trim_f k p0 (lit [48, 49, 50, 51, 52, 53, 54, 55, 56, 57])) (fun y15 => (cond (!(y15.1.1.toList == ByteArray.empty.toList)) (some (.inl (true, ()))) (chk (decide ((0 : Int) < ((ByteArray.size p0 : Nat) : Int))) (cond ((byteAt p0 0) == 48) (some (.inl ((decide (((ByteArray.size p0 : Nat) : Int) > 1)), ()))) (some (.inl (false, ()))))))))))) (fun j1 => (cond j1.1 (some ((0, false, ()), ())) (Option.bind (strconv_Atoi_f k p0) (fun y30 => (some ((y30.1.1, true, ()), ())))))))
noncomputable def impl_number_a : Ann := (.q .o (.q (.q (.r [(27, 101728, .v .bool)]) .o) (.q .o (.q (.e [] [4]) .o))))
theorem impl_number_run (k : Nat) (p0 : ByteArray) (p1 : Int) : funX Tryz.prog (callT [impl_within_c k, strings_Trim_c k, strconv_Atoi_c k]) k Tryz.f75 impl_number_a [.v .str, .v (.int .i64)] [.v (.int .i64), .v .bool] (p0, p1, ()) = impl_number_f k p0 p1 := by kernel_rfl
noncomputable def impl_number_c (k : Nat) : Con := ⟨75, [.v .str, .v (.int .i64)], [.v (.int .i64), .v .bool], fun x => impl_number_f k x.1 x.2.1⟩
theorem impl_number_ok (k : Nat) : (impl_number_c k).Sound Tryz.prog GL := con_ok (k := k) (fn := Tryz.f75) (A := impl_number_a) (C := callT [impl_within_c k, strings_Trim_c k, strconv_Atoi_c k]) Tryz.func75 (by kernel_rfl) (show Tryz.f75.body = some (bodyX Tryz.f75) by rfl) (fun X hX => callT_at (TableOk.cons (impl_within_ok k) (TableOk.cons (strings_Trim_ok k) (TableOk.cons (strconv_Atoi_ok k) TableOk.nil))) X hX) (Nat.le_of_ble_eq_true (by kernel_rfl)) (fun ⟨p0, p1, _⟩ y h => by rw [← h]; exact impl_number_run k p0 p1)
noncomputable def impl_parted_l1_b (k : Nat) (y18 : (((List ByteArray) × Unit) × Unit)) (rec : (List Int) → (List ByteArray) → Int → Option (((List Int) × Unit) ⊕ (((List Int) × Bool × Unit) × Unit))) (x9 : (List Int)) (x24 : (List ByteArray)) (x26 : Int) : Option (((List Int) × Unit) ⊕ (((List Int) × Bool × Unit) × Unit)) :=
  (cond (decide (x26 < ((List.length y18.1.1 : Nat) : Int))) (ixk x26 (List.length x24) (Option.bind (impl_number_f k (rdG ByteArray.empty x24 x26) 2) (fun y32 => (cond (!y32.1.2.1) (some (.inr (([], false, ()), ()))) (chk (decide (List.length x9 + List.length [y32.1.1] ≤ 15637498706147)) (rec (x9 ++ [y32.1.1]) x24 (iw (x26 + 1)))))))) (some (.inl (x9, ()))))
noncomputable def impl_parted_l1 (k : Nat) (y18 : (((List ByteArray) × Unit) × Unit)) (x9 : (List Int)) (x24 : (List ByteArray)) (x26 : Int) : Option (((List Int) × Unit) ⊕ (((List Int) × Bool × Unit) × Unit)) := iter k (fun (rec : ((List Int) × (List ByteArray) × Int × Unit) → Option (((List Int) × Unit) ⊕ (((List Int) × Bool × Unit) × Unit))) (x : ((List Int) × (List ByteArray) × Int × Unit)) => impl_parted_l1_b k y18 (fun x9 x24 x26 => rec (x9, x24, x26, ())) x.1 x.2.1 x.2.2.1) (x9, x24, x26, ())
noncomputable def impl_parted_f (k : Nat) (p0 : ByteArray) (p1 : ByteArray) (p2 : Int) : Option (((List Int) × Bool × Unit) × Unit) :=
  (Option.bind (strings_SplitN_f k p0 p1 (iw (p2 + 1))) (fun y18 => (cond (decide (((List.length y18.1.1 : Nat) : Int) > p2)) (some (([], false, ()), ())) (met (impl_parted_l1 k y18 [] y18.1.1 0) (fun j2 => (some ((j2.1, true, ()), ())))))))
noncomputable def impl_parted_a : Ann := (.q .o (.q .o (.q .o (.q .o (.q (.q .o (.m [(9, 100576, .own false 3 (.int .i64))] (.l [(9, 100576, .own false 3 (.int .i64)), (24, 101536, .v (.slc 9 .str)), (26, 101664, .v (.int .i64))] .o))) .o)))))
theorem impl_parted_run (k : Nat) (p0 : ByteArray) (p1 : ByteArray) (p2 : Int) : funX Tryz.prog (callT [strings_SplitN_c k, impl_number_c k]) k Tryz.f59 impl_parted_a [.v .str, .v .str, .v (.int .i64)] [.own false 3 (.int .i64), .v .bool] (p0, p1, p2, ()) = impl_parted_f k p0 p1 p2 := by kernel_rfl
noncomputable def impl_parted_c (k : Nat) : Con := ⟨59, [.v .str, .v .str, .v (.int .i64)], [.own false 3 (.int .i64), .v .bool], fun x => impl_parted_f k x.1 x.2.1 x.2.2.1⟩
theorem impl_parted_ok (k : Nat) : (impl_parted_c k).Sound Tryz.prog GL := con_ok (k := k) (fn := Tryz.f59) (A := impl_parted_a) (C := callT [strings_SplitN_c k, impl_number_c k]) Tryz.func59 (by kernel_rfl) (show Tryz.f59.body = some (bodyX Tryz.f59) by rfl) (fun X hX => callT_at (TableOk.cons (strings_SplitN_ok k) (TableOk.cons (impl_number_ok k) TableOk.nil)) X hX) (Nat.le_of_ble_eq_true (by kernel_rfl)) (fun ⟨p0, p1, p2, _⟩ y h => by rw [← h]; exact impl_parted_run k p0 p1 p2)
noncomputable def impl_ParseSocks_f (k : Nat) (p0 : ByteArray) : Option (((List Int) × Bool × Unit) × Unit) :=
  (Option.bind (impl_parted_f k p0 (lit [45]) 8) (fun y8 => (met (cond (!y8.1.2.1) (some (.inl (y8.1.1, true, ()))) (Option.bind (impl_AreSocks_f k y8.1.1) (fun y15 => (some (.inl (y8.1.1, (!y15.1.1), ())))))) (fun j1 => (cond j1.2.1 (some (([], false, ()), ())) (some ((j1.1, true, ()), ())))))))
noncomputable def impl_ParseSocks_a : Ann := (.q .o (.q .o (.q (.q (.r [(4, 100256, .own false 3 (.int .i64)), (17, 101088, .v .bool)]) .o) .o)))
theorem impl_ParseSocks_run (k : Nat) (p0 : ByteArray) : funX Tryz.prog (callT [impl_parted_c k, impl_AreSocks_c k]) k Tryz.f32 impl_ParseSocks_a [.v .str] [.own false 3 (.int .i64), .v .bool] (p0, ()) = impl_ParseSocks_f k p0 := by kernel_rfl
noncomputable def impl_ParseSocks_c (k : Nat) : Con := ⟨32, [.v .str], [.own false 3 (.int .i64), .v .bool], fun x => impl_ParseSocks_f k x.1⟩
theorem impl_ParseSocks_ok (k : Nat) : (impl_ParseSocks_c k).Sound Tryz.prog GL := con_ok (k := k) (fn := Tryz.f32) (A := impl_ParseSocks_a) (C := callT [impl_parted_c k, impl_AreSocks_c k]) Tryz.func32 (by kernel_rfl) (show Tryz.f32.body = some (bodyX Tryz.f32) by rfl) (fun X hX => callT_at (TableOk.cons (impl_parted_ok k) (TableOk.cons (impl_AreSocks_ok k) TableOk.nil)) X hX) (Nat.le_of_ble_eq_true (by kernel_rfl)) (fun ⟨p0, _⟩ y h => by rw [← h]; exact impl_ParseSocks_run k p0)
noncomputable def spec_l1Split_l1_b (k : Nat) (p0 : ByteArray) (p1 : Int) (rec : (List ByteArray) → Int → Int → Option (((List ByteArray) × Int × Unit) ⊕ (((List ByteArray) × Unit) × Unit))) (x5 : (List ByteArray)) (x6 : Int) (x7 : Int) : Option (((List ByteArray) × Int × Unit) ⊕ (((List ByteArray) × Unit) × Unit)) :=
  (cond (decide (x7 < ((ByteArray.size p0 : Nat) : Int))) (met (ixk x7 (ByteArray.size p0) (met (cond ((byteAt p0 x7) == p1) (chk (decide (0 ≤ x7)) (chk (decide (x7 ≤ ((ByteArray.size p0 : Nat) : Int))) (chk (decide (0 ≤ x6)) (chk (decide (x6 ≤ x7)) (chk (decide (List.length x5 + List.length [(ByteArray.extract p0 (Int.toNat x6) (Int.toNat x7))] ≤ 8278675785607)) (some (.inl ((x5 ++ [(ByteArray.extract p0 (Int.toNat x6) (Int.toNat x7))]), (iw (x7 + 1)), ())))))))) (some (.inl (x5, x6, ())))) (fun j2 => (some (.inl (j2.1, j2.2.1, ())))))) (fun j3 => (rec j3.1 j3.2.1 (iw (x7 + 1))))) (some (.inl (x5, x6, ()))))
noncomputable def spec_l1Split_l1 (k : Nat) (p0 : ByteArray) (p1 : Int) (x5 : (List ByteArray)) (x6 : Int) (x7 : Int) : Option (((List ByteArray) × Int × Unit) ⊕ (((List ByteArray) × Unit) × Unit)) := iter k (fun (rec : ((List ByteArray) × Int × Int × Unit) → Option (((List ByteArray) × Int × Unit) ⊕ (((List ByteArray) × Unit) × Unit))) (x : ((List ByteArray) × Int × Int × Unit)) => spec_l1Split_l1_b k p0 p1 (fun x5 x6 x7 => rec (x5, x6, x7, ())) x.1 x.2.1 x.2.2.1) (x5, x6, x7, ())
noncomputable def spec_l1Split_f (k : Nat) (p0 : ByteArray) (p1 : Int) : Option (((List ByteArray) × Unit) × Unit) :=
  (met (spec_l1Split_l1 k p0 p1 [] 0 0) (fun j4 => (chk (decide (0 ≤ j4.2.1)) (chk (decide (j4.2.1 ≤ ((ByteArray.size p0 : Nat) : Int))) (chk (decide (List.length j4.1 + List.length [(ByteArray.extract p0 (Int.toNat j4.2.1) (ByteArray.size p0))] ≤ 8278675785607)) (some (((j4.1 ++ [(ByteArray.extract p0 (Int.toNat j4.2.1) (ByteArray.size p0))]), ()), ())))))))
noncomputable def spec_l1Split_a : Ann := (.q .o (.q .o (.q .o (.q (.q .o (.m [(5, 100320, .own false 9 .str), (6, 100384, .v (.int .i64))] (.l [(5, 100320, .own false 9 .str), (6, 100384, .v (.int .i64)), (7, 100448, .v (.int .i64))] (.q .o (.q (.m [(5, 100320, .own false 9 .str), (6, 100384, .v (.int .i64))] (.q .o (.j [(5, 100320, .own false 9 .str), (6, 100384, .v (.int .i64))] .o .o))) .o))))) .o))))
theorem spec_l1Split_run (k : Nat) (p0 : ByteArray) (p1 : Int) : funX Tryz.prog (callT []) k Tryz.f76 spec_l1Split_a [.v .str, .v (.int .u8)] [.own false 9 .str] (p0, p1, ()) = spec_l1Split_f k p0 p1 := by kernel_rfl
noncomputable def spec_l1Split_c (k : Nat) : Con := ⟨76, [.v .str, .v (.int .u8)], [.own false 9 .str], fun x => spec_l1Split_f k x.1 x.2.1⟩
theorem spec_l1Split_ok (k : Nat) : (spec_l1Split_c k).Sound Tryz.prog GL := con_ok (k := k) (fn := Tryz.f76) (A := spec_l1Split_a) (C := callT []) Tryz.func76 (by kernel_rfl) (show Tryz.f76.body = some (bodyX Tryz.f76) by rfl) (fun X hX => callT_at TableOk.nil X hX) (Nat.le_of_ble_eq_true (by kernel_rfl)) (fun ⟨p0, p1, _⟩ y h => by rw [← h]; exact spec_l1Split_run k p0 p1)
noncomputable def spec_l1Read_l2_b (k : Nat) (p0 : ByteArray) (rec : Int → Int → Option ((Int × Unit) ⊕ ((Int × Unit) × Unit))) (x3 : Int) (x4 : Int) : Option ((Int × Unit) ⊕ ((Int × Unit) × Unit)) :=
  (cond (decide (x4 < ((ByteArray.size p0 : Nat) : Int))) (met (ixk x4 (ByteArray.size p0) (cond (decide ((byteAt p0 x4) < 48)) (some (.inl (true, ()))) (ixk x4 (ByteArray.size p0) (some (.inl ((decide ((byteAt p0 x4) > 57)), ())))))) (fun j3 => (cond j3.1 (some (.inr (((-1), ()), ()))) (ixk x4 (ByteArray.size p0) (rec (iw ((iw (10 * x3)) + (iw ((IntKind.wrap .u8 ((byteAt p0 x4) - 48)))))) (iw (x4 + 1))))))) (some (.inl (x3, ()))))
noncomputable def spec_l1Read_l2 (k : Nat) (p0 : ByteArray) (x3 : Int) (x4 : Int) : Option ((Int × Unit) ⊕ ((Int × Unit) × Unit)) := iter k (fun (rec : (Int × Int × Unit) → Option ((Int × Unit) ⊕ ((Int × Unit) × Unit))) (x : (Int × Int × Unit)) => spec_l1Read_l2_b k p0 (fun x3 x4 => rec (x3, x4, ())) x.1 x.2.1) (x3, x4, ())
noncomputable def spec_l1Read_f (k : Nat) (p0 : ByteArray) : Option ((Int × Unit) × Unit) :=
  (met (Option.bind (spec_l1In_f k ((ByteArray.size p0 : Nat) : Int) 1 6) (fun y7 => (cond (!y7.1.1) (some (.inl (true, ()))) (chk (decide ((0 : Int) < ((ByteArray.size p0 : Nat) : Int))) (cond ((byteAt p0 0) == 48) (some (.inl ((decide (((ByteArray.size p0 : Nat) : Int) > 1)), ()))) (some (.inl (false, ())))))))) (fun j1 => (cond j1.1 (some (((-1), ()), ())) (met (spec_l1Read_l2 k p0 0 0) (fun j4 => (some ((j4.1, ()), ())))))))
noncomputable def spec_l1Read_a : Ann := (.q .o (.q (.q (.r [(18, 101152, .v .bool)]) .o) (.q .o (.q (.q .o (.m [(3, 100192, .v (.int .i64))] (.l [(3, 100192, .v (.int .i64)), (4, 100256, .v (.int .i64))] (.q .o (.q (.b (.q (.q (.r [(34, 102176, .v .bool)]) .o) .o)) .o))))) .o))))
theorem spec_l1Read_run (k : Nat) (p0 : ByteArray) : funX Tryz.prog (callT [spec_l1In_c k]) k Tryz.f77 spec_l1Read_a [.v .str] [.v (.int .i64)] (p0, ()) = spec_l1Read_f k p0 := by kernel_rfl
noncomputable def spec_l1Read_c (k : Nat) : Con := ⟨77, [.v .str], [.v (.int .i64)], fun x => spec_l1Read_f k x.1⟩
theorem spec_l1Read_ok (k : Nat) : (spec_l1Read_c k).Sound Tryz.prog GL := con_ok (k := k) (fn := Tryz.f77) (A := spec_l1Read_a) (C := callT [spec_l1In_c k]) Tryz.func77 (by kernel_rfl) (show Tryz.f77.body = some (bodyX Tryz.f77) by rfl) (fun X hX => callT_at (TableOk.cons (spec_l1In_ok k) TableOk.nil) X hX) (Nat.le_of_ble_eq_true (by kernel_rfl)) (fun ⟨p0, _⟩ y h => by rw [← h]; exact spec_l1Read_run k p0)
noncomputable def spec_soParse_l1_b (k : Nat) (y11 : (((List ByteArray) × Unit) × Unit)) (rec : (List Int) → (List ByteArray) → Int → Option (((List Int) × Unit) ⊕ (((List Int) × Bool × Unit) × Unit))) (x4 : (List Int)) (x11 : (List ByteArray)) (x13 : Int) : Option (((List Int) × Unit) ⊕ (((List Int) × Bool × Unit) × Unit)) :=
  (cond (decide (x13 < ((List.length y11.1.1 : Nat) : Int))) (ixk x13 (List.length x11) (Option.bind (spec_l1Read_f k (rdG ByteArray.empty x11 x13)) (fun y19 => (chk (decide (List.length x4 + List.length [y19.1.1] ≤ 15637498706147)) (rec (x4 ++ [y19.1.1]) x11 (iw (x13 + 1))))))) (some (.inl (x4, ()))))
noncomputable def spec_soParse_l1 (k : Nat) (y11 : (((List ByteArray) × Unit) × Unit)) (x4 : (List Int)) (x11 : (List ByteArray)) (x13 : Int) : Option (((List Int) × Unit) ⊕ (((List Int) × Bool × Unit) × Unit)) := iter k (fun (rec : ((List Int) × (List ByteArray) × Int × Unit) → Option (((List Int) × Unit) ⊕ (((List Int) × Bool × Unit) × Unit))) (x : ((List Int) × (List ByteArray) × Int × Unit)) => spec_soParse_l1_b k y11 (fun x4 x11 x13 => rec (x4, x11, x13, ())) x.1 x.2.1 x.2.2.1) (x4, x11, x13, ())
noncomputable def spec_soParse_f (k : Nat) (p0 : ByteArray) : Option (((List Int) × Bool × Unit) × Unit) :=
  (cond (decide (((ByteArray.size p0 : Nat) : Int) > 23)) (some (([], false, ()), ())) (Option.bind (spec_l1Split_f k p0 45) (fun y11 => (met (spec_soParse_l1 k y11 [] y11.1.1 0) (fun j2 => (Option.bind (spec_soGood_f k j2.1) (fun y24 => (cond (!y24.1.1) (some (([], false, ()), ())) (some ((j2.1, true, ()), ()))))))))))
noncomputable def spec_soParse_a : Ann := (.q .o (.q .o (.q .o (.q (.q .o (.m [(4, 100256, .own false 3 (.int .i64))] (.l [(4, 100256, .own false 3 (.int .i64)), (11, 100704, .v (.slc 9 .str)), (13, 100832, .v (.int .i64))] .o))) .o))))
theorem spec_soParse_run (k : Nat) (p0 : ByteArray) : funX Tryz.prog (callT [spec_l1Split_c k, spec_l1Read_c k, spec_soGood_c k]) k Tryz.f60 spec_soParse_a [.v .str] [.own false 3 (.int .i64), .v .bool] (p0, ()) = spec_soParse_f k p0 := by kernel_rfl
noncomputable def spec_soParse_c (k : Nat) : Con := ⟨60, [.v .str], [.own false 3 (.int .i64), .v .bool], fun x => spec_soParse_f k x.1⟩
theorem spec_soParse_ok (k : Nat) : (spec_soParse_c k).Sound Tryz.prog GL := con_ok (k := k) (fn := Tryz.f60) (A := spec_soParse_a) (C := callT [spec_l1Split_c k, spec_l1Read_c k, spec_soGood_c k]) Tryz.func60 (by kernel_rfl) (show Tryz.f60.body = some (bodyX Tryz.f60) by rfl) (fun X hX => callT_at (TableOk.cons (spec_l1Split_ok k) (TableOk.cons (spec_l1Read_ok k) (TableOk.cons (spec_soGood_ok k) TableOk.nil))) X hX) (Nat.le_of_ble_eq_true (by kernel_rfl)) (fun ⟨p0, _⟩ y h => by rw [← h]; exact spec_soParse_run k p0)
noncomputable def spec_ParseSocks_f (k : Nat) (p0 : ByteArray) : Option (((List Int) × Bool × Unit) × Unit) :=
  (Option.bind (spec_soParse_f k p0) (fun y5 => (some ((y5.1.1, y5.1.2.1, ()), ()))))
noncomputable def spec_ParseSocks_a : Ann := .o
theorem spec_ParseSocks_run (k : Nat) (p0 : ByteArray) : funX Tryz.prog (callT [spec_soParse_c k]) k Tryz.f33 spec_ParseSocks_a [.v .str] [.own false 3 (.int .i64), .v .bool] (p0, ()) = spec_ParseSocks_f k p0 := by kernel_rfl
noncomputable def spec_ParseSocks_c (k : Nat) : Con := ⟨33, [.v .str], [.own false 3 (.int .i64), .v .bool], fun x => spec_ParseSocks_f k x.1⟩
theorem spec_ParseSocks_ok (k : Nat) : (spec_ParseSocks_c k).Sound Tryz.prog GL := con_ok (k := k) (fn := Tryz.f33) (A := spec_ParseSocks_a) (C := callT [spec_soParse_c k]) Tryz.func33 (by kernel_rfl) (show Tryz.f33.body = some (bodyX Tryz.f33) by rfl) (fun X hX => callT_at (TableOk.cons (spec_soParse_ok k) TableOk.nil) X hX) (Nat.le_of_ble_eq_true (by kernel_rfl)) (fun ⟨p0, _⟩ y h => by rw [← h]; exact spec_ParseSocks_run k p0)
noncomputable def laws_zBefore_l1_b (k : Nat) (p0 : (List Int)) (p1 : (List Int)) (rec : Int → Option (Unit ⊕ ((Bool × Unit) × Unit))) (x5 : Int) : Option (Unit ⊕ ((Bool × Unit) × Unit)) :=
  (met (cond (decide (x5 < ((List.length p0 : Nat) : Int))) (some (.inl ((decide (x5 < ((List.length p1 : Nat) : Int))), ()))) (some (.inl (false, ())))) (fun j2 => (cond j2.1 (ixk x5 (List.length p0) (ixk x5 (List.length p1) (cond ((rd p0 x5) != (rd p1 x5)) (ixk x5 (List.length p0) (ixk x5 (List.length p1) (some (.inr (((decide ((rd p0 x5) < (rd p1 x5))), ()), ()))))) (rec (iw (x5 + 1)))))) (some (.inl ())))))
noncomputable def laws_zBefore_l1 (k : Nat) (p0 : (List Int)) (p1 : (List Int)) (x5 : Int) : Option (Unit ⊕ ((Bool × Unit) × Unit)) := iter k (fun (rec : (Int × Unit) → Option (Unit ⊕ ((Bool × Unit) × Unit))) (x : (Int × Unit)) => laws_zBefore_l1_b k p0 p1 (fun x5 => rec (x5, ())) x.1) (x5, ())
noncomputable def laws_zBefore_f (k : Nat) (p0 : (List Int)) (p1 : (List Int)) : Option ((Bool × Unit) × Unit) :=
  (met (laws_zBefore_l1 k p0 p1 0) (fun j3 => (some (((decide (((List.length p0 : Nat) : Int) ≤ ((List.length p1 : Nat) : Int))), ()), ()))))
noncomputable def laws_zBefore_a : Ann := (.q .o (.q (.q .o (.m [] (.l [(5, 100320, .v (.int .i64))] (.q (.q (.r [(15, 100960, .v .bool)]) .o) (.q (.b (.q .o (.c (.q (.e [] [9]) .o) .o))) .o))))) .o))
theorem laws_zBefore_run (k : Nat) (p0 : (List Int)) (p1 : (List Int)) : funX Tryz.prog (callT []) k Tryz.f34 laws_zBefore_a [.v (.slc 3 (.int .i64)), .v (.slc 3 (.int .i64))] [.v .bool] (p0, p1, ()) = laws_zBefore_f k p0 p1 := by kernel_rfl
noncomputable def laws_zBefore_c (k : Nat) : Con := ⟨34, [.v (.slc 3 (.int .i64)), .v (.slc 3 (.int .i64))], [.v .bool], fun x => laws_zBefore_f k x.1 x.2.1⟩
theorem laws_zBefore_ok (k : Nat) : (laws_zBefore_c k).Sound Tryz.prog GL := con_ok (k := k) (fn := Tryz.f34) (A := laws_zBefore_a) (C := callT []) Tryz.func34 (by kernel_rfl) (show Tryz.f34.body = some (bodyX Tryz.f34) by rfl) (fun X hX => callT_at TableOk.nil X hX) (Nat.le_of_ble_eq_true (by kernel_rfl)) (fun ⟨p0, p1, _⟩ y h => by rw [← h]; exact laws_zBefore_run k p0 p1)
noncomputable def laws_FnSocksDrawn_l3_b (k : Nat) (y83 : (((List Int) × (List Int) × Unit) × Unit)) (j1 : ((List Int) × (List Int) × Bool × Unit)) (rec : Int → Option (Unit ⊕ (Unit ⊕ (Unit ⊕ ((Bool × Unit) × Unit))))) (x214 : Int) : Option (Unit ⊕ (Unit ⊕ (Unit ⊕ ((Bool × Unit) × Unit)))) :=
  (cond (decide (x214 < ((List.length y83.1.1 : Nat) : Int))) (ixk x214 (List.length j1.2.1) (ixk x214 (List.length j1.1) (ixk x214 (List.length y83.1.1) (cond ((iw ((rd j1.2.1 x214) + (rd j1.1 x214))) != (rd y83.1.1 x214)) (some (.inr (.inr (.inr ((false, ()), ()))))) (rec (iw (x214 + 1))))))) (some (.inl ())))
noncomputable def laws_FnSocksDrawn_l3 (k : Nat) (y83 : (((List Int) × (List Int) × Unit) × Unit)) (j1 : ((List Int) × (List Int) × Bool × Unit)) (x214 : Int) : Option (Unit ⊕ (Unit ⊕ (Unit ⊕ ((Bool × Unit) × Unit)))) := iter k (fun (rec : (Int × Unit) → Option (Unit ⊕ (Unit ⊕ (Unit ⊕ ((Bool × Unit) × Unit))))) (x : (Int × Unit)) => laws_FnSocksDrawn_l3_b k y83 j1 (fun x214 => rec (x214, ())) x.1) (x214, ())
noncomputable def laws_FnSocksDrawn_l13_b (k : Nat) (y288 : (((List Int) × Int × Int × Unit) × Unit)) (j11 : ((List Int) × (List Int) × (List Int) × (List Int) × (List Int) × Bool × Unit)) (rec : Int → Int → Option ((Int × Unit) ⊕ (Unit ⊕ ((Bool × Unit) × Unit)))) (x66 : Int) (x67 : Int) : Option ((Int × Unit) ⊕ (Unit ⊕ ((Bool × Unit) × Unit))) :=
  (cond (decide (x67 ≤ (iw (Int.tdiv y288.1.2.1 2)))) (Option.bind (impl_CountPairDraws_f k j11.1 y288.1.2.1 x67) (fun y462 => (cond (!y462.1.2.1) (some (.inr (.inr ((false, ()), ())))) (rec (iw (x66 + y462.1.1)) (iw (x67 + 1)))))) (some (.inl (x66, ()))))
noncomputable def laws_FnSocksDrawn_l13 (k : Nat) (y288 : (((List Int) × Int × Int × Unit) × Unit)) (j11 : ((List Int) × (List Int) × (List Int) × (List Int) × (List Int) × Bool × Unit)) (x66 : Int) (x67 : Int) : Option ((Int × Unit) ⊕ (Unit ⊕ ((Bool × Unit) × Unit))) := iter k (fun (rec : (Int × Int × Unit) → Option ((Int × Unit) ⊕ (Unit ⊕ ((Bool × Unit) × Unit)))) (x : (Int × Int × Unit)) => laws_FnSocksDrawn_l13_b k y288 j11 (fun x66 x67 => rec (x66, x67, ())) x.1 x.2.1) (x66, x67, ())
noncomputable def laws_FnSocksDrawn_f (k : Nat) (p0 : (List Int)) (p1 : (List Int)) : Option ((Bool × Unit) × Unit) :=
  (Option.bind (laws_big_f k p0 p1) (fun y80 => (cond y80.1.1 (some ((true, ()), ())) (Option.bind (spec_DrawRankOfDraw_f k p0) (fun y83 => (Option.bind (impl_RankOfDraw_f k y83.1.1 y83.1.2.1) (fun y89 => (Option.bind (spec_RankOfDraw_f k y83.1.1 y83.1.2.1) (fun y95 => (Option.bind (impl_PairsOfDraw_f k y83.1.1 y83.1.2.1) (fun y101 => (Option.bind (spec_PairsOfDraw_f k y83.1.1 y83.1.2.1) (fun y107 => (Option.bind (impl_LeftBehind_f k y83.1.1 y83.1.2.1) (fun y113 => (Option.bind (spec_LeftBehind_f k y83.1.1 y83.1.2.1) (fun y119 => (Option.bind (impl_IsDraw_f k y83.1.1 y83.1.2.1) (fun y125 => (Option.bind (spec_IsDraw_f k y83.1.1 y83.1.2.1) (fun y131 => (met (cond (!(y89.1.2.1 == y95.1.2.1)) (some (.inl (y83.1.2.1, y113.1.1, true, ()))) (cond (y89.1.1 != y95.1.1) (some (.inl (y83.1.2.1, y113.1.1, true, ()))) (cond (!(y101.1.2.1 == y107.1.2.1)) (some (.inl (y83.1.2.1, y113.1.1, true, ()))) (cond (y101.1.1 != y107.1.1) (some (.inl (y83.1.2.1, y113.1.1, true, ()))) (cond (!(y113.1.2.1 == y119.1.2.1)) (some (.inl (y83.1.2.1, y113.1.1, true, ()))) (Option.bind (laws_zSame_f k y113.1.1 y119.1.1) (fun y160 => (cond (!y160.1.1) (some (.inl (y83.1.2.1, y113.1.1, true, ()))) (cond (!(y125.1.2.1 == y131.1.2.1)) (some (.inl (y83.1.2.1, y113.1.1, true, ()))) (cond (!(y125.1.1 == y131.1.1)) (some (.inl (y83.1.2.1, y113.1.1, true, ()))) (cond y125.1.2.1 (cond (!(y101.1.2.1 == y125.1.1)) (some (.inl (y83.1.2.1, y113.1.1, true, ()))) (cond y89.1.2.1 (cond (!y101.1.2.1) (some (.inl (y83.1.2.1, y113.1.1, true, ()))) (cond y113.1.2.1 (some (.inl (y83.1.2.1, y113.1.1, (!y101.1.2.1), ()))) (some (.inl (y83.1.2.1, y113.1.1, false, ()))))) (cond y113.1.2.1 (some (.inl (y83.1.2.1, y113.1.1, (!y101.1.2.1), ()))) (some (.inl (y83.1.2.1, y113.1.1, false, ())))))) (cond (!(y101.1.2.1 == false)) (some (.inl (y83.1.2.1, y113.1.1, true, ()))) (cond y89.1.2.1 (cond (!y101.1.2.1) (some (.inl (y83.1.2.1, y113.1.1, true, ()))) (cond y113.1.2.1 (some (.inl (y83.1.2.1, y113.1.1, (!y101.1.2.1), ()))) (some (.inl (y83.1.2.1, y113.1.1, false, ()))))) (cond y113.1.2.1 (some (.inl (y83.1.2.1, y113.1.1, (!y101.1.2.1), ()))) (some (.inl (y83.1.2.1, y113.1.1, false, ()))))))))))))))))) (fun j1 => (cond j1.2.2.1 (some ((false, ()), ())) (met (cond y101.1.2.1 (Option.bind (impl_CountSocks_f k y83.1.1) (fun y198 => (met (cond (!y198.1.2.1) (some (.inl (true, ()))) (Option.bind (laws_zSum_f k j1.1) (fun y206 => (some (.inl ((!(y113.1.2.1 == (decide (y206.1.1 < y198.1.1)))), ())))))) (fun j2 => (cond j2.1 (some (.inr ((false, ()), ()))) (met (cond y113.1.2.1 (met (laws_FnSocksDrawn_l3 k y83 j1 0) (fun j4 => (Option.bind (laws_zSum_f k j1.1) (fun y233 => (met (cond (decide (y233.1.1 > 0)) (Option.bind (impl_AddSocks_f k j1.2.1 j1.1) (fun y238 => (met (cond (!y238.1.2.1) (some (.inl (true, ()))) (Option.bind (laws_zSame_f k y238.1.1 y83.1.1) (fun y246 => (some (.inl ((!y246.1.1), ())))))) (fun j5 => (cond j5.1 (some (.inr (.inr (.inr ((false, ()), ()))))) (some (.inl ()))))))) (some (.inl ()))) (fun j6 => (some (.inl ())))))))) (some (.inl ()))) (fun j7 => (some (.inl ()))))))))) (some (.inl ()))) (fun j8 => (met (cond y89.1.2.1 (Option.bind (laws_zSum_f k j1.1) (fun y253 => (Option.bind (impl_DrawOfRank_f k y83.1.1 y253.1.1 y89.1.1) (fun y255 => (Option.bind (laws_zSum_f k j1.1) (fun y261 => (Option.bind (impl_CountDraws_f k y83.1.1 y261.1.1) (fun y262 => (met (cond (!y255.1.2.1) (some (.inl (true, ()))) (Option.bind (laws_zSame_f k y255.1.1 j1.1) (fun y270 => (cond (!y270.1.1) (some (.inl (true, ()))) (cond (!y262.1.2.1) (some (.inl (true, ()))) (cond (decide (y89.1.1 < 0)) (some (.inl (true, ()))) (some (.inl ((decide (y89.1.1 ≥ y262.1.1)), ()))))))))) (fun j9 => (cond j9.1 (some (.inr ((false, ()), ()))) (some (.inl ()))))))))))))) (some (.inl ()))) (fun j10 => (Option.bind (spec_DrawCountPairDraws_f k p1) (fun y288 => (Option.bind (impl_CountPairDraws_f k y288.1.1 y288.1.2.1 y288.1.2.2.1) (fun y296 => (Option.bind (spec_CountPairDraws_f k y288.1.1 y288.1.2.1 y288.1.2.2.1) (fun y303 => (Option.bind (impl_CountDraws_f k y288.1.1 y288.1.2.1) (fun y309 => (Option.bind (spec_CountDraws_f k y288.1.1 y288.1.2.1) (fun y315 => (Option.bind (spec_DrawDrawOfRank_f k p1) (fun y320 => (Option.bind (impl_DrawOfRank_f k y320.1.1 y320.1.2.1 y320.1.2.2.1) (fun y328 => (Option.bind (spec_DrawOfRank_f k y320.1.1 y320.1.2.1 y320.1.2.2.1) (fun y335 => (Option.bind (spec_DrawAddSocks_f k p1) (fun y340 => (Option.bind (impl_AddSocks_f k y340.1.1 y340.1.2.1) (fun y346 => (Option.bind (spec_AddSocks_f k y340.1.1 y340.1.2.1) (fun y352 => (Option.bind (spec_DrawSocksText_f k p1) (fun y356 => (Option.bind (impl_SocksText_f k y356.1.1) (fun y359 => (Option.bind (spec_SocksText_f k y356.1.1) (fun y364 => (Option.bind (spec_DrawParseSocks_f k p1) (fun y368 => (Option.bind (impl_ParseSocks_f k y368.1.1) (fun y371 => (Option.bind (spec_ParseSocks_f k y368.1.1) (fun y376 => (met (cond (!(y296.1.2.1 == y303.1.2.1)) (some (.inl (y288.1.1, y320.1.1, y328.1.1, y356.1.1, y371.1.1, true, ()))) (cond (y296.1.1 != y303.1.1) (some (.inl (y288.1.1, y320.1.1, y328.1.1, y356.1.1, y371.1.1, true, ()))) (cond (!(y309.1.2.1 == y315.1.2.1)) (some (.inl (y288.1.1, y320.1.1, y328.1.1, y356.1.1, y371.1.1, true, ()))) (cond (y309.1.1 != y315.1.1) (some (.inl (y288.1.1, y320.1.1, y328.1.1, y356.1.1, y371.1.1, true, ()))) (cond (!(y328.1.2.1 == y335.1.2.1)) (some (.inl (y288.1.1, y320.1.1, y328.1.1, y356.1.1, y371.1.1, true, ()))) (Option.bind (laws_zSame_f k y328.1.1 y335.1.1) (fun y405 => (cond (!y405.1.1) (some (.inl (y288.1.1, y320.1.1, y328.1.1, y356.1.1, y371.1.1, true, ()))) (cond (!(y346.1.2.1 == y352.1.2.1)) (some (.inl (y288.1.1, y320.1.1, y328.1.1, y356.1.1, y371.1.1, true, ()))) (Option.bind (laws_zSame_f k y346.1.1 y352.1.1) (fun y416 => (cond (!y416.1.1) (some (.inl (y288.1.1, y320.1.1, y328.1.1, y356.1.1, y371.1.1, true, ()))) (cond (!(y359.1.2.1 == y364.1.2.1)) (some (.inl (y288.1.1, y320.1.1, y328.1.1, y356.1.1, y371.1.1, true, ()))) (cond (!(y359.1.1.toList == y364.1.1.toList)) (some (.inl (y288.1.1, y320.1.1, y328.1.1, y356.1.1, y371.1.1, true, ()))) (cond (!(y371.1.2.1 == y376.1.2.1)) (some (.inl (y288.1.1, y320.1.1, y328.1.1, y356.1.1, y371.1.1, true, ()))) (Option.bind (laws_zSame_f k y371.1.1 y376.1.1) (fun y437 => (cond (!y437.1.1) (some (.inl (y288.1.1, y320.1.1, y328.1.1, y356.1.1, y371.1.1, true, ()))) (cond y296.1.2.1 (some (.inl (y288.1.1, y320.1.1, y328.1.1, y356.1.1, y371.1.1, (!y309.1.2.1), ()))) (some (.inl (y288.1.1, y320.1.1, y328.1.1, y356.1.1, y371.1.1, false, ())))))))))))))))))))))) (fun j11 => (cond j11.2.2.2.2.2.1 (some ((false, ()), ())) (met (cond y296.1.2.1 (some (.inl ((decide (y288.1.2.1 ≤ 200)), ()))) (some (.inl (false, ())))) (fun j12 => (met (cond j12.1 (met (laws_FnSocksDrawn_l13 k y288 j11 0 0) (fun j14 => (met (cond (j14.1 != y309.1.1) (some (.inl (true, ()))) (some (.inl ((decide (y296.1.1 > y309.1.1)), ())))) (fun j15 => (cond j15.1 (some (.inr ((false, ()), ()))) (some (.inl ()))))))) (some (.inl ()))) (fun j16 => (met (cond y328.1.2.1 (Option.bind (impl_RankOfDraw_f k j11.2.1 j11.2.2.1) (fun y482 => (met (Option.bind (laws_zSum_f k j11.2.2.1) (fun y486 => (cond (y486.1.1 != y320.1.2.1) (some (.inl (true, ()))) (cond (!y482.1.2.1) (some (.inl (true, ()))) (some (.inl ((y482.1.1 != y320.1.2.2.1), ()))))))) (fun j17 => (cond j17.1 (some (.inr ((false, ()), ()))) (met (cond (decide (y320.1.2.2.1 > 0)) (Option.bind (impl_DrawOfRank_f k j11.2.1 y320.1.2.1 (iw (y320.1.2.2.1 - 1))) (fun y505 => (met (cond (!y505.1.2.1) (some (.inl (true, ()))) (Option.bind (laws_zBefore_f k y505.1.1 j11.2.2.1) (fun y513 => (cond (!y513.1.1) (some (.inl (true, ()))) (Option.bind (laws_zSame_f k y505.1.1 j11.2.2.1) (fun y519 => (some (.inl (y519.1.1, ()))))))))) (fun j18 => (cond j18.1 (some (.inr (.inr ((false, ()), ())))) (some (.inl ()))))))) (some (.inl ()))) (fun j19 => (some (.inl ()))))))))) (some (.inl ()))) (fun j20 => (met (cond y359.1.2.1 (Option.bind (impl_ParseSocks_f k y359.1.1) (fun y524 => (met (cond (!y524.1.2.1) (some (.inl (true, ()))) (Option.bind (laws_zSame_f k y524.1.1 j11.2.2.2.1) (fun y532 => (some (.inl ((!y532.1.1), ())))))) (fun j21 => (cond j21.1 (some (.inr ((false, ()), ()))) (some (.inl ()))))))) (some (.inl ()))) (fun j22 => (cond y371.1.2.1 (Option.bind (impl_SocksText_f k j11.2.2.2.2.1) (fun y538 => (met (cond y538.1.2.1 (some (.inl ((y538.1.1.toList == y368.1.1.toList), ()))) (some (.inl (false, ())))) (fun j23 => (some ((j23.1, ()), ())))))) (some ((true, ()), ()))))))))))))))))))))))))))))))))))))))))))))))))))))))))))))))))))))))))))))
noncomputable def laws_FnSocksDrawn_a : Ann := (.q .o (.q .o (.q .o (.q .o (.q .o (.q .o (.q .o (.q .o (.q .o (.q .o (.q .o (.q (.q (.r [(6, 100384, .v (.slc 3 (.int .i64))), (15, 100960, .v (.slc 3 (.int .i64))), (194, 112416, .v .bool)]) .o) (.q (.q .o (.j [] (.q .o (.q (.q (.r [(210, 113440, .v .bool)]) .o) (.q .o (.j [] (.q (.q .o (.m [] (.l [(214, 113696, .v (.int .i64))] .o))) (.q .o (.j [] (.q .o (.q (.r [(248, 115872, .v .bool)]) .o)) .o))) .o)))) .o)) (.q (.q .o (.j [] (.q .o (.q .o (.q (.r [(285, 118240, .v .bool)]) .o))) .o)) (.q .o (.q .o (.q .o (.q .o (.q .o (.q .o (.q .o (.q .o (.q .o (.q .o (.q .o (.q .o (.q .o (.q .o (.q .o (.q .o (.q .o (.q (.q (.r [(32, 102048, .v (.slc 3 (.int .i64))), (43, 102752, .v (.slc 3 (.int .i64))), (46, 102944, .v (.slc 3 (.int .i64))), (56, 103584, .v (.slc 3 (.int .i64))), (62, 103968, .v (.slc 3 (.int .i64))), (446, 128544, .v .bool)]) .o) (.q (.q (.r [(451, 128864, .v .bool)]) (.j [] (.q .o (.q (.q .o (.m [(66, 104224, .v (.int .i64))] (.l [(66, 104224, .v (.int .i64)), (67, 104288, .v (.int .i64))] .o))) (.q (.r [(477, 130528, .v .bool)]) .o))) .o)) (.q (.q .o (.j [] (.q .o (.q (.q (.r [(497, 131808, .v .bool)]) .o) (.q .o (.j [] (.q .o (.q (.r [(520, 133280, .v .bool)]) .o)) .o)))) .o)) (.q (.q .o (.j [] (.q .o (.q (.r [(534, 134176, .v .bool)]) .o)) .o)) (.q (.q .o (.c (.q .o (.q (.r [(4, 100256, .v .bool)]) .o)) .o)) .o))))))))))))))))))))))))))))))))))))
theorem laws_FnSocksDrawn_run (k : Nat) (p0 : (List Int)) (p1 : (List Int)) : funX Tryz.prog (callT [laws_big_c k, spec_DrawRankOfDraw_c k, impl_RankOfDraw_c k, spec_RankOfDraw_c k, impl_PairsOfDraw_c k, spec_PairsOfDraw_c k, impl_LeftBehind_c k, spec_LeftBehind_c k, impl_IsDraw_c k, spec_IsDraw_c k, laws_zSame_c k, impl_CountSocks_c k, laws_zSum_c k, impl_AddSocks_c k, impl_DrawOfRank_c k, impl_CountDraws_c k, spec_DrawCountPairDraws_c k, impl_CountPairDraws_c k, spec_CountPairDraws_c k, spec_CountDraws_c k, spec_DrawDrawOfRank_c k, spec_DrawOfRank_c k, spec_DrawAddSocks_c k, spec_AddSocks_c k, spec_DrawSocksText_c k, impl_SocksText_c k, spec_SocksText_c k, spec_DrawParseSocks_c k, impl_ParseSocks_c k, spec_ParseSocks_c k, laws_zBefore_c k]) k Tryz.f3 laws_FnSocksDrawn_a [.v (.slc 5 (.int .u8)), .v (.slc 5 (.int .u8))] [.v .bool] (p0, p1, ()) = laws_FnSocksDrawn_f k p0 p1 := by kernel_rfl
noncomputable def laws_FnSocksDrawn_c (k : Nat) : Con := ⟨3, [.v (.slc 5 (.int .u8)), .v (.slc 5 (.int .u8))], [.v .bool], fun x => laws_FnSocksDrawn_f k x.1 x.2.1⟩
theorem laws_FnSocksDrawn_ok (k : Nat) : (laws_FnSocksDrawn_c k).Sound Tryz.prog GL := con_ok (k := k) (fn := Tryz.f3) (A := laws_FnSocksDrawn_a) (C := callT [laws_big_c k, spec_DrawRankOfDraw_c k, impl_RankOfDraw_c k, spec_RankOfDraw_c k, impl_PairsOfDraw_c k, spec_PairsOfDraw_c k, impl_LeftBehind_c k, spec_LeftBehind_c k, impl_IsDraw_c k, spec_IsDraw_c k, laws_zSame_c k, impl_CountSocks_c k, laws_zSum_c k, impl_AddSocks_c k, impl_DrawOfRank_c k, impl_CountDraws_c k, spec_DrawCountPairDraws_c k, impl_CountPairDraws_c k, spec_CountPairDraws_c k, spec_CountDraws_c k, spec_DrawDrawOfRank_c k, spec_DrawOfRank_c k, spec_DrawAddSocks_c k, spec_AddSocks_c k, spec_DrawSocksText_c k, impl_SocksText_c k, spec_SocksText_c k, spec_DrawParseSocks_c k, impl_ParseSocks_c k, spec_ParseSocks_c k, laws_zBefore_c k]) Tryz.func3 (by kernel_rfl) (show Tryz.f3.body = some (bodyX Tryz.f3) by rfl) (fun X hX => callT_at (TableOk.cons (laws_big_ok k) (TableOk.cons (spec_DrawRankOfDraw_ok k) (TableOk.cons (impl_RankOfDraw_ok k) (TableOk.cons (spec_RankOfDraw_ok k) (TableOk.cons (impl_PairsOfDraw_ok k) (TableOk.cons (spec_PairsOfDraw_ok k) (TableOk.cons (impl_LeftBehind_ok k) (TableOk.cons (spec_LeftBehind_ok k) (TableOk.cons (impl_IsDraw_ok k) (TableOk.cons (spec_IsDraw_ok k) (TableOk.cons (laws_zSame_ok k) (TableOk.cons (impl_CountSocks_ok k) (TableOk.cons (laws_zSum_ok k) (TableOk.cons (impl_AddSocks_ok k) (TableOk.cons (impl_DrawOfRank_ok k) (TableOk.cons (impl_CountDraws_ok k) (TableOk.cons (spec_DrawCountPairDraws_ok k) (TableOk.cons (impl_CountPairDraws_ok k) (TableOk.cons (spec_CountPairDraws_ok k) (TableOk.cons (spec_CountDraws_ok k) (TableOk.cons (spec_DrawDrawOfRank_ok k) (TableOk.cons (spec_DrawOfRank_ok k) (TableOk.cons (spec_DrawAddSocks_ok k) (TableOk.cons (spec_AddSocks_ok k) (TableOk.cons (spec_DrawSocksText_ok k) (TableOk.cons (impl_SocksText_ok k) (TableOk.cons (spec_SocksText_ok k) (TableOk.cons (spec_DrawParseSocks_ok k) (TableOk.cons (impl_ParseSocks_ok k) (TableOk.cons (spec_ParseSocks_ok k) (TableOk.cons (laws_zBefore_ok k) TableOk.nil))))))))))))))))))))))))))))))) X hX) (Nat.le_of_ble_eq_true (by kernel_rfl)) (fun ⟨p0, p1, _⟩ y h => by rw [← h]; exact laws_FnSocksDrawn_run k p0 p1)
end Go.Proofs.YtiagjdlnofalfaaGreatDoorV.Law
