/- The functions that a law reaches, as plain Lean functions; each is what the run of its code comes to. Printed by a program of this session. Conditions: none. -/
import Derived.Test.YtjdglbkjdfidoaaGreatDoorVaiNice
import Derived.Test.YtjdglbkjdfidoaaGreatDoorVaiText
import Derived.Shelf.LaysM
import Derived.Shelf.Strings.Search3
import Derived.Shelf.Strconv.Itoa3
import Derived.Shelf.Strings.OnBuilder
import Derived.Shelf.Strings.SlTrimAscii
import Derived.Lib.AtoiErrMem
import Derived.Shelf.LaysC
import Derived.Shelf.Strconv.AtoiAll
import Derived.Test.YtjdglbkjdfidoaaGreatDoorProg
import Derived.KernelRfl
namespace Go.Proofs.YtjdglbkjdfidoaaGreatDoorV.Law
set_option linter.unusedSimpArgs false
open Go.Proofs Go.Proofs.YtjdglbkjdfidoaaGreatDoorV
open Go.Shelf Go.Sort Go.RowKit Go.Lib
set_option maxRecDepth 1000000
set_option linter.unusedVariables false
abbrev GL : List Nat := [0]
def lay_lays143_ren : Go.Shelf.Ren := ⟨fun | 143 => 75 | 219 => 117 | 217 => 134 | 225 => 135 | 224 => 136 | 267 => 137 | 266 => 150 | 314 => 151 | n => n, fun | 9 => 9 | 3 => 3 | 4 => 4 | 5 => 5 | 46 => 100 | 146 => 114 | 51 => 113 | n => n, fun | 1 => 0 | n => n⟩
theorem lay_lays143 : Go.Proofs.Lays.n143 Tryz.prog lay_lays143_ren := {
  mixed := by kernel_rfl
  f143 := Tryz.func75.trans (congrArg some (by kernel_rfl))
  f217 := Tryz.func134.trans (congrArg some (by kernel_rfl))
  f219 := Tryz.func117.trans (congrArg some (by kernel_rfl))
  f224 := Tryz.func136.trans (congrArg some (by kernel_rfl))
  f225 := Tryz.func135.trans (congrArg some (by kernel_rfl))
  f266 := Tryz.func150.trans (congrArg some (by kernel_rfl))
  f267 := Tryz.func137.trans (congrArg some (by kernel_rfl))
  f314 := Tryz.func151.trans (congrArg some (by kernel_rfl))
  t3 := Tryz.underlying3
  a3 := Tryz.isAgg3
  z3 := Tryz.sizeOf3
  v3 := Tryz.zeroValue3
  t4 := Tryz.underlying4
  a4 := Tryz.isAgg4
  z4 := Tryz.sizeOf4
  v4 := Tryz.zeroValue4
  t5 := Tryz.underlying5
  a5 := Tryz.isAgg5
  z5 := Tryz.sizeOf5
  v5 := Tryz.zeroValue5
  t9 := Tryz.underlying9
  a9 := Tryz.isAgg9
  z9 := Tryz.sizeOf9
  v9 := Tryz.zeroValue9
  t46 := Tryz.underlying100
  a46 := Tryz.isAgg100
  z46 := Tryz.sizeOf100
  v46 := Tryz.zeroValue100
  t51 := Tryz.underlying113
  a51 := Tryz.isAgg113
  z51 := Tryz.sizeOf113
  v51 := Tryz.zeroValue113
  t146 := Tryz.underlying114
  a146 := Tryz.isAgg114
  z146 := Tryz.sizeOf114
  v146 := Tryz.zeroValue114
  g1 := by kernel_rfl }
open Go.RowKit Go.Lib in
theorem lay_strings_Index (s sub : ByteArray) (m : Int) (w : World) (hs : s.size < 4294967281) (hm : w.cell? ⟨0, 0, none⟩ = some (.int .i64 m)) :
    Calls Tryz.prog 75 #[.string s, .string sub] w fun e w' => e = .returned (.int .i64 (Lib.index s.data.toList sub.data.toList)) ∧ w' = w := Any.strings_Index lay_lays143 s sub m w hs hm

def lay_lays171_ren : Go.Shelf.Ren := ⟨fun | 171 => 118 | 243 => 138 | 246 => 152 | 283 => 165 | 284 => 166 | 285 => 167 | 286 => 168 | 129 => 179 | 317 => 178 | 318 => 180 | 319 => 181 | 320 => 182 | 337 => 185 | 338 => 186 | n => n, fun | 3 => 3 | 9 => 9 | 2 => 2 | 4 => 4 | 171 => 126 | 0 => 0 | 53 => 53 | 37 => 22 | 5 => 5 | 173 => 129 | 212 => 146 | 51 => 113 | 20 => 20 | 213 => 147 | 46 => 100 | 232 => 154 | 233 => 155 | n => n, fun | 17 => 5 | 18 => 6 | 19 => 7 | n => n⟩
theorem lay_lays171 : Go.Proofs.Lays.n171 Tryz.prog lay_lays171_ren := {
  mixed := by kernel_rfl
  f129 := Tryz.func179.trans (congrArg some (by kernel_rfl))
  f171 := Tryz.func118.trans (congrArg some (by kernel_rfl))
  f243 := Tryz.func138.trans (congrArg some (by kernel_rfl))
  f246 := Tryz.func152.trans (congrArg some (by kernel_rfl))
  f283 := Tryz.func165.trans (congrArg some (by kernel_rfl))
  f284 := Tryz.func166.trans (congrArg some (by kernel_rfl))
  f285 := Tryz.func167.trans (congrArg some (by kernel_rfl))
  f286 := Tryz.func168.trans (congrArg some (by kernel_rfl))
  f317 := Tryz.func178.trans (congrArg some (by kernel_rfl))
  f318 := Tryz.func180.trans (congrArg some (by kernel_rfl))
  f319 := Tryz.func181.trans (congrArg some (by kernel_rfl))
  f320 := Tryz.func182.trans (congrArg some (by kernel_rfl))
  f337 := Tryz.func185.trans (congrArg some (by kernel_rfl))
  f338 := Tryz.func186.trans (congrArg some (by kernel_rfl))
  t0 := Tryz.underlying0
  a0 := Tryz.isAgg0
  z0 := Tryz.sizeOf0
  v0 := Tryz.zeroValue0
  t2 := Tryz.underlying2
  a2 := Tryz.isAgg2
  z2 := Tryz.sizeOf2
  v2 := Tryz.zeroValue2
  t3 := Tryz.underlying3
  a3 := Tryz.isAgg3
  z3 := Tryz.sizeOf3
  v3 := Tryz.zeroValue3
  t4 := Tryz.underlying4
  a4 := Tryz.isAgg4
  z4 := Tryz.sizeOf4
  v4 := Tryz.zeroValue4
  t5 := Tryz.underlying5
  a5 := Tryz.isAgg5
  z5 := Tryz.sizeOf5
  v5 := Tryz.zeroValue5
  t9 := Tryz.underlying9
  a9 := Tryz.isAgg9
  z9 := Tryz.sizeOf9
  v9 := Tryz.zeroValue9
  t20 := Tryz.underlying20
  a20 := Tryz.isAgg20
  z20 := Tryz.sizeOf20
  v20 := Tryz.zeroValue20
  t37 := Tryz.underlying22
  a37 := Tryz.isAgg22
  z37 := Tryz.sizeOf22
  v37 := Tryz.zeroValue22
  t46 := Tryz.underlying100
  a46 := Tryz.isAgg100
  z46 := Tryz.sizeOf100
  v46 := Tryz.zeroValue100
  t51 := Tryz.underlying113
  a51 := Tryz.isAgg113
  z51 := Tryz.sizeOf113
  v51 := Tryz.zeroValue113
  t53 := Tryz.underlying53
  a53 := Tryz.isAgg53
  z53 := Tryz.sizeOf53
  v53 := Tryz.zeroValue53
  t171 := Tryz.underlying126
  a171 := Tryz.isAgg126
  z171 := Tryz.sizeOf126
  v171 := Tryz.zeroValue126
  t173 := Tryz.underlying129
  a173 := Tryz.isAgg129
  z173 := Tryz.sizeOf129
  v173 := Tryz.zeroValue129
  t212 := Tryz.underlying146
  a212 := Tryz.isAgg146
  z212 := Tryz.sizeOf146
  v212 := Tryz.zeroValue146
  t213 := Tryz.underlying147
  a213 := Tryz.isAgg147
  z213 := Tryz.sizeOf147
  t232 := Tryz.underlying154
  a232 := Tryz.isAgg154
  z232 := Tryz.sizeOf154
  v232 := Tryz.zeroValue154
  t233 := Tryz.underlying155
  a233 := Tryz.isAgg155
  z233 := Tryz.sizeOf155
  v233 := Tryz.zeroValue155
  g17 := by kernel_rfl
  g18 := by kernel_rfl
  g19 := by kernel_rfl }
open Go.RowKit Go.Sort Go.Lib in
theorem lay_strconv_Itoa_small (i : Nat) (hi : i < 100) (w : World) :
    Calls Tryz.prog 118 #[.int .i64 i] w fun e w' => e = .returned (.string ⟨(Lib.decDigits i).toArray⟩) ∧ w' = w := Any.strconv_Itoa_small lay_lays171 i hi w

def lay_lays156_ren : Go.Shelf.Ren := ⟨fun | 156 => 119 | 165 => 139 | 166 => 140 | 169 => 141 | 240 => 153 | 241 => 154 | 276 => 169 | 277 => 170 | n => n, fun | 31 => 81 | 9 => 9 | 3 => 3 | 4 => 4 | 0 => 0 | 20 => 20 | 72 => 104 | 76 => 93 | 70 => 102 | 37 => 22 | 75 => 92 | 127 => 117 | 164 => 131 | 5 => 5 | 80 => 106 | n => n, fun | n => n⟩
theorem lay_lays156 : Go.Proofs.Lays.n156 Tryz.prog lay_lays156_ren := {
  mixed := by kernel_rfl
  f156 := Tryz.func119.trans (congrArg some (by kernel_rfl))
  f165 := Tryz.func139.trans (congrArg some (by kernel_rfl))
  f166 := Tryz.func140.trans (congrArg some (by kernel_rfl))
  f169 := Tryz.func141.trans (congrArg some (by kernel_rfl))
  f240 := Tryz.func153.trans (congrArg some (by kernel_rfl))
  f241 := Tryz.func154.trans (congrArg some (by kernel_rfl))
  f276 := Tryz.func169.trans (congrArg some (by kernel_rfl))
  f277 := Tryz.func170.trans (congrArg some (by kernel_rfl))
  t0 := Tryz.underlying0
  a0 := Tryz.isAgg0
  z0 := Tryz.sizeOf0
  v0 := Tryz.zeroValue0
  t3 := Tryz.underlying3
  a3 := Tryz.isAgg3
  z3 := Tryz.sizeOf3
  v3 := Tryz.zeroValue3
  t4 := Tryz.underlying4
  a4 := Tryz.isAgg4
  z4 := Tryz.sizeOf4
  v4 := Tryz.zeroValue4
  t9 := Tryz.underlying9
  a9 := Tryz.isAgg9
  z9 := Tryz.sizeOf9
  v9 := Tryz.zeroValue9
  t20 := Tryz.underlying20
  a20 := Tryz.isAgg20
  z20 := Tryz.sizeOf20
  v20 := Tryz.zeroValue20
  t31 := Tryz.underlying81
  a31 := Tryz.isAgg81
  z31 := Tryz.sizeOf81
  v31 := Tryz.zeroValue81
  t37 := Tryz.underlying22
  a37 := Tryz.isAgg22
  z37 := Tryz.sizeOf22
  v37 := Tryz.zeroValue22
  t70 := Tryz.underlying102
  a70 := Tryz.isAgg102
  z70 := Tryz.sizeOf102
  v70 := Tryz.zeroValue102
  t72 := Tryz.underlying104
  a72 := Tryz.isAgg104
  z72 := Tryz.sizeOf104
  v72 := Tryz.zeroValue104
  t75 := Tryz.underlying92
  a75 := Tryz.isAgg92
  z75 := Tryz.sizeOf92
  v75 := Tryz.zeroValue92
  t76 := Tryz.underlying93
  a76 := Tryz.isAgg93
  z76 := Tryz.sizeOf93
  v76 := Tryz.zeroValue93
  t127 := Tryz.underlying117
  a127 := Tryz.isAgg117
  z127 := Tryz.sizeOf117
  v127 := Tryz.zeroValue117
  t164 := Tryz.underlying131
  a164 := Tryz.isAgg131
  z164 := Tryz.sizeOf131
  v164 := Tryz.zeroValue131 }
theorem lay_Builder_Extra_156 : Builder.Extra Tryz.prog lay_lays156_ren := {
  sizeBuilder := by kernel_rfl
  liesBuilder := by kernel_rfl
  t5 := Tryz.underlying5
  a5 := Tryz.isAgg5
  z5 := Tryz.sizeOf5
  v5 := Tryz.zeroValue5
  infoByte := by kernel_rfl
  cellsByte := by kernel_rfl
  sizeByte := by kernel_rfl
  neB5 := by decide }
open Go.RowKit in
theorem lay_strings_Join (bk o c : Nat) (xs : List ByteArray) (sep : ByteArray) (w : World) (hcells : ∀ (j : Nat) x, xs[j]? = some x → w.cell? ⟨bk, o + j, none⟩ = some (.string x)) (hbk : bk < w.heap.size) (hN : xs.length ≤ 140737488355328) (hcap : xs.length ≤ c) (hlen : (Lib.join (xs.map (·.data.toList)) sep.data.toList).length ≤ 140737488355328) :
    Calls Tryz.prog 119 #[.slice (some ⟨bk, o, none⟩) xs.length c, .string sep] w fun e w' => e = .returned (.string ⟨(Lib.join (xs.map (·.data.toList)) sep.data.toList).toArray⟩) ∧ Below w.heap.size w w' := Any.strings_Join lay_lays156 lay_Builder_Extra_156 bk o c xs sep w hcells hbk hN hcap hlen
theorem lay_strings_Join_none (a : Option Addr) (c : Nat) (sep : ByteArray) (w : World) :
    Calls Tryz.prog 119 #[.slice a 0 c, .string sep] w fun e w' => e = .returned (.string ⟨#[]⟩) ∧ w' = w := Any.strings_Join_none lay_lays156 lay_Builder_Extra_156 a c sep w

def lay_lays160_ren : Go.Shelf.Ren := ⟨fun | 160 => 85 | 232 => 122 | 231 => 121 | 227 => 123 | 234 => 125 | 233 => 124 | 236 => 127 | 235 => 126 | 228 => 142 | 271 => 145 | 151 => 144 | 197 => 143 | 120 => 157 | 152 => 156 | 260 => 155 | 137 => 171 | 119 => 172 | 224 => 136 | 225 => 135 | 217 => 134 | 266 => 150 | n => n, fun | 9 => 9 | 4 => 4 | 3 => 3 | 5 => 5 | 117 => 87 | 116 => 86 | 0 => 0 | 124 => 90 | 21 => 21 | 105 => 108 | 46 => 100 | 119 => 134 | 139 => 137 | 138 => 136 | n => n, fun | 3 => 1 | 4 => 2 | n => n⟩
theorem lay_lays160 : Go.Proofs.Lays.n160 Tryz.prog lay_lays160_ren := {
  mixed := by kernel_rfl
  f119 := Tryz.func172.trans (congrArg some (by kernel_rfl))
  f120 := Tryz.func157.trans (congrArg some (by kernel_rfl))
  f137 := Tryz.func171.trans (congrArg some (by kernel_rfl))
  f151 := Tryz.func144.trans (congrArg some (by kernel_rfl))
  f152 := Tryz.func156.trans (congrArg some (by kernel_rfl))
  f160 := Tryz.func85.trans (congrArg some (by kernel_rfl))
  f197 := Tryz.func143.trans (congrArg some (by kernel_rfl))
  f217 := Tryz.func134.trans (congrArg some (by kernel_rfl))
  f224 := Tryz.func136.trans (congrArg some (by kernel_rfl))
  f225 := Tryz.func135.trans (congrArg some (by kernel_rfl))
  f227 := Tryz.func123.trans (congrArg some (by kernel_rfl))
  f228 := Tryz.func142.trans (congrArg some (by kernel_rfl))
  f231 := Tryz.func121.trans (congrArg some (by kernel_rfl))
  f232 := Tryz.func122.trans (congrArg some (by kernel_rfl))
  f233 := Tryz.func124.trans (congrArg some (by kernel_rfl))
  f234 := Tryz.func125.trans (congrArg some (by kernel_rfl))
  f235 := Tryz.func126.trans (congrArg some (by kernel_rfl))
  f236 := Tryz.func127.trans (congrArg some (by kernel_rfl))
  f260 := Tryz.func155.trans (congrArg some (by kernel_rfl))
  f266 := Tryz.func150.trans (congrArg some (by kernel_rfl))
  f271 := Tryz.func145.trans (congrArg some (by kernel_rfl))
  t0 := Tryz.underlying0
  a0 := Tryz.isAgg0
  z0 := Tryz.sizeOf0
  v0 := Tryz.zeroValue0
  t3 := Tryz.underlying3
  a3 := Tryz.isAgg3
  z3 := Tryz.sizeOf3
  v3 := Tryz.zeroValue3
  t4 := Tryz.underlying4
  a4 := Tryz.isAgg4
  z4 := Tryz.sizeOf4
  v4 := Tryz.zeroValue4
  t5 := Tryz.underlying5
  a5 := Tryz.isAgg5
  z5 := Tryz.sizeOf5
  v5 := Tryz.zeroValue5
  t9 := Tryz.underlying9
  a9 := Tryz.isAgg9
  z9 := Tryz.sizeOf9
  v9 := Tryz.zeroValue9
  t21 := Tryz.underlying21
  a21 := Tryz.isAgg21
  z21 := Tryz.sizeOf21
  v21 := Tryz.zeroValue21
  t46 := Tryz.underlying100
  a46 := Tryz.isAgg100
  z46 := Tryz.sizeOf100
  v46 := Tryz.zeroValue100
  t105 := Tryz.underlying108
  a105 := Tryz.isAgg108
  z105 := Tryz.sizeOf108
  v105 := Tryz.zeroValue108
  t116 := Tryz.underlying86
  a116 := Tryz.isAgg86
  z116 := Tryz.sizeOf86
  t117 := Tryz.underlying87
  a117 := Tryz.isAgg87
  z117 := Tryz.sizeOf87
  v117 := Tryz.zeroValue87
  t119 := Tryz.underlying134
  a119 := Tryz.isAgg134
  z119 := Tryz.sizeOf134
  t124 := Tryz.underlying90
  a124 := Tryz.isAgg90
  z124 := Tryz.sizeOf90
  v124 := Tryz.zeroValue90
  t138 := Tryz.underlying136
  a138 := Tryz.isAgg136
  z138 := Tryz.sizeOf136
  v138 := Tryz.zeroValue136
  t139 := Tryz.underlying137
  a139 := Tryz.isAgg137
  z139 := Tryz.sizeOf137
  v139 := Tryz.zeroValue137
  g3 := by kernel_rfl
  g4 := by kernel_rfl }
theorem lay_strings_Trim_laid (s cutset : ByteArray) (w : World) (hs : s.size ≤ 9223372036854775807) (hcs : cutset.size < 4294967281) (hascii : ∀ (j : Nat) b, cutset.data.toList[j]? = some b → b.toNat < 128) :
    Calls Tryz.prog 85 #[.string s, .string cutset] w fun e w' => e = .returned (.string ⟨(Lib.trimS s.data.toList cutset.data.toList).toArray⟩) ∧ Below w.heap.size w w' := Any.strings_Trim_laid lay_lays160 (by kernel_rfl) s cutset w hs hcs hascii

def lay_laysC172_ren : Go.Shelf.Ren := ⟨fun | 172 => 128 | 244 => 146 | 245 => 147 | 247 => 158 | 279 => 159 | 280 => 160 | 281 => 161 | 282 => 162 | 287 => 173 | 316 => 174 | 171 => 118 | 205 => 175 | 321 => 183 | 322 => 184 | 243 => 138 | 246 => 152 | 283 => 165 | 284 => 166 | 285 => 167 | 286 => 168 | 129 => 179 | 317 => 178 | 318 => 180 | 319 => 181 | 320 => 182 | 337 => 185 | 338 => 186 | n => n, fun | 9 => 9 | 3 => 3 | 75 => 92 | 76 => 93 | 4 => 4 | 5 => 5 | 167 => 119 | 37 => 22 | 0 => 0 | 85 => 120 | 2 => 2 | 168 => 122 | 53 => 53 | 175 => 139 | 46 => 100 | 210 => 143 | 127 => 117 | 145 => 152 | 143 => 150 | 21 => 21 | 171 => 126 | 173 => 129 | 212 => 146 | 51 => 113 | 20 => 20 | 213 => 147 | 232 => 154 | 233 => 155 | 80 => 106 | n => n, fun | 15 => 3 | 16 => 4 | 17 => 5 | 18 => 6 | 19 => 7 | n => n⟩
theorem lay_laysC172 : Go.Proofs.LaysC.n172 Tryz.prog lay_laysC172_ren := {
  mixed := by kernel_rfl
  f129 := Tryz.func179.trans (congrArg some (by kernel_rfl))
  f171 := Tryz.func118.trans (congrArg some (by kernel_rfl))
  f172 := Tryz.func128.trans (congrArg some (by kernel_rfl))
  f205 := Tryz.func175.trans (congrArg some (by kernel_rfl))
  f243 := Tryz.func138.trans (congrArg some (by kernel_rfl))
  f244 := Tryz.func146.trans (congrArg some (by kernel_rfl))
  f245 := Tryz.func147.trans (congrArg some (by kernel_rfl))
  f246 := Tryz.func152.trans (congrArg some (by kernel_rfl))
  f247 := Tryz.func158.trans (congrArg some (by kernel_rfl))
  f279 := Tryz.func159.trans (congrArg some (by kernel_rfl))
  f280 := Tryz.func160.trans (congrArg some (by kernel_rfl))
  f281 := Tryz.func161.trans (congrArg some (by kernel_rfl))
  f282 := Tryz.func162.trans (congrArg some (by kernel_rfl))
  f283 := Tryz.func165.trans (congrArg some (by kernel_rfl))
  f284 := Tryz.func166.trans (congrArg some (by kernel_rfl))
  f285 := Tryz.func167.trans (congrArg some (by kernel_rfl))
  f286 := Tryz.func168.trans (congrArg some (by kernel_rfl))
  f287 := Tryz.func173.trans (congrArg some (by kernel_rfl))
  f316 := Tryz.func174.trans (congrArg some (by kernel_rfl))
  f317 := Tryz.func178.trans (congrArg some (by kernel_rfl))
  f318 := Tryz.func180.trans (congrArg some (by kernel_rfl))
  f319 := Tryz.func181.trans (congrArg some (by kernel_rfl))
  f320 := Tryz.func182.trans (congrArg some (by kernel_rfl))
  f321 := Tryz.func183.trans (congrArg some (by kernel_rfl))
  f322 := Tryz.func184.trans (congrArg some (by kernel_rfl))
  f337 := Tryz.func185.trans (congrArg some (by kernel_rfl))
  f338 := Tryz.func186.trans (congrArg some (by kernel_rfl))
  t0 := Tryz.underlying0
  a0 := Tryz.isAgg0
  z0 := Tryz.sizeOf0
  v0 := Tryz.zeroValue0
  t2 := Tryz.underlying2
  a2 := Tryz.isAgg2
  z2 := Tryz.sizeOf2
  v2 := Tryz.zeroValue2
  t3 := Tryz.underlying3
  a3 := Tryz.isAgg3
  z3 := Tryz.sizeOf3
  v3 := Tryz.zeroValue3
  t4 := Tryz.underlying4
  a4 := Tryz.isAgg4
  z4 := Tryz.sizeOf4
  v4 := Tryz.zeroValue4
  t5 := Tryz.underlying5
  a5 := Tryz.isAgg5
  z5 := Tryz.sizeOf5
  v5 := Tryz.zeroValue5
  t9 := Tryz.underlying9
  a9 := Tryz.isAgg9
  z9 := Tryz.sizeOf9
  v9 := Tryz.zeroValue9
  t20 := Tryz.underlying20
  a20 := Tryz.isAgg20
  z20 := Tryz.sizeOf20
  v20 := Tryz.zeroValue20
  t21 := Tryz.underlying21
  a21 := Tryz.isAgg21
  z21 := Tryz.sizeOf21
  v21 := Tryz.zeroValue21
  t37 := Tryz.underlying22
  a37 := Tryz.isAgg22
  z37 := Tryz.sizeOf22
  v37 := Tryz.zeroValue22
  t46 := Tryz.underlying100
  a46 := Tryz.isAgg100
  z46 := Tryz.sizeOf100
  v46 := Tryz.zeroValue100
  t51 := Tryz.underlying113
  a51 := Tryz.isAgg113
  z51 := Tryz.sizeOf113
  v51 := Tryz.zeroValue113
  t53 := Tryz.underlying53
  a53 := Tryz.isAgg53
  z53 := Tryz.sizeOf53
  v53 := Tryz.zeroValue53
  t75 := Tryz.underlying92
  a75 := Tryz.isAgg92
  z75 := Tryz.sizeOf92
  v75 := Tryz.zeroValue92
  t76 := Tryz.underlying93
  a76 := Tryz.isAgg93
  z76 := Tryz.sizeOf93
  v76 := Tryz.zeroValue93
  t85 := Tryz.underlying120
  a85 := Tryz.isAgg120
  z85 := Tryz.sizeOf120
  v85 := Tryz.zeroValue120
  t127 := Tryz.underlying117
  a127 := Tryz.isAgg117
  z127 := Tryz.sizeOf117
  v127 := Tryz.zeroValue117
  t143 := Tryz.underlying150
  a143 := Tryz.isAgg150
  z143 := Tryz.sizeOf150
  v143 := Tryz.zeroValue150
  t145 := Tryz.underlying152
  a145 := Tryz.isAgg152
  z145 := Tryz.sizeOf152
  v145 := Tryz.zeroValue152
  t167 := Tryz.underlying119
  a167 := Tryz.isAgg119
  z167 := Tryz.sizeOf119
  v167 := Tryz.zeroValue119
  t168 := Tryz.underlying122
  a168 := Tryz.isAgg122
  z168 := Tryz.sizeOf122
  v168 := Tryz.zeroValue122
  t171 := Tryz.underlying126
  a171 := Tryz.isAgg126
  z171 := Tryz.sizeOf126
  v171 := Tryz.zeroValue126
  t173 := Tryz.underlying129
  a173 := Tryz.isAgg129
  z173 := Tryz.sizeOf129
  v173 := Tryz.zeroValue129
  t175 := Tryz.underlying139
  a175 := Tryz.isAgg139
  z175 := Tryz.sizeOf139
  v175 := Tryz.zeroValue139
  t210 := Tryz.underlying143
  a210 := Tryz.isAgg143
  z210 := Tryz.sizeOf143
  v210 := Tryz.zeroValue143
  t212 := Tryz.underlying146
  a212 := Tryz.isAgg146
  z212 := Tryz.sizeOf146
  v212 := Tryz.zeroValue146
  t213 := Tryz.underlying147
  a213 := Tryz.isAgg147
  z213 := Tryz.sizeOf147
  t232 := Tryz.underlying154
  a232 := Tryz.isAgg154
  z232 := Tryz.sizeOf154
  v232 := Tryz.zeroValue154
  t233 := Tryz.underlying155
  a233 := Tryz.isAgg155
  z233 := Tryz.sizeOf155
  v233 := Tryz.zeroValue155
  g15 := by kernel_rfl
  g16 := by kernel_rfl
  g17 := by kernel_rfl
  g18 := by kernel_rfl
  g19 := by kernel_rfl
  t80 := Tryz.underlying106
  a80 := Tryz.isAgg106
  z80 := Tryz.sizeOf106
  v80 := Tryz.zeroValue106
  i0 := by kernel_rfl
  i2 := by kernel_rfl
  i3 := by kernel_rfl
  i4 := by kernel_rfl
  i5 := by kernel_rfl
  i9 := by kernel_rfl
  i20 := by kernel_rfl
  i21 := by kernel_rfl
  i37 := by kernel_rfl
  i46 := by kernel_rfl
  i51 := by kernel_rfl
  i53 := by kernel_rfl
  i75 := by kernel_rfl
  i76 := by kernel_rfl
  i80 := by kernel_rfl
  i85 := by kernel_rfl
  i127 := by kernel_rfl
  i143 := by kernel_rfl
  i145 := by kernel_rfl
  i167 := by kernel_rfl
  i168 := by kernel_rfl
  i171 := by kernel_rfl
  i173 := by kernel_rfl
  i175 := by kernel_rfl
  i210 := by kernel_rfl
  i212 := by kernel_rfl
  i232 := by kernel_rfl
  i233 := by kernel_rfl
  m15 := by kernel_rfl
  m16 := by kernel_rfl
  m17 := by kernel_rfl
  m18 := by kernel_rfl
  m19 := by kernel_rfl
  c0 := by kernel_rfl
  c2 := by kernel_rfl
  c3 := by kernel_rfl
  c4 := by kernel_rfl
  c5 := by kernel_rfl
  c9 := by kernel_rfl
  c20 := by kernel_rfl
  c21 := by kernel_rfl
  c37 := by kernel_rfl
  c46 := by kernel_rfl
  c51 := by kernel_rfl
  c53 := by kernel_rfl
  c75 := by kernel_rfl
  c76 := by kernel_rfl
  c80 := by kernel_rfl
  c85 := by kernel_rfl
  c127 := by kernel_rfl
  c143 := by kernel_rfl
  c145 := by kernel_rfl
  c167 := by kernel_rfl
  c168 := by kernel_rfl
  c171 := by kernel_rfl
  c173 := by kernel_rfl
  c175 := by kernel_rfl
  c210 := by kernel_rfl
  c212 := by kernel_rfl
  c213 := by kernel_rfl
  c232 := by kernel_rfl
  c233 := by kernel_rfl }
theorem lay_strconv_Atoi_ok (s : ByteArray) (hmax : s.size ≤ 9223372036854775806) (v : Int) (h : Lib.atoiAll s.data.toList = .ok v) (w : World) :
    Calls Tryz.prog 128 #[.string s] w fun e w' => e = .returned (.tuple #[.int .i64 v, .nilIface]) ∧ (w' = w ∨ ∃ t, w' = Lib.bytesWorld w 5 t) := Any.strconv_Atoi_ok lay_laysC172 s hmax v h w

noncomputable def laws_big_f (k : Nat) (p0 : (List Int)) (p1 : (List Int)) : Option ((Bool × Unit) × Unit) :=
  (met (cond (decide (((List.length p0 : Nat) : Int) > 1048576)) (some (.inl (true, ()))) (some (.inl ((decide (((List.length p1 : Nat) : Int) > (iw (1048576 - ((List.length p0 : Nat) : Int))))), ())))) (fun j1 => (some ((j1.1, ()), ()))))
noncomputable def laws_big_a : Ann := (.q .o (.q (.r [(4, 100256, .v .bool)]) .o))
theorem laws_big_run (k : Nat) (p0 : (List Int)) (p1 : (List Int)) : funX Tryz.prog (callT []) k Tryz.f5 laws_big_a [.v (.slc 5 (.int .u8)), .v (.slc 5 (.int .u8))] [.v .bool] (p0, p1, ()) = laws_big_f k p0 p1 := by kernel_rfl
noncomputable def laws_big_c (k : Nat) : Con := ⟨5, [.v (.slc 5 (.int .u8)), .v (.slc 5 (.int .u8))], [.v .bool], fun x => laws_big_f k x.1 x.2.1⟩
theorem laws_big_ok (k : Nat) : (laws_big_c k).Sound Tryz.prog GL := con_ok (k := k) (fn := Tryz.f5) (A := laws_big_a) (C := callT []) Tryz.func5 (by kernel_rfl) (show Tryz.f5.body = some (bodyX Tryz.f5) by rfl) (fun X hX => callT_at TableOk.nil X hX) (Nat.le_of_ble_eq_true (by kernel_rfl)) (fun ⟨p0, p1, _⟩ y h => by rw [← h]; exact laws_big_run k p0 p1)
noncomputable def spec_l1Cur_next_f (k : Nat) (p0 : ((List Int) × Int × Int × Unit)) : Option ((Int × Unit) × (((List Int) × Int × Int × Unit) × Unit)) :=
  (met (cond (decide (p0.2.1 < ((List.length p0.1 : Nat) : Int))) (ixk p0.2.1 (List.length p0.1) (some (.inl ((p0.1, p0.2.1, p0.2.2.1, ()), (iw ((rd p0.1 p0.2.1))), ())))) (some (.inl ((p0.1, p0.2.1, p0.2.2.1, ()), 0, ())))) (fun j1 => (cond (decide ((iw (j1.1.2.1 + 1)) ≤ ((List.length j1.1.1 : Nat) : Int))) (some ((j1.2.1, ()), ((j1.1.1, (iw (j1.1.2.1 + 1)), (IntKind.wrap .u64 ((IntKind.wrap .u64 ((IntKind.wrap .u64 (j1.1.2.2.1 * 6364136223846793005)) + (IntKind.wrap .u64 (j1.2.1)))) + 1442695040888963407)), ()), ()))) (some (((iw ((andI .u64 (shrI .u64 (IntKind.wrap .u64 ((IntKind.wrap .u64 ((IntKind.wrap .u64 (j1.1.2.2.1 * 6364136223846793005)) + (IntKind.wrap .u64 (j1.2.1)))) + 1442695040888963407)) 40) 255))), ()), ((j1.1.1, (iw (j1.1.2.1 + 1)), (IntKind.wrap .u64 ((IntKind.wrap .u64 ((IntKind.wrap .u64 (j1.1.2.2.1 * 6364136223846793005)) + (IntKind.wrap .u64 (j1.2.1)))) + 1442695040888963407)), ()), ()))))))
noncomputable def spec_l1Cur_next_a : Ann := (.q .o (.q .o (.q (.q .o (.j [(0, 3000000, .box true [.v (.slc 5 (.int .u8)), .v (.int .i64), .v (.int .u64)]), (3, 100192, .v (.int .i64))] (.e [] [11]) .o)) .o)))
theorem spec_l1Cur_next_run (k : Nat) (p0 : ((List Int) × Int × Int × Unit)) : funX Tryz.prog (callT []) k Tryz.f115 spec_l1Cur_next_a [.box true [.v (.slc 5 (.int .u8)), .v (.int .i64), .v (.int .u64)]] [.v (.int .i64)] (p0, ()) = spec_l1Cur_next_f k p0 := by kernel_rfl
noncomputable def spec_l1Cur_next_c (k : Nat) : Con := ⟨115, [.box true [.v (.slc 5 (.int .u8)), .v (.int .i64), .v (.int .u64)]], [.v (.int .i64)], fun x => spec_l1Cur_next_f k x.1⟩
theorem spec_l1Cur_next_ok (k : Nat) : (spec_l1Cur_next_c k).Sound Tryz.prog GL := con_ok (k := k) (fn := Tryz.f115) (A := spec_l1Cur_next_a) (C := callT []) Tryz.func115 (by kernel_rfl) (show Tryz.f115.body = some (bodyX Tryz.f115) by rfl) (fun X hX => callT_at TableOk.nil X hX) (Nat.le_of_ble_eq_true (by kernel_rfl)) (fun ⟨p0, _⟩ y h => by rw [← h]; exact spec_l1Cur_next_run k p0)
noncomputable def spec_l1Cur_pick_f (k : Nat) (p0 : ((List Int) × Int × Int × Unit)) (p1 : Int) : Option ((Int × Unit) × (((List Int) × Int × Int × Unit) × Unit)) :=
  (cond (decide (p1 ≤ 1)) (some ((0, ()), ((p0.1, p0.2.1, p0.2.2.1, ()), ()))) (Option.bind (spec_l1Cur_next_f k (p0.1, p0.2.1, p0.2.2.1, ())) (fun y9 => (met (cond (decide (p1 > 200)) (Option.bind (spec_l1Cur_next_f k (y9.2.1.1, y9.2.1.2.1, y9.2.1.2.2.1, ())) (fun y15 => (some (.inl ((y15.2.1.1, y15.2.1.2.1, y15.2.1.2.2.1, ()), (iw ((iw (y9.1.1 * 256)) + y15.1.1)), ()))))) (some (.inl ((y9.2.1.1, y9.2.1.2.1, y9.2.1.2.2.1, ()), y9.1.1, ())))) (fun j1 => (chk (!(p1 == 0)) (some (((Int.tmod j1.2.1 p1), ()), ((j1.1.1, j1.1.2.1, j1.1.2.2.1, ()), ())))))))))
noncomputable def spec_l1Cur_pick_a : Ann := (.q .o (.q .o (.q .o (.q (.q .o (.j [(0, 3000000, .box true [.v (.slc 5 (.int .u8)), .v (.int .i64), .v (.int .u64)]), (5, 100320, .v (.int .i64))] .o .o)) .o))))
theorem spec_l1Cur_pick_run (k : Nat) (p0 : ((List Int) × Int × Int × Unit)) (p1 : Int) : funX Tryz.prog (callT [spec_l1Cur_next_c k]) k Tryz.f62 spec_l1Cur_pick_a [.box true [.v (.slc 5 (.int .u8)), .v (.int .i64), .v (.int .u64)], .v (.int .i64)] [.v (.int .i64)] (p0, p1, ()) = spec_l1Cur_pick_f k p0 p1 := by kernel_rfl
noncomputable def spec_l1Cur_pick_c (k : Nat) : Con := ⟨62, [.box true [.v (.slc 5 (.int .u8)), .v (.int .i64), .v (.int .u64)], .v (.int .i64)], [.v (.int .i64)], fun x => spec_l1Cur_pick_f k x.1 x.2.1⟩
theorem spec_l1Cur_pick_ok (k : Nat) : (spec_l1Cur_pick_c k).Sound Tryz.prog GL := con_ok (k := k) (fn := Tryz.f62) (A := spec_l1Cur_pick_a) (C := callT [spec_l1Cur_next_c k]) Tryz.func62 (by kernel_rfl) (show Tryz.f62.body = some (bodyX Tryz.f62) by rfl) (fun X hX => callT_at (TableOk.cons (spec_l1Cur_next_ok k) TableOk.nil) X hX) (Nat.le_of_ble_eq_true (by kernel_rfl)) (fun ⟨p0, p1, _⟩ y h => by rw [← h]; exact spec_l1Cur_pick_run k p0 p1)
noncomputable def spec_l1Own_f (k : Nat) (p0 : (List Int)) : Option (((List Int) × Unit) × Unit) :=
  (chk (decide (0 + List.length p0 ≤ 15637498706147)) (some ((p0, ()), ())))
noncomputable def spec_l1Own_a : Ann := .o
theorem spec_l1Own_run (k : Nat) (p0 : (List Int)) : funX Tryz.prog (callT []) k Tryz.f109 spec_l1Own_a [.v (.slc 3 (.int .i64))] [.own false 3 (.int .i64)] (p0, ()) = spec_l1Own_f k p0 := by kernel_rfl
noncomputable def spec_l1Own_c (k : Nat) : Con := ⟨109, [.v (.slc 3 (.int .i64))], [.own false 3 (.int .i64)], fun x => spec_l1Own_f k x.1⟩
theorem spec_l1Own_ok (k : Nat) : (spec_l1Own_c k).Sound Tryz.prog GL := con_ok (k := k) (fn := Tryz.f109) (A := spec_l1Own_a) (C := callT []) Tryz.func109 (by kernel_rfl) (show Tryz.f109.body = some (bodyX Tryz.f109) by rfl) (fun X hX => callT_at TableOk.nil X hX) (Nat.le_of_ble_eq_true (by kernel_rfl)) (fun ⟨p0, _⟩ y h => by rw [← h]; exact spec_l1Own_run k p0)
noncomputable def spec_l1Cur_surePile_l1_b (k : Nat) (y9 : ((Int × Unit) × (((List Int) × Int × Int × Unit) × Unit))) (rec : ((List Int) × Int × Int × Unit) → (List Int) → Int → Option ((((List Int) × Int × Int × Unit) × (List Int) × Unit) ⊕ (((List Int) × Unit) × (((List Int) × Int × Int × Unit) × Unit)))) (x0 : ((List Int) × Int × Int × Unit)) (x3 : (List Int)) (x5 : Int) : Option ((((List Int) × Int × Int × Unit) × (List Int) × Unit) ⊕ (((List Int) × Unit) × (((List Int) × Int × Int × Unit) × Unit))) :=
  (cond (decide (x5 < (iw (2 * (iw (1 + y9.1.1)))))) (Option.bind (spec_l1Cur_pick_f k (x0.1, x0.2.1, x0.2.2.1, ()) (iw (((List.length x3 : Nat) : Int) + 1))) (fun y21 => (chk (decide (0 ≤ y21.1.1)) (chk (decide (y21.1.1 ≤ ((List.length x3 : Nat) : Int))) (Option.bind (spec_l1Own_f k (List.take (Int.toNat y21.1.1) x3)) (fun y25 => (chk (decide (List.length y25.1.1 + List.length [(iw (Int.tdiv x5 2))] ≤ 15637498706147)) (chk (decide (0 ≤ y21.1.1)) (chk (decide (y21.1.1 ≤ ((List.length x3 : Nat) : Int))) (chk (decide (List.length (y25.1.1 ++ [(iw (Int.tdiv x5 2))]) + List.length (List.drop (Int.toNat y21.1.1) x3) ≤ 15637498706147)) (rec (y21.2.1.1, y21.2.1.2.1, y21.2.1.2.2.1, ()) ((y25.1.1 ++ [(iw (Int.tdiv x5 2))]) ++ (List.drop (Int.toNat y21.1.1) x3)) (iw (x5 + 1))))))))))))) (some (.inl ((x0.1, x0.2.1, x0.2.2.1, ()), x3, ()))))
noncomputable def spec_l1Cur_surePile_l1 (k : Nat) (y9 : ((Int × Unit) × (((List Int) × Int × Int × Unit) × Unit))) (x0 : ((List Int) × Int × Int × Unit)) (x3 : (List Int)) (x5 : Int) : Option ((((List Int) × Int × Int × Unit) × (List Int) × Unit) ⊕ (((List Int) × Unit) × (((List Int) × Int × Int × Unit) × Unit))) := iter k (fun (rec : (((List Int) × Int × Int × Unit) × (List Int) × Int × Unit) → Option ((((List Int) × Int × Int × Unit) × (List Int) × Unit) ⊕ (((List Int) × Unit) × (((List Int) × Int × Int × Unit) × Unit)))) (x : (((List Int) × Int × Int × Unit) × (List Int) × Int × Unit)) => spec_l1Cur_surePile_l1_b k y9 (fun x0 x3 x5 => rec (x0, x3, x5, ())) x.1 x.2.1 x.2.2.1) (x0, x3, x5, ())
noncomputable def spec_l1Cur_surePile_f (k : Nat) (p0 : ((List Int) × Int × Int × Unit)) : Option (((List Int) × Unit) × (((List Int) × Int × Int × Unit) × Unit)) :=
  (Option.bind (spec_l1Cur_pick_f k (p0.1, p0.2.1, p0.2.2.1, ()) 5) (fun y9 => (met (spec_l1Cur_surePile_l1 k y9 (y9.2.1.1, y9.2.1.2.1, y9.2.1.2.2.1, ()) [] 0) (fun j2 => (some ((j2.2.1, ()), ((j2.1.1, j2.1.2.1, j2.1.2.2.1, ()), ())))))))
noncomputable def spec_l1Cur_surePile_a : Ann := (.q .o (.q .o (.q .o (.q (.q .o (.m [(0, 3000000, .box true [.v (.slc 5 (.int .u8)), .v (.int .i64), .v (.int .u64)]), (3, 100192, .own false 3 (.int .i64))] (.l [(0, 3000000, .box true [.v (.slc 5 (.int .u8)), .v (.int .i64), .v (.int .u64)]), (3, 100192, .own false 3 (.int .i64)), (5, 100320, .v (.int .i64))] (.q .o (.q (.b (.q .o (.q (.z [3] .o) .o))) .o))))) .o))))
theorem spec_l1Cur_surePile_run (k : Nat) (p0 : ((List Int) × Int × Int × Unit)) : funX Tryz.prog (callT [spec_l1Cur_pick_c k, spec_l1Own_c k]) k Tryz.f88 spec_l1Cur_surePile_a [.box true [.v (.slc 5 (.int .u8)), .v (.int .i64), .v (.int .u64)]] [.own false 3 (.int .i64)] (p0, ()) = spec_l1Cur_surePile_f k p0 := by kernel_rfl
noncomputable def spec_l1Cur_surePile_c (k : Nat) : Con := ⟨88, [.box true [.v (.slc 5 (.int .u8)), .v (.int .i64), .v (.int .u64)]], [.own false 3 (.int .i64)], fun x => spec_l1Cur_surePile_f k x.1⟩
theorem spec_l1Cur_surePile_ok (k : Nat) : (spec_l1Cur_surePile_c k).Sound Tryz.prog GL := con_ok (k := k) (fn := Tryz.f88) (A := spec_l1Cur_surePile_a) (C := callT [spec_l1Cur_pick_c k, spec_l1Own_c k]) Tryz.func88 (by kernel_rfl) (show Tryz.f88.body = some (bodyX Tryz.f88) by rfl) (fun X hX => callT_at (TableOk.cons (spec_l1Cur_pick_ok k) (TableOk.cons (spec_l1Own_ok k) TableOk.nil)) X hX) (Nat.le_of_ble_eq_true (by kernel_rfl)) (fun ⟨p0, _⟩ y h => by rw [← h]; exact spec_l1Cur_surePile_run k p0)
noncomputable def spec_l1Cur_among_f (k : Nat) (p0 : ((List Int) × Int × Int × Unit)) (p1 : (List Int)) : Option ((Int × Unit) × (((List Int) × Int × Int × Unit) × Unit)) :=
  (Option.bind (spec_l1Cur_pick_f k (p0.1, p0.2.1, p0.2.2.1, ()) ((List.length p1 : Nat) : Int)) (fun y9 => (ixk y9.1.1 (List.length p1) (some (((rd p1 y9.1.1), ()), ((y9.2.1.1, y9.2.1.2.1, y9.2.1.2.2.1, ()), ()))))))
noncomputable def spec_l1Cur_among_a : Ann := .o
theorem spec_l1Cur_among_run (k : Nat) (p0 : ((List Int) × Int × Int × Unit)) (p1 : (List Int)) : funX Tryz.prog (callT [spec_l1Cur_pick_c k]) k Tryz.f114 spec_l1Cur_among_a [.box true [.v (.slc 5 (.int .u8)), .v (.int .i64), .v (.int .u64)], .v (.slc 3 (.int .i64))] [.v (.int .i64)] (p0, p1, ()) = spec_l1Cur_among_f k p0 p1 := by kernel_rfl
noncomputable def spec_l1Cur_among_c (k : Nat) : Con := ⟨114, [.box true [.v (.slc 5 (.int .u8)), .v (.int .i64), .v (.int .u64)], .v (.slc 3 (.int .i64))], [.v (.int .i64)], fun x => spec_l1Cur_among_f k x.1 x.2.1⟩
theorem spec_l1Cur_among_ok (k : Nat) : (spec_l1Cur_among_c k).Sound Tryz.prog GL := con_ok (k := k) (fn := Tryz.f114) (A := spec_l1Cur_among_a) (C := callT [spec_l1Cur_pick_c k]) Tryz.func114 (by kernel_rfl) (show Tryz.f114.body = some (bodyX Tryz.f114) by rfl) (fun X hX => callT_at (TableOk.cons (spec_l1Cur_pick_ok k) TableOk.nil) X hX) (Nat.le_of_ble_eq_true (by kernel_rfl)) (fun ⟨p0, p1, _⟩ y h => by rw [← h]; exact spec_l1Cur_among_run k p0 p1)
noncomputable def spec_l1Cur_pile_f (k : Nat) (p0 : ((List Int) × Int × Int × Unit)) : Option (((List Int) × Unit) × (((List Int) × Int × Int × Unit) × Unit)) :=
  (Option.bind (spec_l1Cur_surePile_f k (p0.1, p0.2.1, p0.2.2.1, ())) (fun y5 => (Option.bind (spec_l1Cur_pick_f k (y5.2.1.1, y5.2.1.2.1, y5.2.1.2.2.1, ()) 14) (fun y7 => (met (met (cond (y7.1.1 == 0) (some (.inr (.inr (([], ()), ((y7.2.1.1, y7.2.1.2.1, y7.2.1.2.2.1, ()), ()))))) (met (cond (y7.1.1 == 1) (Option.bind (spec_l1Cur_among_f k (y7.2.1.1, y7.2.1.2.1, y7.2.1.2.2.1, ()) [(-1), 0, 1, 9, 4611686018427387904]) (fun y15 => (chk (decide ((0 : Int) < ((List.length y5.1.1 : Nat) : Int))) (some (.inl ((y15.2.1.1, y15.2.1.2.1, y15.2.1.2.2.1, ()), (setI y5.1.1 0 y15.1.1), ())))))) (met (cond (y7.1.1 == 2) (chk (decide (List.length y5.1.1 + List.length [0] ≤ 15637498706147)) (some (.inl ((y7.2.1.1, y7.2.1.2.1, y7.2.1.2.2.1, ()), (y5.1.1 ++ [0]), ())))) (some (.inl ((y7.2.1.1, y7.2.1.2.1, y7.2.1.2.2.1, ()), y5.1.1, ())))) (fun j1 => (some (.inl ((j1.1.1, j1.1.2.1, j1.1.2.2.1, ()), j1.2.1, ())))))) (fun j2 => (some (.inl ((j2.1.1, j2.1.2.1, j2.1.2.2.1, ()), j2.2.1, ())))))) (fun j3 => (some (.inl ((j3.1.1, j3.1.2.1, j3.1.2.2.1, ()), j3.2.1, ()))))) (fun j4 => (some ((j4.2.1, ()), ((j4.1.1, j4.1.2.1, j4.1.2.2.1, ()), ())))))))))
noncomputable def spec_l1Cur_pile_a : Ann := (.q .o (.q .o (.q (.q .o (.m [(0, 3000000, .box true [.v (.slc 5 (.int .u8)), .v (.int .i64), .v (.int .u64)]), (3, 100192, .own false 3 (.int .i64))] (.q .o (.j [(0, 3000000, .box true [.v (.slc 5 (.int .u8)), .v (.int .i64), .v (.int .u64)]), (3, 100192, .own false 3 (.int .i64))] .o (.q .o (.j [(0, 3000000, .box true [.v (.slc 5 (.int .u8)), .v (.int .i64), .v (.int .u64)]), (3, 100192, .own false 3 (.int .i64))] .o (.q .o (.j [(0, 3000000, .box true [.v (.slc 5 (.int .u8)), .v (.int .i64), .v (.int .u64)]), (3, 100192, .own false 3 (.int .i64))] .o .o)))))))) .o)))
theorem spec_l1Cur_pile_run (k : Nat) (p0 : ((List Int) × Int × Int × Unit)) : funX Tryz.prog (callT [spec_l1Cur_surePile_c k, spec_l1Cur_pick_c k, spec_l1Cur_among_c k]) k Tryz.f61 spec_l1Cur_pile_a [.box true [.v (.slc 5 (.int .u8)), .v (.int .i64), .v (.int .u64)]] [.own false 3 (.int .i64)] (p0, ()) = spec_l1Cur_pile_f k p0 := by kernel_rfl
noncomputable def spec_l1Cur_pile_c (k : Nat) : Con := ⟨61, [.box true [.v (.slc 5 (.int .u8)), .v (.int .i64), .v (.int .u64)]], [.own false 3 (.int .i64)], fun x => spec_l1Cur_pile_f k x.1⟩
theorem spec_l1Cur_pile_ok (k : Nat) : (spec_l1Cur_pile_c k).Sound Tryz.prog GL := con_ok (k := k) (fn := Tryz.f61) (A := spec_l1Cur_pile_a) (C := callT [spec_l1Cur_surePile_c k, spec_l1Cur_pick_c k, spec_l1Cur_among_c k]) Tryz.func61 (by kernel_rfl) (show Tryz.f61.body = some (bodyX Tryz.f61) by rfl) (fun X hX => callT_at (TableOk.cons (spec_l1Cur_surePile_ok k) (TableOk.cons (spec_l1Cur_pick_ok k) (TableOk.cons (spec_l1Cur_among_ok k) TableOk.nil))) X hX) (Nat.le_of_ble_eq_true (by kernel_rfl)) (fun ⟨p0, _⟩ y h => by rw [← h]; exact spec_l1Cur_pile_run k p0)
noncomputable def spec_DrawMatchedBehind_f (k : Nat) (p0 : (List Int)) : Option (((List Int) × Int × Unit) × Unit) :=
  (Option.bind (spec_l1Cur_pile_f k (p0, 0, 0, ())) (fun y10 => (Option.bind (spec_l1Cur_pick_f k (y10.2.1.1, y10.2.1.2.1, y10.2.1.2.2.1, ()) (iw (((List.length y10.1.1 : Nat) : Int) + 3))) (fun y16 => (some ((y10.1.1, (iw (y16.1.1 - 1)), ()), ()))))))
noncomputable def spec_DrawMatchedBehind_a : Ann := .o
theorem spec_DrawMatchedBehind_run (k : Nat) (p0 : (List Int)) : funX Tryz.prog (callT [spec_l1Cur_pile_c k, spec_l1Cur_pick_c k]) k Tryz.f6 spec_DrawMatchedBehind_a [.v (.slc 5 (.int .u8))] [.own false 3 (.int .i64), .v (.int .i64)] (p0, ()) = spec_DrawMatchedBehind_f k p0 := by kernel_rfl
noncomputable def spec_DrawMatchedBehind_c (k : Nat) : Con := ⟨6, [.v (.slc 5 (.int .u8))], [.own false 3 (.int .i64), .v (.int .i64)], fun x => spec_DrawMatchedBehind_f k x.1⟩
theorem spec_DrawMatchedBehind_ok (k : Nat) : (spec_DrawMatchedBehind_c k).Sound Tryz.prog GL := con_ok (k := k) (fn := Tryz.f6) (A := spec_DrawMatchedBehind_a) (C := callT [spec_l1Cur_pile_c k, spec_l1Cur_pick_c k]) Tryz.func6 (by kernel_rfl) (show Tryz.f6.body = some (bodyX Tryz.f6) by rfl) (fun X hX => callT_at (TableOk.cons (spec_l1Cur_pile_ok k) (TableOk.cons (spec_l1Cur_pick_ok k) TableOk.nil)) X hX) (Nat.le_of_ble_eq_true (by kernel_rfl)) (fun ⟨p0, _⟩ y h => by rw [← h]; exact spec_DrawMatchedBehind_run k p0)
noncomputable def impl_within_f (k : Nat) (p0 : Int) (p1 : Int) (p2 : Int) : Option ((Bool × Unit) × Unit) :=
  (met (cond (decide (p1 ≤ p0)) (some (.inl ((decide (p0 ≤ p2)), ()))) (some (.inl (false, ())))) (fun j1 => (some ((j1.1, ()), ()))))
noncomputable def impl_within_a : Ann := (.q .o (.q (.r [(6, 100384, .v .bool)]) .o))
theorem impl_within_run (k : Nat) (p0 : Int) (p1 : Int) (p2 : Int) : funX Tryz.prog (callT []) k Tryz.f63 impl_within_a [.v (.int .i64), .v (.int .i64), .v (.int .i64)] [.v .bool] (p0, p1, p2, ()) = impl_within_f k p0 p1 p2 := by kernel_rfl
noncomputable def impl_within_c (k : Nat) : Con := ⟨63, [.v (.int .i64), .v (.int .i64), .v (.int .i64)], [.v .bool], fun x => impl_within_f k x.1 x.2.1 x.2.2.1⟩
theorem impl_within_ok (k : Nat) : (impl_within_c k).Sound Tryz.prog GL := con_ok (k := k) (fn := Tryz.f63) (A := impl_within_a) (C := callT []) Tryz.func63 (by kernel_rfl) (show Tryz.f63.body = some (bodyX Tryz.f63) by rfl) (fun X hX => callT_at TableOk.nil X hX) (Nat.le_of_ble_eq_true (by kernel_rfl)) (fun ⟨p0, p1, p2, _⟩ y h => by rw [← h]; exact impl_within_run k p0 p1 p2)
noncomputable def impl_times_l1_b (k : Nat) (p0 : Int) (p1 : (List Int)) (rec : (List Int) → Int → Option (((List Int) × Unit) ⊕ (((List Int) × Bool × Unit) × Unit))) (x6 : (List Int)) (x13 : Int) : Option (((List Int) × Unit) ⊕ (((List Int) × Bool × Unit) × Unit)) :=
  (cond (decide (x13 < ((List.length p1 : Nat) : Int))) (ixk x13 (List.length p1) (met (Option.bind (impl_within_f k (rd p1 x13) 0 (iw (p0 - 1))) (fun y20 => (cond (!y20.1.1) (some (.inl (x6, true, ()))) (ixk (rd p1 x13) (List.length x6) (some (.inl (x6, ((rd x6 (rd p1 x13)) == 2), ()))))))) (fun j2 => (cond j2.2.1 (some (.inr (([], false, ()), ()))) (ixk (rd p1 x13) (List.length j2.1) (ixk (rd p1 x13) (List.length j2.1) (rec (setI j2.1 (rd p1 x13) (iw ((rd j2.1 (rd p1 x13)) + 1))) (iw (x13 + 1))))))))) (some (.inl (x6, ()))))
noncomputable def impl_times_l1 (k : Nat) (p0 : Int) (p1 : (List Int)) (x6 : (List Int)) (x13 : Int) : Option (((List Int) × Unit) ⊕ (((List Int) × Bool × Unit) × Unit)) := iter k (fun (rec : ((List Int) × Int × Unit) → Option (((List Int) × Unit) ⊕ (((List Int) × Bool × Unit) × Unit))) (x : ((List Int) × Int × Unit)) => impl_times_l1_b k p0 p1 (fun x6 x13 => rec (x6, x13, ())) x.1 x.2.1) (x6, x13, ())
noncomputable def impl_times_f (k : Nat) (p0 : Int) (p1 : (List Int)) : Option (((List Int) × Bool × Unit) × Unit) :=
  (chk (decide ((0 : Int) ≤ p0)) (chk (decide (p0 ≤ ((15637498706147 : Nat) : Int))) (met (impl_times_l1 k p0 p1 (List.replicate (Int.toNat p0) (0 : Int)) 0) (fun j3 => (some ((j3.1, true, ()), ()))))))
noncomputable def impl_times_a : Ann := (.q .o (.q .o (.q (.q .o (.m [(6, 100384, .own false 3 (.int .i64))] (.l [(6, 100384, .own false 3 (.int .i64)), (13, 100832, .v (.int .i64))] (.q .o (.q .o (.q (.b (.q .o (.q (.q (.r [(6, 100384, .own false 3 (.int .i64)), (28, 101792, .v .bool)]) .o) .o))) .o)))))) .o)))
theorem impl_times_run (k : Nat) (p0 : Int) (p1 : (List Int)) : funX Tryz.prog (callT [impl_within_c k]) k Tryz.f64 impl_times_a [.v (.int .i64), .v (.slc 3 (.int .i64))] [.own false 3 (.int .i64), .v .bool] (p0, p1, ()) = impl_times_f k p0 p1 := by kernel_rfl
noncomputable def impl_times_c (k : Nat) : Con := ⟨64, [.v (.int .i64), .v (.slc 3 (.int .i64))], [.own false 3 (.int .i64), .v .bool], fun x => impl_times_f k x.1 x.2.1⟩
theorem impl_times_ok (k : Nat) : (impl_times_c k).Sound Tryz.prog GL := con_ok (k := k) (fn := Tryz.f64) (A := impl_times_a) (C := callT [impl_within_c k]) Tryz.func64 (by kernel_rfl) (show Tryz.f64.body = some (bodyX Tryz.f64) by rfl) (fun X hX => callT_at (TableOk.cons (impl_within_ok k) TableOk.nil) X hX) (Nat.le_of_ble_eq_true (by kernel_rfl)) (fun ⟨p0, p1, _⟩ y h => by rw [← h]; exact impl_times_run k p0 p1)
noncomputable def impl_isTwice_f (k : Nat) (p0 : (List Int)) (p1 : Int) : Option ((Bool × Unit) × Unit) :=
  (met (cond ((Int.tmod ((List.length p0 : Nat) : Int) 2) == 1) (some (.inl (true, ()))) (Option.bind (impl_within_f k (iw (Int.tdiv ((List.length p0 : Nat) : Int) 2)) 1 p1) (fun y18 => (some (.inl ((!y18.1.1), ())))))) (fun j1 => (cond j1.1 (some ((false, ()), ())) (Option.bind (impl_times_f k (iw (Int.tdiv ((List.length p0 : Nat) : Int) 2)) p0) (fun y24 => (some ((y24.1.2.1, ()), ())))))))
noncomputable def impl_isTwice_a : Ann := (.q .o (.q .o (.q (.q (.r [(20, 101280, .v .bool)]) .o) .o)))
theorem impl_isTwice_run (k : Nat) (p0 : (List Int)) (p1 : Int) : funX Tryz.prog (callT [impl_within_c k, impl_times_c k]) k Tryz.f83 impl_isTwice_a [.v (.slc 3 (.int .i64)), .v (.int .i64)] [.v .bool] (p0, p1, ()) = impl_isTwice_f k p0 p1 := by kernel_rfl
noncomputable def impl_isTwice_c (k : Nat) : Con := ⟨83, [.v (.slc 3 (.int .i64)), .v (.int .i64)], [.v .bool], fun x => impl_isTwice_f k x.1 x.2.1⟩
theorem impl_isTwice_ok (k : Nat) : (impl_isTwice_c k).Sound Tryz.prog GL := con_ok (k := k) (fn := Tryz.f83) (A := impl_isTwice_a) (C := callT [impl_within_c k, impl_times_c k]) Tryz.func83 (by kernel_rfl) (show Tryz.f83.body = some (bodyX Tryz.f83) by rfl) (fun X hX => callT_at (TableOk.cons (impl_within_ok k) (TableOk.cons (impl_times_ok k) TableOk.nil)) X hX) (Nat.le_of_ble_eq_true (by kernel_rfl)) (fun ⟨p0, p1, _⟩ y h => by rw [← h]; exact impl_isTwice_run k p0 p1)
noncomputable def impl_IsPile_f (k : Nat) (p0 : (List Int)) : Option ((Bool × Unit) × Unit) :=
  (Option.bind (impl_isTwice_f k p0 8) (fun y4 => (some ((y4.1.1, ()), ()))))
noncomputable def impl_IsPile_a : Ann := .o
theorem impl_IsPile_run (k : Nat) (p0 : (List Int)) : funX Tryz.prog (callT [impl_isTwice_c k]) k Tryz.f28 impl_IsPile_a [.v (.slc 3 (.int .i64))] [.v .bool] (p0, ()) = impl_IsPile_f k p0 := by kernel_rfl
noncomputable def impl_IsPile_c (k : Nat) : Con := ⟨28, [.v (.slc 3 (.int .i64))], [.v .bool], fun x => impl_IsPile_f k x.1⟩
theorem impl_IsPile_ok (k : Nat) : (impl_IsPile_c k).Sound Tryz.prog GL := con_ok (k := k) (fn := Tryz.f28) (A := impl_IsPile_a) (C := callT [impl_isTwice_c k]) Tryz.func28 (by kernel_rfl) (show Tryz.f28.body = some (bodyX Tryz.f28) by rfl) (fun X hX => callT_at (TableOk.cons (impl_isTwice_ok k) TableOk.nil) X hX) (Nat.le_of_ble_eq_true (by kernel_rfl)) (fun ⟨p0, _⟩ y h => by rw [← h]; exact impl_IsPile_run k p0)
noncomputable def impl_MatchedBehind_l2_b (k : Nat) (y28 : (((List Int) × Bool × Unit) × Unit)) (rec : (List Int) → (List Int) → Int → Option (((List Int) × Unit) ⊕ (((List Int) × Bool × Unit) × Unit))) (x8 : (List Int)) (x32 : (List Int)) (x34 : Int) : Option (((List Int) × Unit) ⊕ (((List Int) × Bool × Unit) × Unit)) :=
  (cond (decide (x34 < ((List.length y28.1.1 : Nat) : Int))) (met (ixk x34 (List.length x32) (met (cond ((rd x32 x34) == 2) (chk (decide (List.length x8 + List.length [x34] ≤ 15637498706147)) (some (.inl ((x8 ++ [x34]), ())))) (some (.inl (x8, ())))) (fun j3 => (some (.inl (j3.1, ())))))) (fun j4 => (rec j4.1 x32 (iw (x34 + 1))))) (some (.inl (x8, ()))))
noncomputable def impl_MatchedBehind_l2 (k : Nat) (y28 : (((List Int) × Bool × Unit) × Unit)) (x8 : (List Int)) (x32 : (List Int)) (x34 : Int) : Option (((List Int) × Unit) ⊕ (((List Int) × Bool × Unit) × Unit)) := iter k (fun (rec : ((List Int) × (List Int) × Int × Unit) → Option (((List Int) × Unit) ⊕ (((List Int) × Bool × Unit) × Unit))) (x : ((List Int) × (List Int) × Int × Unit)) => impl_MatchedBehind_l2_b k y28 (fun x8 x32 x34 => rec (x8, x32, x34, ())) x.1 x.2.1 x.2.2.1) (x8, x32, x34, ())
noncomputable def impl_MatchedBehind_f (k : Nat) (p0 : (List Int)) (p1 : Int) : Option (((List Int) × Bool × Unit) × Unit) :=
  (met (Option.bind (impl_IsPile_f k p0) (fun y12 => (cond (!y12.1.1) (some (.inl (true, ()))) (Option.bind (impl_within_f k p1 0 ((List.length p0 : Nat) : Int)) (fun y18 => (some (.inl ((!y18.1.1), ())))))))) (fun j1 => (cond j1.1 (some (([], false, ()), ())) (chk (decide (0 ≤ p1)) (chk (decide (p1 ≤ ((List.length p0 : Nat) : Int))) (Option.bind (impl_times_f k (iw (Int.tdiv ((List.length p0 : Nat) : Int) 2)) (List.take (Int.toNat p1) p0)) (fun y28 => (met (impl_MatchedBehind_l2 k y28 [] y28.1.1 0) (fun j5 => (some ((j5.1, true, ()), ())))))))))))
noncomputable def impl_MatchedBehind_a : Ann := (.q .o (.q (.q (.r [(20, 101280, .v .bool)]) .o) (.q .o (.q .o (.q (.q .o (.m [(8, 100512, .own false 3 (.int .i64))] (.l [(8, 100512, .own false 3 (.int .i64)), (32, 102048, .v (.slc 3 (.int .i64))), (34, 102176, .v (.int .i64))] (.q .o (.q .o (.q (.m [(8, 100512, .own false 3 (.int .i64))] (.q .o (.q .o (.j [(8, 100512, .own false 3 (.int .i64))] .o .o)))) .o)))))) .o)))))
theorem impl_MatchedBehind_run (k : Nat) (p0 : (List Int)) (p1 : Int) : funX Tryz.prog (callT [impl_IsPile_c k, impl_within_c k, impl_times_c k]) k Tryz.f7 impl_MatchedBehind_a [.v (.slc 3 (.int .i64)), .v (.int .i64)] [.own false 3 (.int .i64), .v .bool] (p0, p1, ()) = impl_MatchedBehind_f k p0 p1 := by kernel_rfl
noncomputable def impl_MatchedBehind_c (k : Nat) : Con := ⟨7, [.v (.slc 3 (.int .i64)), .v (.int .i64)], [.own false 3 (.int .i64), .v .bool], fun x => impl_MatchedBehind_f k x.1 x.2.1⟩
theorem impl_MatchedBehind_ok (k : Nat) : (impl_MatchedBehind_c k).Sound Tryz.prog GL := con_ok (k := k) (fn := Tryz.f7) (A := impl_MatchedBehind_a) (C := callT [impl_IsPile_c k, impl_within_c k, impl_times_c k]) Tryz.func7 (by kernel_rfl) (show Tryz.f7.body = some (bodyX Tryz.f7) by rfl) (fun X hX => callT_at (TableOk.cons (impl_IsPile_ok k) (TableOk.cons (impl_within_ok k) (TableOk.cons (impl_times_ok k) TableOk.nil))) X hX) (Nat.le_of_ble_eq_true (by kernel_rfl)) (fun ⟨p0, p1, _⟩ y h => by rw [← h]; exact impl_MatchedBehind_run k p0 p1)
noncomputable def spec_l1In_f (k : Nat) (p0 : Int) (p1 : Int) (p2 : Int) : Option ((Bool × Unit) × Unit) :=
  (met (cond (decide (p0 ≥ p1)) (some (.inl ((decide (p0 ≤ p2)), ()))) (some (.inl (false, ())))) (fun j1 => (some ((j1.1, ()), ()))))
noncomputable def spec_l1In_a : Ann := (.q .o (.q (.r [(6, 100384, .v .bool)]) .o))
theorem spec_l1In_run (k : Nat) (p0 : Int) (p1 : Int) (p2 : Int) : funX Tryz.prog (callT []) k Tryz.f66 spec_l1In_a [.v (.int .i64), .v (.int .i64), .v (.int .i64)] [.v .bool] (p0, p1, p2, ()) = spec_l1In_f k p0 p1 p2 := by kernel_rfl
noncomputable def spec_l1In_c (k : Nat) : Con := ⟨66, [.v (.int .i64), .v (.int .i64), .v (.int .i64)], [.v .bool], fun x => spec_l1In_f k x.1 x.2.1 x.2.2.1⟩
theorem spec_l1In_ok (k : Nat) : (spec_l1In_c k).Sound Tryz.prog GL := con_ok (k := k) (fn := Tryz.f66) (A := spec_l1In_a) (C := callT []) Tryz.func66 (by kernel_rfl) (show Tryz.f66.body = some (bodyX Tryz.f66) by rfl) (fun X hX => callT_at TableOk.nil X hX) (Nat.le_of_ble_eq_true (by kernel_rfl)) (fun ⟨p0, p1, p2, _⟩ y h => by rw [← h]; exact spec_l1In_run k p0 p1 p2)
noncomputable def spec_l1All_l1_b (k : Nat) (p0 : (List Int)) (p1 : Int) (p2 : Int) (rec : Int → Option (Unit ⊕ ((Bool × Unit) × Unit))) (x11 : Int) : Option (Unit ⊕ ((Bool × Unit) × Unit)) :=
  (cond (decide (x11 < ((List.length p0 : Nat) : Int))) (ixk x11 (List.length p0) (Option.bind (spec_l1In_f k (rd p0 x11) p1 p2) (fun y18 => (cond (!y18.1.1) (some (.inr ((false, ()), ()))) (rec (iw (x11 + 1))))))) (some (.inl ())))
noncomputable def spec_l1All_l1 (k : Nat) (p0 : (List Int)) (p1 : Int) (p2 : Int) (x11 : Int) : Option (Unit ⊕ ((Bool × Unit) × Unit)) := iter k (fun (rec : (Int × Unit) → Option (Unit ⊕ ((Bool × Unit) × Unit))) (x : (Int × Unit)) => spec_l1All_l1_b k p0 p1 p2 (fun x11 => rec (x11, ())) x.1) (x11, ())
noncomputable def spec_l1All_f (k : Nat) (p0 : (List Int)) (p1 : Int) (p2 : Int) : Option ((Bool × Unit) × Unit) :=
  (met (spec_l1All_l1 k p0 p1 p2 0) (fun j2 => (some ((true, ()), ()))))
noncomputable def spec_l1All_a : Ann := (.q .o (.q (.q .o (.m [] (.l [(11, 100704, .v (.int .i64))] .o))) .o))
theorem spec_l1All_run (k : Nat) (p0 : (List Int)) (p1 : Int) (p2 : Int) : funX Tryz.prog (callT [spec_l1In_c k]) k Tryz.f116 spec_l1All_a [.v (.slc 3 (.int .i64)), .v (.int .i64), .v (.int .i64)] [.v .bool] (p0, p1, p2, ()) = spec_l1All_f k p0 p1 p2 := by kernel_rfl
noncomputable def spec_l1All_c (k : Nat) : Con := ⟨116, [.v (.slc 3 (.int .i64)), .v (.int .i64), .v (.int .i64)], [.v .bool], fun x => spec_l1All_f k x.1 x.2.1 x.2.2.1⟩
theorem spec_l1All_ok (k : Nat) : (spec_l1All_c k).Sound Tryz.prog GL := con_ok (k := k) (fn := Tryz.f116) (A := spec_l1All_a) (C := callT [spec_l1In_c k]) Tryz.func116 (by kernel_rfl) (show Tryz.f116.body = some (bodyX Tryz.f116) by rfl) (fun X hX => callT_at (TableOk.cons (spec_l1In_ok k) TableOk.nil) X hX) (Nat.le_of_ble_eq_true (by kernel_rfl)) (fun ⟨p0, p1, p2, _⟩ y h => by rw [← h]; exact spec_l1All_run k p0 p1 p2)
noncomputable def spec_piGood_l3_b (k : Nat) (p0 : (List Int)) (x33 : Int) (rec : Int → Int → Option ((Int × Unit) ⊕ (Unit ⊕ (Unit ⊕ ((Bool × Unit) × Unit))))) (x5 : Int) (x39 : Int) : Option ((Int × Unit) ⊕ (Unit ⊕ (Unit ⊕ ((Bool × Unit) × Unit)))) :=
  (cond (decide (x39 < ((List.length p0 : Nat) : Int))) (met (ixk x39 (List.length p0) (met (cond ((rd p0 x39) == (rd p0 x33)) (some (.inl ((iw (x5 + 1)), ()))) (some (.inl (x5, ())))) (fun j4 => (some (.inl (j4.1, ())))))) (fun j5 => (rec j5.1 (iw (x39 + 1))))) (some (.inl (x5, ()))))
noncomputable def spec_piGood_l3 (k : Nat) (p0 : (List Int)) (x33 : Int) (x5 : Int) (x39 : Int) : Option ((Int × Unit) ⊕ (Unit ⊕ (Unit ⊕ ((Bool × Unit) × Unit)))) := iter k (fun (rec : (Int × Int × Unit) → Option ((Int × Unit) ⊕ (Unit ⊕ (Unit ⊕ ((Bool × Unit) × Unit))))) (x : (Int × Int × Unit)) => spec_piGood_l3_b k p0 x33 (fun x5 x39 => rec (x5, x39, ())) x.1 x.2.1) (x5, x39, ())
noncomputable def spec_piGood_l2_b (k : Nat) (p0 : (List Int)) (rec : Int → Option (Unit ⊕ ((Bool × Unit) × Unit))) (x33 : Int) : Option (Unit ⊕ ((Bool × Unit) × Unit)) :=
  (cond (decide (x33 < ((List.length p0 : Nat) : Int))) (met (ixk x33 (List.length p0) (met (spec_piGood_l3 k p0 x33 0 0) (fun j6 => (cond (j6.1 != 2) (some (.inr (.inr ((false, ()), ())))) (some (.inl ())))))) (fun j7 => (rec (iw (x33 + 1))))) (some (.inl ())))
noncomputable def spec_piGood_l2 (k : Nat) (p0 : (List Int)) (x33 : Int) : Option (Unit ⊕ ((Bool × Unit) × Unit)) := iter k (fun (rec : (Int × Unit) → Option (Unit ⊕ ((Bool × Unit) × Unit))) (x : (Int × Unit)) => spec_piGood_l2_b k p0 (fun x33 => rec (x33, ())) x.1) (x33, ())
noncomputable def spec_piGood_f (k : Nat) (p0 : (List Int)) : Option ((Bool × Unit) × Unit) :=
  (met (cond (((List.length p0 : Nat) : Int) == 0) (some (.inl (true, ()))) (cond ((Int.tmod ((List.length p0 : Nat) : Int) 2) == 1) (some (.inl (true, ()))) (cond (decide (((List.length p0 : Nat) : Int) > 16)) (some (.inl (true, ()))) (Option.bind (spec_l1All_f k p0 0 (iw ((iw (Int.tdiv ((List.length p0 : Nat) : Int) 2)) - 1))) (fun y28 => (some (.inl ((!y28.1.1), ())))))))) (fun j1 => (cond j1.1 (some ((false, ()), ())) (met (spec_piGood_l2 k p0 0) (fun j8 => (some ((true, ()), ())))))))
noncomputable def spec_piGood_a : Ann := (.q .o (.q (.q (.r [(30, 101920, .v .bool)]) .o) (.q (.q .o (.m [] (.l [(33, 102112, .v (.int .i64))] (.q .o (.q .o (.q (.m [] (.q .o (.q .o (.q (.q .o (.m [(5, 100320, .v (.int .i64))] (.l [(5, 100320, .v (.int .i64)), (39, 102496, .v (.int .i64))] (.q .o (.q .o (.q (.m [(5, 100320, .v (.int .i64))] (.q .o (.q .o (.j [(5, 100320, .v (.int .i64))] .o .o)))) .o)))))) .o)))) .o)))))) .o)))
theorem spec_piGood_run (k : Nat) (p0 : (List Int)) : funX Tryz.prog (callT [spec_l1All_c k]) k Tryz.f65 spec_piGood_a [.v (.slc 3 (.int .i64))] [.v .bool] (p0, ()) = spec_piGood_f k p0 := by kernel_rfl
noncomputable def spec_piGood_c (k : Nat) : Con := ⟨65, [.v (.slc 3 (.int .i64))], [.v .bool], fun x => spec_piGood_f k x.1⟩
theorem spec_piGood_ok (k : Nat) : (spec_piGood_c k).Sound Tryz.prog GL := con_ok (k := k) (fn := Tryz.f65) (A := spec_piGood_a) (C := callT [spec_l1All_c k]) Tryz.func65 (by kernel_rfl) (show Tryz.f65.body = some (bodyX Tryz.f65) by rfl) (fun X hX => callT_at (TableOk.cons (spec_l1All_ok k) TableOk.nil) X hX) (Nat.le_of_ble_eq_true (by kernel_rfl)) (fun ⟨p0, _⟩ y h => by rw [← h]; exact spec_piGood_run k p0)
noncomputable def spec_l1Has_l1_b (k : Nat) (p0 : (List Int)) (p1 : Int) (rec : Int → Option (Unit ⊕ ((Bool × Unit) × Unit))) (x9 : Int) : Option (Unit ⊕ ((Bool × Unit) × Unit)) :=
  (cond (decide (x9 < ((List.length p0 : Nat) : Int))) (ixk x9 (List.length p0) (cond ((rd p0 x9) == p1) (some (.inr ((true, ()), ()))) (rec (iw (x9 + 1))))) (some (.inl ())))
noncomputable def spec_l1Has_l1 (k : Nat) (p0 : (List Int)) (p1 : Int) (x9 : Int) : Option (Unit ⊕ ((Bool × Unit) × Unit)) := iter k (fun (rec : (Int × Unit) → Option (Unit ⊕ ((Bool × Unit) × Unit))) (x : (Int × Unit)) => spec_l1Has_l1_b k p0 p1 (fun x9 => rec (x9, ())) x.1) (x9, ())
noncomputable def spec_l1Has_f (k : Nat) (p0 : (List Int)) (p1 : Int) : Option ((Bool × Unit) × Unit) :=
  (met (spec_l1Has_l1 k p0 p1 0) (fun j2 => (some ((false, ()), ()))))
noncomputable def spec_l1Has_a : Ann := (.q .o (.q (.q .o (.m [] (.l [(9, 100576, .v (.int .i64))] .o))) .o))
theorem spec_l1Has_run (k : Nat) (p0 : (List Int)) (p1 : Int) : funX Tryz.prog (callT []) k Tryz.f67 spec_l1Has_a [.v (.slc 3 (.int .i64)), .v (.int .i64)] [.v .bool] (p0, p1, ()) = spec_l1Has_f k p0 p1 := by kernel_rfl
noncomputable def spec_l1Has_c (k : Nat) : Con := ⟨67, [.v (.slc 3 (.int .i64)), .v (.int .i64)], [.v .bool], fun x => spec_l1Has_f k x.1 x.2.1⟩
theorem spec_l1Has_ok (k : Nat) : (spec_l1Has_c k).Sound Tryz.prog GL := con_ok (k := k) (fn := Tryz.f67) (A := spec_l1Has_a) (C := callT []) Tryz.func67 (by kernel_rfl) (show Tryz.f67.body = some (bodyX Tryz.f67) by rfl) (fun X hX => callT_at TableOk.nil X hX) (Nat.le_of_ble_eq_true (by kernel_rfl)) (fun ⟨p0, p1, _⟩ y h => by rw [← h]; exact spec_l1Has_run k p0 p1)
noncomputable def spec_l1Put_l1_b (k : Nat) (p0 : (List Int)) (p1 : Int) (rec : Int → Option ((Int × Unit) ⊕ (((List Int) × Unit) × Unit))) (x5 : Int) : Option ((Int × Unit) ⊕ (((List Int) × Unit) × Unit)) :=
  (met (cond (decide (x5 < ((List.length p0 : Nat) : Int))) (ixk x5 (List.length p0) (some (.inl ((decide ((rd p0 x5) < p1)), ())))) (some (.inl (false, ())))) (fun j2 => (cond j2.1 (rec (iw (x5 + 1))) (some (.inl (x5, ()))))))
noncomputable def spec_l1Put_l1 (k : Nat) (p0 : (List Int)) (p1 : Int) (x5 : Int) : Option ((Int × Unit) ⊕ (((List Int) × Unit) × Unit)) := iter k (fun (rec : (Int × Unit) → Option ((Int × Unit) ⊕ (((List Int) × Unit) × Unit))) (x : (Int × Unit)) => spec_l1Put_l1_b k p0 p1 (fun x5 => rec (x5, ())) x.1) (x5, ())
noncomputable def spec_l1Put_f (k : Nat) (p0 : (List Int)) (p1 : Int) : Option (((List Int) × Unit) × Unit) :=
  (met (spec_l1Put_l1 k p0 p1 0) (fun j3 => (met (cond (decide (j3.1 < ((List.length p0 : Nat) : Int))) (ixk j3.1 (List.length p0) (some (.inl (((rd p0 j3.1) == p1), ())))) (some (.inl (false, ())))) (fun j4 => (cond j4.1 (some ((p0, ()), ())) (chk (decide (0 ≤ j3.1)) (chk (decide (j3.1 ≤ ((List.length p0 : Nat) : Int))) (chk (decide (0 + List.length (List.take (Int.toNat j3.1) p0) ≤ 15637498706147)) (chk (decide (List.length (List.take (Int.toNat j3.1) p0) + List.length [p1] ≤ 15637498706147)) (chk (decide (0 ≤ j3.1)) (chk (decide (j3.1 ≤ ((List.length p0 : Nat) : Int))) (chk (decide (List.length ((List.take (Int.toNat j3.1) p0) ++ [p1]) + List.length (List.drop (Int.toNat j3.1) p0) ≤ 15637498706147)) (some (((((List.take (Int.toNat j3.1) p0) ++ [p1]) ++ (List.drop (Int.toNat j3.1) p0)), ()), ()))))))))))))))
noncomputable def spec_l1Put_a : Ann := (.q .o (.q .o (.q (.m [(5, 100320, .v (.int .i64))] (.l [(5, 100320, .v (.int .i64))] (.q (.q (.r [(18, 101152, .v .bool)]) .o) .o))) (.q (.q (.r [(32, 102048, .v .bool)]) .o) .o))))
theorem spec_l1Put_run (k : Nat) (p0 : (List Int)) (p1 : Int) : funX Tryz.prog (callT []) k Tryz.f68 spec_l1Put_a [.v (.slc 3 (.int .i64)), .v (.int .i64)] [.v (.slc 3 (.int .i64))] (p0, p1, ()) = spec_l1Put_f k p0 p1 := by kernel_rfl
noncomputable def spec_l1Put_c (k : Nat) : Con := ⟨68, [.v (.slc 3 (.int .i64)), .v (.int .i64)], [.v (.slc 3 (.int .i64))], fun x => spec_l1Put_f k x.1 x.2.1⟩
theorem spec_l1Put_ok (k : Nat) : (spec_l1Put_c k).Sound Tryz.prog GL := con_ok (k := k) (fn := Tryz.f68) (A := spec_l1Put_a) (C := callT []) Tryz.func68 (by kernel_rfl) (show Tryz.f68.body = some (bodyX Tryz.f68) by rfl) (fun X hX => callT_at TableOk.nil X hX) (Nat.le_of_ble_eq_true (by kernel_rfl)) (fun ⟨p0, p1, _⟩ y h => by rw [← h]; exact spec_l1Put_run k p0 p1)
noncomputable def spec_MatchedBehind_l2_b (k : Nat) (p0 : (List Int)) (p1 : Int) (rec : (List Int) → Int → Option (((List Int) × Unit) ⊕ (((List Int) × Bool × Unit) × Unit))) (x6 : (List Int)) (x7 : Int) : Option (((List Int) × Unit) ⊕ (((List Int) × Bool × Unit) × Unit)) :=
  (cond (decide (x7 < p1)) (met (chk (decide (0 ≤ x7)) (chk (decide (x7 ≤ ((List.length p0 : Nat) : Int))) (ixk x7 (List.length p0) (Option.bind (spec_l1Has_f k (List.take (Int.toNat x7) p0) (rd p0 x7)) (fun y30 => (met (cond y30.1.1 (ixk x7 (List.length p0) (Option.bind (spec_l1Put_f k x6 (rd p0 x7)) (fun y36 => (some (.inl (y36.1.1, ())))))) (some (.inl (x6, ())))) (fun j3 => (some (.inl (j3.1, ())))))))))) (fun j4 => (rec j4.1 (iw (x7 + 1))))) (some (.inl (x6, ()))))
noncomputable def spec_MatchedBehind_l2 (k : Nat) (p0 : (List Int)) (p1 : Int) (x6 : (List Int)) (x7 : Int) : Option (((List Int) × Unit) ⊕ (((List Int) × Bool × Unit) × Unit)) := iter k (fun (rec : ((List Int) × Int × Unit) → Option (((List Int) × Unit) ⊕ (((List Int) × Bool × Unit) × Unit))) (x : ((List Int) × Int × Unit)) => spec_MatchedBehind_l2_b k p0 p1 (fun x6 x7 => rec (x6, x7, ())) x.1 x.2.1) (x6, x7, ())
noncomputable def spec_MatchedBehind_f (k : Nat) (p0 : (List Int)) (p1 : Int) : Option (((List Int) × Bool × Unit) × Unit) :=
  (met (Option.bind (spec_piGood_f k p0) (fun y9 => (cond (!y9.1.1) (some (.inl (true, ()))) (Option.bind (spec_l1In_f k p1 0 ((List.length p0 : Nat) : Int)) (fun y15 => (some (.inl ((!y15.1.1), ())))))))) (fun j1 => (cond j1.1 (some (([], false, ()), ())) (met (spec_MatchedBehind_l2 k p0 p1 [] 0) (fun j5 => (some ((j5.1, true, ()), ())))))))
noncomputable def spec_MatchedBehind_a : Ann := (.q .o (.q (.q (.r [(17, 101088, .v .bool)]) .o) (.q .o (.q (.q .o (.m [(6, 100384, .v (.slc 3 (.int .i64)))] (.l [(6, 100384, .v (.slc 3 (.int .i64))), (7, 100448, .v (.int .i64))] (.q .o (.q (.m [(6, 100384, .v (.slc 3 (.int .i64)))] (.q .o (.j [(6, 100384, .v (.slc 3 (.int .i64)))] .o .o))) .o))))) .o))))
theorem spec_MatchedBehind_run (k : Nat) (p0 : (List Int)) (p1 : Int) : funX Tryz.prog (callT [spec_piGood_c k, spec_l1In_c k, spec_l1Has_c k, spec_l1Put_c k]) k Tryz.f8 spec_MatchedBehind_a [.v (.slc 3 (.int .i64)), .v (.int .i64)] [.v (.slc 3 (.int .i64)), .v .bool] (p0, p1, ()) = spec_MatchedBehind_f k p0 p1 := by kernel_rfl
noncomputable def spec_MatchedBehind_c (k : Nat) : Con := ⟨8, [.v (.slc 3 (.int .i64)), .v (.int .i64)], [.v (.slc 3 (.int .i64)), .v .bool], fun x => spec_MatchedBehind_f k x.1 x.2.1⟩
theorem spec_MatchedBehind_ok (k : Nat) : (spec_MatchedBehind_c k).Sound Tryz.prog GL := con_ok (k := k) (fn := Tryz.f8) (A := spec_MatchedBehind_a) (C := callT [spec_piGood_c k, spec_l1In_c k, spec_l1Has_c k, spec_l1Put_c k]) Tryz.func8 (by kernel_rfl) (show Tryz.f8.body = some (bodyX Tryz.f8) by rfl) (fun X hX => callT_at (TableOk.cons (spec_piGood_ok k) (TableOk.cons (spec_l1In_ok k) (TableOk.cons (spec_l1Has_ok k) (TableOk.cons (spec_l1Put_ok k) TableOk.nil)))) X hX) (Nat.le_of_ble_eq_true (by kernel_rfl)) (fun ⟨p0, p1, _⟩ y h => by rw [← h]; exact spec_MatchedBehind_run k p0 p1)
noncomputable def impl_shapeOf_l1_b (k : Nat) (p0 : (List Int)) (rec : (List Int) → Int → Int → Option (((List Int) × Unit) ⊕ ((ByteArray × Unit) × Unit))) (x3 : (List Int)) (x4 : Int) (x10 : Int) : Option (((List Int) × Unit) ⊕ ((ByteArray × Unit) × Unit)) :=
  (cond (decide (x10 < ((List.length p0 : Nat) : Int))) (ixk x10 (List.length p0) (chk (decide (0 ≤ (rd p0 x10))) (met (cond ((andI .i64 (shrI .i64 x4 (rd p0 x10)) 1) == 1) (chk (decide (List.length x3 + List.length [45] ≤ 70368744177664)) (some (.inl ((x3 ++ [45]), ())))) (chk (decide (List.length x3 + List.length [43] ≤ 70368744177664)) (some (.inl ((x3 ++ [43]), ()))))) (fun j2 => (chk (decide (0 ≤ (rd p0 x10))) (rec j2.1 (orI .i64 x4 (shlI .i64 1 (rd p0 x10))) (iw (x10 + 1)))))))) (some (.inl (x3, ()))))
noncomputable def impl_shapeOf_l1 (k : Nat) (p0 : (List Int)) (x3 : (List Int)) (x4 : Int) (x10 : Int) : Option (((List Int) × Unit) ⊕ ((ByteArray × Unit) × Unit)) := iter k (fun (rec : ((List Int) × Int × Int × Unit) → Option (((List Int) × Unit) ⊕ ((ByteArray × Unit) × Unit))) (x : ((List Int) × Int × Int × Unit)) => impl_shapeOf_l1_b k p0 (fun x3 x4 x10 => rec (x3, x4, x10, ())) x.1 x.2.1 x.2.2.1) (x3, x4, x10, ())
noncomputable def impl_shapeOf_f (k : Nat) (p0 : (List Int)) : Option ((ByteArray × Unit) × Unit) :=
  (met (impl_shapeOf_l1 k p0 [] 0 0) (fun j3 => (some (((strOfNums j3.1), ()), ()))))
noncomputable def impl_shapeOf_a : Ann := (.q .o (.q .o (.q (.q .o (.m [(3, 100192, .v (.slc 5 (.int .u8)))] (.l [(3, 100192, .own false 5 (.int .u8)), (4, 100256, .v (.int .i64)), (10, 100640, .v (.int .i64))] (.q .o (.q .o (.q (.b (.q .o (.q (.q .o (.j [(3, 100192, .own false 5 (.int .u8))] .o .o)) .o))) .o)))))) .o)))
theorem impl_shapeOf_run (k : Nat) (p0 : (List Int)) : funX Tryz.prog (callT []) k Tryz.f69 impl_shapeOf_a [.v (.slc 3 (.int .i64))] [.v .str] (p0, ()) = impl_shapeOf_f k p0 := by kernel_rfl
noncomputable def impl_shapeOf_c (k : Nat) : Con := ⟨69, [.v (.slc 3 (.int .i64))], [.v .str], fun x => impl_shapeOf_f k x.1⟩
theorem impl_shapeOf_ok (k : Nat) : (impl_shapeOf_c k).Sound Tryz.prog GL := con_ok (k := k) (fn := Tryz.f69) (A := impl_shapeOf_a) (C := callT []) Tryz.func69 (by kernel_rfl) (show Tryz.f69.body = some (bodyX Tryz.f69) by rfl) (fun X hX => callT_at TableOk.nil X hX) (Nat.le_of_ble_eq_true (by kernel_rfl)) (fun ⟨p0, _⟩ y h => by rw [← h]; exact impl_shapeOf_run k p0)
noncomputable def impl_ShapeOfPile_f (k : Nat) (p0 : (List Int)) : Option ((ByteArray × Bool × Unit) × Unit) :=
  (Option.bind (impl_IsPile_f k p0) (fun y5 => (cond (!y5.1.1) (some ((ByteArray.empty, false, ()), ())) (Option.bind (impl_shapeOf_f k p0) (fun y8 => (some ((y8.1.1, true, ()), ())))))))
noncomputable def impl_ShapeOfPile_a : Ann := .o
theorem impl_ShapeOfPile_run (k : Nat) (p0 : (List Int)) : funX Tryz.prog (callT [impl_IsPile_c k, impl_shapeOf_c k]) k Tryz.f9 impl_ShapeOfPile_a [.v (.slc 3 (.int .i64))] [.v .str, .v .bool] (p0, ()) = impl_ShapeOfPile_f k p0 := by kernel_rfl
noncomputable def impl_ShapeOfPile_c (k : Nat) : Con := ⟨9, [.v (.slc 3 (.int .i64))], [.v .str, .v .bool], fun x => impl_ShapeOfPile_f k x.1⟩
theorem impl_ShapeOfPile_ok (k : Nat) : (impl_ShapeOfPile_c k).Sound Tryz.prog GL := con_ok (k := k) (fn := Tryz.f9) (A := impl_ShapeOfPile_a) (C := callT [impl_IsPile_c k, impl_shapeOf_c k]) Tryz.func9 (by kernel_rfl) (show Tryz.f9.body = some (bodyX Tryz.f9) by rfl) (fun X hX => callT_at (TableOk.cons (impl_IsPile_ok k) (TableOk.cons (impl_shapeOf_ok k) TableOk.nil)) X hX) (Nat.le_of_ble_eq_true (by kernel_rfl)) (fun ⟨p0, _⟩ y h => by rw [← h]; exact impl_ShapeOfPile_run k p0)
noncomputable def spec_piShape_l1_b (k : Nat) (p0 : (List Int)) (rec : ByteArray → Int → Option ((ByteArray × Unit) ⊕ ((ByteArray × Unit) × Unit))) (x3 : ByteArray) (x8 : Int) : Option ((ByteArray × Unit) ⊕ ((ByteArray × Unit) × Unit)) :=
  (cond (decide (x8 < ((List.length p0 : Nat) : Int))) (met (ixk x8 (List.length p0) (chk (decide (0 ≤ x8)) (chk (decide (x8 ≤ ((List.length p0 : Nat) : Int))) (Option.bind (spec_l1Has_f k (List.take (Int.toNat x8) p0) (rd p0 x8)) (fun y17 => (met (cond y17.1.1 (chk (decide (x3.size + (lit [45]).size ≤ 9223372036854775807)) (some (.inl ((x3 ++ (lit [45])), ())))) (chk (decide (x3.size + (lit [43]).size ≤ 9223372036854775807)) (some (.inl ((x3 ++ (lit [43])), ()))))) (fun j2 => (some (.inl (j2.1, ())))))))))) (fun j3 => (rec j3.1 (iw (x8 + 1))))) (some (.inl (x3, ()))))
noncomputable def spec_piShape_l1 (k : Nat) (p0 : (List Int)) (x3 : ByteArray) (x8 : Int) : Option ((ByteArray × Unit) ⊕ ((ByteArray × Unit) × Unit)) := iter k (fun (rec : (ByteArray × Int × Unit) → Option ((ByteArray × Unit) ⊕ ((ByteArray × Unit) × Unit))) (x : (ByteArray × Int × Unit)) => spec_piShape_l1_b k p0 (fun x3 x8 => rec (x3, x8, ())) x.1 x.2.1) (x3, x8, ())
noncomputable def spec_piShape_f (k : Nat) (p0 : (List Int)) : Option ((ByteArray × Unit) × Unit) :=
  (met (spec_piShape_l1 k p0 ByteArray.empty 0) (fun j4 => (some ((j4.1, ()), ()))))
noncomputable def spec_piShape_a : Ann := (.q .o (.q .o (.q (.q .o (.m [(3, 100192, .v .str)] (.l [(3, 100192, .v .str), (8, 100512, .v (.int .i64))] (.q .o (.q .o (.q (.m [(3, 100192, .v .str)] (.q .o (.q .o (.j [(3, 100192, .v .str)] .o .o)))) .o)))))) .o)))
theorem spec_piShape_run (k : Nat) (p0 : (List Int)) : funX Tryz.prog (callT [spec_l1Has_c k]) k Tryz.f70 spec_piShape_a [.v (.slc 3 (.int .i64))] [.v .str] (p0, ()) = spec_piShape_f k p0 := by kernel_rfl
noncomputable def spec_piShape_c (k : Nat) : Con := ⟨70, [.v (.slc 3 (.int .i64))], [.v .str], fun x => spec_piShape_f k x.1⟩
theorem spec_piShape_ok (k : Nat) : (spec_piShape_c k).Sound Tryz.prog GL := con_ok (k := k) (fn := Tryz.f70) (A := spec_piShape_a) (C := callT [spec_l1Has_c k]) Tryz.func70 (by kernel_rfl) (show Tryz.f70.body = some (bodyX Tryz.f70) by rfl) (fun X hX => callT_at (TableOk.cons (spec_l1Has_ok k) TableOk.nil) X hX) (Nat.le_of_ble_eq_true (by kernel_rfl)) (fun ⟨p0, _⟩ y h => by rw [← h]; exact spec_piShape_run k p0)
noncomputable def spec_ShapeOfPile_f (k : Nat) (p0 : (List Int)) : Option ((ByteArray × Bool × Unit) × Unit) :=
  (Option.bind (spec_piGood_f k p0) (fun y5 => (cond (!y5.1.1) (some ((ByteArray.empty, false, ()), ())) (Option.bind (spec_piShape_f k p0) (fun y8 => (some ((y8.1.1, true, ()), ())))))))
noncomputable def spec_ShapeOfPile_a : Ann := .o
theorem spec_ShapeOfPile_run (k : Nat) (p0 : (List Int)) : funX Tryz.prog (callT [spec_piGood_c k, spec_piShape_c k]) k Tryz.f10 spec_ShapeOfPile_a [.v (.slc 3 (.int .i64))] [.v .str, .v .bool] (p0, ()) = spec_ShapeOfPile_f k p0 := by kernel_rfl
noncomputable def spec_ShapeOfPile_c (k : Nat) : Con := ⟨10, [.v (.slc 3 (.int .i64))], [.v .str, .v .bool], fun x => spec_ShapeOfPile_f k x.1⟩
theorem spec_ShapeOfPile_ok (k : Nat) : (spec_ShapeOfPile_c k).Sound Tryz.prog GL := con_ok (k := k) (fn := Tryz.f10) (A := spec_ShapeOfPile_a) (C := callT [spec_piGood_c k, spec_piShape_c k]) Tryz.func10 (by kernel_rfl) (show Tryz.f10.body = some (bodyX Tryz.f10) by rfl) (fun X hX => callT_at (TableOk.cons (spec_piGood_ok k) (TableOk.cons (spec_piShape_ok k) TableOk.nil)) X hX) (Nat.le_of_ble_eq_true (by kernel_rfl)) (fun ⟨p0, _⟩ y h => by rw [← h]; exact spec_ShapeOfPile_run k p0)
noncomputable def impl_heights_l1_b (k : Nat) (rec : (List Int) → Int → (ByteArray × Nat) → Option (((List Int) × Unit) ⊕ (((List Int) × Unit) × Unit))) (x3 : (List Int)) (x4 : Int) (x9 : (ByteArray × Nat)) : Option (((List Int) × Unit) ⊕ (((List Int) × Unit) × Unit)) :=
  (cond (decide (x9.2 < x9.1.size)) (chk ((decide (x9.2 < x9.1.size))) (met (cond ((runeAt x9.1 x9.2) == 43) (some (.inl (x3, (iw (x4 + 1)), (x9.1, runeTo x9.1 x9.2), ()))) (some (.inl (x3, (iw (x4 - 1)), (x9.1, runeTo x9.1 x9.2), ())))) (fun j2 => (chk (decide (List.length j2.1 + List.length [j2.2.1] ≤ 15637498706147)) (rec (j2.1 ++ [j2.2.1]) j2.2.1 j2.2.2.1))))) (some (.inl (x3, ()))))
noncomputable def impl_heights_l1 (k : Nat) (x3 : (List Int)) (x4 : Int) (x9 : (ByteArray × Nat)) : Option (((List Int) × Unit) ⊕ (((List Int) × Unit) × Unit)) := iter k (fun (rec : ((List Int) × Int × (ByteArray × Nat) × Unit) → Option (((List Int) × Unit) ⊕ (((List Int) × Unit) × Unit))) (x : ((List Int) × Int × (ByteArray × Nat) × Unit)) => impl_heights_l1_b k (fun x3 x4 x9 => rec (x3, x4, x9, ())) x.1 x.2.1 x.2.2.1) (x3, x4, x9, ())
noncomputable def impl_heights_f (k : Nat) (p0 : ByteArray) : Option (((List Int) × Unit) × Unit) :=
  (met (impl_heights_l1 k [0] 0 (p0, 0)) (fun j3 => (some ((j3.1, ()), ()))))
noncomputable def impl_heights_a : Ann := (.q .o (.q .o (.q (.q .o (.m [(3, 100192, .own false 3 (.int .i64))] (.l [(3, 100192, .own false 3 (.int .i64)), (4, 100256, .v (.int .i64)), (9, 100576, .obj .iter)] (.q .o (.q .o (.b (.q .o (.q (.q .o (.j [(3, 100192, .own false 3 (.int .i64)), (4, 100256, .v (.int .i64)), (9, 100576, .obj .iter)] .o .o)) .o)))))))) .o)))
theorem impl_heights_run (k : Nat) (p0 : ByteArray) : funX Tryz.prog (callT []) k Tryz.f71 impl_heights_a [.v .str] [.own false 3 (.int .i64)] (p0, ()) = impl_heights_f k p0 := by kernel_rfl
noncomputable def impl_heights_c (k : Nat) : Con := ⟨71, [.v .str], [.own false 3 (.int .i64)], fun x => impl_heights_f k x.1⟩
theorem impl_heights_ok (k : Nat) : (impl_heights_c k).Sound Tryz.prog GL := con_ok (k := k) (fn := Tryz.f71) (A := impl_heights_a) (C := callT []) Tryz.func71 (by kernel_rfl) (show Tryz.f71.body = some (bodyX Tryz.f71) by rfl) (fun X hX => callT_at TableOk.nil X hX) (Nat.le_of_ble_eq_true (by kernel_rfl)) (fun ⟨p0, _⟩ y h => by rw [← h]; exact impl_heights_run k p0)
noncomputable def impl_LooseAfter_f (k : Nat) (p0 : (List Int)) : Option (((List Int) × Bool × Unit) × Unit) :=
  (Option.bind (impl_IsPile_f k p0) (fun y5 => (cond (!y5.1.1) (some (([], false, ()), ())) (Option.bind (impl_shapeOf_f k p0) (fun y8 => (Option.bind (impl_heights_f k y8.1.1) (fun y9 => (some ((y9.1.1, true, ()), ())))))))))
noncomputable def impl_LooseAfter_a : Ann := .o
theorem impl_LooseAfter_run (k : Nat) (p0 : (List Int)) : funX Tryz.prog (callT [impl_IsPile_c k, impl_shapeOf_c k, impl_heights_c k]) k Tryz.f11 impl_LooseAfter_a [.v (.slc 3 (.int .i64))] [.own false 3 (.int .i64), .v .bool] (p0, ()) = impl_LooseAfter_f k p0 := by kernel_rfl
noncomputable def impl_LooseAfter_c (k : Nat) : Con := ⟨11, [.v (.slc 3 (.int .i64))], [.own false 3 (.int .i64), .v .bool], fun x => impl_LooseAfter_f k x.1⟩
theorem impl_LooseAfter_ok (k : Nat) : (impl_LooseAfter_c k).Sound Tryz.prog GL := con_ok (k := k) (fn := Tryz.f11) (A := impl_LooseAfter_a) (C := callT [impl_IsPile_c k, impl_shapeOf_c k, impl_heights_c k]) Tryz.func11 (by kernel_rfl) (show Tryz.f11.body = some (bodyX Tryz.f11) by rfl) (fun X hX => callT_at (TableOk.cons (impl_IsPile_ok k) (TableOk.cons (impl_shapeOf_ok k) (TableOk.cons (impl_heights_ok k) TableOk.nil))) X hX) (Nat.le_of_ble_eq_true (by kernel_rfl)) (fun ⟨p0, _⟩ y h => by rw [← h]; exact impl_LooseAfter_run k p0)
noncomputable def spec_piLoose_l1_b (k : Nat) (p0 : ByteArray) (rec : (List Int) → Int → Option (((List Int) × Unit) ⊕ (((List Int) × Unit) × Unit))) (x3 : (List Int)) (x4 : Int) : Option (((List Int) × Unit) ⊕ (((List Int) × Unit) × Unit)) :=
  (cond (decide (x4 < ((ByteArray.size p0 : Nat) : Int))) (met (ixk x4 (ByteArray.size p0) (met (cond ((byteAt p0 x4) == 43) (ixk x4 (List.length x3) (chk (decide (List.length x3 + List.length [(iw ((rd x3 x4) + 1))] ≤ 15637498706147)) (some (.inl ((x3 ++ [(iw ((rd x3 x4) + 1))]), ()))))) (ixk x4 (List.length x3) (chk (decide (List.length x3 + List.length [(iw ((rd x3 x4) - 1))] ≤ 15637498706147)) (some (.inl ((x3 ++ [(iw ((rd x3 x4) - 1))]), ())))))) (fun j2 => (some (.inl (j2.1, ())))))) (fun j3 => (rec j3.1 (iw (x4 + 1))))) (some (.inl (x3, ()))))
noncomputable def spec_piLoose_l1 (k : Nat) (p0 : ByteArray) (x3 : (List Int)) (x4 : Int) : Option (((List Int) × Unit) ⊕ (((List Int) × Unit) × Unit)) := iter k (fun (rec : ((List Int) × Int × Unit) → Option (((List Int) × Unit) ⊕ (((List Int) × Unit) × Unit))) (x : ((List Int) × Int × Unit)) => spec_piLoose_l1_b k p0 (fun x3 x4 => rec (x3, x4, ())) x.1 x.2.1) (x3, x4, ())
noncomputable def spec_piLoose_f (k : Nat) (p0 : ByteArray) : Option (((List Int) × Unit) × Unit) :=
  (met (spec_piLoose_l1 k p0 [0] 0) (fun j4 => (some ((j4.1, ()), ()))))
noncomputable def spec_piLoose_a : Ann := (.q .o (.q .o (.q (.q .o (.m [(3, 100192, .own false 3 (.int .i64))] (.l [(3, 100192, .own false 3 (.int .i64)), (4, 100256, .v (.int .i64))] (.q .o (.q (.m [(3, 100192, .own false 3 (.int .i64))] (.q .o (.j [(3, 100192, .own false 3 (.int .i64))] .o .o))) .o))))) .o)))
theorem spec_piLoose_run (k : Nat) (p0 : ByteArray) : funX Tryz.prog (callT []) k Tryz.f72 spec_piLoose_a [.v .str] [.own false 3 (.int .i64)] (p0, ()) = spec_piLoose_f k p0 := by kernel_rfl
noncomputable def spec_piLoose_c (k : Nat) : Con := ⟨72, [.v .str], [.own false 3 (.int .i64)], fun x => spec_piLoose_f k x.1⟩
theorem spec_piLoose_ok (k : Nat) : (spec_piLoose_c k).Sound Tryz.prog GL := con_ok (k := k) (fn := Tryz.f72) (A := spec_piLoose_a) (C := callT []) Tryz.func72 (by kernel_rfl) (show Tryz.f72.body = some (bodyX Tryz.f72) by rfl) (fun X hX => callT_at TableOk.nil X hX) (Nat.le_of_ble_eq_true (by kernel_rfl)) (fun ⟨p0, _⟩ y h => by rw [← h]; exact spec_piLoose_run k p0)
noncomputable def spec_LooseAfter_f (k : Nat) (p0 : (List Int)) : Option (((List Int) × Bool × Unit) × Unit) :=
  (Option.bind (spec_piGood_f k p0) (fun y5 => (cond (!y5.1.1) (some (([], false, ()), ())) (Option.bind (spec_piShape_f k p0) (fun y8 => (Option.bind (spec_piLoose_f k y8.1.1) (fun y9 => (some ((y9.1.1, true, ()), ())))))))))
noncomputable def spec_LooseAfter_a : Ann := .o
theorem spec_LooseAfter_run (k : Nat) (p0 : (List Int)) : funX Tryz.prog (callT [spec_piGood_c k, spec_piShape_c k, spec_piLoose_c k]) k Tryz.f12 spec_LooseAfter_a [.v (.slc 3 (.int .i64))] [.own false 3 (.int .i64), .v .bool] (p0, ()) = spec_LooseAfter_f k p0 := by kernel_rfl
noncomputable def spec_LooseAfter_c (k : Nat) : Con := ⟨12, [.v (.slc 3 (.int .i64))], [.own false 3 (.int .i64), .v .bool], fun x => spec_LooseAfter_f k x.1⟩
theorem spec_LooseAfter_ok (k : Nat) : (spec_LooseAfter_c k).Sound Tryz.prog GL := con_ok (k := k) (fn := Tryz.f12) (A := spec_LooseAfter_a) (C := callT [spec_piGood_c k, spec_piShape_c k, spec_piLoose_c k]) Tryz.func12 (by kernel_rfl) (show Tryz.f12.body = some (bodyX Tryz.f12) by rfl) (fun X hX => callT_at (TableOk.cons (spec_piGood_ok k) (TableOk.cons (spec_piShape_ok k) (TableOk.cons (spec_piLoose_ok k) TableOk.nil))) X hX) (Nat.le_of_ble_eq_true (by kernel_rfl)) (fun ⟨p0, _⟩ y h => by rw [← h]; exact spec_LooseAfter_run k p0)
noncomputable def slices_Max_int_int_l2_b (k : Nat) (p0 : (List Int)) (rec : Int → Int → Option ((Int × Unit) ⊕ ((Int × Unit) × Unit))) (x3 : Int) (x4 : Int) : Option ((Int × Unit) ⊕ ((Int × Unit) × Unit)) :=
  (cond (decide (x4 < ((List.length p0 : Nat) : Int))) (ixk x4 (List.length p0) (rec (max2 x3 (rd p0 x4)) (iw (x4 + 1)))) (some (.inl (x3, ()))))
noncomputable def slices_Max_int_int_l2 (k : Nat) (p0 : (List Int)) (x3 : Int) (x4 : Int) : Option ((Int × Unit) ⊕ ((Int × Unit) × Unit)) := iter k (fun (rec : (Int × Int × Unit) → Option ((Int × Unit) ⊕ ((Int × Unit) × Unit))) (x : (Int × Int × Unit)) => slices_Max_int_int_l2_b k p0 (fun x3 x4 => rec (x3, x4, ())) x.1 x.2.1) (x3, x4, ())
noncomputable def slices_Max_int_int_f (k : Nat) (p0 : (List Int)) : Option ((Int × Unit) × Unit) :=
  (met (cond (decide (((List.length p0 : Nat) : Int) < 1)) none (some (.inl ()))) (fun j1 => (chk (decide ((0 : Int) < ((List.length p0 : Nat) : Int))) (met (slices_Max_int_int_l2 k p0 (rd p0 0) 1) (fun j3 => (some ((j3.1, ()), ())))))))
noncomputable def slices_Max_int_int_a : Ann := (.q .o (.q (.q .o (.j [] .o .o)) (.q .o (.q (.q .o (.m [(3, 100192, .v (.int .i64))] (.l [(3, 100192, .v (.int .i64)), (4, 100256, .v (.int .i64))] .o))) .o))))
theorem slices_Max_int_int_run (k : Nat) (p0 : (List Int)) : funX Tryz.prog (callT []) k Tryz.f73 slices_Max_int_int_a [.v (.slc 3 (.int .i64))] [.v (.int .i64)] (p0, ()) = slices_Max_int_int_f k p0 := by kernel_rfl
noncomputable def slices_Max_int_int_c (k : Nat) : Con := ⟨73, [.v (.slc 3 (.int .i64))], [.v (.int .i64)], fun x => slices_Max_int_int_f k x.1⟩
theorem slices_Max_int_int_ok (k : Nat) : (slices_Max_int_int_c k).Sound Tryz.prog GL := con_ok (k := k) (fn := Tryz.f73) (A := slices_Max_int_int_a) (C := callT []) Tryz.func73 (by kernel_rfl) (show Tryz.f73.body = some (bodyX Tryz.f73) by rfl) (fun X hX => callT_at TableOk.nil X hX) (Nat.le_of_ble_eq_true (by kernel_rfl)) (fun ⟨p0, _⟩ y h => by rw [← h]; exact slices_Max_int_int_run k p0)
noncomputable def slices_Index_int_int_l1_b (k : Nat) (p0 : (List Int)) (p1 : Int) (rec : Int → Option (Unit ⊕ ((Int × Unit) × Unit))) (x8 : Int) : Option (Unit ⊕ ((Int × Unit) × Unit)) :=
  (cond (decide (x8 < ((List.length p0 : Nat) : Int))) (ixk x8 (List.length p0) (cond (p1 == (rd p0 x8)) (some (.inr ((x8, ()), ()))) (rec (iw (x8 + 1))))) (some (.inl ())))
noncomputable def slices_Index_int_int_l1 (k : Nat) (p0 : (List Int)) (p1 : Int) (x8 : Int) : Option (Unit ⊕ ((Int × Unit) × Unit)) := iter k (fun (rec : (Int × Unit) → Option (Unit ⊕ ((Int × Unit) × Unit))) (x : (Int × Unit)) => slices_Index_int_int_l1_b k p0 p1 (fun x8 => rec (x8, ())) x.1) (x8, ())
noncomputable def slices_Index_int_int_f (k : Nat) (p0 : (List Int)) (p1 : Int) : Option ((Int × Unit) × Unit) :=
  (met (slices_Index_int_int_l1 k p0 p1 0) (fun j2 => (some (((-1), ()), ()))))
noncomputable def slices_Index_int_int_a : Ann := (.q .o (.q (.q .o (.m [] (.l [(8, 100512, .v (.int .i64))] .o))) .o))
theorem slices_Index_int_int_run (k : Nat) (p0 : (List Int)) (p1 : Int) : funX Tryz.prog (callT []) k Tryz.f74 slices_Index_int_int_a [.v (.slc 3 (.int .i64)), .v (.int .i64)] [.v (.int .i64)] (p0, p1, ()) = slices_Index_int_int_f k p0 p1 := by kernel_rfl
noncomputable def slices_Index_int_int_c (k : Nat) : Con := ⟨74, [.v (.slc 3 (.int .i64)), .v (.int .i64)], [.v (.int .i64)], fun x => slices_Index_int_int_f k x.1 x.2.1⟩
theorem slices_Index_int_int_ok (k : Nat) : (slices_Index_int_int_c k).Sound Tryz.prog GL := con_ok (k := k) (fn := Tryz.f74) (A := slices_Index_int_int_a) (C := callT []) Tryz.func74 (by kernel_rfl) (show Tryz.f74.body = some (bodyX Tryz.f74) by rfl) (fun X hX => callT_at TableOk.nil X hX) (Nat.le_of_ble_eq_true (by kernel_rfl)) (fun ⟨p0, p1, _⟩ y h => by rw [← h]; exact slices_Index_int_int_run k p0 p1)
noncomputable def impl_MostLoose_f (k : Nat) (p0 : (List Int)) : Option ((Int × Int × Bool × Unit) × Unit) :=
  (Option.bind (impl_LooseAfter_f k p0) (fun y10 => (cond (!y10.1.2.1) (some ((0, 0, false, ()), ())) (Option.bind (slices_Max_int_int_f k y10.1.1) (fun y16 => (Option.bind (slices_Index_int_int_f k y10.1.1 y16.1.1) (fun y20 => (some ((y16.1.1, y20.1.1, true, ()), ())))))))))
noncomputable def impl_MostLoose_a : Ann := .o
theorem impl_MostLoose_run (k : Nat) (p0 : (List Int)) : funX Tryz.prog (callT [impl_LooseAfter_c k, slices_Max_int_int_c k, slices_Index_int_int_c k]) k Tryz.f13 impl_MostLoose_a [.v (.slc 3 (.int .i64))] [.v (.int .i64), .v (.int .i64), .v .bool] (p0, ()) = impl_MostLoose_f k p0 := by kernel_rfl
noncomputable def impl_MostLoose_c (k : Nat) : Con := ⟨13, [.v (.slc 3 (.int .i64))], [.v (.int .i64), .v (.int .i64), .v .bool], fun x => impl_MostLoose_f k x.1⟩
theorem impl_MostLoose_ok (k : Nat) : (impl_MostLoose_c k).Sound Tryz.prog GL := con_ok (k := k) (fn := Tryz.f13) (A := impl_MostLoose_a) (C := callT [impl_LooseAfter_c k, slices_Max_int_int_c k, slices_Index_int_int_c k]) Tryz.func13 (by kernel_rfl) (show Tryz.f13.body = some (bodyX Tryz.f13) by rfl) (fun X hX => callT_at (TableOk.cons (impl_LooseAfter_ok k) (TableOk.cons (slices_Max_int_int_ok k) (TableOk.cons (slices_Index_int_int_ok k) TableOk.nil))) X hX) (Nat.le_of_ble_eq_true (by kernel_rfl)) (fun ⟨p0, _⟩ y h => by rw [← h]; exact impl_MostLoose_run k p0)
noncomputable def spec_MostLoose_l1_b (k : Nat) (y14 : (((List Int) × Unit) × Unit)) (rec : Int → Int → (List Int) → Int → Option ((Int × Int × Unit) ⊕ ((Int × Int × Bool × Unit) × Unit))) (x5 : Int) (x6 : Int) (x14 : (List Int)) (x16 : Int) : Option ((Int × Int × Unit) ⊕ ((Int × Int × Bool × Unit) × Unit)) :=
  (cond (decide (x16 < ((List.length y14.1.1 : Nat) : Int))) (met (ixk x16 (List.length x14) (met (cond (decide ((rd x14 x16) > x5)) (some (.inl ((rd x14 x16), x16, ()))) (some (.inl (x5, x6, ())))) (fun j2 => (some (.inl (j2.1, j2.2.1, ())))))) (fun j3 => (rec j3.1 j3.2.1 x14 (iw (x16 + 1))))) (some (.inl (x5, x6, ()))))
noncomputable def spec_MostLoose_l1 (k : Nat) (y14 : (((List Int) × Unit) × Unit)) (x5 : Int) (x6 : Int) (x14 : (List Int)) (x16 : Int) : Option ((Int × Int × Unit) ⊕ ((Int × Int × Bool × Unit) × Unit)) := iter k (fun (rec : (Int × Int × (List Int) × Int × Unit) → Option ((Int × Int × Unit) ⊕ ((Int × Int × Bool × Unit) × Unit))) (x : (Int × Int × (List Int) × Int × Unit)) => spec_MostLoose_l1_b k y14 (fun x5 x6 x14 x16 => rec (x5, x6, x14, x16, ())) x.1 x.2.1 x.2.2.1 x.2.2.2.1) (x5, x6, x14, x16, ())
noncomputable def spec_MostLoose_f (k : Nat) (p0 : (List Int)) : Option ((Int × Int × Bool × Unit) × Unit) :=
  (Option.bind (spec_piGood_f k p0) (fun y10 => (cond (!y10.1.1) (some ((0, 0, false, ()), ())) (Option.bind (spec_piShape_f k p0) (fun y13 => (Option.bind (spec_piLoose_f k y13.1.1) (fun y14 => (met (spec_MostLoose_l1 k y14 0 0 y14.1.1 0) (fun j4 => (some ((j4.1, j4.2.1, true, ()), ())))))))))))
noncomputable def spec_MostLoose_a : Ann := (.q .o (.q .o (.q .o (.q (.q .o (.m [(5, 100320, .v (.int .i64)), (6, 100384, .v (.int .i64))] (.l [(5, 100320, .v (.int .i64)), (6, 100384, .v (.int .i64)), (14, 100896, .v (.slc 3 (.int .i64))), (16, 101024, .v (.int .i64))] (.q .o (.q .o (.q (.m [(5, 100320, .v (.int .i64)), (6, 100384, .v (.int .i64))] (.q .o (.q .o (.j [(5, 100320, .v (.int .i64)), (6, 100384, .v (.int .i64))] .o .o)))) .o)))))) .o))))
theorem spec_MostLoose_run (k : Nat) (p0 : (List Int)) : funX Tryz.prog (callT [spec_piGood_c k, spec_piShape_c k, spec_piLoose_c k]) k Tryz.f14 spec_MostLoose_a [.v (.slc 3 (.int .i64))] [.v (.int .i64), .v (.int .i64), .v .bool] (p0, ()) = spec_MostLoose_f k p0 := by kernel_rfl
noncomputable def spec_MostLoose_c (k : Nat) : Con := ⟨14, [.v (.slc 3 (.int .i64))], [.v (.int .i64), .v (.int .i64), .v .bool], fun x => spec_MostLoose_f k x.1⟩
theorem spec_MostLoose_ok (k : Nat) : (spec_MostLoose_c k).Sound Tryz.prog GL := con_ok (k := k) (fn := Tryz.f14) (A := spec_MostLoose_a) (C := callT [spec_piGood_c k, spec_piShape_c k, spec_piLoose_c k]) Tryz.func14 (by kernel_rfl) (show Tryz.f14.body = some (bodyX Tryz.f14) by rfl) (fun X hX => callT_at (TableOk.cons (spec_piGood_ok k) (TableOk.cons (spec_piShape_ok k) (TableOk.cons (spec_piLoose_ok k) TableOk.nil))) X hX) (Nat.le_of_ble_eq_true (by kernel_rfl)) (fun ⟨p0, _⟩ y h => by rw [← h]; exact spec_MostLoose_run k p0)
noncomputable def strings_Index_f (k : Nat) (p0 : ByteArray) (p1 : ByteArray) : Option ((Int × Unit) × Unit) := (indexL p0 p1).map fun y => (y, ())
noncomputable def strings_Index_c (k : Nat) : Con := ⟨75, [.v .str, .v .str], [.v (.int .i64)], fun x => (indexL x.1 x.2.1).map fun y => (y, ())⟩
theorem strings_Index_ok (k : Nat) : (strings_Index_c k).Sound Tryz.prog GL := index_leaf (k := 0) (by decide) ⟨Tryz.f75, Tryz.func75, by kernel_rfl, by rfl⟩ (fun s sep m w h1 h2 => lay_strings_Index s sep m w h1 h2)
noncomputable def impl_FirstMatch_f (k : Nat) (p0 : (List Int)) : Option ((Int × Bool × Unit) × Unit) :=
  (Option.bind (impl_ShapeOfPile_f k p0) (fun y8 => (cond (!y8.1.2.1) (some ((0, false, ()), ())) (Option.bind (strings_Index_f k y8.1.1 (lit [45])) (fun y14 => (some ((y14.1.1, true, ()), ())))))))
noncomputable def impl_FirstMatch_a : Ann := .o
theorem impl_FirstMatch_run (k : Nat) (p0 : (List Int)) : funX Tryz.prog (callT [impl_ShapeOfPile_c k, strings_Index_c k]) k Tryz.f15 impl_FirstMatch_a [.v (.slc 3 (.int .i64))] [.v (.int .i64), .v .bool] (p0, ()) = impl_FirstMatch_f k p0 := by kernel_rfl
noncomputable def impl_FirstMatch_c (k : Nat) : Con := ⟨15, [.v (.slc 3 (.int .i64))], [.v (.int .i64), .v .bool], fun x => impl_FirstMatch_f k x.1⟩
theorem impl_FirstMatch_ok (k : Nat) : (impl_FirstMatch_c k).Sound Tryz.prog GL := con_ok (k := k) (fn := Tryz.f15) (A := impl_FirstMatch_a) (C := callT [impl_ShapeOfPile_c k, strings_Index_c k]) Tryz.func15 (by kernel_rfl) (show Tryz.f15.body = some (bodyX Tryz.f15) by rfl) (fun X hX => callT_at (TableOk.cons (impl_ShapeOfPile_ok k) (TableOk.cons (strings_Index_ok k) TableOk.nil)) X hX) (Nat.le_of_ble_eq_true (by kernel_rfl)) (fun ⟨p0, _⟩ y h => by rw [← h]; exact impl_FirstMatch_run k p0)
noncomputable def spec_FirstMatch_l1_b (k : Nat) (p0 : (List Int)) (rec : Int → Option ((Int × Unit) ⊕ ((Int × Bool × Unit) × Unit))) (x4 : Int) : Option ((Int × Unit) ⊕ ((Int × Bool × Unit) × Unit)) :=
  (chk (decide (0 ≤ x4)) (chk (decide (x4 ≤ ((List.length p0 : Nat) : Int))) (ixk x4 (List.length p0) (Option.bind (spec_l1Has_f k (List.take (Int.toNat x4) p0) (rd p0 x4)) (fun y15 => (cond (!y15.1.1) (rec (iw (x4 + 1))) (some (.inl (x4, ())))))))))
noncomputable def spec_FirstMatch_l1 (k : Nat) (p0 : (List Int)) (x4 : Int) : Option ((Int × Unit) ⊕ ((Int × Bool × Unit) × Unit)) := iter k (fun (rec : (Int × Unit) → Option ((Int × Unit) ⊕ ((Int × Bool × Unit) × Unit))) (x : (Int × Unit)) => spec_FirstMatch_l1_b k p0 (fun x4 => rec (x4, ())) x.1) (x4, ())
noncomputable def spec_FirstMatch_f (k : Nat) (p0 : (List Int)) : Option ((Int × Bool × Unit) × Unit) :=
  (Option.bind (spec_piGood_f k p0) (fun y6 => (cond (!y6.1.1) (some ((0, false, ()), ())) (met (spec_FirstMatch_l1 k p0 0) (fun j2 => (some ((j2.1, true, ()), ())))))))
noncomputable def spec_FirstMatch_a : Ann := (.q .o (.q .o (.q .o (.q (.m [(4, 100256, .v (.int .i64))] (.l [(4, 100256, .v (.int .i64))] .o)) .o))))
theorem spec_FirstMatch_run (k : Nat) (p0 : (List Int)) : funX Tryz.prog (callT [spec_piGood_c k, spec_l1Has_c k]) k Tryz.f16 spec_FirstMatch_a [.v (.slc 3 (.int .i64))] [.v (.int .i64), .v .bool] (p0, ()) = spec_FirstMatch_f k p0 := by kernel_rfl
noncomputable def spec_FirstMatch_c (k : Nat) : Con := ⟨16, [.v (.slc 3 (.int .i64))], [.v (.int .i64), .v .bool], fun x => spec_FirstMatch_f k x.1⟩
theorem spec_FirstMatch_ok (k : Nat) : (spec_FirstMatch_c k).Sound Tryz.prog GL := con_ok (k := k) (fn := Tryz.f16) (A := spec_FirstMatch_a) (C := callT [spec_piGood_c k, spec_l1Has_c k]) Tryz.func16 (by kernel_rfl) (show Tryz.f16.body = some (bodyX Tryz.f16) by rfl) (fun X hX => callT_at (TableOk.cons (spec_piGood_ok k) (TableOk.cons (spec_l1Has_ok k) TableOk.nil)) X hX) (Nat.le_of_ble_eq_true (by kernel_rfl)) (fun ⟨p0, _⟩ y h => by rw [← h]; exact spec_FirstMatch_run k p0)
noncomputable def impl_partner_f (k : Nat) (p0 : (List Int)) (p1 : Int) : Option ((Int × Unit) × Unit) :=
  (chk (decide (0 ≤ (iw (p1 + 1)))) (chk (decide ((iw (p1 + 1)) ≤ ((List.length p0 : Nat) : Int))) (ixk p1 (List.length p0) (Option.bind (slices_Index_int_int_f k (List.drop (Int.toNat (iw (p1 + 1))) p0) (rd p0 p1)) (fun y15 => (some (((iw ((iw (p1 + 1)) + y15.1.1)), ()), ())))))))
noncomputable def impl_partner_a : Ann := (.q .o (.q (.e [] [12]) .o))
theorem impl_partner_run (k : Nat) (p0 : (List Int)) (p1 : Int) : funX Tryz.prog (callT [slices_Index_int_int_c k]) k Tryz.f76 impl_partner_a [.v (.slc 3 (.int .i64)), .v (.int .i64)] [.v (.int .i64)] (p0, p1, ()) = impl_partner_f k p0 p1 := by kernel_rfl
noncomputable def impl_partner_c (k : Nat) : Con := ⟨76, [.v (.slc 3 (.int .i64)), .v (.int .i64)], [.v (.int .i64)], fun x => impl_partner_f k x.1 x.2.1⟩
theorem impl_partner_ok (k : Nat) : (impl_partner_c k).Sound Tryz.prog GL := con_ok (k := k) (fn := Tryz.f76) (A := impl_partner_a) (C := callT [slices_Index_int_int_c k]) Tryz.func76 (by kernel_rfl) (show Tryz.f76.body = some (bodyX Tryz.f76) by rfl) (fun X hX => callT_at (TableOk.cons (slices_Index_int_int_ok k) TableOk.nil) X hX) (Nat.le_of_ble_eq_true (by kernel_rfl)) (fun ⟨p0, p1, _⟩ y h => by rw [← h]; exact impl_partner_run k p0 p1)
noncomputable def impl_WaitsOfPile_l1_b (k : Nat) (p0 : (List Int)) (rec : (List Int) → Int → Option (((List Int) × Unit) ⊕ (((List Int) × Bool × Unit) × Unit))) (x4 : (List Int)) (x14 : Int) : Option (((List Int) × Unit) ⊕ (((List Int) × Bool × Unit) × Unit)) :=
  (cond (decide (x14 < (iw (Int.tdiv ((List.length p0 : Nat) : Int) 2)))) (Option.bind (slices_Index_int_int_f k p0 x14) (fun y19 => (Option.bind (impl_partner_f k p0 y19.1.1) (fun y23 => (chk (decide (List.length x4 + List.length [(iw ((iw (y23.1.1 - y19.1.1)) - 1))] ≤ 15637498706147)) (rec (x4 ++ [(iw ((iw (y23.1.1 - y19.1.1)) - 1))]) (iw (x14 + 1)))))))) (some (.inl (x4, ()))))
noncomputable def impl_WaitsOfPile_l1 (k : Nat) (p0 : (List Int)) (x4 : (List Int)) (x14 : Int) : Option (((List Int) × Unit) ⊕ (((List Int) × Bool × Unit) × Unit)) := iter k (fun (rec : ((List Int) × Int × Unit) → Option (((List Int) × Unit) ⊕ (((List Int) × Bool × Unit) × Unit))) (x : ((List Int) × Int × Unit)) => impl_WaitsOfPile_l1_b k p0 (fun x4 x14 => rec (x4, x14, ())) x.1 x.2.1) (x4, x14, ())
noncomputable def impl_WaitsOfPile_f (k : Nat) (p0 : (List Int)) : Option (((List Int) × Bool × Unit) × Unit) :=
  (Option.bind (impl_IsPile_f k p0) (fun y8 => (cond (!y8.1.1) (some (([], false, ()), ())) (met (impl_WaitsOfPile_l1 k p0 [] 0) (fun j2 => (some ((j2.1, true, ()), ())))))))
noncomputable def impl_WaitsOfPile_a : Ann := (.q .o (.q .o (.q .o (.q (.q .o (.m [(4, 100256, .own false 3 (.int .i64))] (.l [(4, 100256, .own false 3 (.int .i64)), (14, 100896, .v (.int .i64))] .o))) .o))))
theorem impl_WaitsOfPile_run (k : Nat) (p0 : (List Int)) : funX Tryz.prog (callT [impl_IsPile_c k, slices_Index_int_int_c k, impl_partner_c k]) k Tryz.f17 impl_WaitsOfPile_a [.v (.slc 3 (.int .i64))] [.own false 3 (.int .i64), .v .bool] (p0, ()) = impl_WaitsOfPile_f k p0 := by kernel_rfl
noncomputable def impl_WaitsOfPile_c (k : Nat) : Con := ⟨17, [.v (.slc 3 (.int .i64))], [.own false 3 (.int .i64), .v .bool], fun x => impl_WaitsOfPile_f k x.1⟩
theorem impl_WaitsOfPile_ok (k : Nat) : (impl_WaitsOfPile_c k).Sound Tryz.prog GL := con_ok (k := k) (fn := Tryz.f17) (A := impl_WaitsOfPile_a) (C := callT [impl_IsPile_c k, slices_Index_int_int_c k, impl_partner_c k]) Tryz.func17 (by kernel_rfl) (show Tryz.f17.body = some (bodyX Tryz.f17) by rfl) (fun X hX => callT_at (TableOk.cons (impl_IsPile_ok k) (TableOk.cons (slices_Index_int_int_ok k) (TableOk.cons (impl_partner_ok k) TableOk.nil))) X hX) (Nat.le_of_ble_eq_true (by kernel_rfl)) (fun ⟨p0, _⟩ y h => by rw [← h]; exact impl_WaitsOfPile_run k p0)
noncomputable def spec_WaitsOfPile_l1_b (k : Nat) (p0 : (List Int)) (rec : (List Int) → (List Int) → Int → Option (((List Int) × Unit) ⊕ (((List Int) × Bool × Unit) × Unit))) (x4 : (List Int)) (x5 : (List Int)) (x21 : Int) : Option (((List Int) × Unit) ⊕ (((List Int) × Bool × Unit) × Unit)) :=
  (cond (decide (x21 < ((List.length p0 : Nat) : Int))) (met (ixk x21 (List.length p0) (chk (decide (0 ≤ x21)) (chk (decide (x21 ≤ ((List.length p0 : Nat) : Int))) (Option.bind (spec_l1Has_f k (List.take (Int.toNat x21) p0) (rd p0 x21)) (fun y30 => (met (cond y30.1.1 (ixk (rd p0 x21) (List.length x5) (ixk (rd p0 x21) (List.length x4) (some (.inl ((setI x4 (rd p0 x21) (iw ((iw (x21 - (rd x5 (rd p0 x21)))) - 1))), x5, ()))))) (ixk (rd p0 x21) (List.length x5) (some (.inl (x4, (setI x5 (rd p0 x21) x21), ()))))) (fun j2 => (some (.inl (j2.1, j2.2.1, ())))))))))) (fun j3 => (rec j3.1 j3.2.1 (iw (x21 + 1))))) (some (.inl (x4, ()))))
noncomputable def spec_WaitsOfPile_l1 (k : Nat) (p0 : (List Int)) (x4 : (List Int)) (x5 : (List Int)) (x21 : Int) : Option (((List Int) × Unit) ⊕ (((List Int) × Bool × Unit) × Unit)) := iter k (fun (rec : ((List Int) × (List Int) × Int × Unit) → Option (((List Int) × Unit) ⊕ (((List Int) × Bool × Unit) × Unit))) (x : ((List Int) × (List Int) × Int × Unit)) => spec_WaitsOfPile_l1_b k p0 (fun x4 x5 x21 => rec (x4, x5, x21, ())) x.1 x.2.1 x.2.2.1) (x4, x5, x21, ())
noncomputable def spec_WaitsOfPile_f (k : Nat) (p0 : (List Int)) : Option (((List Int) × Bool × Unit) × Unit) :=
  (Option.bind (spec_piGood_f k p0) (fun y9 => (cond (!y9.1.1) (some (([], false, ()), ())) (chk (decide ((0 : Int) ≤ (iw (Int.tdiv ((List.length p0 : Nat) : Int) 2)))) (chk (decide ((iw (Int.tdiv ((List.length p0 : Nat) : Int) 2)) ≤ ((15637498706147 : Nat) : Int))) (chk (decide ((0 : Int) ≤ (iw (Int.tdiv ((List.length p0 : Nat) : Int) 2)))) (chk (decide ((iw (Int.tdiv ((List.length p0 : Nat) : Int) 2)) ≤ ((15637498706147 : Nat) : Int))) (met (spec_WaitsOfPile_l1 k p0 (List.replicate (Int.toNat (iw (Int.tdiv ((List.length p0 : Nat) : Int) 2))) (0 : Int)) (List.replicate (Int.toNat (iw (Int.tdiv ((List.length p0 : Nat) : Int) 2))) (0 : Int)) 0) (fun j4 => (some ((j4.1, true, ()), ())))))))))))
noncomputable def spec_WaitsOfPile_a : Ann := (.q .o (.q .o (.q .o (.q .o (.q (.q .o (.m [(4, 100256, .own false 3 (.int .i64))] (.l [(4, 100256, .own false 3 (.int .i64)), (5, 100320, .own false 3 (.int .i64)), (21, 101344, .v (.int .i64))] (.q .o (.q .o (.q (.m [(4, 100256, .own false 3 (.int .i64)), (5, 100320, .own false 3 (.int .i64))] (.q .o (.q .o (.j [(4, 100256, .own false 3 (.int .i64)), (5, 100320, .own false 3 (.int .i64))] .o .o)))) .o)))))) .o)))))
theorem spec_WaitsOfPile_run (k : Nat) (p0 : (List Int)) : funX Tryz.prog (callT [spec_piGood_c k, spec_l1Has_c k]) k Tryz.f18 spec_WaitsOfPile_a [.v (.slc 3 (.int .i64))] [.own false 3 (.int .i64), .v .bool] (p0, ()) = spec_WaitsOfPile_f k p0 := by kernel_rfl
noncomputable def spec_WaitsOfPile_c (k : Nat) : Con := ⟨18, [.v (.slc 3 (.int .i64))], [.own false 3 (.int .i64), .v .bool], fun x => spec_WaitsOfPile_f k x.1⟩
theorem spec_WaitsOfPile_ok (k : Nat) : (spec_WaitsOfPile_c k).Sound Tryz.prog GL := con_ok (k := k) (fn := Tryz.f18) (A := spec_WaitsOfPile_a) (C := callT [spec_piGood_c k, spec_l1Has_c k]) Tryz.func18 (by kernel_rfl) (show Tryz.f18.body = some (bodyX Tryz.f18) by rfl) (fun X hX => callT_at (TableOk.cons (spec_piGood_ok k) (TableOk.cons (spec_l1Has_ok k) TableOk.nil)) X hX) (Nat.le_of_ble_eq_true (by kernel_rfl)) (fun ⟨p0, _⟩ y h => by rw [← h]; exact spec_WaitsOfPile_run k p0)
noncomputable def impl_total_l1_b (k : Nat) (p0 : (List Int)) (rec : Int → Int → Option ((Int × Unit) ⊕ ((Int × Unit) × Unit))) (x3 : Int) (x8 : Int) : Option ((Int × Unit) ⊕ ((Int × Unit) × Unit)) :=
  (cond (decide (x8 < ((List.length p0 : Nat) : Int))) (ixk x8 (List.length p0) (rec (iw (x3 + (rd p0 x8))) (iw (x8 + 1)))) (some (.inl (x3, ()))))
noncomputable def impl_total_l1 (k : Nat) (p0 : (List Int)) (x3 : Int) (x8 : Int) : Option ((Int × Unit) ⊕ ((Int × Unit) × Unit)) := iter k (fun (rec : (Int × Int × Unit) → Option ((Int × Unit) ⊕ ((Int × Unit) × Unit))) (x : (Int × Int × Unit)) => impl_total_l1_b k p0 (fun x3 x8 => rec (x3, x8, ())) x.1 x.2.1) (x3, x8, ())
noncomputable def impl_total_f (k : Nat) (p0 : (List Int)) : Option ((Int × Unit) × Unit) :=
  (met (impl_total_l1 k p0 0 0) (fun j2 => (some ((j2.1, ()), ()))))
noncomputable def impl_total_a : Ann := (.q .o (.q .o (.q (.q .o (.m [(3, 100192, .v (.int .i64))] (.l [(3, 100192, .v (.int .i64)), (8, 100512, .v (.int .i64))] .o))) .o)))
theorem impl_total_run (k : Nat) (p0 : (List Int)) : funX Tryz.prog (callT []) k Tryz.f77 impl_total_a [.v (.slc 3 (.int .i64))] [.v (.int .i64)] (p0, ()) = impl_total_f k p0 := by kernel_rfl
noncomputable def impl_total_c (k : Nat) : Con := ⟨77, [.v (.slc 3 (.int .i64))], [.v (.int .i64)], fun x => impl_total_f k x.1⟩
theorem impl_total_ok (k : Nat) : (impl_total_c k).Sound Tryz.prog GL := con_ok (k := k) (fn := Tryz.f77) (A := impl_total_a) (C := callT []) Tryz.func77 (by kernel_rfl) (show Tryz.f77.body = some (bodyX Tryz.f77) by rfl) (fun X hX => callT_at TableOk.nil X hX) (Nat.le_of_ble_eq_true (by kernel_rfl)) (fun ⟨p0, _⟩ y h => by rw [← h]; exact impl_total_run k p0)
noncomputable def impl_SumOfLoose_f (k : Nat) (p0 : (List Int)) : Option ((Int × Bool × Unit) × Unit) :=
  (Option.bind (impl_LooseAfter_f k p0) (fun y8 => (Option.bind (impl_total_f k y8.1.1) (fun y12 => (some ((y12.1.1, y8.1.2.1, ()), ()))))))
noncomputable def impl_SumOfLoose_a : Ann := .o
theorem impl_SumOfLoose_run (k : Nat) (p0 : (List Int)) : funX Tryz.prog (callT [impl_LooseAfter_c k, impl_total_c k]) k Tryz.f19 impl_SumOfLoose_a [.v (.slc 3 (.int .i64))] [.v (.int .i64), .v .bool] (p0, ()) = impl_SumOfLoose_f k p0 := by kernel_rfl
noncomputable def impl_SumOfLoose_c (k : Nat) : Con := ⟨19, [.v (.slc 3 (.int .i64))], [.v (.int .i64), .v .bool], fun x => impl_SumOfLoose_f k x.1⟩
theorem impl_SumOfLoose_ok (k : Nat) : (impl_SumOfLoose_c k).Sound Tryz.prog GL := con_ok (k := k) (fn := Tryz.f19) (A := impl_SumOfLoose_a) (C := callT [impl_LooseAfter_c k, impl_total_c k]) Tryz.func19 (by kernel_rfl) (show Tryz.f19.body = some (bodyX Tryz.f19) by rfl) (fun X hX => callT_at (TableOk.cons (impl_LooseAfter_ok k) (TableOk.cons (impl_total_ok k) TableOk.nil)) X hX) (Nat.le_of_ble_eq_true (by kernel_rfl)) (fun ⟨p0, _⟩ y h => by rw [← h]; exact impl_SumOfLoose_run k p0)
noncomputable def spec_soSum_l1_b (k : Nat) (p0 : (List Int)) (rec : Int → Int → Option ((Int × Unit) ⊕ ((Int × Unit) × Unit))) (x3 : Int) (x8 : Int) : Option ((Int × Unit) ⊕ ((Int × Unit) × Unit)) :=
  (cond (decide (x8 < ((List.length p0 : Nat) : Int))) (ixk x8 (List.length p0) (rec (iw (x3 + (rd p0 x8))) (iw (x8 + 1)))) (some (.inl (x3, ()))))
noncomputable def spec_soSum_l1 (k : Nat) (p0 : (List Int)) (x3 : Int) (x8 : Int) : Option ((Int × Unit) ⊕ ((Int × Unit) × Unit)) := iter k (fun (rec : (Int × Int × Unit) → Option ((Int × Unit) ⊕ ((Int × Unit) × Unit))) (x : (Int × Int × Unit)) => spec_soSum_l1_b k p0 (fun x3 x8 => rec (x3, x8, ())) x.1 x.2.1) (x3, x8, ())
noncomputable def spec_soSum_f (k : Nat) (p0 : (List Int)) : Option ((Int × Unit) × Unit) :=
  (met (spec_soSum_l1 k p0 0 0) (fun j2 => (some ((j2.1, ()), ()))))
noncomputable def spec_soSum_a : Ann := (.q .o (.q .o (.q (.q .o (.m [(3, 100192, .v (.int .i64))] (.l [(3, 100192, .v (.int .i64)), (8, 100512, .v (.int .i64))] .o))) .o)))
theorem spec_soSum_run (k : Nat) (p0 : (List Int)) : funX Tryz.prog (callT []) k Tryz.f78 spec_soSum_a [.v (.slc 3 (.int .i64))] [.v (.int .i64)] (p0, ()) = spec_soSum_f k p0 := by kernel_rfl
noncomputable def spec_soSum_c (k : Nat) : Con := ⟨78, [.v (.slc 3 (.int .i64))], [.v (.int .i64)], fun x => spec_soSum_f k x.1⟩
theorem spec_soSum_ok (k : Nat) : (spec_soSum_c k).Sound Tryz.prog GL := con_ok (k := k) (fn := Tryz.f78) (A := spec_soSum_a) (C := callT []) Tryz.func78 (by kernel_rfl) (show Tryz.f78.body = some (bodyX Tryz.f78) by rfl) (fun X hX => callT_at TableOk.nil X hX) (Nat.le_of_ble_eq_true (by kernel_rfl)) (fun ⟨p0, _⟩ y h => by rw [← h]; exact spec_soSum_run k p0)
noncomputable def spec_SumOfLoose_f (k : Nat) (p0 : (List Int)) : Option ((Int × Bool × Unit) × Unit) :=
  (Option.bind (spec_piGood_f k p0) (fun y5 => (cond (!y5.1.1) (some ((0, false, ()), ())) (Option.bind (spec_piShape_f k p0) (fun y8 => (Option.bind (spec_piLoose_f k y8.1.1) (fun y9 => (Option.bind (spec_soSum_f k y9.1.1) (fun y10 => (some ((y10.1.1, true, ()), ())))))))))))
noncomputable def spec_SumOfLoose_a : Ann := .o
theorem spec_SumOfLoose_run (k : Nat) (p0 : (List Int)) : funX Tryz.prog (callT [spec_piGood_c k, spec_piShape_c k, spec_piLoose_c k, spec_soSum_c k]) k Tryz.f20 spec_SumOfLoose_a [.v (.slc 3 (.int .i64))] [.v (.int .i64), .v .bool] (p0, ()) = spec_SumOfLoose_f k p0 := by kernel_rfl
noncomputable def spec_SumOfLoose_c (k : Nat) : Con := ⟨20, [.v (.slc 3 (.int .i64))], [.v (.int .i64), .v .bool], fun x => spec_SumOfLoose_f k x.1⟩
theorem spec_SumOfLoose_ok (k : Nat) : (spec_SumOfLoose_c k).Sound Tryz.prog GL := con_ok (k := k) (fn := Tryz.f20) (A := spec_SumOfLoose_a) (C := callT [spec_piGood_c k, spec_piShape_c k, spec_piLoose_c k, spec_soSum_c k]) Tryz.func20 (by kernel_rfl) (show Tryz.f20.body = some (bodyX Tryz.f20) by rfl) (fun X hX => callT_at (TableOk.cons (spec_piGood_ok k) (TableOk.cons (spec_piShape_ok k) (TableOk.cons (spec_piLoose_ok k) (TableOk.cons (spec_soSum_ok k) TableOk.nil)))) X hX) (Nat.le_of_ble_eq_true (by kernel_rfl)) (fun ⟨p0, _⟩ y h => by rw [← h]; exact spec_SumOfLoose_run k p0)
noncomputable def slices_Clone_int_int_f (k : Nat) (p0 : (List Int)) : Option (((List Int) × Unit) × Unit) :=
  (cond (List.isEmpty p0) (andX (some (([], ()), ())) (chk (decide (0 + List.length p0 ≤ 15637498706147)) (some ((p0, ()), ())))) (chk (decide (0 + List.length p0 ≤ 15637498706147)) (some ((p0, ()), ()))))
noncomputable def slices_Clone_int_int_a : Ann := .o
theorem slices_Clone_int_int_run (k : Nat) (p0 : (List Int)) : funX Tryz.prog (callT []) k Tryz.f79 slices_Clone_int_int_a [.v (.slc 3 (.int .i64))] [.own false 3 (.int .i64)] (p0, ()) = slices_Clone_int_int_f k p0 := by kernel_rfl
noncomputable def slices_Clone_int_int_c (k : Nat) : Con := ⟨79, [.v (.slc 3 (.int .i64))], [.own false 3 (.int .i64)], fun x => slices_Clone_int_int_f k x.1⟩
theorem slices_Clone_int_int_ok (k : Nat) : (slices_Clone_int_int_c k).Sound Tryz.prog GL := con_ok (k := k) (fn := Tryz.f79) (A := slices_Clone_int_int_a) (C := callT []) Tryz.func79 (by kernel_rfl) (show Tryz.f79.body = some (bodyX Tryz.f79) by rfl) (fun X hX => callT_at TableOk.nil X hX) (Nat.le_of_ble_eq_true (by kernel_rfl)) (fun ⟨p0, _⟩ y h => by rw [← h]; exact slices_Clone_int_int_run k p0)
noncomputable def slices_Reverse_int_int_l1_b (k : Nat) (rec : (List Int) → Int → Int → Option (((List Int) × Unit) ⊕ (Unit × ((List Int) × Unit)))) (x0 : (List Int)) (x2 : Int) (x3 : Int) : Option (((List Int) × Unit) ⊕ (Unit × ((List Int) × Unit))) :=
  (cond (decide (x2 < x3)) (met (ixk x3 (List.length x0) (ixk x2 (List.length x0) ((fun q => andX q q) (ixk x2 (List.length x0) (ixk x3 (List.length (setI x0 x2 (rd x0 x3))) (some (.inl ((setI (setI x0 x2 (rd x0 x3)) x3 (rd x0 x2)), ())))))))) (fun j2 => (rec j2.1 (iw (x2 + 1)) (iw (x3 - 1))))) (some (.inl (x0, ()))))
noncomputable def slices_Reverse_int_int_l1 (k : Nat) (x0 : (List Int)) (x2 : Int) (x3 : Int) : Option (((List Int) × Unit) ⊕ (Unit × ((List Int) × Unit))) := iter k (fun (rec : ((List Int) × Int × Int × Unit) → Option (((List Int) × Unit) ⊕ (Unit × ((List Int) × Unit)))) (x : ((List Int) × Int × Int × Unit)) => slices_Reverse_int_int_l1_b k (fun x0 x2 x3 => rec (x0, x2, x3, ())) x.1 x.2.1 x.2.2.1) (x0, x2, x3, ())
noncomputable def slices_Reverse_int_int_f (k : Nat) (p0 : (List Int)) : Option (Unit × ((List Int) × Unit)) :=
  (met (slices_Reverse_int_int_l1 k p0 0 (iw (((List.length p0 : Nat) : Int) - 1))) (fun j3 => (some ((), (j3.1, ())))))
noncomputable def slices_Reverse_int_int_a : Ann := (.q .o (.m [(0, 3000000, .own true 3 (.int .i64))] (.l [(0, 3000000, .own true 3 (.int .i64)), (2, 100128, .v (.int .i64)), (3, 100192, .v (.int .i64))] (.q .o (.q (.b (.d [3000000] [14, 15] [(0, 3000000, .own true 3 (.int .i64))])) .o)))))
theorem slices_Reverse_int_int_run (k : Nat) (p0 : (List Int)) : funX Tryz.prog (callT []) k Tryz.f80 slices_Reverse_int_int_a [.own true 3 (.int .i64)] [] (p0, ()) = slices_Reverse_int_int_f k p0 := by kernel_rfl
noncomputable def slices_Reverse_int_int_c (k : Nat) : Con := ⟨80, [.own true 3 (.int .i64)], [], fun x => slices_Reverse_int_int_f k x.1⟩
theorem slices_Reverse_int_int_ok (k : Nat) : (slices_Reverse_int_int_c k).Sound Tryz.prog GL := con_ok (k := k) (fn := Tryz.f80) (A := slices_Reverse_int_int_a) (C := callT []) Tryz.func80 (by kernel_rfl) (show Tryz.f80.body = some (bodyX Tryz.f80) by rfl) (fun X hX => callT_at TableOk.nil X hX) (Nat.le_of_ble_eq_true (by kernel_rfl)) (fun ⟨p0, _⟩ y h => by rw [← h]; exact slices_Reverse_int_int_run k p0)
noncomputable def impl_TurnPile_f (k : Nat) (p0 : (List Int)) : Option (((List Int) × Bool × Unit) × Unit) :=
  (Option.bind (impl_IsPile_f k p0) (fun y6 => (cond (!y6.1.1) (some (([], false, ()), ())) (Option.bind (slices_Clone_int_int_f k p0) (fun y9 => (Option.bind (slices_Reverse_int_int_f k y9.1.1) (fun y11 => (some ((y11.2.1, true, ()), ())))))))))
noncomputable def impl_TurnPile_a : Ann := .o
theorem impl_TurnPile_run (k : Nat) (p0 : (List Int)) : funX Tryz.prog (callT [impl_IsPile_c k, slices_Clone_int_int_c k, slices_Reverse_int_int_c k]) k Tryz.f21 impl_TurnPile_a [.v (.slc 3 (.int .i64))] [.own false 3 (.int .i64), .v .bool] (p0, ()) = impl_TurnPile_f k p0 := by kernel_rfl
noncomputable def impl_TurnPile_c (k : Nat) : Con := ⟨21, [.v (.slc 3 (.int .i64))], [.own false 3 (.int .i64), .v .bool], fun x => impl_TurnPile_f k x.1⟩
theorem impl_TurnPile_ok (k : Nat) : (impl_TurnPile_c k).Sound Tryz.prog GL := con_ok (k := k) (fn := Tryz.f21) (A := impl_TurnPile_a) (C := callT [impl_IsPile_c k, slices_Clone_int_int_c k, slices_Reverse_int_int_c k]) Tryz.func21 (by kernel_rfl) (show Tryz.f21.body = some (bodyX Tryz.f21) by rfl) (fun X hX => callT_at (TableOk.cons (impl_IsPile_ok k) (TableOk.cons (slices_Clone_int_int_ok k) (TableOk.cons (slices_Reverse_int_int_ok k) TableOk.nil))) X hX) (Nat.le_of_ble_eq_true (by kernel_rfl)) (fun ⟨p0, _⟩ y h => by rw [← h]; exact impl_TurnPile_run k p0)
noncomputable def spec_TurnPile_l1_b (k : Nat) (p0 : (List Int)) (rec : (List Int) → Int → Option (((List Int) × Unit) ⊕ (((List Int) × Bool × Unit) × Unit))) (x4 : (List Int)) (x5 : Int) : Option (((List Int) × Unit) ⊕ (((List Int) × Bool × Unit) × Unit)) :=
  (cond (decide (x5 ≥ 0)) (ixk x5 (List.length p0) (chk (decide (List.length x4 + List.length [(rd p0 x5)] ≤ 15637498706147)) (rec (x4 ++ [(rd p0 x5)]) (iw (x5 - 1))))) (some (.inl (x4, ()))))
noncomputable def spec_TurnPile_l1 (k : Nat) (p0 : (List Int)) (x4 : (List Int)) (x5 : Int) : Option (((List Int) × Unit) ⊕ (((List Int) × Bool × Unit) × Unit)) := iter k (fun (rec : ((List Int) × Int × Unit) → Option (((List Int) × Unit) ⊕ (((List Int) × Bool × Unit) × Unit))) (x : ((List Int) × Int × Unit)) => spec_TurnPile_l1_b k p0 (fun x4 x5 => rec (x4, x5, ())) x.1 x.2.1) (x4, x5, ())
noncomputable def spec_TurnPile_f (k : Nat) (p0 : (List Int)) : Option (((List Int) × Bool × Unit) × Unit) :=
  (Option.bind (spec_piGood_f k p0) (fun y7 => (cond (!y7.1.1) (some (([], false, ()), ())) (met (spec_TurnPile_l1 k p0 [] (iw (((List.length p0 : Nat) : Int) - 1))) (fun j2 => (some ((j2.1, true, ()), ())))))))
noncomputable def spec_TurnPile_a : Ann := (.q .o (.q .o (.q .o (.q (.q .o (.m [(4, 100256, .own false 3 (.int .i64))] (.l [(4, 100256, .own false 3 (.int .i64)), (5, 100320, .v (.int .i64))] .o))) .o))))
theorem spec_TurnPile_run (k : Nat) (p0 : (List Int)) : funX Tryz.prog (callT [spec_piGood_c k]) k Tryz.f22 spec_TurnPile_a [.v (.slc 3 (.int .i64))] [.own false 3 (.int .i64), .v .bool] (p0, ()) = spec_TurnPile_f k p0 := by kernel_rfl
noncomputable def spec_TurnPile_c (k : Nat) : Con := ⟨22, [.v (.slc 3 (.int .i64))], [.own false 3 (.int .i64), .v .bool], fun x => spec_TurnPile_f k x.1⟩
theorem spec_TurnPile_ok (k : Nat) : (spec_TurnPile_c k).Sound Tryz.prog GL := con_ok (k := k) (fn := Tryz.f22) (A := spec_TurnPile_a) (C := callT [spec_piGood_c k]) Tryz.func22 (by kernel_rfl) (show Tryz.f22.body = some (bodyX Tryz.f22) by rfl) (fun X hX => callT_at (TableOk.cons (spec_piGood_ok k) TableOk.nil) X hX) (Nat.le_of_ble_eq_true (by kernel_rfl)) (fun ⟨p0, _⟩ y h => by rw [← h]; exact spec_TurnPile_run k p0)
noncomputable def impl_NamedPile_l1_b (k : Nat) (p0 : (List Int)) (rec : (List Int) → (List (Int × Int)) → Int → Option (((List Int) × Unit) ⊕ (((List Int) × Bool × Unit) × Unit))) (x4 : (List Int)) (x5 : (List (Int × Int))) (x17 : Int) : Option (((List Int) × Unit) ⊕ (((List Int) × Bool × Unit) × Unit)) :=
  (cond (decide (x17 < ((List.length p0 : Nat) : Int))) (ixk x17 (List.length p0) (met (cond (!(mhas x5 (rd p0 x17))) (some (.inl (x4, (mput x5 (rd p0 x17) ((List.length x5 : Nat) : Int)), ()))) (some (.inl (x4, x5, ())))) (fun j2 => (chk (decide (List.length j2.1 + List.length [(mget (0 : Int) j2.2.1 (rd p0 x17))] ≤ 15637498706147)) (rec (j2.1 ++ [(mget (0 : Int) j2.2.1 (rd p0 x17))]) j2.2.1 (iw (x17 + 1))))))) (some (.inl (x4, ()))))
noncomputable def impl_NamedPile_l1 (k : Nat) (p0 : (List Int)) (x4 : (List Int)) (x5 : (List (Int × Int))) (x17 : Int) : Option (((List Int) × Unit) ⊕ (((List Int) × Bool × Unit) × Unit)) := iter k (fun (rec : ((List Int) × (List (Int × Int)) × Int × Unit) → Option (((List Int) × Unit) ⊕ (((List Int) × Bool × Unit) × Unit))) (x : ((List Int) × (List (Int × Int)) × Int × Unit)) => impl_NamedPile_l1_b k p0 (fun x4 x5 x17 => rec (x4, x5, x17, ())) x.1 x.2.1 x.2.2.1) (x4, x5, x17, ())
noncomputable def impl_NamedPile_f (k : Nat) (p0 : (List Int)) : Option (((List Int) × Bool × Unit) × Unit) :=
  (Option.bind (impl_IsPile_f k p0) (fun y11 => (cond (!y11.1.1) (some (([], false, ()), ())) (met (impl_NamedPile_l1 k p0 [] ([] : List (Int × Int)) 0) (fun j3 => (some ((j3.1, true, ()), ())))))))
noncomputable def impl_NamedPile_a : Ann := (.q .o (.q .o (.q .o (.q (.q .o (.m [(4, 100256, .own false 3 (.int .i64))] (.l [(4, 100256, .own false 3 (.int .i64)), (5, 100320, .obj (.map (.int .i64))), (17, 101088, .v (.int .i64))] (.q .o (.q .o (.q (.b (.q .o (.q (.q .o (.q .o (.j [(4, 100256, .own false 3 (.int .i64)), (5, 100320, .obj (.map (.int .i64)))] .o .o))) .o))) .o)))))) .o))))
theorem impl_NamedPile_run (k : Nat) (p0 : (List Int)) : funX Tryz.prog (callT [impl_IsPile_c k]) k Tryz.f23 impl_NamedPile_a [.v (.slc 3 (.int .i64))] [.own false 3 (.int .i64), .v .bool] (p0, ()) = impl_NamedPile_f k p0 := by kernel_rfl
noncomputable def impl_NamedPile_c (k : Nat) : Con := ⟨23, [.v (.slc 3 (.int .i64))], [.own false 3 (.int .i64), .v .bool], fun x => impl_NamedPile_f k x.1⟩
theorem impl_NamedPile_ok (k : Nat) : (impl_NamedPile_c k).Sound Tryz.prog GL := con_ok (k := k) (fn := Tryz.f23) (A := impl_NamedPile_a) (C := callT [impl_IsPile_c k]) Tryz.func23 (by kernel_rfl) (show Tryz.f23.body = some (bodyX Tryz.f23) by rfl) (fun X hX => callT_at (TableOk.cons (impl_IsPile_ok k) TableOk.nil) X hX) (Nat.le_of_ble_eq_true (by kernel_rfl)) (fun ⟨p0, _⟩ y h => by rw [← h]; exact impl_NamedPile_run k p0)
noncomputable def spec_NamedPile_l1_b (k : Nat) (p0 : (List Int)) (rec : (List Int) → Int → (List Int) → Int → Option (((List Int) × Unit) ⊕ (((List Int) × Bool × Unit) × Unit))) (x4 : (List Int)) (x5 : Int) (x6 : (List Int)) (x18 : Int) : Option (((List Int) × Unit) ⊕ (((List Int) × Bool × Unit) × Unit)) :=
  (cond (decide (x18 < ((List.length p0 : Nat) : Int))) (ixk x18 (List.length p0) (chk (decide (0 ≤ x18)) (chk (decide (x18 ≤ ((List.length p0 : Nat) : Int))) (Option.bind (spec_l1Has_f k (List.take (Int.toNat x18) p0) (rd p0 x18)) (fun y27 => (met (cond (!y27.1.1) (ixk (rd p0 x18) (List.length x4) (some (.inl ((setI x4 (rd p0 x18) x5), (iw (x5 + 1)), x6, ())))) (some (.inl (x4, x5, x6, ())))) (fun j2 => (ixk (rd p0 x18) (List.length j2.1) (chk (decide (List.length j2.2.2.1 + List.length [(rd j2.1 (rd p0 x18))] ≤ 15637498706147)) (rec j2.1 j2.2.1 (j2.2.2.1 ++ [(rd j2.1 (rd p0 x18))]) (iw (x18 + 1)))))))))))) (some (.inl (x6, ()))))
noncomputable def spec_NamedPile_l1 (k : Nat) (p0 : (List Int)) (x4 : (List Int)) (x5 : Int) (x6 : (List Int)) (x18 : Int) : Option (((List Int) × Unit) ⊕ (((List Int) × Bool × Unit) × Unit)) := iter k (fun (rec : ((List Int) × Int × (List Int) × Int × Unit) → Option (((List Int) × Unit) ⊕ (((List Int) × Bool × Unit) × Unit))) (x : ((List Int) × Int × (List Int) × Int × Unit)) => spec_NamedPile_l1_b k p0 (fun x4 x5 x6 x18 => rec (x4, x5, x6, x18, ())) x.1 x.2.1 x.2.2.1 x.2.2.2.1) (x4, x5, x6, x18, ())
noncomputable def spec_NamedPile_f (k : Nat) (p0 : (List Int)) : Option (((List Int) × Bool × Unit) × Unit) :=
  (Option.bind (spec_piGood_f k p0) (fun y10 => (cond (!y10.1.1) (some (([], false, ()), ())) (chk (decide ((0 : Int) ≤ (iw (Int.tdiv ((List.length p0 : Nat) : Int) 2)))) (chk (decide ((iw (Int.tdiv ((List.length p0 : Nat) : Int) 2)) ≤ ((15637498706147 : Nat) : Int))) (met (spec_NamedPile_l1 k p0 (List.replicate (Int.toNat (iw (Int.tdiv ((List.length p0 : Nat) : Int) 2))) (0 : Int)) 0 [] 0) (fun j3 => (some ((j3.1, true, ()), ())))))))))
noncomputable def spec_NamedPile_a : Ann := (.q .o (.q .o (.q .o (.q .o (.q .o (.q (.q .o (.m [(6, 100384, .own false 3 (.int .i64))] (.l [(4, 100256, .own false 3 (.int .i64)), (5, 100320, .v (.int .i64)), (6, 100384, .own false 3 (.int .i64)), (18, 101152, .v (.int .i64))] (.q .o (.q .o (.q (.b (.q .o (.q (.q .o (.j [(4, 100256, .own false 3 (.int .i64)), (5, 100320, .v (.int .i64)), (6, 100384, .own false 3 (.int .i64))] .o .o)) .o))) .o)))))) .o))))))
theorem spec_NamedPile_run (k : Nat) (p0 : (List Int)) : funX Tryz.prog (callT [spec_piGood_c k, spec_l1Has_c k]) k Tryz.f24 spec_NamedPile_a [.v (.slc 3 (.int .i64))] [.own false 3 (.int .i64), .v .bool] (p0, ()) = spec_NamedPile_f k p0 := by kernel_rfl
noncomputable def spec_NamedPile_c (k : Nat) : Con := ⟨24, [.v (.slc 3 (.int .i64))], [.own false 3 (.int .i64), .v .bool], fun x => spec_NamedPile_f k x.1⟩
theorem spec_NamedPile_ok (k : Nat) : (spec_NamedPile_c k).Sound Tryz.prog GL := con_ok (k := k) (fn := Tryz.f24) (A := spec_NamedPile_a) (C := callT [spec_piGood_c k, spec_l1Has_c k]) Tryz.func24 (by kernel_rfl) (show Tryz.f24.body = some (bodyX Tryz.f24) by rfl) (fun X hX => callT_at (TableOk.cons (spec_piGood_ok k) (TableOk.cons (spec_l1Has_ok k) TableOk.nil)) X hX) (Nat.le_of_ble_eq_true (by kernel_rfl)) (fun ⟨p0, _⟩ y h => by rw [← h]; exact spec_NamedPile_run k p0)
noncomputable def strconv_Itoa_f (k : Nat) (p0 : Int) : Option ((ByteArray × Unit) × Unit) := (itoaL p0).map fun y => (y, ())
noncomputable def strconv_Itoa_c (k : Nat) : Con := ⟨118, [.v (.int .i64)], [.v .str], fun x => (itoaL x.1).map fun y => (y, ())⟩
theorem strconv_Itoa_ok (k : Nat) : (strconv_Itoa_c k).Sound Tryz.prog GL := itoa_leaf ⟨Tryz.f118, Tryz.func118, by kernel_rfl, by rfl⟩ (fun i hi w => lay_strconv_Itoa_small i hi w)
noncomputable def strings_Join_f (k : Nat) (p0 : (List ByteArray)) (p1 : ByteArray) : Option ((ByteArray × Unit) × Unit) := (joinL p0 p1).map fun y => (y, ())
noncomputable def strings_Join_c (k : Nat) : Con := ⟨119, [.v (.slc 9 .str), .v .str], [.v .str], fun x => (joinL x.1 x.2.1).map fun y => (y, ())⟩
theorem strings_Join_ok (k : Nat) : (strings_Join_c k).Sound Tryz.prog GL := join_leaf ⟨Tryz.f119, Tryz.func119, by kernel_rfl, by rfl⟩ (fun bk o c xs sep w h1 h2 h3 h4 h5 => lay_strings_Join bk o c xs sep w h1 h2 h3 h4 h5) (fun a c sep w => lay_strings_Join_none a c sep w)
noncomputable def impl_joined_l1_b (k : Nat) (p0 : (List Int)) (rec : (List ByteArray) → Int → Option (((List ByteArray) × Unit) ⊕ ((ByteArray × Unit) × Unit))) (x5 : (List ByteArray)) (x11 : Int) : Option (((List ByteArray) × Unit) ⊕ ((ByteArray × Unit) × Unit)) :=
  (cond (decide (x11 < ((List.length p0 : Nat) : Int))) (ixk x11 (List.length p0) (Option.bind (strconv_Itoa_f k (rd p0 x11)) (fun y17 => (chk (decide (List.length x5 + List.length [y17.1.1] ≤ 8278675785607)) (rec (x5 ++ [y17.1.1]) (iw (x11 + 1))))))) (some (.inl (x5, ()))))
noncomputable def impl_joined_l1 (k : Nat) (p0 : (List Int)) (x5 : (List ByteArray)) (x11 : Int) : Option (((List ByteArray) × Unit) ⊕ ((ByteArray × Unit) × Unit)) := iter k (fun (rec : ((List ByteArray) × Int × Unit) → Option (((List ByteArray) × Unit) ⊕ ((ByteArray × Unit) × Unit))) (x : ((List ByteArray) × Int × Unit)) => impl_joined_l1_b k p0 (fun x5 x11 => rec (x5, x11, ())) x.1 x.2.1) (x5, x11, ())
noncomputable def impl_joined_f (k : Nat) (p0 : (List Int)) (p1 : ByteArray) : Option ((ByteArray × Unit) × Unit) :=
  (met (impl_joined_l1 k p0 [] 0) (fun j2 => (Option.bind (strings_Join_f k j2.1 p1) (fun y23 => (some ((y23.1.1, ()), ()))))))
noncomputable def impl_joined_a : Ann := (.q .o (.q .o (.q (.q .o (.m [(5, 100320, .v (.slc 9 .str))] (.l [(5, 100320, .own false 9 .str), (11, 100704, .v (.int .i64))] .o))) .o)))
theorem impl_joined_run (k : Nat) (p0 : (List Int)) (p1 : ByteArray) : funX Tryz.prog (callT [strconv_Itoa_c k, strings_Join_c k]) k Tryz.f81 impl_joined_a [.v (.slc 3 (.int .i64)), .v .str] [.v .str] (p0, p1, ()) = impl_joined_f k p0 p1 := by kernel_rfl
noncomputable def impl_joined_c (k : Nat) : Con := ⟨81, [.v (.slc 3 (.int .i64)), .v .str], [.v .str], fun x => impl_joined_f k x.1 x.2.1⟩
theorem impl_joined_ok (k : Nat) : (impl_joined_c k).Sound Tryz.prog GL := con_ok (k := k) (fn := Tryz.f81) (A := impl_joined_a) (C := callT [strconv_Itoa_c k, strings_Join_c k]) Tryz.func81 (by kernel_rfl) (show Tryz.f81.body = some (bodyX Tryz.f81) by rfl) (fun X hX => callT_at (TableOk.cons (strconv_Itoa_ok k) (TableOk.cons (strings_Join_ok k) TableOk.nil)) X hX) (Nat.le_of_ble_eq_true (by kernel_rfl)) (fun ⟨p0, p1, _⟩ y h => by rw [← h]; exact impl_joined_run k p0 p1)
noncomputable def impl_PileText_f (k : Nat) (p0 : (List Int)) : Option ((ByteArray × Bool × Unit) × Unit) :=
  (Option.bind (impl_IsPile_f k p0) (fun y5 => (cond (!y5.1.1) (some ((ByteArray.empty, false, ()), ())) (Option.bind (impl_joined_f k p0 ByteArray.empty) (fun y8 => (some ((y8.1.1, true, ()), ())))))))
noncomputable def impl_PileText_a : Ann := .o
theorem impl_PileText_run (k : Nat) (p0 : (List Int)) : funX Tryz.prog (callT [impl_IsPile_c k, impl_joined_c k]) k Tryz.f25 impl_PileText_a [.v (.slc 3 (.int .i64))] [.v .str, .v .bool] (p0, ()) = impl_PileText_f k p0 := by kernel_rfl
noncomputable def impl_PileText_c (k : Nat) : Con := ⟨25, [.v (.slc 3 (.int .i64))], [.v .str, .v .bool], fun x => impl_PileText_f k x.1⟩
theorem impl_PileText_ok (k : Nat) : (impl_PileText_c k).Sound Tryz.prog GL := con_ok (k := k) (fn := Tryz.f25) (A := impl_PileText_a) (C := callT [impl_IsPile_c k, impl_joined_c k]) Tryz.func25 (by kernel_rfl) (show Tryz.f25.body = some (bodyX Tryz.f25) by rfl) (fun X hX => callT_at (TableOk.cons (impl_IsPile_ok k) (TableOk.cons (impl_joined_ok k) TableOk.nil)) X hX) (Nat.le_of_ble_eq_true (by kernel_rfl)) (fun ⟨p0, _⟩ y h => by rw [← h]; exact impl_PileText_run k p0)
noncomputable def spec_l1Num_s (k : Nat) (me : Int → Option ((ByteArray × Unit) × Unit)) (p0 : Int) : Option ((ByteArray × Unit) × Unit) :=
  (cond (decide (p0 < 10)) (some (((strOfNums [(IntKind.wrap .u8 ((iw (48 + p0))))]), ()), ())) (met (andX (Option.bind (me (iw (Int.tdiv p0 10))) (fun y12 => (chk (decide (y12.1.1.size + (strOfNums [(IntKind.wrap .u8 ((iw (48 + (Int.tmod p0 10)))))]).size ≤ 9223372036854775807)) (some (.inl ((y12.1.1 ++ (strOfNums [(IntKind.wrap .u8 ((iw (48 + (Int.tmod p0 10)))))])), ())))))) ((fun q => andX q q) (Option.bind (me (iw (Int.tdiv p0 10))) (fun y12_1 => (chk (decide (y12_1.1.1.size + (strOfNums [(IntKind.wrap .u8 ((iw (48 + (Int.tmod p0 10)))))]).size ≤ 9223372036854775807)) (some (.inl ((y12_1.1.1 ++ (strOfNums [(IntKind.wrap .u8 ((iw (48 + (Int.tmod p0 10)))))])), ())))))))) (fun j1 => (some ((j1.1, ()), ())))))
noncomputable def spec_l1Num_r (k : Nat) : Nat → Int → Option ((ByteArray × Unit) × Unit)
  | 0 => fun _ => none
  | n + 1 => spec_l1Num_s k (spec_l1Num_r k n)
noncomputable def spec_l1Num_f (k : Nat) : Int → Option ((ByteArray × Unit) × Unit) := spec_l1Num_r k k
noncomputable def spec_l1Num_a : Ann := (.q .o (.q .o (.q (.d [] [10] [(2, 100128, .v .str)]) .o)))
noncomputable def spec_l1Num_d (k n : Nat) : Con := ⟨120, [.v (.int .i64)], [.v .str], fun x => spec_l1Num_r k n x.1⟩
theorem spec_l1Num_run (k n : Nat) (p0 : Int) : funX Tryz.prog (callT [spec_l1Num_d k n]) k Tryz.f120 spec_l1Num_a [.v (.int .i64)] [.v .str] (p0, ()) = spec_l1Num_r k (n + 1) p0 := by kernel_rfl
theorem spec_l1Num_rec (k : Nat) : ∀ n : Nat, (spec_l1Num_d k n).Sound Tryz.prog GL
  | 0 => con_none Tryz.func120 (by kernel_rfl) (show Tryz.f120.body = some (bodyX Tryz.f120) by rfl) (fun _ => rfl)
  | n + 1 => con_ok (k := k) (fn := Tryz.f120) (A := spec_l1Num_a) (C := callT [spec_l1Num_d k n]) Tryz.func120 (by kernel_rfl) (show Tryz.f120.body = some (bodyX Tryz.f120) by rfl) (fun X hX => callT_at (TableOk.cons (spec_l1Num_rec k n) TableOk.nil) X hX) (Nat.le_of_ble_eq_true (by kernel_rfl)) (fun ⟨p0, _⟩ y h => by rw [← h]; exact spec_l1Num_run k n p0)
noncomputable def spec_l1Num_c (k : Nat) : Con := ⟨120, [.v (.int .i64)], [.v .str], fun x => spec_l1Num_f k x.1⟩
theorem spec_l1Num_ok (k : Nat) : (spec_l1Num_c k).Sound Tryz.prog GL := spec_l1Num_rec k k
noncomputable def spec_piText_l1_b (k : Nat) (p0 : (List Int)) (rec : ByteArray → Int → Option ((ByteArray × Unit) ⊕ ((ByteArray × Unit) × Unit))) (x3 : ByteArray) (x8 : Int) : Option ((ByteArray × Unit) ⊕ ((ByteArray × Unit) × Unit)) :=
  (cond (decide (x8 < ((List.length p0 : Nat) : Int))) (ixk x8 (List.length p0) (Option.bind (spec_l1Num_f k (rd p0 x8)) (fun y14 => (chk (decide (x3.size + y14.1.1.size ≤ 9223372036854775807)) (rec (x3 ++ y14.1.1) (iw (x8 + 1))))))) (some (.inl (x3, ()))))
noncomputable def spec_piText_l1 (k : Nat) (p0 : (List Int)) (x3 : ByteArray) (x8 : Int) : Option ((ByteArray × Unit) ⊕ ((ByteArray × Unit) × Unit)) := iter k (fun (rec : (ByteArray × Int × Unit) → Option ((ByteArray × Unit) ⊕ ((ByteArray × Unit) × Unit))) (x : (ByteArray × Int × Unit)) => spec_piText_l1_b k p0 (fun x3 x8 => rec (x3, x8, ())) x.1 x.2.1) (x3, x8, ())
noncomputable def spec_piText_f (k : Nat) (p0 : (List Int)) : Option ((ByteArray × Unit) × Unit) :=
  (met (spec_piText_l1 k p0 ByteArray.empty 0) (fun j2 => (some ((j2.1, ()), ()))))
noncomputable def spec_piText_a : Ann := (.q .o (.q .o (.q (.q .o (.m [(3, 100192, .v .str)] (.l [(3, 100192, .v .str), (8, 100512, .v (.int .i64))] .o))) .o)))
theorem spec_piText_run (k : Nat) (p0 : (List Int)) : funX Tryz.prog (callT [spec_l1Num_c k]) k Tryz.f82 spec_piText_a [.v (.slc 3 (.int .i64))] [.v .str] (p0, ()) = spec_piText_f k p0 := by kernel_rfl
noncomputable def spec_piText_c (k : Nat) : Con := ⟨82, [.v (.slc 3 (.int .i64))], [.v .str], fun x => spec_piText_f k x.1⟩
theorem spec_piText_ok (k : Nat) : (spec_piText_c k).Sound Tryz.prog GL := con_ok (k := k) (fn := Tryz.f82) (A := spec_piText_a) (C := callT [spec_l1Num_c k]) Tryz.func82 (by kernel_rfl) (show Tryz.f82.body = some (bodyX Tryz.f82) by rfl) (fun X hX => callT_at (TableOk.cons (spec_l1Num_ok k) TableOk.nil) X hX) (Nat.le_of_ble_eq_true (by kernel_rfl)) (fun ⟨p0, _⟩ y h => by rw [← h]; exact spec_piText_run k p0)
noncomputable def spec_PileText_f (k : Nat) (p0 : (List Int)) : Option ((ByteArray × Bool × Unit) × Unit) :=
  (Option.bind (spec_piGood_f k p0) (fun y5 => (cond (!y5.1.1) (some ((ByteArray.empty, false, ()), ())) (Option.bind (spec_piText_f k p0) (fun y8 => (some ((y8.1.1, true, ()), ())))))))
noncomputable def spec_PileText_a : Ann := .o
theorem spec_PileText_run (k : Nat) (p0 : (List Int)) : funX Tryz.prog (callT [spec_piGood_c k, spec_piText_c k]) k Tryz.f26 spec_PileText_a [.v (.slc 3 (.int .i64))] [.v .str, .v .bool] (p0, ()) = spec_PileText_f k p0 := by kernel_rfl
noncomputable def spec_PileText_c (k : Nat) : Con := ⟨26, [.v (.slc 3 (.int .i64))], [.v .str, .v .bool], fun x => spec_PileText_f k x.1⟩
theorem spec_PileText_ok (k : Nat) : (spec_PileText_c k).Sound Tryz.prog GL := con_ok (k := k) (fn := Tryz.f26) (A := spec_PileText_a) (C := callT [spec_piGood_c k, spec_piText_c k]) Tryz.func26 (by kernel_rfl) (show Tryz.f26.body = some (bodyX Tryz.f26) by rfl) (fun X hX => callT_at (TableOk.cons (spec_piGood_ok k) (TableOk.cons (spec_piText_ok k) TableOk.nil)) X hX) (Nat.le_of_ble_eq_true (by kernel_rfl)) (fun ⟨p0, _⟩ y h => by rw [← h]; exact spec_PileText_run k p0)
noncomputable def laws_zSame_l1_b (k : Nat) (p0 : (List Int)) (p1 : (List Int)) (rec : Int → Option (Unit ⊕ ((Bool × Unit) × Unit))) (x13 : Int) : Option (Unit ⊕ ((Bool × Unit) × Unit)) :=
  (cond (decide (x13 < ((List.length p0 : Nat) : Int))) (ixk x13 (List.length p0) (ixk x13 (List.length p1) (cond ((rd p0 x13) != (rd p1 x13)) (some (.inr ((false, ()), ()))) (rec (iw (x13 + 1)))))) (some (.inl ())))
noncomputable def laws_zSame_l1 (k : Nat) (p0 : (List Int)) (p1 : (List Int)) (x13 : Int) : Option (Unit ⊕ ((Bool × Unit) × Unit)) := iter k (fun (rec : (Int × Unit) → Option (Unit ⊕ ((Bool × Unit) × Unit))) (x : (Int × Unit)) => laws_zSame_l1_b k p0 p1 (fun x13 => rec (x13, ())) x.1) (x13, ())
noncomputable def laws_zSame_f (k : Nat) (p0 : (List Int)) (p1 : (List Int)) : Option ((Bool × Unit) × Unit) :=
  (cond (((List.length p0 : Nat) : Int) != ((List.length p1 : Nat) : Int)) (some ((false, ()), ())) (met (laws_zSame_l1 k p0 p1 0) (fun j2 => (some ((true, ()), ())))))
noncomputable def laws_zSame_a : Ann := (.q .o (.q .o (.q (.q .o (.m [] (.l [(13, 100832, .v (.int .i64))] .o))) .o)))
theorem laws_zSame_run (k : Nat) (p0 : (List Int)) (p1 : (List Int)) : funX Tryz.prog (callT []) k Tryz.f27 laws_zSame_a [.v (.slc 3 (.int .i64)), .v (.slc 3 (.int .i64))] [.v .bool] (p0, p1, ()) = laws_zSame_f k p0 p1 := by kernel_rfl
noncomputable def laws_zSame_c (k : Nat) : Con := ⟨27, [.v (.slc 3 (.int .i64)), .v (.slc 3 (.int .i64))], [.v .bool], fun x => laws_zSame_f k x.1 x.2.1⟩
theorem laws_zSame_ok (k : Nat) : (laws_zSame_c k).Sound Tryz.prog GL := con_ok (k := k) (fn := Tryz.f27) (A := laws_zSame_a) (C := callT []) Tryz.func27 (by kernel_rfl) (show Tryz.f27.body = some (bodyX Tryz.f27) by rfl) (fun X hX => callT_at TableOk.nil X hX) (Nat.le_of_ble_eq_true (by kernel_rfl)) (fun ⟨p0, p1, _⟩ y h => by rw [← h]; exact laws_zSame_run k p0 p1)
noncomputable def spec_IsPile_f (k : Nat) (p0 : (List Int)) : Option ((Bool × Unit) × Unit) :=
  (Option.bind (spec_piGood_f k p0) (fun y4 => (some ((y4.1.1, ()), ()))))
noncomputable def spec_IsPile_a : Ann := .o
theorem spec_IsPile_run (k : Nat) (p0 : (List Int)) : funX Tryz.prog (callT [spec_piGood_c k]) k Tryz.f29 spec_IsPile_a [.v (.slc 3 (.int .i64))] [.v .bool] (p0, ()) = spec_IsPile_f k p0 := by kernel_rfl
noncomputable def spec_IsPile_c (k : Nat) : Con := ⟨29, [.v (.slc 3 (.int .i64))], [.v .bool], fun x => spec_IsPile_f k x.1⟩
theorem spec_IsPile_ok (k : Nat) : (spec_IsPile_c k).Sound Tryz.prog GL := con_ok (k := k) (fn := Tryz.f29) (A := spec_IsPile_a) (C := callT [spec_piGood_c k]) Tryz.func29 (by kernel_rfl) (show Tryz.f29.body = some (bodyX Tryz.f29) by rfl) (fun X hX => callT_at (TableOk.cons (spec_piGood_ok k) TableOk.nil) X hX) (Nat.le_of_ble_eq_true (by kernel_rfl)) (fun ⟨p0, _⟩ y h => by rw [← h]; exact spec_IsPile_run k p0)
noncomputable def laws_zSum_l1_b (k : Nat) (p0 : (List Int)) (rec : Int → Int → Option ((Int × Unit) ⊕ ((Int × Unit) × Unit))) (x3 : Int) (x8 : Int) : Option ((Int × Unit) ⊕ ((Int × Unit) × Unit)) :=
  (cond (decide (x8 < ((List.length p0 : Nat) : Int))) (ixk x8 (List.length p0) (rec (iw (x3 + (rd p0 x8))) (iw (x8 + 1)))) (some (.inl (x3, ()))))
noncomputable def laws_zSum_l1 (k : Nat) (p0 : (List Int)) (x3 : Int) (x8 : Int) : Option ((Int × Unit) ⊕ ((Int × Unit) × Unit)) := iter k (fun (rec : (Int × Int × Unit) → Option ((Int × Unit) ⊕ ((Int × Unit) × Unit))) (x : (Int × Int × Unit)) => laws_zSum_l1_b k p0 (fun x3 x8 => rec (x3, x8, ())) x.1 x.2.1) (x3, x8, ())
noncomputable def laws_zSum_f (k : Nat) (p0 : (List Int)) : Option ((Int × Unit) × Unit) :=
  (met (laws_zSum_l1 k p0 0 0) (fun j2 => (some ((j2.1, ()), ()))))
noncomputable def laws_zSum_a : Ann := (.q .o (.q .o (.q (.q .o (.m [(3, 100192, .v (.int .i64))] (.l [(3, 100192, .v (.int .i64)), (8, 100512, .v (.int .i64))] .o))) .o)))
theorem laws_zSum_run (k : Nat) (p0 : (List Int)) : funX Tryz.prog (callT []) k Tryz.f30 laws_zSum_a [.v (.slc 3 (.int .i64))] [.v (.int .i64)] (p0, ()) = laws_zSum_f k p0 := by kernel_rfl
noncomputable def laws_zSum_c (k : Nat) : Con := ⟨30, [.v (.slc 3 (.int .i64))], [.v (.int .i64)], fun x => laws_zSum_f k x.1⟩
theorem laws_zSum_ok (k : Nat) : (laws_zSum_c k).Sound Tryz.prog GL := con_ok (k := k) (fn := Tryz.f30) (A := laws_zSum_a) (C := callT []) Tryz.func30 (by kernel_rfl) (show Tryz.f30.body = some (bodyX Tryz.f30) by rfl) (fun X hX => callT_at TableOk.nil X hX) (Nat.le_of_ble_eq_true (by kernel_rfl)) (fun ⟨p0, _⟩ y h => by rw [← h]; exact laws_zSum_run k p0)
noncomputable def impl_isPilePairs_f (k : Nat) (p0 : Int) : Option ((Bool × Unit) × Unit) :=
  (Option.bind (impl_within_f k p0 1 8) (fun y4 => (some ((y4.1.1, ()), ()))))
noncomputable def impl_isPilePairs_a : Ann := .o
theorem impl_isPilePairs_run (k : Nat) (p0 : Int) : funX Tryz.prog (callT [impl_within_c k]) k Tryz.f84 impl_isPilePairs_a [.v (.int .i64)] [.v .bool] (p0, ()) = impl_isPilePairs_f k p0 := by kernel_rfl
noncomputable def impl_isPilePairs_c (k : Nat) : Con := ⟨84, [.v (.int .i64)], [.v .bool], fun x => impl_isPilePairs_f k x.1⟩
theorem impl_isPilePairs_ok (k : Nat) : (impl_isPilePairs_c k).Sound Tryz.prog GL := con_ok (k := k) (fn := Tryz.f84) (A := impl_isPilePairs_a) (C := callT [impl_within_c k]) Tryz.func84 (by kernel_rfl) (show Tryz.f84.body = some (bodyX Tryz.f84) by rfl) (fun X hX => callT_at (TableOk.cons (impl_within_ok k) TableOk.nil) X hX) (Nat.le_of_ble_eq_true (by kernel_rfl)) (fun ⟨p0, _⟩ y h => by rw [← h]; exact impl_isPilePairs_run k p0)
noncomputable def strings_Trim_f (k : Nat) (p0 : ByteArray) (p1 : ByteArray) : Option ((ByteArray × Unit) × Unit) := (trimL p0 p1).map fun y => (y, ())
noncomputable def strings_Trim_c (k : Nat) : Con := ⟨85, [.v .str, .v .str], [.v .str], fun x => (trimL x.1 x.2.1).map fun y => (y, ())⟩
theorem strings_Trim_ok (k : Nat) : (strings_Trim_c k).Sound Tryz.prog GL := trim_leaf ⟨Tryz.f85, Tryz.func85, by kernel_rfl, by rfl⟩ (fun s c w h1 h2 h3 => lay_strings_Trim_laid s c w h1 h2 h3)
noncomputable def slices_Min_int_int_l2_b (k : Nat) (p0 : (List Int)) (rec : Int → Int → Option ((Int × Unit) ⊕ ((Int × Unit) × Unit))) (x3 : Int) (x4 : Int) : Option ((Int × Unit) ⊕ ((Int × Unit) × Unit)) :=
  (cond (decide (x4 < ((List.length p0 : Nat) : Int))) (ixk x4 (List.length p0) (rec (min2 x3 (rd p0 x4)) (iw (x4 + 1)))) (some (.inl (x3, ()))))
noncomputable def slices_Min_int_int_l2 (k : Nat) (p0 : (List Int)) (x3 : Int) (x4 : Int) : Option ((Int × Unit) ⊕ ((Int × Unit) × Unit)) := iter k (fun (rec : (Int × Int × Unit) → Option ((Int × Unit) ⊕ ((Int × Unit) × Unit))) (x : (Int × Int × Unit)) => slices_Min_int_int_l2_b k p0 (fun x3 x4 => rec (x3, x4, ())) x.1 x.2.1) (x3, x4, ())
noncomputable def slices_Min_int_int_f (k : Nat) (p0 : (List Int)) : Option ((Int × Unit) × Unit) :=
  (met (cond (decide (((List.length p0 : Nat) : Int) < 1)) none (some (.inl ()))) (fun j1 => (chk (decide ((0 : Int) < ((List.length p0 : Nat) : Int))) (met (slices_Min_int_int_l2 k p0 (rd p0 0) 1) (fun j3 => (some ((j3.1, ()), ())))))))
noncomputable def slices_Min_int_int_a : Ann := (.q .o (.q (.q .o (.j [] .o .o)) (.q .o (.q (.q .o (.m [(3, 100192, .v (.int .i64))] (.l [(3, 100192, .v (.int .i64)), (4, 100256, .v (.int .i64))] .o))) .o))))
theorem slices_Min_int_int_run (k : Nat) (p0 : (List Int)) : funX Tryz.prog (callT []) k Tryz.f86 slices_Min_int_int_a [.v (.slc 3 (.int .i64))] [.v (.int .i64)] (p0, ()) = slices_Min_int_int_f k p0 := by kernel_rfl
noncomputable def slices_Min_int_int_c (k : Nat) : Con := ⟨86, [.v (.slc 3 (.int .i64))], [.v (.int .i64)], fun x => slices_Min_int_int_f k x.1⟩
theorem slices_Min_int_int_ok (k : Nat) : (slices_Min_int_int_c k).Sound Tryz.prog GL := con_ok (k := k) (fn := Tryz.f86) (A := slices_Min_int_int_a) (C := callT []) Tryz.func86 (by kernel_rfl) (show Tryz.f86.body = some (bodyX Tryz.f86) by rfl) (fun X hX => callT_at TableOk.nil X hX) (Nat.le_of_ble_eq_true (by kernel_rfl)) (fun ⟨p0, _⟩ y h => by rw [← h]; exact slices_Min_int_int_run k p0)
noncomputable def impl_IsShape_f (k : Nat) (p0 : ByteArray) : Option ((Bool × Unit) × Unit) :=
  (met (cond ((Int.tmod ((ByteArray.size p0 : Nat) : Int) 2) == 1) (some (.inl (true, ()))) (Option.bind (impl_isPilePairs_f k (iw (Int.tdiv ((ByteArray.size p0 : Nat) : Int) 2))) (fun y12 => (cond (!y12.1.1) (some (.inl (true, ()))) (Option.bind (strings_Trim_f k p0 (lit [43, 45])) (fun y17 => (some (.inl ((!(y17.1.1.toList == ByteArray.empty.toList)), ()))))))))) (fun j1 => (cond j1.1 (some ((false, ()), ())) (Option.bind (impl_heights_f k p0) (fun y21 => (met (Option.bind (slices_Min_int_int_f k y21.1.1) (fun y23 => (cond (y23.1.1 == 0) (ixk ((ByteArray.size p0 : Nat) : Int) (List.length y21.1.1) (some (.inl (((rd y21.1.1 ((ByteArray.size p0 : Nat) : Int)) == 0), ())))) (some (.inl (false, ())))))) (fun j2 => (some ((j2.1, ()), ())))))))))
noncomputable def impl_IsShape_a : Ann := (.q .o (.q (.q (.r [(19, 101216, .v .bool)]) .o) (.q .o (.q (.r [(2, 100128, .v .bool)]) .o))))
theorem impl_IsShape_run (k : Nat) (p0 : ByteArray) : funX Tryz.prog (callT [impl_isPilePairs_c k, strings_Trim_c k, impl_heights_c k, slices_Min_int_int_c k]) k Tryz.f31 impl_IsShape_a [.v .str] [.v .bool] (p0, ()) = impl_IsShape_f k p0 := by kernel_rfl
noncomputable def impl_IsShape_c (k : Nat) : Con := ⟨31, [.v .str], [.v .bool], fun x => impl_IsShape_f k x.1⟩
theorem impl_IsShape_ok (k : Nat) : (impl_IsShape_c k).Sound Tryz.prog GL := con_ok (k := k) (fn := Tryz.f31) (A := impl_IsShape_a) (C := callT [impl_isPilePairs_c k, strings_Trim_c k, impl_heights_c k, slices_Min_int_int_c k]) Tryz.func31 (by kernel_rfl) (show Tryz.f31.body = some (bodyX Tryz.f31) by rfl) (fun X hX => callT_at (TableOk.cons (impl_isPilePairs_ok k) (TableOk.cons (strings_Trim_ok k) (TableOk.cons (impl_heights_ok k) (TableOk.cons (slices_Min_int_int_ok k) TableOk.nil)))) X hX) (Nat.le_of_ble_eq_true (by kernel_rfl)) (fun ⟨p0, _⟩ y h => by rw [← h]; exact impl_IsShape_run k p0)
noncomputable def laws_zHas_l1_b (k : Nat) (p0 : (List Int)) (p1 : Int) (rec : Int → Option (Unit ⊕ ((Bool × Unit) × Unit))) (x9 : Int) : Option (Unit ⊕ ((Bool × Unit) × Unit)) :=
  (cond (decide (x9 < ((List.length p0 : Nat) : Int))) (ixk x9 (List.length p0) (cond ((rd p0 x9) == p1) (some (.inr ((true, ()), ()))) (rec (iw (x9 + 1))))) (some (.inl ())))
noncomputable def laws_zHas_l1 (k : Nat) (p0 : (List Int)) (p1 : Int) (x9 : Int) : Option (Unit ⊕ ((Bool × Unit) × Unit)) := iter k (fun (rec : (Int × Unit) → Option (Unit ⊕ ((Bool × Unit) × Unit))) (x : (Int × Unit)) => laws_zHas_l1_b k p0 p1 (fun x9 => rec (x9, ())) x.1) (x9, ())
noncomputable def laws_zHas_f (k : Nat) (p0 : (List Int)) (p1 : Int) : Option ((Bool × Unit) × Unit) :=
  (met (laws_zHas_l1 k p0 p1 0) (fun j2 => (some ((false, ()), ()))))
noncomputable def laws_zHas_a : Ann := (.q .o (.q (.q .o (.m [] (.l [(9, 100576, .v (.int .i64))] .o))) .o))
theorem laws_zHas_run (k : Nat) (p0 : (List Int)) (p1 : Int) : funX Tryz.prog (callT []) k Tryz.f32 laws_zHas_a [.v (.slc 3 (.int .i64)), .v (.int .i64)] [.v .bool] (p0, p1, ()) = laws_zHas_f k p0 p1 := by kernel_rfl
noncomputable def laws_zHas_c (k : Nat) : Con := ⟨32, [.v (.slc 3 (.int .i64)), .v (.int .i64)], [.v .bool], fun x => laws_zHas_f k x.1 x.2.1⟩
theorem laws_zHas_ok (k : Nat) : (laws_zHas_c k).Sound Tryz.prog GL := con_ok (k := k) (fn := Tryz.f32) (A := laws_zHas_a) (C := callT []) Tryz.func32 (by kernel_rfl) (show Tryz.f32.body = some (bodyX Tryz.f32) by rfl) (fun X hX => callT_at TableOk.nil X hX) (Nat.le_of_ble_eq_true (by kernel_rfl)) (fun ⟨p0, p1, _⟩ y h => by rw [← h]; exact laws_zHas_run k p0 p1)
noncomputable def strconv_Atoi_f (k : Nat) (p0 : ByteArray) : Option ((Int × Unit × Unit) × Unit) := (atoiL p0).map fun y => (y, ())
noncomputable def strconv_Atoi_c (k : Nat) : Con := ⟨128, [.v .str], [.v (.int .i64), .nilI], fun x => (atoiL x.1).map fun y => (y, ())⟩
theorem strconv_Atoi_ok (k : Nat) : (strconv_Atoi_c k).Sound Tryz.prog GL := atoi_leaf (t := 5) ⟨Tryz.f128, Tryz.func128, by kernel_rfl, by rfl⟩ (fun s h1 v h2 w => lay_strconv_Atoi_ok s h1 v h2 w)
noncomputable def impl_number_f (k : Nat) (p0 : ByteArray) (p1 : Int) : Option ((Int × Bool × Unit) × Unit) :=
  (met (Option.bind (impl_within_f k ((ByteArray.size p0 : Nat) : Int) 1 p1) (fun y11 => (cond (!y11.1.1) (some (.inl (true, ()))) (Option.bind (strings_Trim_f k p0 (lit [48, 49, 50, 51, 52, 53, 54, 55, 56, 57])) (fun y15 => (cond (!(y15.1.1.toList == ByteArray.empty.toList)) (some (.inl (true, ()))) (chk (decide ((0 : Int) < ((ByteArray.size p0 : Nat) : Int))) (cond ((byteAt p0 0) == 48) (some (.inl ((decide (((ByteArray.size p0 : Nat) : Int) > 1)), ()))) (some (.inl (false, ()))))))))))) (fun j1 => (cond j1.1 (some ((0, false, ()), ())) (Option.bind (strconv_Atoi_f k p0) (fun y30 => (some ((y30.1.1, true, ()), ())))))))
noncomputable def impl_number_a : Ann := (.q .o (.q (.q (.r [(27, 101728, .v .bool)]) .o) (.q .o (.q (.e [] [4]) .o))))
theorem impl_number_run (k : Nat) (p0 : ByteArray) (p1 : Int) : funX Tryz.prog (callT [impl_within_c k, strings_Trim_c k, strconv_Atoi_c k]) k Tryz.f87 impl_number_a [.v .str, .v (.int .i64)] [.v (.int .i64), .v .bool] (p0, p1, ()) = impl_number_f k p0 p1 := by kernel_rfl
noncomputable def impl_number_c (k : Nat) : Con := ⟨87, [.v .str, .v (.int .i64)], [.v (.int .i64), .v .bool], fun x => impl_number_f k x.1 x.2.1⟩
theorem impl_number_ok (k : Nat) : (impl_number_c k).Sound Tryz.prog GL := con_ok (k := k) (fn := Tryz.f87) (A := impl_number_a) (C := callT [impl_within_c k, strings_Trim_c k, strconv_Atoi_c k]) Tryz.func87 (by kernel_rfl) (show Tryz.f87.body = some (bodyX Tryz.f87) by rfl) (fun X hX => callT_at (TableOk.cons (impl_within_ok k) (TableOk.cons (strings_Trim_ok k) (TableOk.cons (strconv_Atoi_ok k) TableOk.nil))) X hX) (Nat.le_of_ble_eq_true (by kernel_rfl)) (fun ⟨p0, p1, _⟩ y h => by rw [← h]; exact impl_number_run k p0 p1)
noncomputable def impl_ParsePile_l1_b (k : Nat) (p0 : ByteArray) (rec : (List Int) → Int → Option (((List Int) × Unit) ⊕ (((List Int) × Bool × Unit) × Unit))) (x4 : (List Int)) (x14 : Int) : Option (((List Int) × Unit) ⊕ (((List Int) × Bool × Unit) × Unit)) :=
  (cond (decide (x14 < ((ByteArray.size p0 : Nat) : Int))) (chk (decide (0 ≤ (iw (x14 + 1)))) (chk (decide ((iw (x14 + 1)) ≤ ((ByteArray.size p0 : Nat) : Int))) (chk (decide (0 ≤ x14)) (chk (decide (x14 ≤ (iw (x14 + 1)))) (Option.bind (impl_number_f k (ByteArray.extract p0 (Int.toNat x14) (Int.toNat (iw (x14 + 1)))) 1) (fun y23 => (cond (!y23.1.2.1) (some (.inr (([], false, ()), ()))) (chk (decide (List.length x4 + List.length [y23.1.1] ≤ 15637498706147)) (rec (x4 ++ [y23.1.1]) (iw (x14 + 1))))))))))) (some (.inl (x4, ()))))
noncomputable def impl_ParsePile_l1 (k : Nat) (p0 : ByteArray) (x4 : (List Int)) (x14 : Int) : Option (((List Int) × Unit) ⊕ (((List Int) × Bool × Unit) × Unit)) := iter k (fun (rec : ((List Int) × Int × Unit) → Option (((List Int) × Unit) ⊕ (((List Int) × Bool × Unit) × Unit))) (x : ((List Int) × Int × Unit)) => impl_ParsePile_l1_b k p0 (fun x4 x14 => rec (x4, x14, ())) x.1 x.2.1) (x4, x14, ())
noncomputable def impl_ParsePile_f (k : Nat) (p0 : ByteArray) : Option (((List Int) × Bool × Unit) × Unit) :=
  (cond (decide (((ByteArray.size p0 : Nat) : Int) > 16)) (some (([], false, ()), ())) (met (impl_ParsePile_l1 k p0 [] 0) (fun j2 => (Option.bind (impl_IsPile_f k j2.1) (fun y34 => (cond (!y34.1.1) (some (([], false, ()), ())) (some ((j2.1, true, ()), ()))))))))
noncomputable def impl_ParsePile_a : Ann := (.q .o (.q .o (.q .o (.q (.q .o (.m [(4, 100256, .own false 3 (.int .i64))] (.l [(4, 100256, .own false 3 (.int .i64)), (14, 100896, .v (.int .i64))] .o))) .o))))
theorem impl_ParsePile_run (k : Nat) (p0 : ByteArray) : funX Tryz.prog (callT [impl_number_c k, impl_IsPile_c k]) k Tryz.f33 impl_ParsePile_a [.v .str] [.own false 3 (.int .i64), .v .bool] (p0, ()) = impl_ParsePile_f k p0 := by kernel_rfl
noncomputable def impl_ParsePile_c (k : Nat) : Con := ⟨33, [.v .str], [.own false 3 (.int .i64), .v .bool], fun x => impl_ParsePile_f k x.1⟩
theorem impl_ParsePile_ok (k : Nat) : (impl_ParsePile_c k).Sound Tryz.prog GL := con_ok (k := k) (fn := Tryz.f33) (A := impl_ParsePile_a) (C := callT [impl_number_c k, impl_IsPile_c k]) Tryz.func33 (by kernel_rfl) (show Tryz.f33.body = some (bodyX Tryz.f33) by rfl) (fun X hX => callT_at (TableOk.cons (impl_number_ok k) (TableOk.cons (impl_IsPile_ok k) TableOk.nil)) X hX) (Nat.le_of_ble_eq_true (by kernel_rfl)) (fun ⟨p0, _⟩ y h => by rw [← h]; exact impl_ParsePile_run k p0)
noncomputable def laws_zBefore_l1_b (k : Nat) (p0 : (List Int)) (p1 : (List Int)) (rec : Int → Option (Unit ⊕ ((Bool × Unit) × Unit))) (x5 : Int) : Option (Unit ⊕ ((Bool × Unit) × Unit)) :=
  (met (cond (decide (x5 < ((List.length p0 : Nat) : Int))) (some (.inl ((decide (x5 < ((List.length p1 : Nat) : Int))), ()))) (some (.inl (false, ())))) (fun j2 => (cond j2.1 (ixk x5 (List.length p0) (ixk x5 (List.length p1) (cond ((rd p0 x5) != (rd p1 x5)) (ixk x5 (List.length p0) (ixk x5 (List.length p1) (some (.inr (((decide ((rd p0 x5) < (rd p1 x5))), ()), ()))))) (rec (iw (x5 + 1)))))) (some (.inl ())))))
noncomputable def laws_zBefore_l1 (k : Nat) (p0 : (List Int)) (p1 : (List Int)) (x5 : Int) : Option (Unit ⊕ ((Bool × Unit) × Unit)) := iter k (fun (rec : (Int × Unit) → Option (Unit ⊕ ((Bool × Unit) × Unit))) (x : (Int × Unit)) => laws_zBefore_l1_b k p0 p1 (fun x5 => rec (x5, ())) x.1) (x5, ())
noncomputable def laws_zBefore_f (k : Nat) (p0 : (List Int)) (p1 : (List Int)) : Option ((Bool × Unit) × Unit) :=
  (met (laws_zBefore_l1 k p0 p1 0) (fun j3 => (some (((decide (((List.length p0 : Nat) : Int) ≤ ((List.length p1 : Nat) : Int))), ()), ()))))
noncomputable def laws_zBefore_a : Ann := (.q .o (.q (.q .o (.m [] (.l [(5, 100320, .v (.int .i64))] (.q (.q (.r [(15, 100960, .v .bool)]) .o) (.q (.b (.q .o (.c (.q (.e [] [9]) .o) .o))) .o))))) .o))
theorem laws_zBefore_run (k : Nat) (p0 : (List Int)) (p1 : (List Int)) : funX Tryz.prog (callT []) k Tryz.f34 laws_zBefore_a [.v (.slc 3 (.int .i64)), .v (.slc 3 (.int .i64))] [.v .bool] (p0, p1, ()) = laws_zBefore_f k p0 p1 := by kernel_rfl
noncomputable def laws_zBefore_c (k : Nat) : Con := ⟨34, [.v (.slc 3 (.int .i64)), .v (.slc 3 (.int .i64))], [.v .bool], fun x => laws_zBefore_f k x.1 x.2.1⟩
theorem laws_zBefore_ok (k : Nat) : (laws_zBefore_c k).Sound Tryz.prog GL := con_ok (k := k) (fn := Tryz.f34) (A := laws_zBefore_a) (C := callT []) Tryz.func34 (by kernel_rfl) (show Tryz.f34.body = some (bodyX Tryz.f34) by rfl) (fun X hX => callT_at TableOk.nil X hX) (Nat.le_of_ble_eq_true (by kernel_rfl)) (fun ⟨p0, p1, _⟩ y h => by rw [← h]; exact laws_zBefore_run k p0 p1)
noncomputable def laws_zRises_l1_b (k : Nat) (p0 : (List Int)) (rec : Int → Option (Unit ⊕ ((Bool × Unit) × Unit))) (x3 : Int) : Option (Unit ⊕ ((Bool × Unit) × Unit)) :=
  (cond (decide (x3 < ((List.length p0 : Nat) : Int))) (ixk (iw (x3 - 1)) (List.length p0) (ixk x3 (List.length p0) (cond (decide ((rd p0 (iw (x3 - 1))) ≥ (rd p0 x3))) (some (.inr ((false, ()), ()))) (rec (iw (x3 + 1)))))) (some (.inl ())))
noncomputable def laws_zRises_l1 (k : Nat) (p0 : (List Int)) (x3 : Int) : Option (Unit ⊕ ((Bool × Unit) × Unit)) := iter k (fun (rec : (Int × Unit) → Option (Unit ⊕ ((Bool × Unit) × Unit))) (x : (Int × Unit)) => laws_zRises_l1_b k p0 (fun x3 => rec (x3, ())) x.1) (x3, ())
noncomputable def laws_zRises_f (k : Nat) (p0 : (List Int)) : Option ((Bool × Unit) × Unit) :=
  (met (laws_zRises_l1 k p0 1) (fun j2 => (some ((true, ()), ()))))
noncomputable def laws_zRises_a : Ann := (.q .o (.q (.q .o (.m [] (.l [(3, 100192, .v (.int .i64))] .o))) .o))
theorem laws_zRises_run (k : Nat) (p0 : (List Int)) : funX Tryz.prog (callT []) k Tryz.f35 laws_zRises_a [.v (.slc 3 (.int .i64))] [.v .bool] (p0, ()) = laws_zRises_f k p0 := by kernel_rfl
noncomputable def laws_zRises_c (k : Nat) : Con := ⟨35, [.v (.slc 3 (.int .i64))], [.v .bool], fun x => laws_zRises_f k x.1⟩
theorem laws_zRises_ok (k : Nat) : (laws_zRises_c k).Sound Tryz.prog GL := con_ok (k := k) (fn := Tryz.f35) (A := laws_zRises_a) (C := callT []) Tryz.func35 (by kernel_rfl) (show Tryz.f35.body = some (bodyX Tryz.f35) by rfl) (fun X hX => callT_at TableOk.nil X hX) (Nat.le_of_ble_eq_true (by kernel_rfl)) (fun ⟨p0, _⟩ y h => by rw [← h]; exact laws_zRises_run k p0)
noncomputable def spec_l1Cur_one_f (k : Nat) (p0 : ((List Int) × Int × Int × Unit)) (p1 : Int) : Option ((Bool × Unit) × (((List Int) × Int × Int × Unit) × Unit)) :=
  (Option.bind (spec_l1Cur_pick_f k (p0.1, p0.2.1, p0.2.2.1, ()) p1) (fun y7 => (some (((y7.1.1 == 0), ()), ((y7.2.1.1, y7.2.1.2.1, y7.2.1.2.2.1, ()), ())))))
noncomputable def spec_l1Cur_one_a : Ann := .o
theorem spec_l1Cur_one_run (k : Nat) (p0 : ((List Int) × Int × Int × Unit)) (p1 : Int) : funX Tryz.prog (callT [spec_l1Cur_pick_c k]) k Tryz.f89 spec_l1Cur_one_a [.box true [.v (.slc 5 (.int .u8)), .v (.int .i64), .v (.int .u64)], .v (.int .i64)] [.v .bool] (p0, p1, ()) = spec_l1Cur_one_f k p0 p1 := by kernel_rfl
noncomputable def spec_l1Cur_one_c (k : Nat) : Con := ⟨89, [.box true [.v (.slc 5 (.int .u8)), .v (.int .i64), .v (.int .u64)], .v (.int .i64)], [.v .bool], fun x => spec_l1Cur_one_f k x.1 x.2.1⟩
theorem spec_l1Cur_one_ok (k : Nat) : (spec_l1Cur_one_c k).Sound Tryz.prog GL := con_ok (k := k) (fn := Tryz.f89) (A := spec_l1Cur_one_a) (C := callT [spec_l1Cur_pick_c k]) Tryz.func89 (by kernel_rfl) (show Tryz.f89.body = some (bodyX Tryz.f89) by rfl) (fun X hX => callT_at (TableOk.cons (spec_l1Cur_pick_ok k) TableOk.nil) X hX) (Nat.le_of_ble_eq_true (by kernel_rfl)) (fun ⟨p0, p1, _⟩ y h => by rw [← h]; exact spec_l1Cur_one_run k p0 p1)
noncomputable def spec_l1Cur_spoilt_l1_b (k : Nat) (p2 : ByteArray) (rec : ((List Int) × Int × Int × Unit) → ByteArray → Int → Option ((((List Int) × Int × Int × Unit) × ByteArray × Unit) ⊕ ((ByteArray × Unit) × (((List Int) × Int × Int × Unit) × Unit)))) (x0 : ((List Int) × Int × Int × Unit)) (x1 : ByteArray) (x7 : Int) : Option ((((List Int) × Int × Int × Unit) × ByteArray × Unit) ⊕ ((ByteArray × Unit) × (((List Int) × Int × Int × Unit) × Unit))) :=
  (met (cond (decide (x7 > 0)) (some (.inl ((x0.1, x0.2.1, x0.2.2.1, ()), (decide (((ByteArray.size x1 : Nat) : Int) > 0)), ()))) (some (.inl ((x0.1, x0.2.1, x0.2.2.1, ()), false, ())))) (fun j2 => (cond j2.2.1 (met (Option.bind (spec_l1Cur_pick_f k (j2.1.1, j2.1.2.1, j2.1.2.2.1, ()) ((ByteArray.size x1 : Nat) : Int)) (fun y25 => (Option.bind (spec_l1Cur_pick_f k (y25.2.1.1, y25.2.1.2.1, y25.2.1.2.2.1, ()) ((ByteArray.size p2 : Nat) : Int)) (fun y30 => (ixk y30.1.1 (ByteArray.size p2) (Option.bind (spec_l1Cur_pick_f k (y30.2.1.1, y30.2.1.2.1, y30.2.1.2.2.1, ()) 3) (fun y35 => (met (met (cond (y35.1.1 == 0) (chk (decide (0 ≤ y25.1.1)) (chk (decide (y25.1.1 ≤ ((ByteArray.size x1 : Nat) : Int))) (chk (decide ((ByteArray.extract x1 0 (Int.toNat y25.1.1)).size + (strOfNums [(byteAt p2 y30.1.1)]).size ≤ 9223372036854775807)) (chk (decide (0 ≤ y25.1.1)) (chk (decide (y25.1.1 ≤ ((ByteArray.size x1 : Nat) : Int))) (chk (decide (((ByteArray.extract x1 0 (Int.toNat y25.1.1)) ++ (strOfNums [(byteAt p2 y30.1.1)])).size + (ByteArray.extract x1 (Int.toNat y25.1.1) (ByteArray.size x1)).size ≤ 9223372036854775807)) (some (.inl ((y35.2.1.1, y35.2.1.2.1, y35.2.1.2.2.1, ()), (((ByteArray.extract x1 0 (Int.toNat y25.1.1)) ++ (strOfNums [(byteAt p2 y30.1.1)])) ++ (ByteArray.extract x1 (Int.toNat y25.1.1) (ByteArray.size x1))), ()))))))))) (met (cond (y35.1.1 == 1) (chk (decide (0 ≤ y25.1.1)) (chk (decide (y25.1.1 ≤ ((ByteArray.size x1 : Nat) : Int))) (chk (decide ((ByteArray.extract x1 0 (Int.toNat y25.1.1)).size + (strOfNums [(byteAt p2 y30.1.1)]).size ≤ 9223372036854775807)) (chk (decide (0 ≤ (iw (y25.1.1 + 1)))) (chk (decide ((iw (y25.1.1 + 1)) ≤ ((ByteArray.size x1 : Nat) : Int))) (chk (decide (((ByteArray.extract x1 0 (Int.toNat y25.1.1)) ++ (strOfNums [(byteAt p2 y30.1.1)])).size + (ByteArray.extract x1 (Int.toNat (iw (y25.1.1 + 1))) (ByteArray.size x1)).size ≤ 9223372036854775807)) (some (.inl ((y35.2.1.1, y35.2.1.2.1, y35.2.1.2.2.1, ()), (((ByteArray.extract x1 0 (Int.toNat y25.1.1)) ++ (strOfNums [(byteAt p2 y30.1.1)])) ++ (ByteArray.extract x1 (Int.toNat (iw (y25.1.1 + 1))) (ByteArray.size x1))), ()))))))))) (chk (decide (0 ≤ y25.1.1)) (chk (decide (y25.1.1 ≤ ((ByteArray.size x1 : Nat) : Int))) (chk (decide (0 ≤ (iw (y25.1.1 + 1)))) (chk (decide ((iw (y25.1.1 + 1)) ≤ ((ByteArray.size x1 : Nat) : Int))) (chk (decide ((ByteArray.extract x1 0 (Int.toNat y25.1.1)).size + (ByteArray.extract x1 (Int.toNat (iw (y25.1.1 + 1))) (ByteArray.size x1)).size ≤ 9223372036854775807)) (some (.inl ((y35.2.1.1, y35.2.1.2.1, y35.2.1.2.2.1, ()), ((ByteArray.extract x1 0 (Int.toNat y25.1.1)) ++ (ByteArray.extract x1 (Int.toNat (iw (y25.1.1 + 1))) (ByteArray.size x1))), ()))))))))) (fun j3 => (some (.inl ((j3.1.1, j3.1.2.1, j3.1.2.2.1, ()), j3.2.1, ())))))) (fun j4 => (some (.inl ((j4.1.1, j4.1.2.1, j4.1.2.2.1, ()), j4.2.1, ()))))) (fun j5 => (some (.inl ((j5.1.1, j5.1.2.1, j5.1.2.2.1, ()), j5.2.1, ())))))))))))) (fun j6 => (rec (j6.1.1, j6.1.2.1, j6.1.2.2.1, ()) j6.2.1 (iw (x7 - 1))))) (some (.inl ((j2.1.1, j2.1.2.1, j2.1.2.2.1, ()), x1, ()))))))
noncomputable def spec_l1Cur_spoilt_l1 (k : Nat) (p2 : ByteArray) (x0 : ((List Int) × Int × Int × Unit)) (x1 : ByteArray) (x7 : Int) : Option ((((List Int) × Int × Int × Unit) × ByteArray × Unit) ⊕ ((ByteArray × Unit) × (((List Int) × Int × Int × Unit) × Unit))) := iter k (fun (rec : (((List Int) × Int × Int × Unit) × ByteArray × Int × Unit) → Option ((((List Int) × Int × Int × Unit) × ByteArray × Unit) ⊕ ((ByteArray × Unit) × (((List Int) × Int × Int × Unit) × Unit)))) (x : (((List Int) × Int × Int × Unit) × ByteArray × Int × Unit)) => spec_l1Cur_spoilt_l1_b k p2 (fun x0 x1 x7 => rec (x0, x1, x7, ())) x.1 x.2.1 x.2.2.1) (x0, x1, x7, ())
noncomputable def spec_l1Cur_spoilt_f (k : Nat) (p0 : ((List Int) × Int × Int × Unit)) (p1 : ByteArray) (p2 : ByteArray) : Option ((ByteArray × Unit) × (((List Int) × Int × Int × Unit) × Unit)) :=
  (Option.bind (spec_l1Cur_pick_f k (p0.1, p0.2.1, p0.2.2.1, ()) 2) (fun y11 => (met (spec_l1Cur_spoilt_l1 k p2 (y11.2.1.1, y11.2.1.2.1, y11.2.1.2.2.1, ()) p1 (iw (1 + y11.1.1))) (fun j7 => (some ((j7.2.1, ()), ((j7.1.1, j7.1.2.1, j7.1.2.2.1, ()), ())))))))
noncomputable def spec_l1Cur_spoilt_a : Ann := (.q .o (.q (.q .o (.m [(0, 3000000, .box true [.v (.slc 5 (.int .u8)), .v (.int .i64), .v (.int .u64)]), (1, 100064, .v .str)] (.l [(0, 3000000, .box true [.v (.slc 5 (.int .u8)), .v (.int .i64), .v (.int .u64)]), (1, 100064, .v .str), (7, 100448, .v (.int .i64))] (.q (.q (.r [(0, 3000000, .box true [.v (.slc 5 (.int .u8)), .v (.int .i64), .v (.int .u64)]), (19, 101216, .v .bool)]) .o) (.q (.m [(0, 3000000, .box true [.v (.slc 5 (.int .u8)), .v (.int .i64), .v (.int .u64)]), (1, 100064, .v .str)] (.q .o (.q .o (.q .o (.m [(0, 3000000, .box true [.v (.slc 5 (.int .u8)), .v (.int .i64), .v (.int .u64)]), (1, 100064, .v .str)] (.q .o (.j [(0, 3000000, .box true [.v (.slc 5 (.int .u8)), .v (.int .i64), .v (.int .u64)]), (1, 100064, .v .str)] (.e [] [9]) (.q .o (.j [(0, 3000000, .box true [.v (.slc 5 (.int .u8)), .v (.int .i64), .v (.int .u64)]), (1, 100064, .v .str)] (.e [] [10]) (.e [] [8])))))))))) .o))))) .o))
theorem spec_l1Cur_spoilt_run (k : Nat) (p0 : ((List Int) × Int × Int × Unit)) (p1 : ByteArray) (p2 : ByteArray) : funX Tryz.prog (callT [spec_l1Cur_pick_c k]) k Tryz.f90 spec_l1Cur_spoilt_a [.box true [.v (.slc 5 (.int .u8)), .v (.int .i64), .v (.int .u64)], .v .str, .v .str] [.v .str] (p0, p1, p2, ()) = spec_l1Cur_spoilt_f k p0 p1 p2 := by kernel_rfl
noncomputable def spec_l1Cur_spoilt_c (k : Nat) : Con := ⟨90, [.box true [.v (.slc 5 (.int .u8)), .v (.int .i64), .v (.int .u64)], .v .str, .v .str], [.v .str], fun x => spec_l1Cur_spoilt_f k x.1 x.2.1 x.2.2.1⟩
theorem spec_l1Cur_spoilt_ok (k : Nat) : (spec_l1Cur_spoilt_c k).Sound Tryz.prog GL := con_ok (k := k) (fn := Tryz.f90) (A := spec_l1Cur_spoilt_a) (C := callT [spec_l1Cur_pick_c k]) Tryz.func90 (by kernel_rfl) (show Tryz.f90.body = some (bodyX Tryz.f90) by rfl) (fun X hX => callT_at (TableOk.cons (spec_l1Cur_pick_ok k) TableOk.nil) X hX) (Nat.le_of_ble_eq_true (by kernel_rfl)) (fun ⟨p0, p1, p2, _⟩ y h => by rw [← h]; exact spec_l1Cur_spoilt_run k p0 p1 p2)
noncomputable def spec_DrawParsePile_f (k : Nat) (p0 : (List Int)) : Option ((ByteArray × Unit) × Unit) :=
  (Option.bind (spec_l1Cur_surePile_f k (p0, 0, 0, ())) (fun y9 => (Option.bind (spec_piText_f k y9.1.1) (fun y10 => (Option.bind (spec_l1Cur_one_f k (y9.2.1.1, y9.2.1.2.1, y9.2.1.2.2.1, ()) 3) (fun y12 => (cond y12.1.1 (Option.bind (spec_l1Cur_spoilt_f k (y12.2.1.1, y12.2.1.2.1, y12.2.1.2.2.1, ()) y10.1.1 (lit [48, 49, 50, 51, 120])) (fun y15 => (some ((y15.1.1, ()), ())))) (some ((y10.1.1, ()), ())))))))))
noncomputable def spec_DrawParsePile_a : Ann := .o
theorem spec_DrawParsePile_run (k : Nat) (p0 : (List Int)) : funX Tryz.prog (callT [spec_l1Cur_surePile_c k, spec_piText_c k, spec_l1Cur_one_c k, spec_l1Cur_spoilt_c k]) k Tryz.f36 spec_DrawParsePile_a [.v (.slc 5 (.int .u8))] [.v .str] (p0, ()) = spec_DrawParsePile_f k p0 := by kernel_rfl
noncomputable def spec_DrawParsePile_c (k : Nat) : Con := ⟨36, [.v (.slc 5 (.int .u8))], [.v .str], fun x => spec_DrawParsePile_f k x.1⟩
theorem spec_DrawParsePile_ok (k : Nat) : (spec_DrawParsePile_c k).Sound Tryz.prog GL := con_ok (k := k) (fn := Tryz.f36) (A := spec_DrawParsePile_a) (C := callT [spec_l1Cur_surePile_c k, spec_piText_c k, spec_l1Cur_one_c k, spec_l1Cur_spoilt_c k]) Tryz.func36 (by kernel_rfl) (show Tryz.f36.body = some (bodyX Tryz.f36) by rfl) (fun X hX => callT_at (TableOk.cons (spec_l1Cur_surePile_ok k) (TableOk.cons (spec_piText_ok k) (TableOk.cons (spec_l1Cur_one_ok k) (TableOk.cons (spec_l1Cur_spoilt_ok k) TableOk.nil)))) X hX) (Nat.le_of_ble_eq_true (by kernel_rfl)) (fun ⟨p0, _⟩ y h => by rw [← h]; exact spec_DrawParsePile_run k p0)
noncomputable def spec_l1Read_l2_b (k : Nat) (p0 : ByteArray) (rec : Int → Int → Option ((Int × Unit) ⊕ ((Int × Unit) × Unit))) (x3 : Int) (x4 : Int) : Option ((Int × Unit) ⊕ ((Int × Unit) × Unit)) :=
  (cond (decide (x4 < ((ByteArray.size p0 : Nat) : Int))) (met (ixk x4 (ByteArray.size p0) (cond (decide ((byteAt p0 x4) < 48)) (some (.inl (true, ()))) (ixk x4 (ByteArray.size p0) (some (.inl ((decide ((byteAt p0 x4) > 57)), ())))))) (fun j3 => (cond j3.1 (some (.inr (((-1), ()), ()))) (ixk x4 (ByteArray.size p0) (rec (iw ((iw (10 * x3)) + (iw ((IntKind.wrap .u8 ((byteAt p0 x4) - 48)))))) (iw (x4 + 1))))))) (some (.inl (x3, ()))))
noncomputable def spec_l1Read_l2 (k : Nat) (p0 : ByteArray) (x3 : Int) (x4 : Int) : Option ((Int × Unit) ⊕ ((Int × Unit) × Unit)) := iter k (fun (rec : (Int × Int × Unit) → Option ((Int × Unit) ⊕ ((Int × Unit) × Unit))) (x : (Int × Int × Unit)) => spec_l1Read_l2_b k p0 (fun x3 x4 => rec (x3, x4, ())) x.1 x.2.1) (x3, x4, ())
noncomputable def spec_l1Read_f (k : Nat) (p0 : ByteArray) : Option ((Int × Unit) × Unit) :=
  (met (Option.bind (spec_l1In_f k ((ByteArray.size p0 : Nat) : Int) 1 6) (fun y7 => (cond (!y7.1.1) (some (.inl (true, ()))) (chk (decide ((0 : Int) < ((ByteArray.size p0 : Nat) : Int))) (cond ((byteAt p0 0) == 48) (some (.inl ((decide (((ByteArray.size p0 : Nat) : Int) > 1)), ()))) (some (.inl (false, ())))))))) (fun j1 => (cond j1.1 (some (((-1), ()), ())) (met (spec_l1Read_l2 k p0 0 0) (fun j4 => (some ((j4.1, ()), ())))))))
noncomputable def spec_l1Read_a : Ann := (.q .o (.q (.q (.r [(18, 101152, .v .bool)]) .o) (.q .o (.q (.q .o (.m [(3, 100192, .v (.int .i64))] (.l [(3, 100192, .v (.int .i64)), (4, 100256, .v (.int .i64))] (.q .o (.q (.b (.q (.q (.r [(34, 102176, .v .bool)]) .o) .o)) .o))))) .o))))
theorem spec_l1Read_run (k : Nat) (p0 : ByteArray) : funX Tryz.prog (callT [spec_l1In_c k]) k Tryz.f129 spec_l1Read_a [.v .str] [.v (.int .i64)] (p0, ()) = spec_l1Read_f k p0 := by kernel_rfl
noncomputable def spec_l1Read_c (k : Nat) : Con := ⟨129, [.v .str], [.v (.int .i64)], fun x => spec_l1Read_f k x.1⟩
theorem spec_l1Read_ok (k : Nat) : (spec_l1Read_c k).Sound Tryz.prog GL := con_ok (k := k) (fn := Tryz.f129) (A := spec_l1Read_a) (C := callT [spec_l1In_c k]) Tryz.func129 (by kernel_rfl) (show Tryz.f129.body = some (bodyX Tryz.f129) by rfl) (fun X hX => callT_at (TableOk.cons (spec_l1In_ok k) TableOk.nil) X hX) (Nat.le_of_ble_eq_true (by kernel_rfl)) (fun ⟨p0, _⟩ y h => by rw [← h]; exact spec_l1Read_run k p0)
noncomputable def spec_piParse_l1_b (k : Nat) (p0 : ByteArray) (rec : (List Int) → Int → Option (((List Int) × Unit) ⊕ (((List Int) × Bool × Unit) × Unit))) (x4 : (List Int)) (x5 : Int) : Option (((List Int) × Unit) ⊕ (((List Int) × Bool × Unit) × Unit)) :=
  (cond (decide (x5 < ((ByteArray.size p0 : Nat) : Int))) (chk (decide (0 ≤ (iw (x5 + 1)))) (chk (decide ((iw (x5 + 1)) ≤ ((ByteArray.size p0 : Nat) : Int))) (chk (decide (0 ≤ x5)) (chk (decide (x5 ≤ (iw (x5 + 1)))) (Option.bind (spec_l1Read_f k (ByteArray.extract p0 (Int.toNat x5) (Int.toNat (iw (x5 + 1))))) (fun y21 => (chk (decide (List.length x4 + List.length [y21.1.1] ≤ 15637498706147)) (rec (x4 ++ [y21.1.1]) (iw (x5 + 1)))))))))) (some (.inl (x4, ()))))
noncomputable def spec_piParse_l1 (k : Nat) (p0 : ByteArray) (x4 : (List Int)) (x5 : Int) : Option (((List Int) × Unit) ⊕ (((List Int) × Bool × Unit) × Unit)) := iter k (fun (rec : ((List Int) × Int × Unit) → Option (((List Int) × Unit) ⊕ (((List Int) × Bool × Unit) × Unit))) (x : ((List Int) × Int × Unit)) => spec_piParse_l1_b k p0 (fun x4 x5 => rec (x4, x5, ())) x.1 x.2.1) (x4, x5, ())
noncomputable def spec_piParse_f (k : Nat) (p0 : ByteArray) : Option (((List Int) × Bool × Unit) × Unit) :=
  (cond (decide (((ByteArray.size p0 : Nat) : Int) > 16)) (some (([], false, ()), ())) (met (spec_piParse_l1 k p0 [] 0) (fun j2 => (Option.bind (spec_piGood_f k j2.1) (fun y25 => (cond (!y25.1.1) (some (([], false, ()), ())) (some ((j2.1, true, ()), ()))))))))
noncomputable def spec_piParse_a : Ann := (.q .o (.q .o (.q .o (.q (.q .o (.m [(4, 100256, .own false 3 (.int .i64))] (.l [(4, 100256, .own false 3 (.int .i64)), (5, 100320, .v (.int .i64))] .o))) .o))))
theorem spec_piParse_run (k : Nat) (p0 : ByteArray) : funX Tryz.prog (callT [spec_l1Read_c k, spec_piGood_c k]) k Tryz.f91 spec_piParse_a [.v .str] [.own false 3 (.int .i64), .v .bool] (p0, ()) = spec_piParse_f k p0 := by kernel_rfl
noncomputable def spec_piParse_c (k : Nat) : Con := ⟨91, [.v .str], [.own false 3 (.int .i64), .v .bool], fun x => spec_piParse_f k x.1⟩
theorem spec_piParse_ok (k : Nat) : (spec_piParse_c k).Sound Tryz.prog GL := con_ok (k := k) (fn := Tryz.f91) (A := spec_piParse_a) (C := callT [spec_l1Read_c k, spec_piGood_c k]) Tryz.func91 (by kernel_rfl) (show Tryz.f91.body = some (bodyX Tryz.f91) by rfl) (fun X hX => callT_at (TableOk.cons (spec_l1Read_ok k) (TableOk.cons (spec_piGood_ok k) TableOk.nil)) X hX) (Nat.le_of_ble_eq_true (by kernel_rfl)) (fun ⟨p0, _⟩ y h => by rw [← h]; exact spec_piParse_run k p0)
noncomputable def spec_ParsePile_f (k : Nat) (p0 : ByteArray) : Option (((List Int) × Bool × Unit) × Unit) :=
  (Option.bind (spec_piParse_f k p0) (fun y5 => (some ((y5.1.1, y5.1.2.1, ()), ()))))
noncomputable def spec_ParsePile_a : Ann := .o
theorem spec_ParsePile_run (k : Nat) (p0 : ByteArray) : funX Tryz.prog (callT [spec_piParse_c k]) k Tryz.f37 spec_ParsePile_a [.v .str] [.own false 3 (.int .i64), .v .bool] (p0, ()) = spec_ParsePile_f k p0 := by kernel_rfl
noncomputable def spec_ParsePile_c (k : Nat) : Con := ⟨37, [.v .str], [.own false 3 (.int .i64), .v .bool], fun x => spec_ParsePile_f k x.1⟩
theorem spec_ParsePile_ok (k : Nat) : (spec_ParsePile_c k).Sound Tryz.prog GL := con_ok (k := k) (fn := Tryz.f37) (A := spec_ParsePile_a) (C := callT [spec_piParse_c k]) Tryz.func37 (by kernel_rfl) (show Tryz.f37.body = some (bodyX Tryz.f37) by rfl) (fun X hX => callT_at (TableOk.cons (spec_piParse_ok k) TableOk.nil) X hX) (Nat.le_of_ble_eq_true (by kernel_rfl)) (fun ⟨p0, _⟩ y h => by rw [← h]; exact spec_ParsePile_run k p0)
noncomputable def laws_FnPilesLoose_l3_b (k : Nat) (y77 : (((List Int) × Int × Unit) × Unit)) (y94 : ((ByteArray × Bool × Unit) × Unit)) (y104 : (((List Int) × Bool × Unit) × Unit)) (y114 : ((Int × Int × Bool × Unit) × Unit)) (y126 : ((Int × Bool × Unit) × Unit)) (rec : (ByteArray × Nat) → Option (Unit ⊕ (Unit ⊕ ((Bool × Unit) × Unit)))) (x423 : (ByteArray × Nat)) : Option (Unit ⊕ (Unit ⊕ ((Bool × Unit) × Unit))) :=
  (cond (decide (x423.2 < x423.1.size)) (chk ((decide (x423.2 < x423.1.size))) (met (ixk ((x423.2 : Nat) : Int) (ByteArray.size y94.1.1) (cond ((byteAt y94.1.1 ((x423.2 : Nat) : Int)) == 43) (ixk (iw (((x423.2 : Nat) : Int) + 1)) (List.length y104.1.1) (ixk ((x423.2 : Nat) : Int) (List.length y104.1.1) (cond ((rd y104.1.1 (iw (((x423.2 : Nat) : Int) + 1))) != (iw ((rd y104.1.1 ((x423.2 : Nat) : Int)) + 1))) (some (.inl ((x423.1, runeTo x423.1 x423.2), true, ()))) (ixk ((x423.2 : Nat) : Int) (ByteArray.size y94.1.1) (cond ((byteAt y94.1.1 ((x423.2 : Nat) : Int)) == 45) (ixk (iw (((x423.2 : Nat) : Int) + 1)) (List.length y104.1.1) (ixk ((x423.2 : Nat) : Int) (List.length y104.1.1) (cond ((rd y104.1.1 (iw (((x423.2 : Nat) : Int) + 1))) != (iw ((rd y104.1.1 ((x423.2 : Nat) : Int)) - 1))) (some (.inl ((x423.1, runeTo x423.1 x423.2), true, ()))) (cond (decide (((x423.2 : Nat) : Int) < y126.1.1)) (some (.inl ((x423.1, runeTo x423.1 x423.2), true, ()))) (ixk ((x423.2 : Nat) : Int) (List.length y104.1.1) (cond (decide ((rd y104.1.1 ((x423.2 : Nat) : Int)) > y114.1.1)) (some (.inl ((x423.1, runeTo x423.1 x423.2), true, ()))) (cond (decide (((x423.2 : Nat) : Int) < y114.1.2.1)) (ixk ((x423.2 : Nat) : Int) (List.length y104.1.1) (some (.inl ((x423.1, runeTo x423.1 x423.2), ((rd y104.1.1 ((x423.2 : Nat) : Int)) == y114.1.1), ())))) (some (.inl ((x423.1, runeTo x423.1 x423.2), false, ())))))))))) (ixk ((x423.2 : Nat) : Int) (List.length y104.1.1) (cond (decide ((rd y104.1.1 ((x423.2 : Nat) : Int)) > y114.1.1)) (some (.inl ((x423.1, runeTo x423.1 x423.2), true, ()))) (cond (decide (((x423.2 : Nat) : Int) < y114.1.2.1)) (ixk ((x423.2 : Nat) : Int) (List.length y104.1.1) (some (.inl ((x423.1, runeTo x423.1 x423.2), ((rd y104.1.1 ((x423.2 : Nat) : Int)) == y114.1.1), ())))) (some (.inl ((x423.1, runeTo x423.1 x423.2), false, ()))))))))))) (ixk ((x423.2 : Nat) : Int) (ByteArray.size y94.1.1) (cond ((byteAt y94.1.1 ((x423.2 : Nat) : Int)) == 45) (ixk (iw (((x423.2 : Nat) : Int) + 1)) (List.length y104.1.1) (ixk ((x423.2 : Nat) : Int) (List.length y104.1.1) (cond ((rd y104.1.1 (iw (((x423.2 : Nat) : Int) + 1))) != (iw ((rd y104.1.1 ((x423.2 : Nat) : Int)) - 1))) (some (.inl ((x423.1, runeTo x423.1 x423.2), true, ()))) (cond (decide (((x423.2 : Nat) : Int) < y126.1.1)) (some (.inl ((x423.1, runeTo x423.1 x423.2), true, ()))) (ixk ((x423.2 : Nat) : Int) (List.length y104.1.1) (cond (decide ((rd y104.1.1 ((x423.2 : Nat) : Int)) > y114.1.1)) (some (.inl ((x423.1, runeTo x423.1 x423.2), true, ()))) (cond (decide (((x423.2 : Nat) : Int) < y114.1.2.1)) (ixk ((x423.2 : Nat) : Int) (List.length y104.1.1) (some (.inl ((x423.1, runeTo x423.1 x423.2), ((rd y104.1.1 ((x423.2 : Nat) : Int)) == y114.1.1), ())))) (some (.inl ((x423.1, runeTo x423.1 x423.2), false, ())))))))))) (ixk ((x423.2 : Nat) : Int) (List.length y104.1.1) (cond (decide ((rd y104.1.1 ((x423.2 : Nat) : Int)) > y114.1.1)) (some (.inl ((x423.1, runeTo x423.1 x423.2), true, ()))) (cond (decide (((x423.2 : Nat) : Int) < y114.1.2.1)) (ixk ((x423.2 : Nat) : Int) (List.length y104.1.1) (some (.inl ((x423.1, runeTo x423.1 x423.2), ((rd y104.1.1 ((x423.2 : Nat) : Int)) == y114.1.1), ())))) (some (.inl ((x423.1, runeTo x423.1 x423.2), false, ())))))))))) (fun j4 => (cond j4.2.1 (some (.inr (.inr ((false, ()), ())))) (ixk ((x423.2 : Nat) : Int) (ByteArray.size y94.1.1) (chk (decide (0 ≤ ((x423.2 : Nat) : Int))) (chk (decide (((x423.2 : Nat) : Int) ≤ ((List.length y77.1.1 : Nat) : Int))) (ixk ((x423.2 : Nat) : Int) (List.length y77.1.1) (Option.bind (laws_zHas_f k (List.take (Int.toNat ((x423.2 : Nat) : Int)) y77.1.1) (rd y77.1.1 ((x423.2 : Nat) : Int))) (fun y500 => (cond (!(((byteAt y94.1.1 ((x423.2 : Nat) : Int)) == 45) == y500.1.1)) (some (.inr (.inr ((false, ()), ())))) (rec j4.1)))))))))))) (some (.inl ())))
noncomputable def laws_FnPilesLoose_l3 (k : Nat) (y77 : (((List Int) × Int × Unit) × Unit)) (y94 : ((ByteArray × Bool × Unit) × Unit)) (y104 : (((List Int) × Bool × Unit) × Unit)) (y114 : ((Int × Int × Bool × Unit) × Unit)) (y126 : ((Int × Bool × Unit) × Unit)) (x423 : (ByteArray × Nat)) : Option (Unit ⊕ (Unit ⊕ ((Bool × Unit) × Unit))) := iter k (fun (rec : ((ByteArray × Nat) × Unit) → Option (Unit ⊕ (Unit ⊕ ((Bool × Unit) × Unit)))) (x : ((ByteArray × Nat) × Unit)) => laws_FnPilesLoose_l3_b k y77 y94 y104 y114 y126 (fun x423 => rec (x423, ())) x.1) (x423, ())
noncomputable def laws_FnPilesLoose_l10_b (k : Nat) (y77 : (((List Int) × Int × Unit) × Unit)) (x598 : Int) (rec : Int → Int → Option ((Int × Unit) ⊕ (Unit ⊕ (Unit ⊕ (Unit ⊕ ((Bool × Unit) × Unit)))))) (x62 : Int) (x605 : Int) : Option ((Int × Unit) ⊕ (Unit ⊕ (Unit ⊕ (Unit ⊕ ((Bool × Unit) × Unit))))) :=
  (cond (decide (x605 < ((List.length (List.take (Int.toNat y77.1.2.1) y77.1.1) : Nat) : Int))) (met (ixk x605 (List.length (List.take (Int.toNat y77.1.2.1) y77.1.1)) (met (cond ((rd (List.take (Int.toNat y77.1.2.1) y77.1.1) x605) == x598) (some (.inl ((iw (x62 + 1)), ()))) (some (.inl (x62, ())))) (fun j11 => (some (.inl (j11.1, ())))))) (fun j12 => (rec j12.1 (iw (x605 + 1))))) (some (.inl (x62, ()))))
noncomputable def laws_FnPilesLoose_l10 (k : Nat) (y77 : (((List Int) × Int × Unit) × Unit)) (x598 : Int) (x62 : Int) (x605 : Int) : Option ((Int × Unit) ⊕ (Unit ⊕ (Unit ⊕ (Unit ⊕ ((Bool × Unit) × Unit))))) := iter k (fun (rec : (Int × Int × Unit) → Option ((Int × Unit) ⊕ (Unit ⊕ (Unit ⊕ (Unit ⊕ ((Bool × Unit) × Unit)))))) (x : (Int × Int × Unit)) => laws_FnPilesLoose_l10_b k y77 x598 (fun x62 x605 => rec (x62, x605, ())) x.1 x.2.1) (x62, x605, ())
noncomputable def laws_FnPilesLoose_l9_b (k : Nat) (y77 : (((List Int) × Int × Unit) × Unit)) (y83 : (((List Int) × Bool × Unit) × Unit)) (y136 : (((List Int) × Bool × Unit) × Unit)) (rec : Int → Option (Unit ⊕ (Unit ⊕ ((Bool × Unit) × Unit)))) (x598 : Int) : Option (Unit ⊕ (Unit ⊕ ((Bool × Unit) × Unit))) :=
  (cond (decide (x598 < ((List.length y136.1.1 : Nat) : Int))) (met (chk (decide (0 ≤ y77.1.2.1)) (chk (decide (y77.1.2.1 ≤ ((List.length y77.1.1 : Nat) : Int))) (met (laws_FnPilesLoose_l10 k y77 x598 0 0) (fun j13 => (Option.bind (laws_zHas_f k y83.1.1 x598) (fun y617 => (cond (!(y617.1.1 == (j13.1 == 2))) (some (.inr (.inr (.inr ((false, ()), ()))))) (some (.inl ()))))))))) (fun j14 => (rec (iw (x598 + 1))))) (some (.inl ())))
noncomputable def laws_FnPilesLoose_l9 (k : Nat) (y77 : (((List Int) × Int × Unit) × Unit)) (y83 : (((List Int) × Bool × Unit) × Unit)) (y136 : (((List Int) × Bool × Unit) × Unit)) (x598 : Int) : Option (Unit ⊕ (Unit ⊕ ((Bool × Unit) × Unit))) := iter k (fun (rec : (Int × Unit) → Option (Unit ⊕ (Unit ⊕ ((Bool × Unit) × Unit)))) (x : (Int × Unit)) => laws_FnPilesLoose_l9_b k y77 y83 y136 (fun x598 => rec (x598, ())) x.1) (x598, ())
noncomputable def laws_FnPilesLoose_f (k : Nat) (p0 : (List Int)) (p1 : (List Int)) : Option ((Bool × Unit) × Unit) :=
  (Option.bind (laws_big_f k p0 p1) (fun y74 => (cond y74.1.1 (some ((true, ()), ())) (Option.bind (spec_DrawMatchedBehind_f k p0) (fun y77 => (Option.bind (impl_MatchedBehind_f k y77.1.1 y77.1.2.1) (fun y83 => (Option.bind (spec_MatchedBehind_f k y77.1.1 y77.1.2.1) (fun y89 => (Option.bind (impl_ShapeOfPile_f k y77.1.1) (fun y94 => (Option.bind (spec_ShapeOfPile_f k y77.1.1) (fun y99 => (Option.bind (impl_LooseAfter_f k y77.1.1) (fun y104 => (Option.bind (spec_LooseAfter_f k y77.1.1) (fun y109 => (Option.bind (impl_MostLoose_f k y77.1.1) (fun y114 => (Option.bind (spec_MostLoose_f k y77.1.1) (fun y120 => (Option.bind (impl_FirstMatch_f k y77.1.1) (fun y126 => (Option.bind (spec_FirstMatch_f k y77.1.1) (fun y131 => (Option.bind (impl_WaitsOfPile_f k y77.1.1) (fun y136 => (Option.bind (spec_WaitsOfPile_f k y77.1.1) (fun y141 => (Option.bind (impl_SumOfLoose_f k y77.1.1) (fun y146 => (Option.bind (spec_SumOfLoose_f k y77.1.1) (fun y151 => (Option.bind (impl_TurnPile_f k y77.1.1) (fun y156 => (Option.bind (spec_TurnPile_f k y77.1.1) (fun y161 => (Option.bind (impl_NamedPile_f k y77.1.1) (fun y166 => (Option.bind (spec_NamedPile_f k y77.1.1) (fun y171 => (Option.bind (impl_PileText_f k y77.1.1) (fun y176 => (Option.bind (spec_PileText_f k y77.1.1) (fun y181 => (met (cond (!(y83.1.2.1 == y89.1.2.1)) (some (.inl (true, ()))) (Option.bind (laws_zSame_f k y83.1.1 y89.1.1) (fun y190 => (cond (!y190.1.1) (some (.inl (true, ()))) (cond (!(y94.1.2.1 == y99.1.2.1)) (some (.inl (true, ()))) (cond (!(y94.1.1.toList == y99.1.1.toList)) (some (.inl (true, ()))) (cond (!(y104.1.2.1 == y109.1.2.1)) (some (.inl (true, ()))) (Option.bind (laws_zSame_f k y104.1.1 y109.1.1) (fun y211 => (cond (!y211.1.1) (some (.inl (true, ()))) (cond (!(y114.1.2.2.1 == y120.1.2.2.1)) (some (.inl (true, ()))) (cond (y114.1.1 != y120.1.1) (some (.inl (true, ()))) (cond (y114.1.2.1 != y120.1.2.1) (some (.inl (true, ()))) (cond (!(y126.1.2.1 == y131.1.2.1)) (some (.inl (true, ()))) (cond (y126.1.1 != y131.1.1) (some (.inl (true, ()))) (cond (!(y136.1.2.1 == y141.1.2.1)) (some (.inl (true, ()))) (Option.bind (laws_zSame_f k y136.1.1 y141.1.1) (fun y247 => (cond (!y247.1.1) (some (.inl (true, ()))) (cond (!(y146.1.2.1 == y151.1.2.1)) (some (.inl (true, ()))) (cond (y146.1.1 != y151.1.1) (some (.inl (true, ()))) (cond (!(y156.1.2.1 == y161.1.2.1)) (some (.inl (true, ()))) (Option.bind (laws_zSame_f k y156.1.1 y161.1.1) (fun y268 => (cond (!y268.1.1) (some (.inl (true, ()))) (cond (!(y166.1.2.1 == y171.1.2.1)) (some (.inl (true, ()))) (Option.bind (laws_zSame_f k y166.1.1 y171.1.1) (fun y279 => (cond (!y279.1.1) (some (.inl (true, ()))) (cond (!(y176.1.2.1 == y181.1.2.1)) (some (.inl (true, ()))) (cond (!(y176.1.1.toList == y181.1.1.toList)) (some (.inl (true, ()))) (Option.bind (impl_IsPile_f k y77.1.1) (fun y295 => (cond (!(y94.1.2.1 == y295.1.1)) (some (.inl (true, ()))) (Option.bind (impl_IsPile_f k y77.1.1) (fun y300 => (Option.bind (spec_IsPile_f k y77.1.1) (fun y302 => (cond (!(y300.1.1 == y302.1.1)) (some (.inl (true, ()))) (cond (!(y104.1.2.1 == y94.1.2.1)) (some (.inl (true, ()))) (cond (!(y114.1.2.2.1 == y94.1.2.1)) (some (.inl (true, ()))) (cond (!(y126.1.2.1 == y94.1.2.1)) (some (.inl (true, ()))) (cond (!(y136.1.2.1 == y94.1.2.1)) (some (.inl (true, ()))) (cond (!(y146.1.2.1 == y94.1.2.1)) (some (.inl (true, ()))) (cond (!(y156.1.2.1 == y94.1.2.1)) (some (.inl (true, ()))) (cond (!(y166.1.2.1 == y94.1.2.1)) (some (.inl (true, ()))) (cond (!(y176.1.2.1 == y94.1.2.1)) (some (.inl (true, ()))) (cond y83.1.2.1 (some (.inl ((!y94.1.2.1), ()))) (some (.inl (false, ()))))))))))))))))))))))))))))))))))))))))))))))))))) (fun j1 => (cond j1.1 (some ((false, ()), ())) (met (cond y94.1.2.1 (met (cond (((ByteArray.size y94.1.1 : Nat) : Int) != ((List.length y77.1.1 : Nat) : Int)) (some (.inl (true, ()))) (cond (((List.length y104.1.1 : Nat) : Int) != (iw (((List.length y77.1.1 : Nat) : Int) + 1))) (some (.inl (true, ()))) (chk (decide ((0 : Int) < ((List.length y104.1.1 : Nat) : Int))) (cond ((rd y104.1.1 0) != 0) (some (.inl (true, ()))) (ixk ((List.length y77.1.1 : Nat) : Int) (List.length y104.1.1) (cond ((rd y104.1.1 ((List.length y77.1.1 : Nat) : Int)) != 0) (some (.inl (true, ()))) (ixk y114.1.2.1 (List.length y104.1.1) (cond ((rd y104.1.1 y114.1.2.1) != y114.1.1) (some (.inl (true, ()))) (Option.bind (laws_zSum_f k y104.1.1) (fun y390 => (cond (y390.1.1 != y146.1.1) (some (.inl (true, ()))) (Option.bind (impl_IsShape_f k y94.1.1) (fun y396 => (cond (!y396.1.1) (some (.inl (true, ()))) (ixk y126.1.1 (ByteArray.size y94.1.1) (cond ((byteAt y94.1.1 y126.1.1) != 45) (some (.inl (true, ()))) (cond (((List.length y136.1.1 : Nat) : Int) != (iw (Int.tdiv ((List.length y77.1.1 : Nat) : Int) 2))) (some (.inl (true, ()))) (Option.bind (laws_zSum_f k y136.1.1) (fun y415 => (some (.inl (((iw (y415.1.1 + ((List.length y136.1.1 : Nat) : Int))) != y146.1.1), ())))))))))))))))))))))) (fun j2 => (cond j2.1 (some (.inr ((false, ()), ()))) (met (laws_FnPilesLoose_l3 k y77 y94 y104 y114 y126 (y94.1.1, 0)) (fun j5 => (Option.bind (impl_TurnPile_f k y156.1.1) (fun y504 => (Option.bind (impl_MostLoose_f k y156.1.1) (fun y509 => (Option.bind (impl_ShapeOfPile_f k y166.1.1) (fun y515 => (Option.bind (impl_ParsePile_f k y176.1.1) (fun y520 => (Option.bind (impl_NamedPile_f k y166.1.1) (fun y525 => (met (cond (!y504.1.2.1) (some (.inl (true, ()))) (Option.bind (laws_zSame_f k y504.1.1 y77.1.1) (fun y533 => (cond (!y533.1.1) (some (.inl (true, ()))) (cond (!y509.1.2.2.1) (some (.inl (true, ()))) (cond (y509.1.1 != y114.1.1) (some (.inl (true, ()))) (cond (!y515.1.2.1) (some (.inl (true, ()))) (cond (!(y515.1.1.toList == y94.1.1.toList)) (some (.inl (true, ()))) (cond (!y520.1.2.1) (some (.inl (true, ()))) (Option.bind (laws_zSame_f k y520.1.1 y77.1.1) (fun y561 => (cond (!y561.1.1) (some (.inl (true, ()))) (cond (!y525.1.2.1) (some (.inl (true, ()))) (Option.bind (laws_zSame_f k y525.1.1 y166.1.1) (fun y571 => (cond (!y571.1.1) (some (.inl (true, ()))) (Option.bind (laws_zBefore_f k y166.1.1 y77.1.1) (fun y577 => (some (.inl ((!y577.1.1), ()))))))))))))))))))))) (fun j6 => (cond j6.1 (some (.inr ((false, ()), ()))) (some (.inl ())))))))))))))))))))) (some (.inl ()))) (fun j7 => (met (cond y83.1.2.1 (met (Option.bind (laws_zRises_f k y83.1.1) (fun y582 => (cond (!y582.1.1) (some (.inl (true, ()))) (ixk y77.1.2.1 (List.length y104.1.1) (some (.inl (((iw ((iw (2 * ((List.length y83.1.1 : Nat) : Int))) + (rd y104.1.1 y77.1.2.1))) != y77.1.2.1), ()))))))) (fun j8 => (cond j8.1 (some (.inr ((false, ()), ()))) (met (laws_FnPilesLoose_l9 k y77 y83 y136 0) (fun j15 => (some (.inl ()))))))) (some (.inl ()))) (fun j16 => (Option.bind (spec_DrawParsePile_f k p1) (fun y623 => (Option.bind (impl_ParsePile_f k y623.1.1) (fun y626 => (Option.bind (spec_ParsePile_f k y623.1.1) (fun y631 => (met (cond (!(y626.1.2.1 == y631.1.2.1)) (some (.inl (y626.1.1, true, ()))) (Option.bind (laws_zSame_f k y626.1.1 y631.1.1) (fun y640 => (some (.inl (y626.1.1, (!y640.1.1), ())))))) (fun j17 => (cond j17.2.1 (some ((false, ()), ())) (cond y626.1.2.1 (Option.bind (impl_PileText_f k j17.1) (fun y646 => (met (cond y646.1.2.1 (some (.inl ((y646.1.1.toList == y623.1.1.toList), ()))) (some (.inl (false, ())))) (fun j18 => (some ((j18.1, ()), ())))))) (some ((true, ()), ()))))))))))))))))))))))))))))))))))))))))))))))))))))))))))))))))
noncomputable def laws_FnPilesLoose_a : Ann := (.q .o (.q .o (.q .o (.q .o (.q .o (.q .o (.q .o (.q .o (.q .o (.q .o (.q .o (.q .o (.q .o (.q .o (.q .o (.q .o (.q .o (.q .o (.q .o (.q .o (.q .o (.q .o (.q .o (.q (.q (.z [7, 15, 17, 29, 31, 37, 39, 41, 43, 84, 105, 110, 137, 142, 157, 162, 167, 172] (.r [(351, 122464, .v .bool)])) .o) (.q (.q .o (.j [] (.q (.q (.r [(421, 126944, .v .bool)]) .o) (.q (.q .o (.m [] (.l [(423, 127072, .obj .iter)] (.q .o (.q .o (.b (.q .o (.q (.q (.f [] [(0, true), (1, true), (2, true), (3, true), (4, true), (5, true), (6, true), (7, true), (8, true), (9, true), (10, true), (11, true), (12, true), (13, true), (14, true), (15, true), (16, true), (17, true), (18, true), (19, true), (20, true), (21, true), (22, true), (23, true), (24, true), (25, true), (26, true), (27, true), (28, true), (29, true), (30, true), (31, true), (32, true), (33, true), (34, true), (35, true), (36, true), (37, true), (38, true), (39, true), (40, true), (41, true), (42, true), (43, true), (44, true), (45, true), (46, true), (47, true), (48, true), (49, true), (50, true), (51, true), (52, true), (53, true), (54, true), (55, true), (56, true), (57, true), (58, true), (59, true), (60, true), (61, true)] [(423, 127072, .obj .iter), (488, 131232, .v .bool)]) .o) .o)))))))) (.q .o (.q .o (.q .o (.q .o (.q .o (.q (.z [50, 57, 59, 505, 521, 526] (.r [(579, 137056, .v .bool)])) .o)))))))) .o)) (.q (.q .o (.j [] (.q (.q (.r [(595, 138080, .v .bool)]) .o) (.q .o (.m [] (.l [(598, 138272, .v (.int .i64))] (.q .o (.q .o (.q (.m [] (.q .o (.q .o (.q (.q .o (.m [(62, 103968, .v (.int .i64))] (.l [(62, 103968, .v (.int .i64)), (605, 138720, .v (.int .i64))] (.q .o (.q .o (.q (.m [(62, 103968, .v (.int .i64))] (.q .o (.q .o (.j [(62, 103968, .v (.int .i64))] .o .o)))) .o)))))) .o)))) .o))))))) .o)) (.q .o (.q .o (.q .o (.q (.q (.r [(66, 104224, .v (.slc 3 (.int .i64))), (642, 141088, .v .bool)]) .o) (.q (.q .o (.c (.q .o (.q (.r [(4, 100256, .v .bool)]) .o)) .o)) .o)))))))))))))))))))))))))))))))
theorem laws_FnPilesLoose_run (k : Nat) (p0 : (List Int)) (p1 : (List Int)) : funX Tryz.prog (callT [laws_big_c k, spec_DrawMatchedBehind_c k, impl_MatchedBehind_c k, spec_MatchedBehind_c k, impl_ShapeOfPile_c k, spec_ShapeOfPile_c k, impl_LooseAfter_c k, spec_LooseAfter_c k, impl_MostLoose_c k, spec_MostLoose_c k, impl_FirstMatch_c k, spec_FirstMatch_c k, impl_WaitsOfPile_c k, spec_WaitsOfPile_c k, impl_SumOfLoose_c k, spec_SumOfLoose_c k, impl_TurnPile_c k, spec_TurnPile_c k, impl_NamedPile_c k, spec_NamedPile_c k, impl_PileText_c k, spec_PileText_c k, laws_zSame_c k, impl_IsPile_c k, spec_IsPile_c k, laws_zSum_c k, impl_IsShape_c k, laws_zHas_c k, impl_ParsePile_c k, laws_zBefore_c k, laws_zRises_c k, spec_DrawParsePile_c k, spec_ParsePile_c k]) k Tryz.f3 laws_FnPilesLoose_a [.v (.slc 5 (.int .u8)), .v (.slc 5 (.int .u8))] [.v .bool] (p0, p1, ()) = laws_FnPilesLoose_f k p0 p1 := by kernel_rfl
noncomputable def laws_FnPilesLoose_c (k : Nat) : Con := ⟨3, [.v (.slc 5 (.int .u8)), .v (.slc 5 (.int .u8))], [.v .bool], fun x => laws_FnPilesLoose_f k x.1 x.2.1⟩
theorem laws_FnPilesLoose_ok (k : Nat) : (laws_FnPilesLoose_c k).Sound Tryz.prog GL := con_ok (k := k) (fn := Tryz.f3) (A := laws_FnPilesLoose_a) (C := callT [laws_big_c k, spec_DrawMatchedBehind_c k, impl_MatchedBehind_c k, spec_MatchedBehind_c k, impl_ShapeOfPile_c k, spec_ShapeOfPile_c k, impl_LooseAfter_c k, spec_LooseAfter_c k, impl_MostLoose_c k, spec_MostLoose_c k, impl_FirstMatch_c k, spec_FirstMatch_c k, impl_WaitsOfPile_c k, spec_WaitsOfPile_c k, impl_SumOfLoose_c k, spec_SumOfLoose_c k, impl_TurnPile_c k, spec_TurnPile_c k, impl_NamedPile_c k, spec_NamedPile_c k, impl_PileText_c k, spec_PileText_c k, laws_zSame_c k, impl_IsPile_c k, spec_IsPile_c k, laws_zSum_c k, impl_IsShape_c k, laws_zHas_c k, impl_ParsePile_c k, laws_zBefore_c k, laws_zRises_c k, spec_DrawParsePile_c k, spec_ParsePile_c k]) Tryz.func3 (by kernel_rfl) (show Tryz.f3.body = some (bodyX Tryz.f3) by rfl) (fun X hX => callT_at (TableOk.cons (laws_big_ok k) (TableOk.cons (spec_DrawMatchedBehind_ok k) (TableOk.cons (impl_MatchedBehind_ok k) (TableOk.cons (spec_MatchedBehind_ok k) (TableOk.cons (impl_ShapeOfPile_ok k) (TableOk.cons (spec_ShapeOfPile_ok k) (TableOk.cons (impl_LooseAfter_ok k) (TableOk.cons (spec_LooseAfter_ok k) (TableOk.cons (impl_MostLoose_ok k) (TableOk.cons (spec_MostLoose_ok k) (TableOk.cons (impl_FirstMatch_ok k) (TableOk.cons (spec_FirstMatch_ok k) (TableOk.cons (impl_WaitsOfPile_ok k) (TableOk.cons (spec_WaitsOfPile_ok k) (TableOk.cons (impl_SumOfLoose_ok k) (TableOk.cons (spec_SumOfLoose_ok k) (TableOk.cons (impl_TurnPile_ok k) (TableOk.cons (spec_TurnPile_ok k) (TableOk.cons (impl_NamedPile_ok k) (TableOk.cons (spec_NamedPile_ok k) (TableOk.cons (impl_PileText_ok k) (TableOk.cons (spec_PileText_ok k) (TableOk.cons (laws_zSame_ok k) (TableOk.cons (impl_IsPile_ok k) (TableOk.cons (spec_IsPile_ok k) (TableOk.cons (laws_zSum_ok k) (TableOk.cons (impl_IsShape_ok k) (TableOk.cons (laws_zHas_ok k) (TableOk.cons (impl_ParsePile_ok k) (TableOk.cons (laws_zBefore_ok k) (TableOk.cons (laws_zRises_ok k) (TableOk.cons (spec_DrawParsePile_ok k) (TableOk.cons (spec_ParsePile_ok k) TableOk.nil))))))))))))))))))))))))))))))))) X hX) (Nat.le_of_ble_eq_true (by kernel_rfl)) (fun ⟨p0, p1, _⟩ y h => by rw [← h]; exact laws_FnPilesLoose_run k p0 p1)
end Go.Proofs.YtjdglbkjdfidoaaGreatDoorV.Law
