/- The functions that a law reaches, as plain Lean functions; each is what the run of its code comes to. Printed by a program of this session. Conditions: none. -/
import Derived.Test.YtmhcdiiiiklplaaGreatDoorVaiNice
import Derived.Test.YtmhcdiiiiklplaaGreatDoorVaiText
import Derived.Shelf.LaysM
import Derived.Shelf.Strconv.Itoa3
import Derived.Shelf.Strings.OnBuilder
import Derived.Lib.CountLaws
import Derived.Shelf.Strings.Split
import Derived.Lib.SplitLaws
import Derived.Shelf.Strings.Cut
import Derived.Shelf.Strings.SlTrimAscii
import Derived.Lib.AtoiErrMem
import Derived.Shelf.LaysC
import Derived.Shelf.Strconv.AtoiAll
import Derived.Test.YtmhcdiiiiklplaaGreatDoorProg
import Derived.KernelRfl
namespace Go.Proofs.YtmhcdiiiiklplaaGreatDoorV.Law
set_option linter.unusedSimpArgs false
open Go.Proofs Go.Proofs.YtmhcdiiiiklplaaGreatDoorV
open Go.Shelf Go.Sort Go.RowKit Go.Lib
set_option maxRecDepth 1000000
set_option linter.unusedVariables false
abbrev GL : List Nat := [0]
def lay_lays171_ren : Go.Shelf.Ren := ⟨fun | 171 => 82 | 243 => 133 | 246 => 154 | 283 => 172 | 284 => 173 | 285 => 174 | 286 => 175 | 129 => 194 | 317 => 193 | 318 => 195 | 319 => 196 | 320 => 197 | 337 => 206 | 338 => 207 | n => n, fun | 3 => 3 | 9 => 9 | 2 => 2 | 4 => 4 | 171 => 144 | 0 => 0 | 53 => 88 | 37 => 22 | 5 => 5 | 173 => 147 | 212 => 165 | 51 => 166 | 20 => 20 | 213 => 167 | 46 => 150 | 232 => 189 | 233 => 190 | n => n, fun | 17 => 1 | 18 => 6 | 19 => 7 | n => n⟩
theorem lay_lays171 : Go.Proofs.Lays.n171 Tryz.prog lay_lays171_ren := {
  mixed := by kernel_rfl
  f129 := Tryz.func194.trans (congrArg some (by kernel_rfl))
  f171 := Tryz.func82.trans (congrArg some (by kernel_rfl))
  f243 := Tryz.func133.trans (congrArg some (by kernel_rfl))
  f246 := Tryz.func154.trans (congrArg some (by kernel_rfl))
  f283 := Tryz.func172.trans (congrArg some (by kernel_rfl))
  f284 := Tryz.func173.trans (congrArg some (by kernel_rfl))
  f285 := Tryz.func174.trans (congrArg some (by kernel_rfl))
  f286 := Tryz.func175.trans (congrArg some (by kernel_rfl))
  f317 := Tryz.func193.trans (congrArg some (by kernel_rfl))
  f318 := Tryz.func195.trans (congrArg some (by kernel_rfl))
  f319 := Tryz.func196.trans (congrArg some (by kernel_rfl))
  f320 := Tryz.func197.trans (congrArg some (by kernel_rfl))
  f337 := Tryz.func206.trans (congrArg some (by kernel_rfl))
  f338 := Tryz.func207.trans (congrArg some (by kernel_rfl))
  t0 := Tryz.underlying0
  a0 := Tryz.isAgg0
  z0 := Tryz.sizeOf0
  v0 := Tryz.zeroValue0
  t2 := Tryz.underlying2
  a2 := Tryz.isAgg2
  z2 := Tryz.sizeOf2
  v2 := Tryz.zeroValue2
  t3 := Tryz.underlying3
  a3 := Tryz.isAgg3
  z3 := Tryz.sizeOf3
  v3 := Tryz.zeroValue3
  t4 := Tryz.underlying4
  a4 := Tryz.isAgg4
  z4 := Tryz.sizeOf4
  v4 := Tryz.zeroValue4
  t5 := Tryz.underlying5
  a5 := Tryz.isAgg5
  z5 := Tryz.sizeOf5
  v5 := Tryz.zeroValue5
  t9 := Tryz.underlying9
  a9 := Tryz.isAgg9
  z9 := Tryz.sizeOf9
  v9 := Tryz.zeroValue9
  t20 := Tryz.underlying20
  a20 := Tryz.isAgg20
  z20 := Tryz.sizeOf20
  v20 := Tryz.zeroValue20
  t37 := Tryz.underlying22
  a37 := Tryz.isAgg22
  z37 := Tryz.sizeOf22
  v37 := Tryz.zeroValue22
  t46 := Tryz.underlying150
  a46 := Tryz.isAgg150
  z46 := Tryz.sizeOf150
  v46 := Tryz.zeroValue150
  t51 := Tryz.underlying166
  a51 := Tryz.isAgg166
  z51 := Tryz.sizeOf166
  v51 := Tryz.zeroValue166
  t53 := Tryz.underlying88
  a53 := Tryz.isAgg88
  z53 := Tryz.sizeOf88
  v53 := Tryz.zeroValue88
  t171 := Tryz.underlying144
  a171 := Tryz.isAgg144
  z171 := Tryz.sizeOf144
  v171 := Tryz.zeroValue144
  t173 := Tryz.underlying147
  a173 := Tryz.isAgg147
  z173 := Tryz.sizeOf147
  v173 := Tryz.zeroValue147
  t212 := Tryz.underlying165
  a212 := Tryz.isAgg165
  z212 := Tryz.sizeOf165
  v212 := Tryz.zeroValue165
  t213 := Tryz.underlying167
  a213 := Tryz.isAgg167
  z213 := Tryz.sizeOf167
  t232 := Tryz.underlying189
  a232 := Tryz.isAgg189
  z232 := Tryz.sizeOf189
  v232 := Tryz.zeroValue189
  t233 := Tryz.underlying190
  a233 := Tryz.isAgg190
  z233 := Tryz.sizeOf190
  v233 := Tryz.zeroValue190
  g17 := by kernel_rfl
  g18 := by kernel_rfl
  g19 := by kernel_rfl }
open Go.RowKit Go.Sort Go.Lib in
theorem lay_strconv_Itoa_small (i : Nat) (hi : i < 100) (w : World) :
    Calls Tryz.prog 82 #[.int .i64 i] w fun e w' => e = .returned (.string ⟨(Lib.decDigits i).toArray⟩) ∧ w' = w := Any.strconv_Itoa_small lay_lays171 i hi w

def lay_lays156_ren : Go.Shelf.Ren := ⟨fun | 156 => 125 | 165 => 150 | 166 => 151 | 169 => 152 | 240 => 167 | 241 => 168 | 276 => 189 | 277 => 190 | n => n, fun | 31 => 107 | 9 => 9 | 3 => 3 | 4 => 4 | 0 => 0 | 20 => 20 | 72 => 127 | 76 => 117 | 70 => 125 | 37 => 22 | 75 => 116 | 127 => 142 | 164 => 161 | 5 => 5 | 80 => 129 | n => n, fun | n => n⟩
theorem lay_lays156 : Go.Proofs.Lays.n156 Tryz.prog lay_lays156_ren := {
  mixed := by kernel_rfl
  f156 := Tryz.func125.trans (congrArg some (by kernel_rfl))
  f165 := Tryz.func150.trans (congrArg some (by kernel_rfl))
  f166 := Tryz.func151.trans (congrArg some (by kernel_rfl))
  f169 := Tryz.func152.trans (congrArg some (by kernel_rfl))
  f240 := Tryz.func167.trans (congrArg some (by kernel_rfl))
  f241 := Tryz.func168.trans (congrArg some (by kernel_rfl))
  f276 := Tryz.func189.trans (congrArg some (by kernel_rfl))
  f277 := Tryz.func190.trans (congrArg some (by kernel_rfl))
  t0 := Tryz.underlying0
  a0 := Tryz.isAgg0
  z0 := Tryz.sizeOf0
  v0 := Tryz.zeroValue0
  t3 := Tryz.underlying3
  a3 := Tryz.isAgg3
  z3 := Tryz.sizeOf3
  v3 := Tryz.zeroValue3
  t4 := Tryz.underlying4
  a4 := Tryz.isAgg4
  z4 := Tryz.sizeOf4
  v4 := Tryz.zeroValue4
  t9 := Tryz.underlying9
  a9 := Tryz.isAgg9
  z9 := Tryz.sizeOf9
  v9 := Tryz.zeroValue9
  t20 := Tryz.underlying20
  a20 := Tryz.isAgg20
  z20 := Tryz.sizeOf20
  v20 := Tryz.zeroValue20
  t31 := Tryz.underlying107
  a31 := Tryz.isAgg107
  z31 := Tryz.sizeOf107
  v31 := Tryz.zeroValue107
  t37 := Tryz.underlying22
  a37 := Tryz.isAgg22
  z37 := Tryz.sizeOf22
  v37 := Tryz.zeroValue22
  t70 := Tryz.underlying125
  a70 := Tryz.isAgg125
  z70 := Tryz.sizeOf125
  v70 := Tryz.zeroValue125
  t72 := Tryz.underlying127
  a72 := Tryz.isAgg127
  z72 := Tryz.sizeOf127
  v72 := Tryz.zeroValue127
  t75 := Tryz.underlying116
  a75 := Tryz.isAgg116
  z75 := Tryz.sizeOf116
  v75 := Tryz.zeroValue116
  t76 := Tryz.underlying117
  a76 := Tryz.isAgg117
  z76 := Tryz.sizeOf117
  v76 := Tryz.zeroValue117
  t127 := Tryz.underlying142
  a127 := Tryz.isAgg142
  z127 := Tryz.sizeOf142
  v127 := Tryz.zeroValue142
  t164 := Tryz.underlying161
  a164 := Tryz.isAgg161
  z164 := Tryz.sizeOf161
  v164 := Tryz.zeroValue161 }
theorem lay_Builder_Extra_156 : Builder.Extra Tryz.prog lay_lays156_ren := {
  sizeBuilder := by kernel_rfl
  liesBuilder := by kernel_rfl
  t5 := Tryz.underlying5
  a5 := Tryz.isAgg5
  z5 := Tryz.sizeOf5
  v5 := Tryz.zeroValue5
  infoByte := by kernel_rfl
  cellsByte := by kernel_rfl
  sizeByte := by kernel_rfl
  neB5 := by decide }
open Go.RowKit in
theorem lay_strings_Join (bk o c : Nat) (xs : List ByteArray) (sep : ByteArray) (w : World) (hcells : ∀ (j : Nat) x, xs[j]? = some x → w.cell? ⟨bk, o + j, none⟩ = some (.string x)) (hbk : bk < w.heap.size) (hN : xs.length ≤ 140737488355328) (hcap : xs.length ≤ c) (hlen : (Lib.join (xs.map (·.data.toList)) sep.data.toList).length ≤ 140737488355328) :
    Calls Tryz.prog 125 #[.slice (some ⟨bk, o, none⟩) xs.length c, .string sep] w fun e w' => e = .returned (.string ⟨(Lib.join (xs.map (·.data.toList)) sep.data.toList).toArray⟩) ∧ Below w.heap.size w w' := Any.strings_Join lay_lays156 lay_Builder_Extra_156 bk o c xs sep w hcells hbk hN hcap hlen
theorem lay_strings_Join_none (a : Option Addr) (c : Nat) (sep : ByteArray) (w : World) :
    Calls Tryz.prog 125 #[.slice a 0 c, .string sep] w fun e w' => e = .returned (.string ⟨#[]⟩) ∧ w' = w := Any.strings_Join_none lay_lays156 lay_Builder_Extra_156 a c sep w

def lay_lays146_ren : Go.Shelf.Ren := ⟨fun | 146 => 128 | 221 => 153 | 268 => 169 | 138 => 170 | 143 => 171 | 195 => 191 | 197 => 181 | 218 => 192 | 219 => 156 | 260 => 200 | 217 => 176 | 225 => 177 | 224 => 178 | 267 => 179 | 266 => 198 | 314 => 199 | n => n, fun | 9 => 9 | 31 => 107 | 3 => 3 | 4 => 4 | 0 => 0 | 105 => 152 | 21 => 21 | 5 => 5 | 46 => 150 | 119 => 179 | 139 => 182 | 138 => 181 | 146 => 169 | 51 => 166 | n => n, fun | 1 => 0 | 3 => 4 | 4 => 5 | n => n⟩
theorem lay_lays146 : Go.Proofs.Lays.n146 Tryz.prog lay_lays146_ren := {
  mixed := by kernel_rfl
  f138 := Tryz.func170.trans (congrArg some (by kernel_rfl))
  f143 := Tryz.func171.trans (congrArg some (by kernel_rfl))
  f146 := Tryz.func128.trans (congrArg some (by kernel_rfl))
  f195 := Tryz.func191.trans (congrArg some (by kernel_rfl))
  f197 := Tryz.func181.trans (congrArg some (by kernel_rfl))
  f217 := Tryz.func176.trans (congrArg some (by kernel_rfl))
  f218 := Tryz.func192.trans (congrArg some (by kernel_rfl))
  f219 := Tryz.func156.trans (congrArg some (by kernel_rfl))
  f221 := Tryz.func153.trans (congrArg some (by kernel_rfl))
  f224 := Tryz.func178.trans (congrArg some (by kernel_rfl))
  f225 := Tryz.func177.trans (congrArg some (by kernel_rfl))
  f260 := Tryz.func200.trans (congrArg some (by kernel_rfl))
  f266 := Tryz.func198.trans (congrArg some (by kernel_rfl))
  f267 := Tryz.func179.trans (congrArg some (by kernel_rfl))
  f268 := Tryz.func169.trans (congrArg some (by kernel_rfl))
  f314 := Tryz.func199.trans (congrArg some (by kernel_rfl))
  t0 := Tryz.underlying0
  a0 := Tryz.isAgg0
  z0 := Tryz.sizeOf0
  v0 := Tryz.zeroValue0
  t3 := Tryz.underlying3
  a3 := Tryz.isAgg3
  z3 := Tryz.sizeOf3
  v3 := Tryz.zeroValue3
  t4 := Tryz.underlying4
  a4 := Tryz.isAgg4
  z4 := Tryz.sizeOf4
  v4 := Tryz.zeroValue4
  t5 := Tryz.underlying5
  a5 := Tryz.isAgg5
  z5 := Tryz.sizeOf5
  v5 := Tryz.zeroValue5
  t9 := Tryz.underlying9
  a9 := Tryz.isAgg9
  z9 := Tryz.sizeOf9
  v9 := Tryz.zeroValue9
  t21 := Tryz.underlying21
  a21 := Tryz.isAgg21
  z21 := Tryz.sizeOf21
  v21 := Tryz.zeroValue21
  t31 := Tryz.underlying107
  a31 := Tryz.isAgg107
  z31 := Tryz.sizeOf107
  v31 := Tryz.zeroValue107
  t46 := Tryz.underlying150
  a46 := Tryz.isAgg150
  z46 := Tryz.sizeOf150
  v46 := Tryz.zeroValue150
  t51 := Tryz.underlying166
  a51 := Tryz.isAgg166
  z51 := Tryz.sizeOf166
  v51 := Tryz.zeroValue166
  t105 := Tryz.underlying152
  a105 := Tryz.isAgg152
  z105 := Tryz.sizeOf152
  v105 := Tryz.zeroValue152
  t119 := Tryz.underlying179
  a119 := Tryz.isAgg179
  z119 := Tryz.sizeOf179
  t138 := Tryz.underlying181
  a138 := Tryz.isAgg181
  z138 := Tryz.sizeOf181
  v138 := Tryz.zeroValue181
  t139 := Tryz.underlying182
  a139 := Tryz.isAgg182
  z139 := Tryz.sizeOf182
  v139 := Tryz.zeroValue182
  t146 := Tryz.underlying169
  a146 := Tryz.isAgg169
  z146 := Tryz.sizeOf169
  v146 := Tryz.zeroValue169
  g1 := by kernel_rfl
  g3 := by kernel_rfl
  g4 := by kernel_rfl }
open Go.RowKit Go.Lib in
theorem lay_strings_Split (s sep : ByteArray) (m : Int) (w : World) (hs : s.size < 4294967281) (hm : w.cell? ⟨0, 0, none⟩ = some (.int .i64 m)) (h1 : 1 ≤ sep.size) :
    Calls Tryz.prog 128 #[.string s, .string sep] w fun e w' =>
      e = .returned (.slice (some ⟨w.heap.size, 0, none⟩) (Lib.countB s sep + 1) (Lib.countB s sep + 1)) ∧ w' = w.alloc (.cells ((Lib.splitB sep 0 (Lib.countB s sep) s).map Value.string).toArray 9) := Any.strings_Split lay_lays146 (by kernel_rfl) s sep m w hs hm h1

def lay_lays145_ren : Go.Shelf.Ren := ⟨fun | 145 => 87 | 220 => 137 | 219 => 156 | 217 => 176 | 225 => 177 | 224 => 178 | 267 => 179 | 266 => 198 | 314 => 199 | n => n, fun | 9 => 9 | 4 => 4 | 59 => 84 | 3 => 3 | 5 => 5 | 46 => 150 | 146 => 169 | 51 => 166 | n => n, fun | 1 => 0 | n => n⟩
theorem lay_lays145 : Go.Proofs.Lays.n145 Tryz.prog lay_lays145_ren := {
  mixed := by kernel_rfl
  f145 := Tryz.func87.trans (congrArg some (by kernel_rfl))
  f217 := Tryz.func176.trans (congrArg some (by kernel_rfl))
  f219 := Tryz.func156.trans (congrArg some (by kernel_rfl))
  f220 := Tryz.func137.trans (congrArg some (by kernel_rfl))
  f224 := Tryz.func178.trans (congrArg some (by kernel_rfl))
  f225 := Tryz.func177.trans (congrArg some (by kernel_rfl))
  f266 := Tryz.func198.trans (congrArg some (by kernel_rfl))
  f267 := Tryz.func179.trans (congrArg some (by kernel_rfl))
  f314 := Tryz.func199.trans (congrArg some (by kernel_rfl))
  t3 := Tryz.underlying3
  a3 := Tryz.isAgg3
  z3 := Tryz.sizeOf3
  v3 := Tryz.zeroValue3
  t4 := Tryz.underlying4
  a4 := Tryz.isAgg4
  z4 := Tryz.sizeOf4
  v4 := Tryz.zeroValue4
  t5 := Tryz.underlying5
  a5 := Tryz.isAgg5
  z5 := Tryz.sizeOf5
  v5 := Tryz.zeroValue5
  t9 := Tryz.underlying9
  a9 := Tryz.isAgg9
  z9 := Tryz.sizeOf9
  v9 := Tryz.zeroValue9
  t46 := Tryz.underlying150
  a46 := Tryz.isAgg150
  z46 := Tryz.sizeOf150
  v46 := Tryz.zeroValue150
  t51 := Tryz.underlying166
  a51 := Tryz.isAgg166
  z51 := Tryz.sizeOf166
  v51 := Tryz.zeroValue166
  t59 := Tryz.underlying84
  a59 := Tryz.isAgg84
  z59 := Tryz.sizeOf84
  v59 := Tryz.zeroValue84
  t146 := Tryz.underlying169
  a146 := Tryz.isAgg169
  z146 := Tryz.sizeOf169
  v146 := Tryz.zeroValue169
  g1 := by kernel_rfl }
theorem lay_strings_Cut (s sep : ByteArray) (m : Int) (w : World) (hs : s.size < 4294967281) (hm : w.cell? ⟨0, 0, none⟩ = some (.int .i64 m)) :
    Calls Tryz.prog 87 #[.string s, .string sep] w fun e w' => e = .returned (.tuple #[.string ⟨(Lib.cut s.data.toList sep.data.toList).1.toArray⟩, .string ⟨(Lib.cut s.data.toList sep.data.toList).2.1.toArray⟩, .bool (Lib.cut s.data.toList sep.data.toList).2.2]) ∧ ∃ n, w' = w.drewN n := Any.strings_Cut lay_lays145 s sep m w hs hm

def lay_lays160_ren : Go.Shelf.Ren := ⟨fun | 160 => 138 | 232 => 158 | 231 => 157 | 227 => 159 | 234 => 161 | 233 => 160 | 236 => 163 | 235 => 162 | 228 => 180 | 271 => 183 | 151 => 182 | 197 => 181 | 120 => 202 | 152 => 201 | 260 => 200 | 137 => 208 | 119 => 209 | 224 => 178 | 225 => 177 | 217 => 176 | 266 => 198 | n => n, fun | 9 => 9 | 4 => 4 | 3 => 3 | 5 => 5 | 117 => 137 | 116 => 136 | 0 => 0 | 124 => 140 | 21 => 21 | 105 => 152 | 46 => 150 | 119 => 179 | 139 => 182 | 138 => 181 | n => n, fun | 3 => 4 | 4 => 5 | n => n⟩
theorem lay_lays160 : Go.Proofs.Lays.n160 Tryz.prog lay_lays160_ren := {
  mixed := by kernel_rfl
  f119 := Tryz.func209.trans (congrArg some (by kernel_rfl))
  f120 := Tryz.func202.trans (congrArg some (by kernel_rfl))
  f137 := Tryz.func208.trans (congrArg some (by kernel_rfl))
  f151 := Tryz.func182.trans (congrArg some (by kernel_rfl))
  f152 := Tryz.func201.trans (congrArg some (by kernel_rfl))
  f160 := Tryz.func138.trans (congrArg some (by kernel_rfl))
  f197 := Tryz.func181.trans (congrArg some (by kernel_rfl))
  f217 := Tryz.func176.trans (congrArg some (by kernel_rfl))
  f224 := Tryz.func178.trans (congrArg some (by kernel_rfl))
  f225 := Tryz.func177.trans (congrArg some (by kernel_rfl))
  f227 := Tryz.func159.trans (congrArg some (by kernel_rfl))
  f228 := Tryz.func180.trans (congrArg some (by kernel_rfl))
  f231 := Tryz.func157.trans (congrArg some (by kernel_rfl))
  f232 := Tryz.func158.trans (congrArg some (by kernel_rfl))
  f233 := Tryz.func160.trans (congrArg some (by kernel_rfl))
  f234 := Tryz.func161.trans (congrArg some (by kernel_rfl))
  f235 := Tryz.func162.trans (congrArg some (by kernel_rfl))
  f236 := Tryz.func163.trans (congrArg some (by kernel_rfl))
  f260 := Tryz.func200.trans (congrArg some (by kernel_rfl))
  f266 := Tryz.func198.trans (congrArg some (by kernel_rfl))
  f271 := Tryz.func183.trans (congrArg some (by kernel_rfl))
  t0 := Tryz.underlying0
  a0 := Tryz.isAgg0
  z0 := Tryz.sizeOf0
  v0 := Tryz.zeroValue0
  t3 := Tryz.underlying3
  a3 := Tryz.isAgg3
  z3 := Tryz.sizeOf3
  v3 := Tryz.zeroValue3
  t4 := Tryz.underlying4
  a4 := Tryz.isAgg4
  z4 := Tryz.sizeOf4
  v4 := Tryz.zeroValue4
  t5 := Tryz.underlying5
  a5 := Tryz.isAgg5
  z5 := Tryz.sizeOf5
  v5 := Tryz.zeroValue5
  t9 := Tryz.underlying9
  a9 := Tryz.isAgg9
  z9 := Tryz.sizeOf9
  v9 := Tryz.zeroValue9
  t21 := Tryz.underlying21
  a21 := Tryz.isAgg21
  z21 := Tryz.sizeOf21
  v21 := Tryz.zeroValue21
  t46 := Tryz.underlying150
  a46 := Tryz.isAgg150
  z46 := Tryz.sizeOf150
  v46 := Tryz.zeroValue150
  t105 := Tryz.underlying152
  a105 := Tryz.isAgg152
  z105 := Tryz.sizeOf152
  v105 := Tryz.zeroValue152
  t116 := Tryz.underlying136
  a116 := Tryz.isAgg136
  z116 := Tryz.sizeOf136
  t117 := Tryz.underlying137
  a117 := Tryz.isAgg137
  z117 := Tryz.sizeOf137
  v117 := Tryz.zeroValue137
  t119 := Tryz.underlying179
  a119 := Tryz.isAgg179
  z119 := Tryz.sizeOf179
  t124 := Tryz.underlying140
  a124 := Tryz.isAgg140
  z124 := Tryz.sizeOf140
  v124 := Tryz.zeroValue140
  t138 := Tryz.underlying181
  a138 := Tryz.isAgg181
  z138 := Tryz.sizeOf181
  v138 := Tryz.zeroValue181
  t139 := Tryz.underlying182
  a139 := Tryz.isAgg182
  z139 := Tryz.sizeOf182
  v139 := Tryz.zeroValue182
  g3 := by kernel_rfl
  g4 := by kernel_rfl }
theorem lay_strings_Trim_laid (s cutset : ByteArray) (w : World) (hs : s.size ≤ 9223372036854775807) (hcs : cutset.size < 4294967281) (hascii : ∀ (j : Nat) b, cutset.data.toList[j]? = some b → b.toNat < 128) :
    Calls Tryz.prog 138 #[.string s, .string cutset] w fun e w' => e = .returned (.string ⟨(Lib.trimS s.data.toList cutset.data.toList).toArray⟩) ∧ Below w.heap.size w w' := Any.strings_Trim_laid lay_lays160 (by kernel_rfl) s cutset w hs hcs hascii

def lay_laysC172_ren : Go.Shelf.Ren := ⟨fun | 172 => 139 | 244 => 164 | 245 => 165 | 247 => 184 | 279 => 185 | 280 => 186 | 281 => 187 | 282 => 188 | 287 => 203 | 316 => 204 | 171 => 82 | 205 => 205 | 321 => 210 | 322 => 211 | 243 => 133 | 246 => 154 | 283 => 172 | 284 => 173 | 285 => 174 | 286 => 175 | 129 => 194 | 317 => 193 | 318 => 195 | 319 => 196 | 320 => 197 | 337 => 206 | 338 => 207 | n => n, fun | 9 => 9 | 3 => 3 | 75 => 116 | 76 => 117 | 4 => 4 | 5 => 5 | 167 => 155 | 37 => 22 | 0 => 0 | 85 => 156 | 2 => 2 | 168 => 158 | 53 => 88 | 175 => 172 | 46 => 150 | 210 => 176 | 127 => 142 | 145 => 188 | 143 => 186 | 21 => 21 | 171 => 144 | 173 => 147 | 212 => 165 | 51 => 166 | 20 => 20 | 213 => 167 | 232 => 189 | 233 => 190 | 80 => 129 | n => n, fun | 15 => 2 | 16 => 3 | 17 => 1 | 18 => 6 | 19 => 7 | n => n⟩
theorem lay_laysC172 : Go.Proofs.LaysC.n172 Tryz.prog lay_laysC172_ren := {
  mixed := by kernel_rfl
  f129 := Tryz.func194.trans (congrArg some (by kernel_rfl))
  f171 := Tryz.func82.trans (congrArg some (by kernel_rfl))
  f172 := Tryz.func139.trans (congrArg some (by kernel_rfl))
  f205 := Tryz.func205.trans (congrArg some (by kernel_rfl))
  f243 := Tryz.func133.trans (congrArg some (by kernel_rfl))
  f244 := Tryz.func164.trans (congrArg some (by kernel_rfl))
  f245 := Tryz.func165.trans (congrArg some (by kernel_rfl))
  f246 := Tryz.func154.trans (congrArg some (by kernel_rfl))
  f247 := Tryz.func184.trans (congrArg some (by kernel_rfl))
  f279 := Tryz.func185.trans (congrArg some (by kernel_rfl))
  f280 := Tryz.func186.trans (congrArg some (by kernel_rfl))
  f281 := Tryz.func187.trans (congrArg some (by kernel_rfl))
  f282 := Tryz.func188.trans (congrArg some (by kernel_rfl))
  f283 := Tryz.func172.trans (congrArg some (by kernel_rfl))
  f284 := Tryz.func173.trans (congrArg some (by kernel_rfl))
  f285 := Tryz.func174.trans (congrArg some (by kernel_rfl))
  f286 := Tryz.func175.trans (congrArg some (by kernel_rfl))
  f287 := Tryz.func203.trans (congrArg some (by kernel_rfl))
  f316 := Tryz.func204.trans (congrArg some (by kernel_rfl))
  f317 := Tryz.func193.trans (congrArg some (by kernel_rfl))
  f318 := Tryz.func195.trans (congrArg some (by kernel_rfl))
  f319 := Tryz.func196.trans (congrArg some (by kernel_rfl))
  f320 := Tryz.func197.trans (congrArg some (by kernel_rfl))
  f321 := Tryz.func210.trans (congrArg some (by kernel_rfl))
  f322 := Tryz.func211.trans (congrArg some (by kernel_rfl))
  f337 := Tryz.func206.trans (congrArg some (by kernel_rfl))
  f338 := Tryz.func207.trans (congrArg some (by kernel_rfl))
  t0 := Tryz.underlying0
  a0 := Tryz.isAgg0
  z0 := Tryz.sizeOf0
  v0 := Tryz.zeroValue0
  t2 := Tryz.underlying2
  a2 := Tryz.isAgg2
  z2 := Tryz.sizeOf2
  v2 := Tryz.zeroValue2
  t3 := Tryz.underlying3
  a3 := Tryz.isAgg3
  z3 := Tryz.sizeOf3
  v3 := Tryz.zeroValue3
  t4 := Tryz.underlying4
  a4 := Tryz.isAgg4
  z4 := Tryz.sizeOf4
  v4 := Tryz.zeroValue4
  t5 := Tryz.underlying5
  a5 := Tryz.isAgg5
  z5 := Tryz.sizeOf5
  v5 := Tryz.zeroValue5
  t9 := Tryz.underlying9
  a9 := Tryz.isAgg9
  z9 := Tryz.sizeOf9
  v9 := Tryz.zeroValue9
  t20 := Tryz.underlying20
  a20 := Tryz.isAgg20
  z20 := Tryz.sizeOf20
  v20 := Tryz.zeroValue20
  t21 := Tryz.underlying21
  a21 := Tryz.isAgg21
  z21 := Tryz.sizeOf21
  v21 := Tryz.zeroValue21
  t37 := Tryz.underlying22
  a37 := Tryz.isAgg22
  z37 := Tryz.sizeOf22
  v37 := Tryz.zeroValue22
  t46 := Tryz.underlying150
  a46 := Tryz.isAgg150
  z46 := Tryz.sizeOf150
  v46 := Tryz.zeroValue150
  t51 := Tryz.underlying166
  a51 := Tryz.isAgg166
  z51 := Tryz.sizeOf166
  v51 := Tryz.zeroValue166
  t53 := Tryz.underlying88
  a53 := Tryz.isAgg88
  z53 := Tryz.sizeOf88
  v53 := Tryz.zeroValue88
  t75 := Tryz.underlying116
  a75 := Tryz.isAgg116
  z75 := Tryz.sizeOf116
  v75 := Tryz.zeroValue116
  t76 := Tryz.underlying117
  a76 := Tryz.isAgg117
  z76 := Tryz.sizeOf117
  v76 := Tryz.zeroValue117
  t85 := Tryz.underlying156
  a85 := Tryz.isAgg156
  z85 := Tryz.sizeOf156
  v85 := Tryz.zeroValue156
  t127 := Tryz.underlying142
  a127 := Tryz.isAgg142
  z127 := Tryz.sizeOf142
  v127 := Tryz.zeroValue142
  t143 := Tryz.underlying186
  a143 := Tryz.isAgg186
  z143 := Tryz.sizeOf186
  v143 := Tryz.zeroValue186
  t145 := Tryz.underlying188
  a145 := Tryz.isAgg188
  z145 := Tryz.sizeOf188
  v145 := Tryz.zeroValue188
  t167 := Tryz.underlying155
  a167 := Tryz.isAgg155
  z167 := Tryz.sizeOf155
  v167 := Tryz.zeroValue155
  t168 := Tryz.underlying158
  a168 := Tryz.isAgg158
  z168 := Tryz.sizeOf158
  v168 := Tryz.zeroValue158
  t171 := Tryz.underlying144
  a171 := Tryz.isAgg144
  z171 := Tryz.sizeOf144
  v171 := Tryz.zeroValue144
  t173 := Tryz.underlying147
  a173 := Tryz.isAgg147
  z173 := Tryz.sizeOf147
  v173 := Tryz.zeroValue147
  t175 := Tryz.underlying172
  a175 := Tryz.isAgg172
  z175 := Tryz.sizeOf172
  v175 := Tryz.zeroValue172
  t210 := Tryz.underlying176
  a210 := Tryz.isAgg176
  z210 := Tryz.sizeOf176
  v210 := Tryz.zeroValue176
  t212 := Tryz.underlying165
  a212 := Tryz.isAgg165
  z212 := Tryz.sizeOf165
  v212 := Tryz.zeroValue165
  t213 := Tryz.underlying167
  a213 := Tryz.isAgg167
  z213 := Tryz.sizeOf167
  t232 := Tryz.underlying189
  a232 := Tryz.isAgg189
  z232 := Tryz.sizeOf189
  v232 := Tryz.zeroValue189
  t233 := Tryz.underlying190
  a233 := Tryz.isAgg190
  z233 := Tryz.sizeOf190
  v233 := Tryz.zeroValue190
  g15 := by kernel_rfl
  g16 := by kernel_rfl
  g17 := by kernel_rfl
  g18 := by kernel_rfl
  g19 := by kernel_rfl
  t80 := Tryz.underlying129
  a80 := Tryz.isAgg129
  z80 := Tryz.sizeOf129
  v80 := Tryz.zeroValue129
  i0 := by kernel_rfl
  i2 := by kernel_rfl
  i3 := by kernel_rfl
  i4 := by kernel_rfl
  i5 := by kernel_rfl
  i9 := by kernel_rfl
  i20 := by kernel_rfl
  i21 := by kernel_rfl
  i37 := by kernel_rfl
  i46 := by kernel_rfl
  i51 := by kernel_rfl
  i53 := by kernel_rfl
  i75 := by kernel_rfl
  i76 := by kernel_rfl
  i80 := by kernel_rfl
  i85 := by kernel_rfl
  i127 := by kernel_rfl
  i143 := by kernel_rfl
  i145 := by kernel_rfl
  i167 := by kernel_rfl
  i168 := by kernel_rfl
  i171 := by kernel_rfl
  i173 := by kernel_rfl
  i175 := by kernel_rfl
  i210 := by kernel_rfl
  i212 := by kernel_rfl
  i232 := by kernel_rfl
  i233 := by kernel_rfl
  m15 := by kernel_rfl
  m16 := by kernel_rfl
  m17 := by kernel_rfl
  m18 := by kernel_rfl
  m19 := by kernel_rfl
  c0 := by kernel_rfl
  c2 := by kernel_rfl
  c3 := by kernel_rfl
  c4 := by kernel_rfl
  c5 := by kernel_rfl
  c9 := by kernel_rfl
  c20 := by kernel_rfl
  c21 := by kernel_rfl
  c37 := by kernel_rfl
  c46 := by kernel_rfl
  c51 := by kernel_rfl
  c53 := by kernel_rfl
  c75 := by kernel_rfl
  c76 := by kernel_rfl
  c80 := by kernel_rfl
  c85 := by kernel_rfl
  c127 := by kernel_rfl
  c143 := by kernel_rfl
  c145 := by kernel_rfl
  c167 := by kernel_rfl
  c168 := by kernel_rfl
  c171 := by kernel_rfl
  c173 := by kernel_rfl
  c175 := by kernel_rfl
  c210 := by kernel_rfl
  c212 := by kernel_rfl
  c213 := by kernel_rfl
  c232 := by kernel_rfl
  c233 := by kernel_rfl }
theorem lay_strconv_Atoi_ok (s : ByteArray) (hmax : s.size ≤ 9223372036854775806) (v : Int) (h : Lib.atoiAll s.data.toList = .ok v) (w : World) :
    Calls Tryz.prog 139 #[.string s] w fun e w' => e = .returned (.tuple #[.int .i64 v, .nilIface]) ∧ (w' = w ∨ ∃ t, w' = Lib.bytesWorld w 5 t) := Any.strconv_Atoi_ok lay_laysC172 s hmax v h w

noncomputable def laws_big_f (k : Nat) (p0 : (List Int)) (p1 : (List Int)) : Option ((Bool × Unit) × Unit) :=
  (met (cond (decide (((List.length p0 : Nat) : Int) > 1048576)) (some (.inl (true, ()))) (some (.inl ((decide (((List.length p1 : Nat) : Int) > (iw (1048576 - ((List.length p0 : Nat) : Int))))), ())))) (fun j1 => (some ((j1.1, ()), ()))))
noncomputable def laws_big_a : Ann := (.q .o (.q (.r [(4, 100256, .v .bool)]) .o))
theorem laws_big_run (k : Nat) (p0 : (List Int)) (p1 : (List Int)) : funX Tryz.prog (callT []) k Tryz.f5 laws_big_a [.v (.slc 5 (.int .u8)), .v (.slc 5 (.int .u8))] [.v .bool] (p0, p1, ()) = laws_big_f k p0 p1 := by kernel_rfl
noncomputable def laws_big_c (k : Nat) : Con := ⟨5, [.v (.slc 5 (.int .u8)), .v (.slc 5 (.int .u8))], [.v .bool], fun x => laws_big_f k x.1 x.2.1⟩
theorem laws_big_ok (k : Nat) : (laws_big_c k).Sound Tryz.prog GL := con_ok (k := k) (fn := Tryz.f5) (A := laws_big_a) (C := callT []) Tryz.func5 (by kernel_rfl) (show Tryz.f5.body = some (bodyX Tryz.f5) by rfl) (fun X hX => callT_at TableOk.nil X hX) (Nat.le_of_ble_eq_true (by kernel_rfl)) (fun ⟨p0, p1, _⟩ y h => by rw [← h]; exact laws_big_run k p0 p1)
noncomputable def spec_l1Cur_next_f (k : Nat) (p0 : ((List Int) × Int × Int × Unit)) : Option ((Int × Unit) × (((List Int) × Int × Int × Unit) × Unit)) :=
  (met (cond (decide (p0.2.1 < ((List.length p0.1 : Nat) : Int))) (ixk p0.2.1 (List.length p0.1) (some (.inl ((p0.1, p0.2.1, p0.2.2.1, ()), (iw ((rd p0.1 p0.2.1))), ())))) (some (.inl ((p0.1, p0.2.1, p0.2.2.1, ()), 0, ())))) (fun j1 => (cond (decide ((iw (j1.1.2.1 + 1)) ≤ ((List.length j1.1.1 : Nat) : Int))) (some ((j1.2.1, ()), ((j1.1.1, (iw (j1.1.2.1 + 1)), (IntKind.wrap .u64 ((IntKind.wrap .u64 ((IntKind.wrap .u64 (j1.1.2.2.1 * 6364136223846793005)) + (IntKind.wrap .u64 (j1.2.1)))) + 1442695040888963407)), ()), ()))) (some (((iw ((andI .u64 (shrI .u64 (IntKind.wrap .u64 ((IntKind.wrap .u64 ((IntKind.wrap .u64 (j1.1.2.2.1 * 6364136223846793005)) + (IntKind.wrap .u64 (j1.2.1)))) + 1442695040888963407)) 40) 255))), ()), ((j1.1.1, (iw (j1.1.2.1 + 1)), (IntKind.wrap .u64 ((IntKind.wrap .u64 ((IntKind.wrap .u64 (j1.1.2.2.1 * 6364136223846793005)) + (IntKind.wrap .u64 (j1.2.1)))) + 1442695040888963407)), ()), ()))))))
noncomputable def spec_l1Cur_next_a : Ann := (.q .o (.q .o (.q (.q .o (.j [(0, 3000000, .box true [.v (.slc 5 (.int .u8)), .v (.int .i64), .v (.int .u64)]), (3, 100192, .v (.int .i64))] (.e [] [11]) .o)) .o)))
theorem spec_l1Cur_next_run (k : Nat) (p0 : ((List Int) × Int × Int × Unit)) : funX Tryz.prog (callT []) k Tryz.f166 spec_l1Cur_next_a [.box true [.v (.slc 5 (.int .u8)), .v (.int .i64), .v (.int .u64)]] [.v (.int .i64)] (p0, ()) = spec_l1Cur_next_f k p0 := by kernel_rfl
noncomputable def spec_l1Cur_next_c (k : Nat) : Con := ⟨166, [.box true [.v (.slc 5 (.int .u8)), .v (.int .i64), .v (.int .u64)]], [.v (.int .i64)], fun x => spec_l1Cur_next_f k x.1⟩
theorem spec_l1Cur_next_ok (k : Nat) : (spec_l1Cur_next_c k).Sound Tryz.prog GL := con_ok (k := k) (fn := Tryz.f166) (A := spec_l1Cur_next_a) (C := callT []) Tryz.func166 (by kernel_rfl) (show Tryz.f166.body = some (bodyX Tryz.f166) by rfl) (fun X hX => callT_at TableOk.nil X hX) (Nat.le_of_ble_eq_true (by kernel_rfl)) (fun ⟨p0, _⟩ y h => by rw [← h]; exact spec_l1Cur_next_run k p0)
noncomputable def spec_l1Cur_pick_f (k : Nat) (p0 : ((List Int) × Int × Int × Unit)) (p1 : Int) : Option ((Int × Unit) × (((List Int) × Int × Int × Unit) × Unit)) :=
  (cond (decide (p1 ≤ 1)) (some ((0, ()), ((p0.1, p0.2.1, p0.2.2.1, ()), ()))) (Option.bind (spec_l1Cur_next_f k (p0.1, p0.2.1, p0.2.2.1, ())) (fun y9 => (met (cond (decide (p1 > 200)) (Option.bind (spec_l1Cur_next_f k (y9.2.1.1, y9.2.1.2.1, y9.2.1.2.2.1, ())) (fun y15 => (some (.inl ((y15.2.1.1, y15.2.1.2.1, y15.2.1.2.2.1, ()), (iw ((iw (y9.1.1 * 256)) + y15.1.1)), ()))))) (some (.inl ((y9.2.1.1, y9.2.1.2.1, y9.2.1.2.2.1, ()), y9.1.1, ())))) (fun j1 => (chk (!(p1 == 0)) (some (((Int.tmod j1.2.1 p1), ()), ((j1.1.1, j1.1.2.1, j1.1.2.2.1, ()), ())))))))))
noncomputable def spec_l1Cur_pick_a : Ann := (.q .o (.q .o (.q .o (.q (.q .o (.j [(0, 3000000, .box true [.v (.slc 5 (.int .u8)), .v (.int .i64), .v (.int .u64)]), (5, 100320, .v (.int .i64))] .o .o)) .o))))
theorem spec_l1Cur_pick_run (k : Nat) (p0 : ((List Int) × Int × Int × Unit)) (p1 : Int) : funX Tryz.prog (callT [spec_l1Cur_next_c k]) k Tryz.f140 spec_l1Cur_pick_a [.box true [.v (.slc 5 (.int .u8)), .v (.int .i64), .v (.int .u64)], .v (.int .i64)] [.v (.int .i64)] (p0, p1, ()) = spec_l1Cur_pick_f k p0 p1 := by kernel_rfl
noncomputable def spec_l1Cur_pick_c (k : Nat) : Con := ⟨140, [.box true [.v (.slc 5 (.int .u8)), .v (.int .i64), .v (.int .u64)], .v (.int .i64)], [.v (.int .i64)], fun x => spec_l1Cur_pick_f k x.1 x.2.1⟩
theorem spec_l1Cur_pick_ok (k : Nat) : (spec_l1Cur_pick_c k).Sound Tryz.prog GL := con_ok (k := k) (fn := Tryz.f140) (A := spec_l1Cur_pick_a) (C := callT [spec_l1Cur_next_c k]) Tryz.func140 (by kernel_rfl) (show Tryz.f140.body = some (bodyX Tryz.f140) by rfl) (fun X hX => callT_at (TableOk.cons (spec_l1Cur_next_ok k) TableOk.nil) X hX) (Nat.le_of_ble_eq_true (by kernel_rfl)) (fun ⟨p0, p1, _⟩ y h => by rw [← h]; exact spec_l1Cur_pick_run k p0 p1)
noncomputable def spec_l1Cur_sureDrawers_l1_b (k : Nat) (rec : ((List Int) × Int × Int × Unit) → (List (Int × Int)) → Int → Option ((((List Int) × Int × Int × Unit) × (List (Int × Int)) × Unit) ⊕ (((List (Int × Int)) × Unit) × (((List Int) × Int × Int × Unit) × Unit)))) (x0 : ((List Int) × Int × Int × Unit)) (x5 : (List (Int × Int))) (x6 : Int) : Option ((((List Int) × Int × Int × Unit) × (List (Int × Int)) × Unit) ⊕ (((List (Int × Int)) × Unit) × (((List Int) × Int × Int × Unit) × Unit))) :=
  (cond (decide (x6 > 0)) (Option.bind (spec_l1Cur_pick_f k (x0.1, x0.2.1, x0.2.2.1, ()) 6) (fun y24 => (Option.bind (spec_l1Cur_pick_f k (y24.2.1.1, y24.2.1.2.1, y24.2.1.2.2.1, ()) 6) (fun y26 => (chk (decide (List.length x5 + List.length [(y24.1.1, (iw (1 + y26.1.1)))] ≤ 8278675785607)) (rec (y26.2.1.1, y26.2.1.2.1, y26.2.1.2.2.1, ()) (x5 ++ [(y24.1.1, (iw (1 + y26.1.1)))]) (iw (x6 - 1)))))))) (some (.inl ((x0.1, x0.2.1, x0.2.2.1, ()), x5, ()))))
noncomputable def spec_l1Cur_sureDrawers_l1 (k : Nat) (x0 : ((List Int) × Int × Int × Unit)) (x5 : (List (Int × Int))) (x6 : Int) : Option ((((List Int) × Int × Int × Unit) × (List (Int × Int)) × Unit) ⊕ (((List (Int × Int)) × Unit) × (((List Int) × Int × Int × Unit) × Unit))) := iter k (fun (rec : (((List Int) × Int × Int × Unit) × (List (Int × Int)) × Int × Unit) → Option ((((List Int) × Int × Int × Unit) × (List (Int × Int)) × Unit) ⊕ (((List (Int × Int)) × Unit) × (((List Int) × Int × Int × Unit) × Unit)))) (x : (((List Int) × Int × Int × Unit) × (List (Int × Int)) × Int × Unit)) => spec_l1Cur_sureDrawers_l1_b k (fun x0 x5 x6 => rec (x0, x5, x6, ())) x.1 x.2.1 x.2.2.1) (x0, x5, x6, ())
noncomputable def spec_l1Cur_sureDrawers_f (k : Nat) (p0 : ((List Int) × Int × Int × Unit)) (p1 : Int) : Option (((List (Int × Int)) × Unit) × (((List Int) × Int × Int × Unit) × Unit)) :=
  (Option.bind (spec_l1Cur_pick_f k (p0.1, p0.2.1, p0.2.2.1, ()) 5) (fun y8 => (Option.bind (spec_l1Cur_pick_f k (y8.2.1.1, y8.2.1.2.1, y8.2.1.2.2.1, ()) 6) (fun y11 => (Option.bind (spec_l1Cur_pick_f k (y11.2.1.1, y11.2.1.2.1, y11.2.1.2.2.1, ()) p1) (fun y17 => (met (spec_l1Cur_sureDrawers_l1 k (y17.2.1.1, y17.2.1.2.1, y17.2.1.2.2.1, ()) [((iw (1 + y8.1.1)), (iw (1 + y11.1.1)))] y17.1.1) (fun j2 => (some ((j2.2.1, ()), ((j2.1.1, j2.1.2.1, j2.1.2.2.1, ()), ())))))))))))
noncomputable def spec_l1Cur_sureDrawers_a : Ann := (.q .o (.q .o (.q (.q .o (.m [(0, 3000000, .box true [.v (.slc 5 (.int .u8)), .v (.int .i64), .v (.int .u64)]), (5, 100320, .own false 57 (.pr (.int .i64) (.int .i64)))] (.l [(0, 3000000, .box true [.v (.slc 5 (.int .u8)), .v (.int .i64), .v (.int .u64)]), (5, 100320, .own false 57 (.pr (.int .i64) (.int .i64))), (6, 100384, .v (.int .i64))] .o))) .o)))
theorem spec_l1Cur_sureDrawers_run (k : Nat) (p0 : ((List Int) × Int × Int × Unit)) (p1 : Int) : funX Tryz.prog (callT [spec_l1Cur_pick_c k]) k Tryz.f127 spec_l1Cur_sureDrawers_a [.box true [.v (.slc 5 (.int .u8)), .v (.int .i64), .v (.int .u64)], .v (.int .i64)] [.own false 57 (.pr (.int .i64) (.int .i64))] (p0, p1, ()) = spec_l1Cur_sureDrawers_f k p0 p1 := by kernel_rfl
noncomputable def spec_l1Cur_sureDrawers_c (k : Nat) : Con := ⟨127, [.box true [.v (.slc 5 (.int .u8)), .v (.int .i64), .v (.int .u64)], .v (.int .i64)], [.own false 57 (.pr (.int .i64) (.int .i64))], fun x => spec_l1Cur_sureDrawers_f k x.1 x.2.1⟩
theorem spec_l1Cur_sureDrawers_ok (k : Nat) : (spec_l1Cur_sureDrawers_c k).Sound Tryz.prog GL := con_ok (k := k) (fn := Tryz.f127) (A := spec_l1Cur_sureDrawers_a) (C := callT [spec_l1Cur_pick_c k]) Tryz.func127 (by kernel_rfl) (show Tryz.f127.body = some (bodyX Tryz.f127) by rfl) (fun X hX => callT_at (TableOk.cons (spec_l1Cur_pick_ok k) TableOk.nil) X hX) (Nat.le_of_ble_eq_true (by kernel_rfl)) (fun ⟨p0, p1, _⟩ y h => by rw [← h]; exact spec_l1Cur_sureDrawers_run k p0 p1)
noncomputable def spec_l1Cur_among_f (k : Nat) (p0 : ((List Int) × Int × Int × Unit)) (p1 : (List Int)) : Option ((Int × Unit) × (((List Int) × Int × Int × Unit) × Unit)) :=
  (Option.bind (spec_l1Cur_pick_f k (p0.1, p0.2.1, p0.2.2.1, ()) ((List.length p1 : Nat) : Int)) (fun y9 => (ixk y9.1.1 (List.length p1) (some (((rd p1 y9.1.1), ()), ((y9.2.1.1, y9.2.1.2.1, y9.2.1.2.2.1, ()), ()))))))
noncomputable def spec_l1Cur_among_a : Ann := .o
theorem spec_l1Cur_among_run (k : Nat) (p0 : ((List Int) × Int × Int × Unit)) (p1 : (List Int)) : funX Tryz.prog (callT [spec_l1Cur_pick_c k]) k Tryz.f90 spec_l1Cur_among_a [.box true [.v (.slc 5 (.int .u8)), .v (.int .i64), .v (.int .u64)], .v (.slc 3 (.int .i64))] [.v (.int .i64)] (p0, p1, ()) = spec_l1Cur_among_f k p0 p1 := by kernel_rfl
noncomputable def spec_l1Cur_among_c (k : Nat) : Con := ⟨90, [.box true [.v (.slc 5 (.int .u8)), .v (.int .i64), .v (.int .u64)], .v (.slc 3 (.int .i64))], [.v (.int .i64)], fun x => spec_l1Cur_among_f k x.1 x.2.1⟩
theorem spec_l1Cur_among_ok (k : Nat) : (spec_l1Cur_among_c k).Sound Tryz.prog GL := con_ok (k := k) (fn := Tryz.f90) (A := spec_l1Cur_among_a) (C := callT [spec_l1Cur_pick_c k]) Tryz.func90 (by kernel_rfl) (show Tryz.f90.body = some (bodyX Tryz.f90) by rfl) (fun X hX => callT_at (TableOk.cons (spec_l1Cur_pick_ok k) TableOk.nil) X hX) (Nat.le_of_ble_eq_true (by kernel_rfl)) (fun ⟨p0, p1, _⟩ y h => by rw [← h]; exact spec_l1Cur_among_run k p0 p1)
noncomputable def spec_l1Cur_drawers_l1_b (k : Nat) (rec : ((List Int) × Int × Int × Unit) → (List (Int × Int)) → Option ((((List Int) × Int × Int × Unit) × (List (Int × Int)) × Unit) ⊕ ((((List Int) × Int × Int × Unit) × (List (Int × Int)) × Unit) ⊕ ((((List Int) × Int × Int × Unit) × (List (Int × Int)) × Unit) ⊕ ((((List Int) × Int × Int × Unit) × (List (Int × Int)) × Unit) ⊕ ((((List Int) × Int × Int × Unit) × (List (Int × Int)) × Unit) ⊕ (((List (Int × Int)) × Unit) × (((List Int) × Int × Int × Unit) × Unit)))))))) (x0 : ((List Int) × Int × Int × Unit)) (x3 : (List (Int × Int))) : Option ((((List Int) × Int × Int × Unit) × (List (Int × Int)) × Unit) ⊕ ((((List Int) × Int × Int × Unit) × (List (Int × Int)) × Unit) ⊕ ((((List Int) × Int × Int × Unit) × (List (Int × Int)) × Unit) ⊕ ((((List Int) × Int × Int × Unit) × (List (Int × Int)) × Unit) ⊕ ((((List Int) × Int × Int × Unit) × (List (Int × Int)) × Unit) ⊕ (((List (Int × Int)) × Unit) × (((List Int) × Int × Int × Unit) × Unit))))))) :=
  (Option.bind (spec_l1Cur_pick_f k (x0.1, x0.2.1, x0.2.2.1, ()) 2) (fun y30 => (cond (decide (((List.length x3 : Nat) : Int) < (iw (8 + y30.1.1)))) (chk (decide (List.length x3 + List.length [(1, 2)] ≤ 8278675785607)) (rec (y30.2.1.1, y30.2.1.2.1, y30.2.1.2.2.1, ()) (x3 ++ [(1, 2)]))) (some (.inl ((y30.2.1.1, y30.2.1.2.1, y30.2.1.2.2.1, ()), x3, ()))))))
noncomputable def spec_l1Cur_drawers_l1 (k : Nat) (x0 : ((List Int) × Int × Int × Unit)) (x3 : (List (Int × Int))) : Option ((((List Int) × Int × Int × Unit) × (List (Int × Int)) × Unit) ⊕ ((((List Int) × Int × Int × Unit) × (List (Int × Int)) × Unit) ⊕ ((((List Int) × Int × Int × Unit) × (List (Int × Int)) × Unit) ⊕ ((((List Int) × Int × Int × Unit) × (List (Int × Int)) × Unit) ⊕ ((((List Int) × Int × Int × Unit) × (List (Int × Int)) × Unit) ⊕ (((List (Int × Int)) × Unit) × (((List Int) × Int × Int × Unit) × Unit))))))) := iter k (fun (rec : (((List Int) × Int × Int × Unit) × (List (Int × Int)) × Unit) → Option ((((List Int) × Int × Int × Unit) × (List (Int × Int)) × Unit) ⊕ ((((List Int) × Int × Int × Unit) × (List (Int × Int)) × Unit) ⊕ ((((List Int) × Int × Int × Unit) × (List (Int × Int)) × Unit) ⊕ ((((List Int) × Int × Int × Unit) × (List (Int × Int)) × Unit) ⊕ ((((List Int) × Int × Int × Unit) × (List (Int × Int)) × Unit) ⊕ (((List (Int × Int)) × Unit) × (((List Int) × Int × Int × Unit) × Unit)))))))) (x : (((List Int) × Int × Int × Unit) × (List (Int × Int)) × Unit)) => spec_l1Cur_drawers_l1_b k (fun x0 x3 => rec (x0, x3, ())) x.1 x.2.1) (x0, x3, ())
noncomputable def spec_l1Cur_drawers_f (k : Nat) (p0 : ((List Int) × Int × Int × Unit)) : Option (((List (Int × Int)) × Unit) × (((List Int) × Int × Int × Unit) × Unit)) :=
  (Option.bind (spec_l1Cur_sureDrawers_f k (p0.1, p0.2.1, p0.2.2.1, ()) 5) (fun y5 => (Option.bind (spec_l1Cur_pick_f k (y5.2.1.1, y5.2.1.2.1, y5.2.1.2.2.1, ()) 20) (fun y7 => (met (met (cond (y7.1.1 == 0) (some (.inr (.inr (([(0, 1), (0, 2)], ()), ((y7.2.1.1, y7.2.1.2.1, y7.2.1.2.2.1, ()), ()))))) (met (cond (y7.1.1 == 1) (Option.bind (spec_l1Cur_among_f k (y7.2.1.1, y7.2.1.2.1, y7.2.1.2.2.1, ()) [(-1), 0, 1, 50, 51, 4611686018427387904]) (fun y18 => (Option.bind (spec_l1Cur_among_f k (y18.2.1.1, y18.2.1.2.1, y18.2.1.2.2.1, ()) [(-1), 0, 1, 60, 61, 4611686018427387904]) (fun y21 => (chk (decide (List.length y5.1.1 + List.length [(y18.1.1, y21.1.1)] ≤ 8278675785607)) (some (.inl ((y21.2.1.1, y21.2.1.2.1, y21.2.1.2.2.1, ()), (y5.1.1 ++ [(y18.1.1, y21.1.1)]), ())))))))) (met (cond (y7.1.1 == 2) (met (spec_l1Cur_drawers_l1 k (y7.2.1.1, y7.2.1.2.1, y7.2.1.2.2.1, ()) y5.1.1) (fun j2 => (some (.inl ((j2.1.1, j2.1.2.1, j2.1.2.2.1, ()), j2.2.1, ()))))) (cond (y7.1.1 == 3) (some (.inr (.inr (.inr (.inr (([], ()), ((y7.2.1.1, y7.2.1.2.1, y7.2.1.2.2.1, ()), ()))))))) (some (.inl ((y7.2.1.1, y7.2.1.2.1, y7.2.1.2.2.1, ()), y5.1.1, ()))))) (fun j3 => (some (.inl ((j3.1.1, j3.1.2.1, j3.1.2.2.1, ()), j3.2.1, ())))))) (fun j4 => (some (.inl ((j4.1.1, j4.1.2.1, j4.1.2.2.1, ()), j4.2.1, ())))))) (fun j5 => (some (.inl ((j5.1.1, j5.1.2.1, j5.1.2.2.1, ()), j5.2.1, ()))))) (fun j6 => (some ((j6.2.1, ()), ((j6.1.1, j6.1.2.1, j6.1.2.2.1, ()), ())))))))))
noncomputable def spec_l1Cur_drawers_a : Ann := (.q .o (.q .o (.q (.q .o (.m [(0, 3000000, .box true [.v (.slc 5 (.int .u8)), .v (.int .i64), .v (.int .u64)]), (3, 100192, .own false 57 (.pr (.int .i64) (.int .i64)))] (.q .o (.j [(0, 3000000, .box true [.v (.slc 5 (.int .u8)), .v (.int .i64), .v (.int .u64)]), (3, 100192, .own false 57 (.pr (.int .i64) (.int .i64)))] .o (.q .o (.j [(0, 3000000, .box true [.v (.slc 5 (.int .u8)), .v (.int .i64), .v (.int .u64)]), (3, 100192, .own false 57 (.pr (.int .i64) (.int .i64)))] .o (.q .o (.j [(0, 3000000, .box true [.v (.slc 5 (.int .u8)), .v (.int .i64), .v (.int .u64)]), (3, 100192, .own false 57 (.pr (.int .i64) (.int .i64)))] (.m [(0, 3000000, .box true [.v (.slc 5 (.int .u8)), .v (.int .i64), .v (.int .u64)]), (3, 100192, .own false 57 (.pr (.int .i64) (.int .i64)))] (.l [(0, 3000000, .box true [.v (.slc 5 (.int .u8)), .v (.int .i64), .v (.int .u64)]), (3, 100192, .own false 57 (.pr (.int .i64) (.int .i64)))] .o)) .o)))))))) .o)))
theorem spec_l1Cur_drawers_run (k : Nat) (p0 : ((List Int) × Int × Int × Unit)) : funX Tryz.prog (callT [spec_l1Cur_sureDrawers_c k, spec_l1Cur_pick_c k, spec_l1Cur_among_c k]) k Tryz.f148 spec_l1Cur_drawers_a [.box true [.v (.slc 5 (.int .u8)), .v (.int .i64), .v (.int .u64)]] [.own false 57 (.pr (.int .i64) (.int .i64))] (p0, ()) = spec_l1Cur_drawers_f k p0 := by kernel_rfl
noncomputable def spec_l1Cur_drawers_c (k : Nat) : Con := ⟨148, [.box true [.v (.slc 5 (.int .u8)), .v (.int .i64), .v (.int .u64)]], [.own false 57 (.pr (.int .i64) (.int .i64))], fun x => spec_l1Cur_drawers_f k x.1⟩
theorem spec_l1Cur_drawers_ok (k : Nat) : (spec_l1Cur_drawers_c k).Sound Tryz.prog GL := con_ok (k := k) (fn := Tryz.f148) (A := spec_l1Cur_drawers_a) (C := callT [spec_l1Cur_sureDrawers_c k, spec_l1Cur_pick_c k, spec_l1Cur_among_c k]) Tryz.func148 (by kernel_rfl) (show Tryz.f148.body = some (bodyX Tryz.f148) by rfl) (fun X hX => callT_at (TableOk.cons (spec_l1Cur_sureDrawers_ok k) (TableOk.cons (spec_l1Cur_pick_ok k) (TableOk.cons (spec_l1Cur_among_ok k) TableOk.nil))) X hX) (Nat.le_of_ble_eq_true (by kernel_rfl)) (fun ⟨p0, _⟩ y h => by rw [← h]; exact spec_l1Cur_drawers_run k p0)
noncomputable def spec_l1Own_f (k : Nat) (p0 : (List Int)) : Option (((List Int) × Unit) × Unit) :=
  (chk (decide (0 + List.length p0 ≤ 15637498706147)) (some ((p0, ()), ())))
noncomputable def spec_l1Own_a : Ann := .o
theorem spec_l1Own_run (k : Nat) (p0 : (List Int)) : funX Tryz.prog (callT []) k Tryz.f81 spec_l1Own_a [.v (.slc 3 (.int .i64))] [.own false 3 (.int .i64)] (p0, ()) = spec_l1Own_f k p0 := by kernel_rfl
noncomputable def spec_l1Own_c (k : Nat) : Con := ⟨81, [.v (.slc 3 (.int .i64))], [.own false 3 (.int .i64)], fun x => spec_l1Own_f k x.1⟩
theorem spec_l1Own_ok (k : Nat) : (spec_l1Own_c k).Sound Tryz.prog GL := con_ok (k := k) (fn := Tryz.f81) (A := spec_l1Own_a) (C := callT []) Tryz.func81 (by kernel_rfl) (show Tryz.f81.body = some (bodyX Tryz.f81) by rfl) (fun X hX => callT_at TableOk.nil X hX) (Nat.le_of_ble_eq_true (by kernel_rfl)) (fun ⟨p0, _⟩ y h => by rw [← h]; exact spec_l1Own_run k p0)
noncomputable def spec_l1Cur_one_f (k : Nat) (p0 : ((List Int) × Int × Int × Unit)) (p1 : Int) : Option ((Bool × Unit) × (((List Int) × Int × Int × Unit) × Unit)) :=
  (Option.bind (spec_l1Cur_pick_f k (p0.1, p0.2.1, p0.2.2.1, ()) p1) (fun y7 => (some (((y7.1.1 == 0), ()), ((y7.2.1.1, y7.2.1.2.1, y7.2.1.2.2.1, ()), ())))))
noncomputable def spec_l1Cur_one_a : Ann := .o
theorem spec_l1Cur_one_run (k : Nat) (p0 : ((List Int) × Int × Int × Unit)) (p1 : Int) : funX Tryz.prog (callT [spec_l1Cur_pick_c k]) k Tryz.f96 spec_l1Cur_one_a [.box true [.v (.slc 5 (.int .u8)), .v (.int .i64), .v (.int .u64)], .v (.int .i64)] [.v .bool] (p0, p1, ()) = spec_l1Cur_one_f k p0 p1 := by kernel_rfl
noncomputable def spec_l1Cur_one_c (k : Nat) : Con := ⟨96, [.box true [.v (.slc 5 (.int .u8)), .v (.int .i64), .v (.int .u64)], .v (.int .i64)], [.v .bool], fun x => spec_l1Cur_one_f k x.1 x.2.1⟩
theorem spec_l1Cur_one_ok (k : Nat) : (spec_l1Cur_one_c k).Sound Tryz.prog GL := con_ok (k := k) (fn := Tryz.f96) (A := spec_l1Cur_one_a) (C := callT [spec_l1Cur_pick_c k]) Tryz.func96 (by kernel_rfl) (show Tryz.f96.body = some (bodyX Tryz.f96) by rfl) (fun X hX => callT_at (TableOk.cons (spec_l1Cur_pick_ok k) TableOk.nil) X hX) (Nat.le_of_ble_eq_true (by kernel_rfl)) (fun ⟨p0, p1, _⟩ y h => by rw [← h]; exact spec_l1Cur_one_run k p0 p1)
noncomputable def spec_l1Cur_search_l1_b (k : Nat) (y10 : (((List (Int × Int)) × Unit) × (((List Int) × Int × Int × Unit) × Unit))) (rec : ((List Int) × Int × Int × Unit) → (List (Int × Int)) → (List Int) → Int → Option ((((List Int) × Int × Int × Unit) × (List (Int × Int)) × (List Int) × Unit) ⊕ (((List (Int × Int)) × (List Int) × Unit) × (((List Int) × Int × Int × Unit) × Unit)))) (x0 : ((List Int) × Int × Int × Unit)) (x4 : (List (Int × Int))) (x5 : (List Int)) (x13 : Int) : Option ((((List Int) × Int × Int × Unit) × (List (Int × Int)) × (List Int) × Unit) ⊕ (((List (Int × Int)) × (List Int) × Unit) × (((List Int) × Int × Int × Unit) × Unit))) :=
  (cond (decide (x13 < ((List.length y10.1.1 : Nat) : Int))) (Option.bind (spec_l1Cur_pick_f k (x0.1, x0.2.1, x0.2.2.1, ()) (iw (((List.length x5 : Nat) : Int) + 1))) (fun y20 => (chk (decide (0 ≤ y20.1.1)) (chk (decide (y20.1.1 ≤ ((List.length x5 : Nat) : Int))) (Option.bind (spec_l1Own_f k (List.take (Int.toNat y20.1.1) x5)) (fun y24 => (chk (decide (List.length y24.1.1 + List.length [x13] ≤ 15637498706147)) (chk (decide (0 ≤ y20.1.1)) (chk (decide (y20.1.1 ≤ ((List.length x5 : Nat) : Int))) (chk (decide (List.length (y24.1.1 ++ [x13]) + List.length (List.drop (Int.toNat y20.1.1) x5) ≤ 15637498706147)) (rec (y20.2.1.1, y20.2.1.2.1, y20.2.1.2.2.1, ()) x4 ((y24.1.1 ++ [x13]) ++ (List.drop (Int.toNat y20.1.1) x5)) (iw (x13 + 1))))))))))))) (some (.inl ((x0.1, x0.2.1, x0.2.2.1, ()), x4, x5, ()))))
noncomputable def spec_l1Cur_search_l1 (k : Nat) (y10 : (((List (Int × Int)) × Unit) × (((List Int) × Int × Int × Unit) × Unit))) (x0 : ((List Int) × Int × Int × Unit)) (x4 : (List (Int × Int))) (x5 : (List Int)) (x13 : Int) : Option ((((List Int) × Int × Int × Unit) × (List (Int × Int)) × (List Int) × Unit) ⊕ (((List (Int × Int)) × (List Int) × Unit) × (((List Int) × Int × Int × Unit) × Unit))) := iter k (fun (rec : (((List Int) × Int × Int × Unit) × (List (Int × Int)) × (List Int) × Int × Unit) → Option ((((List Int) × Int × Int × Unit) × (List (Int × Int)) × (List Int) × Unit) ⊕ (((List (Int × Int)) × (List Int) × Unit) × (((List Int) × Int × Int × Unit) × Unit)))) (x : (((List Int) × Int × Int × Unit) × (List (Int × Int)) × (List Int) × Int × Unit)) => spec_l1Cur_search_l1_b k y10 (fun x0 x4 x5 x13 => rec (x0, x4, x5, x13, ())) x.1 x.2.1 x.2.2.1 x.2.2.2.1) (x0, x4, x5, x13, ())
noncomputable def spec_l1Cur_search_f (k : Nat) (p0 : ((List Int) × Int × Int × Unit)) : Option (((List (Int × Int)) × (List Int) × Unit) × (((List Int) × Int × Int × Unit) × Unit)) :=
  (Option.bind (spec_l1Cur_drawers_f k (p0.1, p0.2.1, p0.2.2.1, ())) (fun y10 => (met (spec_l1Cur_search_l1 k y10 (y10.2.1.1, y10.2.1.2.1, y10.2.1.2.2.1, ()) y10.1.1 [] 0) (fun j2 => (Option.bind (spec_l1Cur_one_f k (j2.1.1, j2.1.2.1, j2.1.2.2.1, ()) 12) (fun y35 => (met (cond y35.1.1 (Option.bind (spec_l1Cur_among_f k (y35.2.1.1, y35.2.1.2.1, y35.2.1.2.2.1, ()) [(-1), 0, 1, 8, 4611686018427387904]) (fun y39 => (chk (decide (List.length j2.2.2.1 + List.length [y39.1.1] ≤ 15637498706147)) (some (.inl ((y39.2.1.1, y39.2.1.2.1, y39.2.1.2.2.1, ()), j2.2.1, (j2.2.2.1 ++ [y39.1.1]), ())))))) (some (.inl ((y35.2.1.1, y35.2.1.2.1, y35.2.1.2.2.1, ()), j2.2.1, j2.2.2.1, ())))) (fun j3 => (some ((j3.2.1, j3.2.2.1, ()), ((j3.1.1, j3.1.2.1, j3.1.2.2.1, ()), ())))))))))))
noncomputable def spec_l1Cur_search_a : Ann := (.q .o (.q .o (.q .o (.q (.q .o (.m [(0, 3000000, .box true [.v (.slc 5 (.int .u8)), .v (.int .i64), .v (.int .u64)]), (4, 100256, .own false 57 (.pr (.int .i64) (.int .i64))), (5, 100320, .own false 3 (.int .i64))] (.l [(0, 3000000, .box true [.v (.slc 5 (.int .u8)), .v (.int .i64), .v (.int .u64)]), (4, 100256, .own false 57 (.pr (.int .i64) (.int .i64))), (5, 100320, .own false 3 (.int .i64)), (13, 100832, .v (.int .i64))] (.q .o (.q .o (.q (.b (.q .o (.q .o (.q (.z [5] .o) .o)))) .o)))))) (.q (.q .o (.j [(0, 3000000, .box true [.v (.slc 5 (.int .u8)), .v (.int .i64), .v (.int .u64)]), (4, 100256, .own false 57 (.pr (.int .i64) (.int .i64))), (5, 100320, .own false 3 (.int .i64))] .o .o)) .o)))))
theorem spec_l1Cur_search_run (k : Nat) (p0 : ((List Int) × Int × Int × Unit)) : funX Tryz.prog (callT [spec_l1Cur_drawers_c k, spec_l1Cur_pick_c k, spec_l1Own_c k, spec_l1Cur_one_c k, spec_l1Cur_among_c k]) k Tryz.f141 spec_l1Cur_search_a [.box true [.v (.slc 5 (.int .u8)), .v (.int .i64), .v (.int .u64)]] [.own false 57 (.pr (.int .i64) (.int .i64)), .own false 3 (.int .i64)] (p0, ()) = spec_l1Cur_search_f k p0 := by kernel_rfl
noncomputable def spec_l1Cur_search_c (k : Nat) : Con := ⟨141, [.box true [.v (.slc 5 (.int .u8)), .v (.int .i64), .v (.int .u64)]], [.own false 57 (.pr (.int .i64) (.int .i64)), .own false 3 (.int .i64)], fun x => spec_l1Cur_search_f k x.1⟩
theorem spec_l1Cur_search_ok (k : Nat) : (spec_l1Cur_search_c k).Sound Tryz.prog GL := con_ok (k := k) (fn := Tryz.f141) (A := spec_l1Cur_search_a) (C := callT [spec_l1Cur_drawers_c k, spec_l1Cur_pick_c k, spec_l1Own_c k, spec_l1Cur_one_c k, spec_l1Cur_among_c k]) Tryz.func141 (by kernel_rfl) (show Tryz.f141.body = some (bodyX Tryz.f141) by rfl) (fun X hX => callT_at (TableOk.cons (spec_l1Cur_drawers_ok k) (TableOk.cons (spec_l1Cur_pick_ok k) (TableOk.cons (spec_l1Own_ok k) (TableOk.cons (spec_l1Cur_one_ok k) (TableOk.cons (spec_l1Cur_among_ok k) TableOk.nil))))) X hX) (Nat.le_of_ble_eq_true (by kernel_rfl)) (fun ⟨p0, _⟩ y h => by rw [← h]; exact spec_l1Cur_search_run k p0)
noncomputable def spec_DrawIsSearch_f (k : Nat) (p0 : (List Int)) : Option (((List (Int × Int)) × (List Int) × Unit) × Unit) :=
  (Option.bind (spec_l1Cur_search_f k (p0, 0, 0, ())) (fun y9 => (some ((y9.1.1, y9.1.2.1, ()), ()))))
noncomputable def spec_DrawIsSearch_a : Ann := .o
theorem spec_DrawIsSearch_run (k : Nat) (p0 : (List Int)) : funX Tryz.prog (callT [spec_l1Cur_search_c k]) k Tryz.f101 spec_DrawIsSearch_a [.v (.slc 5 (.int .u8))] [.own false 57 (.pr (.int .i64) (.int .i64)), .own false 3 (.int .i64)] (p0, ()) = spec_DrawIsSearch_f k p0 := by kernel_rfl
noncomputable def spec_DrawIsSearch_c (k : Nat) : Con := ⟨101, [.v (.slc 5 (.int .u8))], [.own false 57 (.pr (.int .i64) (.int .i64)), .own false 3 (.int .i64)], fun x => spec_DrawIsSearch_f k x.1⟩
theorem spec_DrawIsSearch_ok (k : Nat) : (spec_DrawIsSearch_c k).Sound Tryz.prog GL := con_ok (k := k) (fn := Tryz.f101) (A := spec_DrawIsSearch_a) (C := callT [spec_l1Cur_search_c k]) Tryz.func101 (by kernel_rfl) (show Tryz.f101.body = some (bodyX Tryz.f101) by rfl) (fun X hX => callT_at (TableOk.cons (spec_l1Cur_search_ok k) TableOk.nil) X hX) (Nat.le_of_ble_eq_true (by kernel_rfl)) (fun ⟨p0, _⟩ y h => by rw [← h]; exact spec_DrawIsSearch_run k p0)
noncomputable def spec_DrawMeanSearch_f (k : Nat) (p0 : (List Int)) : Option (((List (Int × Int)) × (List Int) × Unit) × Unit) :=
  (Option.bind (spec_DrawIsSearch_f k p0) (fun y5 => (some ((y5.1.1, y5.1.2.1, ()), ()))))
noncomputable def spec_DrawMeanSearch_a : Ann := .o
theorem spec_DrawMeanSearch_run (k : Nat) (p0 : (List Int)) : funX Tryz.prog (callT [spec_DrawIsSearch_c k]) k Tryz.f36 spec_DrawMeanSearch_a [.v (.slc 5 (.int .u8))] [.own false 57 (.pr (.int .i64) (.int .i64)), .own false 3 (.int .i64)] (p0, ()) = spec_DrawMeanSearch_f k p0 := by kernel_rfl
noncomputable def spec_DrawMeanSearch_c (k : Nat) : Con := ⟨36, [.v (.slc 5 (.int .u8))], [.own false 57 (.pr (.int .i64) (.int .i64)), .own false 3 (.int .i64)], fun x => spec_DrawMeanSearch_f k x.1⟩
theorem spec_DrawMeanSearch_ok (k : Nat) : (spec_DrawMeanSearch_c k).Sound Tryz.prog GL := con_ok (k := k) (fn := Tryz.f36) (A := spec_DrawMeanSearch_a) (C := callT [spec_DrawIsSearch_c k]) Tryz.func36 (by kernel_rfl) (show Tryz.f36.body = some (bodyX Tryz.f36) by rfl) (fun X hX => callT_at (TableOk.cons (spec_DrawIsSearch_ok k) TableOk.nil) X hX) (Nat.le_of_ble_eq_true (by kernel_rfl)) (fun ⟨p0, _⟩ y h => by rw [← h]; exact spec_DrawMeanSearch_run k p0)
noncomputable def impl_within_f (k : Nat) (p0 : Int) (p1 : Int) (p2 : Int) : Option ((Bool × Unit) × Unit) :=
  (met (cond (decide (p1 ≤ p0)) (some (.inl ((decide (p0 ≤ p2)), ()))) (some (.inl (false, ())))) (fun j1 => (some ((j1.1, ()), ()))))
noncomputable def impl_within_a : Ann := (.q .o (.q (.r [(6, 100384, .v .bool)]) .o))
theorem impl_within_run (k : Nat) (p0 : Int) (p1 : Int) (p2 : Int) : funX Tryz.prog (callT []) k Tryz.f85 impl_within_a [.v (.int .i64), .v (.int .i64), .v (.int .i64)] [.v .bool] (p0, p1, p2, ()) = impl_within_f k p0 p1 p2 := by kernel_rfl
noncomputable def impl_within_c (k : Nat) : Con := ⟨85, [.v (.int .i64), .v (.int .i64), .v (.int .i64)], [.v .bool], fun x => impl_within_f k x.1 x.2.1 x.2.2.1⟩
theorem impl_within_ok (k : Nat) : (impl_within_c k).Sound Tryz.prog GL := con_ok (k := k) (fn := Tryz.f85) (A := impl_within_a) (C := callT []) Tryz.func85 (by kernel_rfl) (show Tryz.f85.body = some (bodyX Tryz.f85) by rfl) (fun X hX => callT_at TableOk.nil X hX) (Nat.le_of_ble_eq_true (by kernel_rfl)) (fun ⟨p0, p1, p2, _⟩ y h => by rw [← h]; exact impl_within_run k p0 p1 p2)
noncomputable def impl_AreDrawers_1_f (k : Nat) (p0 : (Int × Int)) : Option ((Bool × Unit) × Unit) :=
  (met (Option.bind (impl_within_f k p0.1 0 50) (fun y5 => (cond (!y5.1.1) (some (.inl (true, ()))) (Option.bind (impl_within_f k p0.2 1 60) (fun y10 => (some (.inl ((!y10.1.1), ())))))))) (fun j1 => (some ((j1.1, ()), ()))))
noncomputable def impl_AreDrawers_1_a : Ann := (.q .o (.q (.r [(2, 100128, .v .bool)]) .o))
theorem impl_AreDrawers_1_run (k : Nat) (p0 : (Int × Int)) : funX Tryz.prog (callT [impl_within_c k]) k Tryz.f114 impl_AreDrawers_1_a [.v (.pr (.int .i64) (.int .i64))] [.v .bool] (p0, ()) = impl_AreDrawers_1_f k p0 := by kernel_rfl
noncomputable def impl_AreDrawers_1_c (k : Nat) : Con := ⟨114, [.v (.pr (.int .i64) (.int .i64))], [.v .bool], fun x => impl_AreDrawers_1_f k x.1⟩
theorem impl_AreDrawers_1_ok (k : Nat) : (impl_AreDrawers_1_c k).Sound Tryz.prog GL := con_ok (k := k) (fn := Tryz.f114) (A := impl_AreDrawers_1_a) (C := callT [impl_within_c k]) Tryz.func114 (by kernel_rfl) (show Tryz.f114.body = some (bodyX Tryz.f114) by rfl) (fun X hX => callT_at (TableOk.cons (impl_within_ok k) TableOk.nil) X hX) (Nat.le_of_ble_eq_true (by kernel_rfl)) (fun ⟨p0, _⟩ y h => by rw [← h]; exact impl_AreDrawers_1_run k p0)
noncomputable def slices_IndexFunc_impl_Drawer_impl_Drawer__impl_AreDrawers_1_l1_b (k : Nat) (p0 : (List (Int × Int))) (rec : Int → Option (Unit ⊕ ((Int × Unit) × Unit))) (x8 : Int) : Option (Unit ⊕ ((Int × Unit) × Unit)) :=
  (cond (decide (x8 < ((List.length p0 : Nat) : Int))) (ixk x8 (List.length p0) (Option.bind (impl_AreDrawers_1_f k ((rdG (0, 0) p0 x8).1, (rdG (0, 0) p0 x8).2)) (fun y16 => (cond y16.1.1 (some (.inr ((x8, ()), ()))) (rec (iw (x8 + 1))))))) (some (.inl ())))
noncomputable def slices_IndexFunc_impl_Drawer_impl_Drawer__impl_AreDrawers_1_l1 (k : Nat) (p0 : (List (Int × Int))) (x8 : Int) : Option (Unit ⊕ ((Int × Unit) × Unit)) := iter k (fun (rec : (Int × Unit) → Option (Unit ⊕ ((Int × Unit) × Unit))) (x : (Int × Unit)) => slices_IndexFunc_impl_Drawer_impl_Drawer__impl_AreDrawers_1_l1_b k p0 (fun x8 => rec (x8, ())) x.1) (x8, ())
noncomputable def slices_IndexFunc_impl_Drawer_impl_Drawer__impl_AreDrawers_1_f (k : Nat) (p0 : (List (Int × Int))) (p1 : Unit) : Option ((Int × Unit) × Unit) :=
  (met (slices_IndexFunc_impl_Drawer_impl_Drawer__impl_AreDrawers_1_l1 k p0 0) (fun j2 => (some (((-1), ()), ()))))
noncomputable def slices_IndexFunc_impl_Drawer_impl_Drawer__impl_AreDrawers_1_a : Ann := (.q .o (.q (.q .o (.m [] (.l [(8, 100512, .v (.int .i64))] .o))) .o))
theorem slices_IndexFunc_impl_Drawer_impl_Drawer__impl_AreDrawers_1_run (k : Nat) (p0 : (List (Int × Int))) (p1 : Unit) : funX Tryz.prog (callT [impl_AreDrawers_1_c k]) k Tryz.f146 slices_IndexFunc_impl_Drawer_impl_Drawer__impl_AreDrawers_1_a [.v (.slc 57 (.pr (.int .i64) (.int .i64))), .fn 114 []] [.v (.int .i64)] (p0, p1, ()) = slices_IndexFunc_impl_Drawer_impl_Drawer__impl_AreDrawers_1_f k p0 p1 := by kernel_rfl
noncomputable def slices_IndexFunc_impl_Drawer_impl_Drawer__impl_AreDrawers_1_c (k : Nat) : Con := ⟨146, [.v (.slc 57 (.pr (.int .i64) (.int .i64))), .fn 114 []], [.v (.int .i64)], fun x => slices_IndexFunc_impl_Drawer_impl_Drawer__impl_AreDrawers_1_f k x.1 x.2.1⟩
theorem slices_IndexFunc_impl_Drawer_impl_Drawer__impl_AreDrawers_1_ok (k : Nat) : (slices_IndexFunc_impl_Drawer_impl_Drawer__impl_AreDrawers_1_c k).Sound Tryz.prog GL := con_ok (k := k) (fn := Tryz.f146) (A := slices_IndexFunc_impl_Drawer_impl_Drawer__impl_AreDrawers_1_a) (C := callT [impl_AreDrawers_1_c k]) Tryz.func146 (by kernel_rfl) (show Tryz.f146.body = some (bodyX Tryz.f146) by rfl) (fun X hX => callT_at (TableOk.cons (impl_AreDrawers_1_ok k) TableOk.nil) X hX) (Nat.le_of_ble_eq_true (by kernel_rfl)) (fun ⟨p0, p1, _⟩ y h => by rw [← h]; exact slices_IndexFunc_impl_Drawer_impl_Drawer__impl_AreDrawers_1_run k p0 p1)
noncomputable def slices_ContainsFunc_impl_Drawer_impl_Drawer__impl_AreDrawers_1_f (k : Nat) (p0 : (List (Int × Int))) (p1 : Unit) : Option ((Bool × Unit) × Unit) :=
  (Option.bind (slices_IndexFunc_impl_Drawer_impl_Drawer__impl_AreDrawers_1_f k p0 ()) (fun y7 => (some (((decide (y7.1.1 ≥ 0)), ()), ()))))
noncomputable def slices_ContainsFunc_impl_Drawer_impl_Drawer__impl_AreDrawers_1_a : Ann := .o
theorem slices_ContainsFunc_impl_Drawer_impl_Drawer__impl_AreDrawers_1_run (k : Nat) (p0 : (List (Int × Int))) (p1 : Unit) : funX Tryz.prog (callT [slices_IndexFunc_impl_Drawer_impl_Drawer__impl_AreDrawers_1_c k]) k Tryz.f113 slices_ContainsFunc_impl_Drawer_impl_Drawer__impl_AreDrawers_1_a [.v (.slc 57 (.pr (.int .i64) (.int .i64))), .fn 114 []] [.v .bool] (p0, p1, ()) = slices_ContainsFunc_impl_Drawer_impl_Drawer__impl_AreDrawers_1_f k p0 p1 := by kernel_rfl
noncomputable def slices_ContainsFunc_impl_Drawer_impl_Drawer__impl_AreDrawers_1_c (k : Nat) : Con := ⟨113, [.v (.slc 57 (.pr (.int .i64) (.int .i64))), .fn 114 []], [.v .bool], fun x => slices_ContainsFunc_impl_Drawer_impl_Drawer__impl_AreDrawers_1_f k x.1 x.2.1⟩
theorem slices_ContainsFunc_impl_Drawer_impl_Drawer__impl_AreDrawers_1_ok (k : Nat) : (slices_ContainsFunc_impl_Drawer_impl_Drawer__impl_AreDrawers_1_c k).Sound Tryz.prog GL := con_ok (k := k) (fn := Tryz.f113) (A := slices_ContainsFunc_impl_Drawer_impl_Drawer__impl_AreDrawers_1_a) (C := callT [slices_IndexFunc_impl_Drawer_impl_Drawer__impl_AreDrawers_1_c k]) Tryz.func113 (by kernel_rfl) (show Tryz.f113.body = some (bodyX Tryz.f113) by rfl) (fun X hX => callT_at (TableOk.cons (slices_IndexFunc_impl_Drawer_impl_Drawer__impl_AreDrawers_1_ok k) TableOk.nil) X hX) (Nat.le_of_ble_eq_true (by kernel_rfl)) (fun ⟨p0, p1, _⟩ y h => by rw [← h]; exact slices_ContainsFunc_impl_Drawer_impl_Drawer__impl_AreDrawers_1_run k p0 p1)
noncomputable def impl_weights_l1_b (k : Nat) (p0 : (List (Int × Int))) (rec : Int → Int → Option ((Int × Unit) ⊕ ((Int × Unit) × Unit))) (x3 : Int) (x8 : Int) : Option ((Int × Unit) ⊕ ((Int × Unit) × Unit)) :=
  (cond (decide (x8 < ((List.length p0 : Nat) : Int))) (ixk x8 (List.length p0) (rec (iw (x3 + (rdG (0, 0) p0 x8).1)) (iw (x8 + 1)))) (some (.inl (x3, ()))))
noncomputable def impl_weights_l1 (k : Nat) (p0 : (List (Int × Int))) (x3 : Int) (x8 : Int) : Option ((Int × Unit) ⊕ ((Int × Unit) × Unit)) := iter k (fun (rec : (Int × Int × Unit) → Option ((Int × Unit) ⊕ ((Int × Unit) × Unit))) (x : (Int × Int × Unit)) => impl_weights_l1_b k p0 (fun x3 x8 => rec (x3, x8, ())) x.1 x.2.1) (x3, x8, ())
noncomputable def impl_weights_f (k : Nat) (p0 : (List (Int × Int))) : Option ((Int × Unit) × Unit) :=
  (met (impl_weights_l1 k p0 0 0) (fun j2 => (some ((j2.1, ()), ()))))
noncomputable def impl_weights_a : Ann := (.q .o (.q .o (.q (.q .o (.m [(3, 100192, .v (.int .i64))] (.l [(3, 100192, .v (.int .i64)), (8, 100512, .v (.int .i64))] .o))) .o)))
theorem impl_weights_run (k : Nat) (p0 : (List (Int × Int))) : funX Tryz.prog (callT []) k Tryz.f115 impl_weights_a [.v (.slc 57 (.pr (.int .i64) (.int .i64)))] [.v (.int .i64)] (p0, ()) = impl_weights_f k p0 := by kernel_rfl
noncomputable def impl_weights_c (k : Nat) : Con := ⟨115, [.v (.slc 57 (.pr (.int .i64) (.int .i64)))], [.v (.int .i64)], fun x => impl_weights_f k x.1⟩
theorem impl_weights_ok (k : Nat) : (impl_weights_c k).Sound Tryz.prog GL := con_ok (k := k) (fn := Tryz.f115) (A := impl_weights_a) (C := callT []) Tryz.func115 (by kernel_rfl) (show Tryz.f115.body = some (bodyX Tryz.f115) by rfl) (fun X hX => callT_at TableOk.nil X hX) (Nat.le_of_ble_eq_true (by kernel_rfl)) (fun ⟨p0, _⟩ y h => by rw [← h]; exact impl_weights_run k p0)
noncomputable def impl_AreDrawers_f (k : Nat) (p0 : (List (Int × Int))) : Option ((Bool × Unit) × Unit) :=
  (met (Option.bind (impl_within_f k ((List.length p0 : Nat) : Int) 1 8) (fun y5 => (cond y5.1.1 (Option.bind (slices_ContainsFunc_impl_Drawer_impl_Drawer__impl_AreDrawers_1_f k p0 ()) (fun y8 => (cond (!y8.1.1) (Option.bind (impl_weights_f k p0) (fun y13 => (some (.inl ((decide (y13.1.1 > 0)), ()))))) (some (.inl (false, ())))))) (some (.inl (false, ())))))) (fun j1 => (some ((j1.1, ()), ()))))
noncomputable def impl_AreDrawers_a : Ann := (.q .o (.q (.r [(2, 100128, .v .bool)]) .o))
theorem impl_AreDrawers_run (k : Nat) (p0 : (List (Int × Int))) : funX Tryz.prog (callT [impl_within_c k, slices_ContainsFunc_impl_Drawer_impl_Drawer__impl_AreDrawers_1_c k, impl_weights_c k]) k Tryz.f45 impl_AreDrawers_a [.v (.slc 57 (.pr (.int .i64) (.int .i64)))] [.v .bool] (p0, ()) = impl_AreDrawers_f k p0 := by kernel_rfl
noncomputable def impl_AreDrawers_c (k : Nat) : Con := ⟨45, [.v (.slc 57 (.pr (.int .i64) (.int .i64)))], [.v .bool], fun x => impl_AreDrawers_f k x.1⟩
theorem impl_AreDrawers_ok (k : Nat) : (impl_AreDrawers_c k).Sound Tryz.prog GL := con_ok (k := k) (fn := Tryz.f45) (A := impl_AreDrawers_a) (C := callT [impl_within_c k, slices_ContainsFunc_impl_Drawer_impl_Drawer__impl_AreDrawers_1_c k, impl_weights_c k]) Tryz.func45 (by kernel_rfl) (show Tryz.f45.body = some (bodyX Tryz.f45) by rfl) (fun X hX => callT_at (TableOk.cons (impl_within_ok k) (TableOk.cons (slices_ContainsFunc_impl_Drawer_impl_Drawer__impl_AreDrawers_1_ok k) (TableOk.cons (impl_weights_ok k) TableOk.nil))) X hX) (Nat.le_of_ble_eq_true (by kernel_rfl)) (fun ⟨p0, _⟩ y h => by rw [← h]; exact impl_AreDrawers_run k p0)
noncomputable def impl_isOrder_l1_b (k : Nat) (p0 : (List Int)) (p1 : Int) (rec : Int → Int → Option ((Int × Unit) ⊕ ((Bool × Unit) × Unit))) (x5 : Int) (x10 : Int) : Option ((Int × Unit) ⊕ ((Bool × Unit) × Unit)) :=
  (cond (decide (x10 < ((List.length p0 : Nat) : Int))) (ixk x10 (List.length p0) (Option.bind (impl_within_f k (rd p0 x10) 0 (iw (p1 - 1))) (fun y17 => (cond (!y17.1.1) (some (.inr ((false, ()), ()))) (chk (decide (0 ≤ (rd p0 x10))) (rec (orI .i64 x5 (shlI .i64 1 (rd p0 x10))) (iw (x10 + 1)))))))) (some (.inl (x5, ()))))
noncomputable def impl_isOrder_l1 (k : Nat) (p0 : (List Int)) (p1 : Int) (x5 : Int) (x10 : Int) : Option ((Int × Unit) ⊕ ((Bool × Unit) × Unit)) := iter k (fun (rec : (Int × Int × Unit) → Option ((Int × Unit) ⊕ ((Bool × Unit) × Unit))) (x : (Int × Int × Unit)) => impl_isOrder_l1_b k p0 p1 (fun x5 x10 => rec (x5, x10, ())) x.1 x.2.1) (x5, x10, ())
noncomputable def impl_isOrder_f (k : Nat) (p0 : (List Int)) (p1 : Int) : Option ((Bool × Unit) × Unit) :=
  (met (impl_isOrder_l1 k p0 p1 0 0) (fun j2 => (met (cond (((List.length p0 : Nat) : Int) == p1) (chk (decide (0 ≤ p1)) (some (.inl ((j2.1 == (iw ((shlI .i64 1 p1) - 1))), ())))) (some (.inl (false, ())))) (fun j3 => (some ((j3.1, ()), ()))))))
noncomputable def impl_isOrder_a : Ann := (.q .o (.q .o (.q (.q .o (.m [(5, 100320, .v (.int .i64))] (.l [(5, 100320, .v (.int .i64)), (10, 100640, .v (.int .i64))] .o))) (.q (.r [(4, 100256, .v .bool)]) .o))))
theorem impl_isOrder_run (k : Nat) (p0 : (List Int)) (p1 : Int) : funX Tryz.prog (callT [impl_within_c k]) k Tryz.f110 impl_isOrder_a [.v (.slc 3 (.int .i64)), .v (.int .i64)] [.v .bool] (p0, p1, ()) = impl_isOrder_f k p0 p1 := by kernel_rfl
noncomputable def impl_isOrder_c (k : Nat) : Con := ⟨110, [.v (.slc 3 (.int .i64)), .v (.int .i64)], [.v .bool], fun x => impl_isOrder_f k x.1 x.2.1⟩
theorem impl_isOrder_ok (k : Nat) : (impl_isOrder_c k).Sound Tryz.prog GL := con_ok (k := k) (fn := Tryz.f110) (A := impl_isOrder_a) (C := callT [impl_within_c k]) Tryz.func110 (by kernel_rfl) (show Tryz.f110.body = some (bodyX Tryz.f110) by rfl) (fun X hX => callT_at (TableOk.cons (impl_within_ok k) TableOk.nil) X hX) (Nat.le_of_ble_eq_true (by kernel_rfl)) (fun ⟨p0, p1, _⟩ y h => by rw [← h]; exact impl_isOrder_run k p0 p1)
noncomputable def impl_IsSearch_f (k : Nat) (p0 : (List (Int × Int))) (p1 : (List Int)) : Option ((Bool × Bool × Unit) × Unit) :=
  (Option.bind (impl_AreDrawers_f k p0) (fun y7 => (cond (!y7.1.1) (some ((false, false, ()), ())) (Option.bind (impl_isOrder_f k p1 ((List.length p0 : Nat) : Int)) (fun y12 => (some ((y12.1.1, true, ()), ())))))))
noncomputable def impl_IsSearch_a : Ann := .o
theorem impl_IsSearch_run (k : Nat) (p0 : (List (Int × Int))) (p1 : (List Int)) : funX Tryz.prog (callT [impl_AreDrawers_c k, impl_isOrder_c k]) k Tryz.f41 impl_IsSearch_a [.v (.slc 57 (.pr (.int .i64) (.int .i64))), .v (.slc 3 (.int .i64))] [.v .bool, .v .bool] (p0, p1, ()) = impl_IsSearch_f k p0 p1 := by kernel_rfl
noncomputable def impl_IsSearch_c (k : Nat) : Con := ⟨41, [.v (.slc 57 (.pr (.int .i64) (.int .i64))), .v (.slc 3 (.int .i64))], [.v .bool, .v .bool], fun x => impl_IsSearch_f k x.1 x.2.1⟩
theorem impl_IsSearch_ok (k : Nat) : (impl_IsSearch_c k).Sound Tryz.prog GL := con_ok (k := k) (fn := Tryz.f41) (A := impl_IsSearch_a) (C := callT [impl_AreDrawers_c k, impl_isOrder_c k]) Tryz.func41 (by kernel_rfl) (show Tryz.f41.body = some (bodyX Tryz.f41) by rfl) (fun X hX => callT_at (TableOk.cons (impl_AreDrawers_ok k) (TableOk.cons (impl_isOrder_ok k) TableOk.nil)) X hX) (Nat.le_of_ble_eq_true (by kernel_rfl)) (fun ⟨p0, p1, _⟩ y h => by rw [← h]; exact impl_IsSearch_run k p0 p1)
noncomputable def impl_isSearch_f (k : Nat) (p0 : (List (Int × Int))) (p1 : (List Int)) : Option ((Bool × Unit) × Unit) :=
  (Option.bind (impl_IsSearch_f k p0 p1) (fun y10 => (some ((y10.1.1, ()), ()))))
noncomputable def impl_isSearch_a : Ann := .o
theorem impl_isSearch_run (k : Nat) (p0 : (List (Int × Int))) (p1 : (List Int)) : funX Tryz.prog (callT [impl_IsSearch_c k]) k Tryz.f102 impl_isSearch_a [.v (.slc 57 (.pr (.int .i64) (.int .i64))), .v (.slc 3 (.int .i64))] [.v .bool] (p0, p1, ()) = impl_isSearch_f k p0 p1 := by kernel_rfl
noncomputable def impl_isSearch_c (k : Nat) : Con := ⟨102, [.v (.slc 57 (.pr (.int .i64) (.int .i64))), .v (.slc 3 (.int .i64))], [.v .bool], fun x => impl_isSearch_f k x.1 x.2.1⟩
theorem impl_isSearch_ok (k : Nat) : (impl_isSearch_c k).Sound Tryz.prog GL := con_ok (k := k) (fn := Tryz.f102) (A := impl_isSearch_a) (C := callT [impl_IsSearch_c k]) Tryz.func102 (by kernel_rfl) (show Tryz.f102.body = some (bodyX Tryz.f102) by rfl) (fun X hX => callT_at (TableOk.cons (impl_IsSearch_ok k) TableOk.nil) X hX) (Nat.le_of_ble_eq_true (by kernel_rfl)) (fun ⟨p0, p1, _⟩ y h => by rw [← h]; exact impl_isSearch_run k p0 p1)
noncomputable def impl_meanSearch_1_f (k : Nat) (p0 : Int) (p1 : Int) : Option ((Int × Unit) × Unit) :=
  (some ((p1, ()), ()))
noncomputable def impl_meanSearch_1_a : Ann := .o
theorem impl_meanSearch_1_run (k : Nat) (p0 : Int) (p1 : Int) : funX Tryz.prog (callT []) k Tryz.f142 impl_meanSearch_1_a [.v (.int .i64), .v (.int .i64)] [.v (.int .i64)] (p0, p1, ()) = impl_meanSearch_1_f k p0 p1 := by kernel_rfl
noncomputable def impl_meanSearch_1_c (k : Nat) : Con := ⟨142, [.v (.int .i64), .v (.int .i64)], [.v (.int .i64)], fun x => impl_meanSearch_1_f k x.1 x.2.1⟩
theorem impl_meanSearch_1_ok (k : Nat) : (impl_meanSearch_1_c k).Sound Tryz.prog GL := con_ok (k := k) (fn := Tryz.f142) (A := impl_meanSearch_1_a) (C := callT []) Tryz.func142 (by kernel_rfl) (show Tryz.f142.body = some (bodyX Tryz.f142) by rfl) (fun X hX => callT_at TableOk.nil X hX) (Nat.le_of_ble_eq_true (by kernel_rfl)) (fun ⟨p0, p1, _⟩ y h => by rw [← h]; exact impl_meanSearch_1_run k p0 p1)
noncomputable def impl_gcd_l1_b (k : Nat) (rec : Int → Int → Option ((Int × Unit) ⊕ ((Int × Unit) × Unit))) (x0 : Int) (x1 : Int) : Option ((Int × Unit) ⊕ ((Int × Unit) × Unit)) :=
  (cond (x1 != 0) (chk (!(x1 == 0)) (rec x1 (Int.tmod x0 x1))) (some (.inl (x0, ()))))
noncomputable def impl_gcd_l1 (k : Nat) (x0 : Int) (x1 : Int) : Option ((Int × Unit) ⊕ ((Int × Unit) × Unit)) := iter k (fun (rec : (Int × Int × Unit) → Option ((Int × Unit) ⊕ ((Int × Unit) × Unit))) (x : (Int × Int × Unit)) => impl_gcd_l1_b k (fun x0 x1 => rec (x0, x1, ())) x.1 x.2.1) (x0, x1, ())
noncomputable def impl_gcd_f (k : Nat) (p0 : Int) (p1 : Int) : Option ((Int × Unit) × Unit) :=
  (met (impl_gcd_l1 k p0 p1) (fun j2 => (some ((j2.1, ()), ()))))
noncomputable def impl_gcd_a : Ann := (.q .o (.q (.m [(0, 100000, .v (.int .i64))] (.l [(0, 100000, .v (.int .i64)), (1, 100064, .v (.int .i64))] (.q .o (.b (.e [] [5]))))) .o))
theorem impl_gcd_run (k : Nat) (p0 : Int) (p1 : Int) : funX Tryz.prog (callT []) k Tryz.f149 impl_gcd_a [.v (.int .i64), .v (.int .i64)] [.v (.int .i64)] (p0, p1, ()) = impl_gcd_f k p0 p1 := by kernel_rfl
noncomputable def impl_gcd_c (k : Nat) : Con := ⟨149, [.v (.int .i64), .v (.int .i64)], [.v (.int .i64)], fun x => impl_gcd_f k x.1 x.2.1⟩
theorem impl_gcd_ok (k : Nat) : (impl_gcd_c k).Sound Tryz.prog GL := con_ok (k := k) (fn := Tryz.f149) (A := impl_gcd_a) (C := callT []) Tryz.func149 (by kernel_rfl) (show Tryz.f149.body = some (bodyX Tryz.f149) by rfl) (fun X hX => callT_at TableOk.nil X hX) (Nat.le_of_ble_eq_true (by kernel_rfl)) (fun ⟨p0, p1, _⟩ y h => by rw [← h]; exact impl_gcd_run k p0 p1)
noncomputable def impl_fraction_f (k : Nat) (p0 : Int) (p1 : Int) : Option ((Int × Int × Bool × Unit) × Unit) :=
  (Option.bind (impl_gcd_f k p0 p1) (fun y10 => (chk (!(y10.1.1 == 0)) (chk (!(y10.1.1 == 0)) (some (((iw (Int.tdiv p0 y10.1.1)), (iw (Int.tdiv p1 y10.1.1)), true, ()), ()))))))
noncomputable def impl_fraction_a : Ann := (.q .o (.q .o (.q (.e [] [7, 8]) .o)))
theorem impl_fraction_run (k : Nat) (p0 : Int) (p1 : Int) : funX Tryz.prog (callT [impl_gcd_c k]) k Tryz.f124 impl_fraction_a [.v (.int .i64), .v (.int .i64)] [.v (.int .i64), .v (.int .i64), .v .bool] (p0, p1, ()) = impl_fraction_f k p0 p1 := by kernel_rfl
noncomputable def impl_fraction_c (k : Nat) : Con := ⟨124, [.v (.int .i64), .v (.int .i64)], [.v (.int .i64), .v (.int .i64), .v .bool], fun x => impl_fraction_f k x.1 x.2.1⟩
theorem impl_fraction_ok (k : Nat) : (impl_fraction_c k).Sound Tryz.prog GL := con_ok (k := k) (fn := Tryz.f124) (A := impl_fraction_a) (C := callT [impl_gcd_c k]) Tryz.func124 (by kernel_rfl) (show Tryz.f124.body = some (bodyX Tryz.f124) by rfl) (fun X hX => callT_at (TableOk.cons (impl_gcd_ok k) TableOk.nil) X hX) (Nat.le_of_ble_eq_true (by kernel_rfl)) (fun ⟨p0, p1, _⟩ y h => by rw [← h]; exact impl_fraction_run k p0 p1)
noncomputable def impl_mean__impl_meanSearch_1_l1_b (k : Nat) (p0 : (List (Int × Int))) (p1 : (List Int)) (rec : Int → Int → Int → Option ((Int × Unit) ⊕ ((Int × Int × Bool × Unit) × Unit))) (x9 : Int) (x10 : Int) (x15 : Int) : Option ((Int × Unit) ⊕ ((Int × Int × Bool × Unit) × Unit)) :=
  (cond (decide (x15 < ((List.length p1 : Nat) : Int))) (ixk x15 (List.length p1) (ixk (rd p1 x15) (List.length p0) (ixk (rd p1 x15) (List.length p0) (Option.bind (impl_meanSearch_1_f k x15 (iw (x10 + (rdG (0, 0) p0 (rd p1 x15)).2))) (fun y36 => (rec (iw (x9 + (iw ((rdG (0, 0) p0 (rd p1 x15)).1 * y36.1.1)))) (iw (x10 + (rdG (0, 0) p0 (rd p1 x15)).2)) (iw (x15 + 1)))))))) (some (.inl (x9, ()))))
noncomputable def impl_mean__impl_meanSearch_1_l1 (k : Nat) (p0 : (List (Int × Int))) (p1 : (List Int)) (x9 : Int) (x10 : Int) (x15 : Int) : Option ((Int × Unit) ⊕ ((Int × Int × Bool × Unit) × Unit)) := iter k (fun (rec : (Int × Int × Int × Unit) → Option ((Int × Unit) ⊕ ((Int × Int × Bool × Unit) × Unit))) (x : (Int × Int × Int × Unit)) => impl_mean__impl_meanSearch_1_l1_b k p0 p1 (fun x9 x10 x15 => rec (x9, x10, x15, ())) x.1 x.2.1 x.2.2.1) (x9, x10, x15, ())
noncomputable def impl_mean__impl_meanSearch_1_f (k : Nat) (p0 : (List (Int × Int))) (p1 : (List Int)) (p2 : Unit) : Option ((Int × Int × Bool × Unit) × Unit) :=
  (met (impl_mean__impl_meanSearch_1_l1 k p0 p1 0 0 0) (fun j2 => (Option.bind (impl_weights_f k p0) (fun y42 => (Option.bind (impl_fraction_f k j2.1 y42.1.1) (fun y43 => (some ((y43.1.1, y43.1.2.1, y43.1.2.2.1, ()), ()))))))))
noncomputable def impl_mean__impl_meanSearch_1_a : Ann := (.q .o (.q .o (.q (.q .o (.m [(9, 100576, .v (.int .i64))] (.l [(9, 100576, .v (.int .i64)), (10, 100640, .v (.int .i64)), (15, 100960, .v (.int .i64))] (.q .o (.q .o (.q (.b (.q .o (.q .o (.e [] [12])))) .o)))))) .o)))
theorem impl_mean__impl_meanSearch_1_run (k : Nat) (p0 : (List (Int × Int))) (p1 : (List Int)) (p2 : Unit) : funX Tryz.prog (callT [impl_meanSearch_1_c k, impl_weights_c k, impl_fraction_c k]) k Tryz.f118 impl_mean__impl_meanSearch_1_a [.v (.slc 57 (.pr (.int .i64) (.int .i64))), .v (.slc 3 (.int .i64)), .fn 142 []] [.v (.int .i64), .v (.int .i64), .v .bool] (p0, p1, p2, ()) = impl_mean__impl_meanSearch_1_f k p0 p1 p2 := by kernel_rfl
noncomputable def impl_mean__impl_meanSearch_1_c (k : Nat) : Con := ⟨118, [.v (.slc 57 (.pr (.int .i64) (.int .i64))), .v (.slc 3 (.int .i64)), .fn 142 []], [.v (.int .i64), .v (.int .i64), .v .bool], fun x => impl_mean__impl_meanSearch_1_f k x.1 x.2.1 x.2.2.1⟩
theorem impl_mean__impl_meanSearch_1_ok (k : Nat) : (impl_mean__impl_meanSearch_1_c k).Sound Tryz.prog GL := con_ok (k := k) (fn := Tryz.f118) (A := impl_mean__impl_meanSearch_1_a) (C := callT [impl_meanSearch_1_c k, impl_weights_c k, impl_fraction_c k]) Tryz.func118 (by kernel_rfl) (show Tryz.f118.body = some (bodyX Tryz.f118) by rfl) (fun X hX => callT_at (TableOk.cons (impl_meanSearch_1_ok k) (TableOk.cons (impl_weights_ok k) (TableOk.cons (impl_fraction_ok k) TableOk.nil))) X hX) (Nat.le_of_ble_eq_true (by kernel_rfl)) (fun ⟨p0, p1, p2, _⟩ y h => by rw [← h]; exact impl_mean__impl_meanSearch_1_run k p0 p1 p2)
noncomputable def impl_meanSearch_f (k : Nat) (p0 : (List (Int × Int))) (p1 : (List Int)) : Option ((Int × Int × Bool × Unit) × Unit) :=
  (Option.bind (impl_mean__impl_meanSearch_1_f k p0 p1 ()) (fun y9 => (some ((y9.1.1, y9.1.2.1, y9.1.2.2.1, ()), ()))))
noncomputable def impl_meanSearch_a : Ann := .o
theorem impl_meanSearch_run (k : Nat) (p0 : (List (Int × Int))) (p1 : (List Int)) : funX Tryz.prog (callT [impl_mean__impl_meanSearch_1_c k]) k Tryz.f103 impl_meanSearch_a [.v (.slc 57 (.pr (.int .i64) (.int .i64))), .v (.slc 3 (.int .i64))] [.v (.int .i64), .v (.int .i64), .v .bool] (p0, p1, ()) = impl_meanSearch_f k p0 p1 := by kernel_rfl
noncomputable def impl_meanSearch_c (k : Nat) : Con := ⟨103, [.v (.slc 57 (.pr (.int .i64) (.int .i64))), .v (.slc 3 (.int .i64))], [.v (.int .i64), .v (.int .i64), .v .bool], fun x => impl_meanSearch_f k x.1 x.2.1⟩
theorem impl_meanSearch_ok (k : Nat) : (impl_meanSearch_c k).Sound Tryz.prog GL := con_ok (k := k) (fn := Tryz.f103) (A := impl_meanSearch_a) (C := callT [impl_mean__impl_meanSearch_1_c k]) Tryz.func103 (by kernel_rfl) (show Tryz.f103.body = some (bodyX Tryz.f103) by rfl) (fun X hX => callT_at (TableOk.cons (impl_mean__impl_meanSearch_1_ok k) TableOk.nil) X hX) (Nat.le_of_ble_eq_true (by kernel_rfl)) (fun ⟨p0, p1, _⟩ y h => by rw [← h]; exact impl_meanSearch_run k p0 p1)
noncomputable def impl_MeanSearch_f (k : Nat) (p0 : (List (Int × Int))) (p1 : (List Int)) : Option ((Int × Int × Bool × Unit) × Unit) :=
  (Option.bind (impl_isSearch_f k p0 p1) (fun y9 => (cond (!y9.1.1) (some ((0, 0, false, ()), ())) (Option.bind (impl_meanSearch_f k p0 p1) (fun y13 => (some ((y13.1.1, y13.1.2.1, y13.1.2.2.1, ()), ())))))))
noncomputable def impl_MeanSearch_a : Ann := .o
theorem impl_MeanSearch_run (k : Nat) (p0 : (List (Int × Int))) (p1 : (List Int)) : funX Tryz.prog (callT [impl_isSearch_c k, impl_meanSearch_c k]) k Tryz.f37 impl_MeanSearch_a [.v (.slc 57 (.pr (.int .i64) (.int .i64))), .v (.slc 3 (.int .i64))] [.v (.int .i64), .v (.int .i64), .v .bool] (p0, p1, ()) = impl_MeanSearch_f k p0 p1 := by kernel_rfl
noncomputable def impl_MeanSearch_c (k : Nat) : Con := ⟨37, [.v (.slc 57 (.pr (.int .i64) (.int .i64))), .v (.slc 3 (.int .i64))], [.v (.int .i64), .v (.int .i64), .v .bool], fun x => impl_MeanSearch_f k x.1 x.2.1⟩
theorem impl_MeanSearch_ok (k : Nat) : (impl_MeanSearch_c k).Sound Tryz.prog GL := con_ok (k := k) (fn := Tryz.f37) (A := impl_MeanSearch_a) (C := callT [impl_isSearch_c k, impl_meanSearch_c k]) Tryz.func37 (by kernel_rfl) (show Tryz.f37.body = some (bodyX Tryz.f37) by rfl) (fun X hX => callT_at (TableOk.cons (impl_isSearch_ok k) (TableOk.cons (impl_meanSearch_ok k) TableOk.nil)) X hX) (Nat.le_of_ble_eq_true (by kernel_rfl)) (fun ⟨p0, p1, _⟩ y h => by rw [← h]; exact impl_MeanSearch_run k p0 p1)
noncomputable def spec_l1In_f (k : Nat) (p0 : Int) (p1 : Int) (p2 : Int) : Option ((Bool × Unit) × Unit) :=
  (met (cond (decide (p0 ≥ p1)) (some (.inl ((decide (p0 ≤ p2)), ()))) (some (.inl (false, ())))) (fun j1 => (some ((j1.1, ()), ()))))
noncomputable def spec_l1In_a : Ann := (.q .o (.q (.r [(6, 100384, .v .bool)]) .o))
theorem spec_l1In_run (k : Nat) (p0 : Int) (p1 : Int) (p2 : Int) : funX Tryz.prog (callT []) k Tryz.f93 spec_l1In_a [.v (.int .i64), .v (.int .i64), .v (.int .i64)] [.v .bool] (p0, p1, p2, ()) = spec_l1In_f k p0 p1 p2 := by kernel_rfl
noncomputable def spec_l1In_c (k : Nat) : Con := ⟨93, [.v (.int .i64), .v (.int .i64), .v (.int .i64)], [.v .bool], fun x => spec_l1In_f k x.1 x.2.1 x.2.2.1⟩
theorem spec_l1In_ok (k : Nat) : (spec_l1In_c k).Sound Tryz.prog GL := con_ok (k := k) (fn := Tryz.f93) (A := spec_l1In_a) (C := callT []) Tryz.func93 (by kernel_rfl) (show Tryz.f93.body = some (bodyX Tryz.f93) by rfl) (fun X hX => callT_at TableOk.nil X hX) (Nat.le_of_ble_eq_true (by kernel_rfl)) (fun ⟨p0, p1, p2, _⟩ y h => by rw [← h]; exact spec_l1In_run k p0 p1 p2)
noncomputable def spec_dwAll_l1_b (k : Nat) (p0 : (List (Int × Int))) (rec : Int → Int → Option ((Int × Unit) ⊕ ((Int × Unit) × Unit))) (x3 : Int) (x8 : Int) : Option ((Int × Unit) ⊕ ((Int × Unit) × Unit)) :=
  (cond (decide (x8 < ((List.length p0 : Nat) : Int))) (ixk x8 (List.length p0) (rec (iw (x3 + (rdG (0, 0) p0 x8).1)) (iw (x8 + 1)))) (some (.inl (x3, ()))))
noncomputable def spec_dwAll_l1 (k : Nat) (p0 : (List (Int × Int))) (x3 : Int) (x8 : Int) : Option ((Int × Unit) ⊕ ((Int × Unit) × Unit)) := iter k (fun (rec : (Int × Int × Unit) → Option ((Int × Unit) ⊕ ((Int × Unit) × Unit))) (x : (Int × Int × Unit)) => spec_dwAll_l1_b k p0 (fun x3 x8 => rec (x3, x8, ())) x.1 x.2.1) (x3, x8, ())
noncomputable def spec_dwAll_f (k : Nat) (p0 : (List (Int × Int))) : Option ((Int × Unit) × Unit) :=
  (met (spec_dwAll_l1 k p0 0 0) (fun j2 => (some ((j2.1, ()), ()))))
noncomputable def spec_dwAll_a : Ann := (.q .o (.q .o (.q (.q .o (.m [(3, 100192, .v (.int .i64))] (.l [(3, 100192, .v (.int .i64)), (8, 100512, .v (.int .i64))] .o))) .o)))
theorem spec_dwAll_run (k : Nat) (p0 : (List (Int × Int))) : funX Tryz.prog (callT []) k Tryz.f107 spec_dwAll_a [.v (.slc 57 (.pr (.int .i64) (.int .i64)))] [.v (.int .i64)] (p0, ()) = spec_dwAll_f k p0 := by kernel_rfl
noncomputable def spec_dwAll_c (k : Nat) : Con := ⟨107, [.v (.slc 57 (.pr (.int .i64) (.int .i64)))], [.v (.int .i64)], fun x => spec_dwAll_f k x.1⟩
theorem spec_dwAll_ok (k : Nat) : (spec_dwAll_c k).Sound Tryz.prog GL := con_ok (k := k) (fn := Tryz.f107) (A := spec_dwAll_a) (C := callT []) Tryz.func107 (by kernel_rfl) (show Tryz.f107.body = some (bodyX Tryz.f107) by rfl) (fun X hX => callT_at TableOk.nil X hX) (Nat.le_of_ble_eq_true (by kernel_rfl)) (fun ⟨p0, _⟩ y h => by rw [← h]; exact spec_dwAll_run k p0)
noncomputable def spec_dwGood_l1_b (k : Nat) (p0 : (List (Int × Int))) (rec : Int → Option (Unit ⊕ ((Bool × Unit) × Unit))) (x11 : Int) : Option (Unit ⊕ ((Bool × Unit) × Unit)) :=
  (cond (decide (x11 < ((List.length p0 : Nat) : Int))) (ixk x11 (List.length p0) (met (Option.bind (spec_l1In_f k ((rdG (0, 0) p0 x11).1) 0 50) (fun y17 => (cond (!y17.1.1) (some (.inl (true, ()))) (Option.bind (spec_l1In_f k ((rdG (0, 0) p0 x11).2) 1 60) (fun y22 => (some (.inl ((!y22.1.1), ())))))))) (fun j2 => (cond j2.1 (some (.inr ((false, ()), ()))) (rec (iw (x11 + 1))))))) (some (.inl ())))
noncomputable def spec_dwGood_l1 (k : Nat) (p0 : (List (Int × Int))) (x11 : Int) : Option (Unit ⊕ ((Bool × Unit) × Unit)) := iter k (fun (rec : (Int × Unit) → Option (Unit ⊕ ((Bool × Unit) × Unit))) (x : (Int × Unit)) => spec_dwGood_l1_b k p0 (fun x11 => rec (x11, ())) x.1) (x11, ())
noncomputable def spec_dwGood_f (k : Nat) (p0 : (List (Int × Int))) : Option ((Bool × Unit) × Unit) :=
  (Option.bind (spec_l1In_f k ((List.length p0 : Nat) : Int) 1 8) (fun y7 => (cond (!y7.1.1) (some ((false, ()), ())) (met (spec_dwGood_l1 k p0 0) (fun j3 => (Option.bind (spec_dwAll_f k p0) (fun y27 => (some (((decide (y27.1.1 > 0)), ()), ())))))))))
noncomputable def spec_dwGood_a : Ann := (.q .o (.q .o (.q (.q .o (.m [] (.l [(11, 100704, .v (.int .i64))] (.q .o (.q .o (.q (.b (.q .o (.q (.r [(24, 101536, .v .bool)]) .o))) .o)))))) .o)))
theorem spec_dwGood_run (k : Nat) (p0 : (List (Int × Int))) : funX Tryz.prog (callT [spec_l1In_c k, spec_dwAll_c k]) k Tryz.f111 spec_dwGood_a [.v (.slc 57 (.pr (.int .i64) (.int .i64)))] [.v .bool] (p0, ()) = spec_dwGood_f k p0 := by kernel_rfl
noncomputable def spec_dwGood_c (k : Nat) : Con := ⟨111, [.v (.slc 57 (.pr (.int .i64) (.int .i64)))], [.v .bool], fun x => spec_dwGood_f k x.1⟩
theorem spec_dwGood_ok (k : Nat) : (spec_dwGood_c k).Sound Tryz.prog GL := con_ok (k := k) (fn := Tryz.f111) (A := spec_dwGood_a) (C := callT [spec_l1In_c k, spec_dwAll_c k]) Tryz.func111 (by kernel_rfl) (show Tryz.f111.body = some (bodyX Tryz.f111) by rfl) (fun X hX => callT_at (TableOk.cons (spec_l1In_ok k) (TableOk.cons (spec_dwAll_ok k) TableOk.nil)) X hX) (Nat.le_of_ble_eq_true (by kernel_rfl)) (fun ⟨p0, _⟩ y h => by rw [← h]; exact spec_dwGood_run k p0)
noncomputable def spec_l1Has_l1_b (k : Nat) (p0 : (List Int)) (p1 : Int) (rec : Int → Option (Unit ⊕ ((Bool × Unit) × Unit))) (x9 : Int) : Option (Unit ⊕ ((Bool × Unit) × Unit)) :=
  (cond (decide (x9 < ((List.length p0 : Nat) : Int))) (ixk x9 (List.length p0) (cond ((rd p0 x9) == p1) (some (.inr ((true, ()), ()))) (rec (iw (x9 + 1))))) (some (.inl ())))
noncomputable def spec_l1Has_l1 (k : Nat) (p0 : (List Int)) (p1 : Int) (x9 : Int) : Option (Unit ⊕ ((Bool × Unit) × Unit)) := iter k (fun (rec : (Int × Unit) → Option (Unit ⊕ ((Bool × Unit) × Unit))) (x : (Int × Unit)) => spec_l1Has_l1_b k p0 p1 (fun x9 => rec (x9, ())) x.1) (x9, ())
noncomputable def spec_l1Has_f (k : Nat) (p0 : (List Int)) (p1 : Int) : Option ((Bool × Unit) × Unit) :=
  (met (spec_l1Has_l1 k p0 p1 0) (fun j2 => (some ((false, ()), ()))))
noncomputable def spec_l1Has_a : Ann := (.q .o (.q (.q .o (.m [] (.l [(9, 100576, .v (.int .i64))] .o))) .o))
theorem spec_l1Has_run (k : Nat) (p0 : (List Int)) (p1 : Int) : funX Tryz.prog (callT []) k Tryz.f145 spec_l1Has_a [.v (.slc 3 (.int .i64)), .v (.int .i64)] [.v .bool] (p0, p1, ()) = spec_l1Has_f k p0 p1 := by kernel_rfl
noncomputable def spec_l1Has_c (k : Nat) : Con := ⟨145, [.v (.slc 3 (.int .i64)), .v (.int .i64)], [.v .bool], fun x => spec_l1Has_f k x.1 x.2.1⟩
theorem spec_l1Has_ok (k : Nat) : (spec_l1Has_c k).Sound Tryz.prog GL := con_ok (k := k) (fn := Tryz.f145) (A := spec_l1Has_a) (C := callT []) Tryz.func145 (by kernel_rfl) (show Tryz.f145.body = some (bodyX Tryz.f145) by rfl) (fun X hX => callT_at TableOk.nil X hX) (Nat.le_of_ble_eq_true (by kernel_rfl)) (fun ⟨p0, p1, _⟩ y h => by rw [← h]; exact spec_l1Has_run k p0 p1)
noncomputable def spec_dwOrder_l1_b (k : Nat) (p0 : (List (Int × Int))) (p1 : (List Int)) (rec : Int → Option (Unit ⊕ ((Bool × Unit) × Unit))) (x14 : Int) : Option (Unit ⊕ ((Bool × Unit) × Unit)) :=
  (cond (decide (x14 < ((List.length p1 : Nat) : Int))) (ixk x14 (List.length p1) (met (Option.bind (spec_l1In_f k (rd p1 x14) 0 (iw (((List.length p0 : Nat) : Int) - 1))) (fun y23 => (cond (!y23.1.1) (some (.inl (true, ()))) (chk (decide (0 ≤ x14)) (chk (decide (x14 ≤ ((List.length p1 : Nat) : Int))) (Option.bind (spec_l1Has_f k (List.take (Int.toNat x14) p1) (rd p1 x14)) (fun y30 => (some (.inl (y30.1.1, ())))))))))) (fun j2 => (cond j2.1 (some (.inr ((false, ()), ()))) (rec (iw (x14 + 1))))))) (some (.inl ())))
noncomputable def spec_dwOrder_l1 (k : Nat) (p0 : (List (Int × Int))) (p1 : (List Int)) (x14 : Int) : Option (Unit ⊕ ((Bool × Unit) × Unit)) := iter k (fun (rec : (Int × Unit) → Option (Unit ⊕ ((Bool × Unit) × Unit))) (x : (Int × Unit)) => spec_dwOrder_l1_b k p0 p1 (fun x14 => rec (x14, ())) x.1) (x14, ())
noncomputable def spec_dwOrder_f (k : Nat) (p0 : (List (Int × Int))) (p1 : (List Int)) : Option ((Bool × Unit) × Unit) :=
  (cond (((List.length p1 : Nat) : Int) != ((List.length p0 : Nat) : Int)) (some ((false, ()), ())) (met (spec_dwOrder_l1 k p0 p1 0) (fun j3 => (some ((true, ()), ())))))
noncomputable def spec_dwOrder_a : Ann := (.q .o (.q .o (.q (.q .o (.m [] (.l [(14, 100896, .v (.int .i64))] (.q .o (.q .o (.q (.b (.q .o (.q (.r [(31, 101984, .v .bool)]) .o))) .o)))))) .o)))
theorem spec_dwOrder_run (k : Nat) (p0 : (List (Int × Int))) (p1 : (List Int)) : funX Tryz.prog (callT [spec_l1In_c k, spec_l1Has_c k]) k Tryz.f112 spec_dwOrder_a [.v (.slc 57 (.pr (.int .i64) (.int .i64))), .v (.slc 3 (.int .i64))] [.v .bool] (p0, p1, ()) = spec_dwOrder_f k p0 p1 := by kernel_rfl
noncomputable def spec_dwOrder_c (k : Nat) : Con := ⟨112, [.v (.slc 57 (.pr (.int .i64) (.int .i64))), .v (.slc 3 (.int .i64))], [.v .bool], fun x => spec_dwOrder_f k x.1 x.2.1⟩
theorem spec_dwOrder_ok (k : Nat) : (spec_dwOrder_c k).Sound Tryz.prog GL := con_ok (k := k) (fn := Tryz.f112) (A := spec_dwOrder_a) (C := callT [spec_l1In_c k, spec_l1Has_c k]) Tryz.func112 (by kernel_rfl) (show Tryz.f112.body = some (bodyX Tryz.f112) by rfl) (fun X hX => callT_at (TableOk.cons (spec_l1In_ok k) (TableOk.cons (spec_l1Has_ok k) TableOk.nil)) X hX) (Nat.le_of_ble_eq_true (by kernel_rfl)) (fun ⟨p0, p1, _⟩ y h => by rw [← h]; exact spec_dwOrder_run k p0 p1)
noncomputable def spec_dwBoth_f (k : Nat) (p0 : (List (Int × Int))) (p1 : (List Int)) : Option ((Bool × Unit) × Unit) :=
  (met (Option.bind (spec_dwGood_f k p0) (fun y6 => (cond y6.1.1 (Option.bind (spec_dwOrder_f k p0 p1) (fun y10 => (some (.inl (y10.1.1, ()))))) (some (.inl (false, ())))))) (fun j1 => (some ((j1.1, ()), ()))))
noncomputable def spec_dwBoth_a : Ann := (.q .o (.q (.r [(4, 100256, .v .bool)]) .o))
theorem spec_dwBoth_run (k : Nat) (p0 : (List (Int × Int))) (p1 : (List Int)) : funX Tryz.prog (callT [spec_dwGood_c k, spec_dwOrder_c k]) k Tryz.f104 spec_dwBoth_a [.v (.slc 57 (.pr (.int .i64) (.int .i64))), .v (.slc 3 (.int .i64))] [.v .bool] (p0, p1, ()) = spec_dwBoth_f k p0 p1 := by kernel_rfl
noncomputable def spec_dwBoth_c (k : Nat) : Con := ⟨104, [.v (.slc 57 (.pr (.int .i64) (.int .i64))), .v (.slc 3 (.int .i64))], [.v .bool], fun x => spec_dwBoth_f k x.1 x.2.1⟩
theorem spec_dwBoth_ok (k : Nat) : (spec_dwBoth_c k).Sound Tryz.prog GL := con_ok (k := k) (fn := Tryz.f104) (A := spec_dwBoth_a) (C := callT [spec_dwGood_c k, spec_dwOrder_c k]) Tryz.func104 (by kernel_rfl) (show Tryz.f104.body = some (bodyX Tryz.f104) by rfl) (fun X hX => callT_at (TableOk.cons (spec_dwGood_ok k) (TableOk.cons (spec_dwOrder_ok k) TableOk.nil)) X hX) (Nat.le_of_ble_eq_true (by kernel_rfl)) (fun ⟨p0, p1, _⟩ y h => by rw [← h]; exact spec_dwBoth_run k p0 p1)
noncomputable def spec_dwFound_l1_b (k : Nat) (p0 : (List (Int × Int))) (p1 : (List Int)) (rec : (List Int) → Int → Int → Option (((List Int) × Unit) ⊕ (((List Int) × Unit) × Unit))) (x5 : (List Int)) (x6 : Int) (x14 : Int) : Option (((List Int) × Unit) ⊕ (((List Int) × Unit) × Unit)) :=
  (cond (decide (x14 < ((List.length p1 : Nat) : Int))) (ixk x14 (List.length p1) (ixk (rd p1 x14) (List.length p0) (ixk (rd p1 x14) (List.length x5) (rec (setI x5 (rd p1 x14) (iw (x6 + (rdG (0, 0) p0 (rd p1 x14)).2))) (iw (x6 + (rdG (0, 0) p0 (rd p1 x14)).2)) (iw (x14 + 1)))))) (some (.inl (x5, ()))))
noncomputable def spec_dwFound_l1 (k : Nat) (p0 : (List (Int × Int))) (p1 : (List Int)) (x5 : (List Int)) (x6 : Int) (x14 : Int) : Option (((List Int) × Unit) ⊕ (((List Int) × Unit) × Unit)) := iter k (fun (rec : ((List Int) × Int × Int × Unit) → Option (((List Int) × Unit) ⊕ (((List Int) × Unit) × Unit))) (x : ((List Int) × Int × Int × Unit)) => spec_dwFound_l1_b k p0 p1 (fun x5 x6 x14 => rec (x5, x6, x14, ())) x.1 x.2.1 x.2.2.1) (x5, x6, x14, ())
noncomputable def spec_dwFound_f (k : Nat) (p0 : (List (Int × Int))) (p1 : (List Int)) : Option (((List Int) × Unit) × Unit) :=
  (chk (decide ((0 : Int) ≤ ((List.length p0 : Nat) : Int))) (chk (decide (((List.length p0 : Nat) : Int) ≤ ((15637498706147 : Nat) : Int))) (met (spec_dwFound_l1 k p0 p1 (List.replicate (Int.toNat ((List.length p0 : Nat) : Int)) (0 : Int)) 0 0) (fun j2 => (some ((j2.1, ()), ()))))))
noncomputable def spec_dwFound_a : Ann := (.q .o (.q .o (.q .o (.q (.q .o (.m [(5, 100320, .own false 3 (.int .i64))] (.l [(5, 100320, .own false 3 (.int .i64)), (6, 100384, .v (.int .i64)), (14, 100896, .v (.int .i64))] .o))) .o))))
theorem spec_dwFound_run (k : Nat) (p0 : (List (Int × Int))) (p1 : (List Int)) : funX Tryz.prog (callT []) k Tryz.f143 spec_dwFound_a [.v (.slc 57 (.pr (.int .i64) (.int .i64))), .v (.slc 3 (.int .i64))] [.own false 3 (.int .i64)] (p0, p1, ()) = spec_dwFound_f k p0 p1 := by kernel_rfl
noncomputable def spec_dwFound_c (k : Nat) : Con := ⟨143, [.v (.slc 57 (.pr (.int .i64) (.int .i64))), .v (.slc 3 (.int .i64))], [.own false 3 (.int .i64)], fun x => spec_dwFound_f k x.1 x.2.1⟩
theorem spec_dwFound_ok (k : Nat) : (spec_dwFound_c k).Sound Tryz.prog GL := con_ok (k := k) (fn := Tryz.f143) (A := spec_dwFound_a) (C := callT []) Tryz.func143 (by kernel_rfl) (show Tryz.f143.body = some (bodyX Tryz.f143) by rfl) (fun X hX => callT_at TableOk.nil X hX) (Nat.le_of_ble_eq_true (by kernel_rfl)) (fun ⟨p0, p1, _⟩ y h => by rw [← h]; exact spec_dwFound_run k p0 p1)
noncomputable def spec_dwSum_l1_b (k : Nat) (p0 : (List (Int × Int))) (y10 : (((List Int) × Unit) × Unit)) (rec : Int → (List Int) → Int → Option ((Int × Unit) ⊕ ((Int × Unit) × Unit))) (x5 : Int) (x10 : (List Int)) (x12 : Int) : Option ((Int × Unit) ⊕ ((Int × Unit) × Unit)) :=
  (cond (decide (x12 < ((List.length y10.1.1 : Nat) : Int))) (ixk x12 (List.length x10) (ixk x12 (List.length p0) (rec (iw (x5 + (iw ((rdG (0, 0) p0 x12).1 * (rd x10 x12))))) x10 (iw (x12 + 1))))) (some (.inl (x5, ()))))
noncomputable def spec_dwSum_l1 (k : Nat) (p0 : (List (Int × Int))) (y10 : (((List Int) × Unit) × Unit)) (x5 : Int) (x10 : (List Int)) (x12 : Int) : Option ((Int × Unit) ⊕ ((Int × Unit) × Unit)) := iter k (fun (rec : (Int × (List Int) × Int × Unit) → Option ((Int × Unit) ⊕ ((Int × Unit) × Unit))) (x : (Int × (List Int) × Int × Unit)) => spec_dwSum_l1_b k p0 y10 (fun x5 x10 x12 => rec (x5, x10, x12, ())) x.1 x.2.1 x.2.2.1) (x5, x10, x12, ())
noncomputable def spec_dwSum_f (k : Nat) (p0 : (List (Int × Int))) (p1 : (List Int)) : Option ((Int × Unit) × Unit) :=
  (Option.bind (spec_dwFound_f k p0 p1) (fun y10 => (met (spec_dwSum_l1 k p0 y10 0 y10.1.1 0) (fun j2 => (some ((j2.1, ()), ()))))))
noncomputable def spec_dwSum_a : Ann := (.q .o (.q .o (.q (.q .o (.m [(5, 100320, .v (.int .i64))] (.l [(5, 100320, .v (.int .i64)), (10, 100640, .v (.slc 3 (.int .i64))), (12, 100768, .v (.int .i64))] .o))) .o)))
theorem spec_dwSum_run (k : Nat) (p0 : (List (Int × Int))) (p1 : (List Int)) : funX Tryz.prog (callT [spec_dwFound_c k]) k Tryz.f106 spec_dwSum_a [.v (.slc 57 (.pr (.int .i64) (.int .i64))), .v (.slc 3 (.int .i64))] [.v (.int .i64)] (p0, p1, ()) = spec_dwSum_f k p0 p1 := by kernel_rfl
noncomputable def spec_dwSum_c (k : Nat) : Con := ⟨106, [.v (.slc 57 (.pr (.int .i64) (.int .i64))), .v (.slc 3 (.int .i64))], [.v (.int .i64)], fun x => spec_dwSum_f k x.1 x.2.1⟩
theorem spec_dwSum_ok (k : Nat) : (spec_dwSum_c k).Sound Tryz.prog GL := con_ok (k := k) (fn := Tryz.f106) (A := spec_dwSum_a) (C := callT [spec_dwFound_c k]) Tryz.func106 (by kernel_rfl) (show Tryz.f106.body = some (bodyX Tryz.f106) by rfl) (fun X hX => callT_at (TableOk.cons (spec_dwFound_ok k) TableOk.nil) X hX) (Nat.le_of_ble_eq_true (by kernel_rfl)) (fun ⟨p0, p1, _⟩ y h => by rw [← h]; exact spec_dwSum_run k p0 p1)
noncomputable def spec_gvLow_l1_b (k : Nat) (rec : Int → Int → Option ((Int × Unit) ⊕ ((Int × Int × Unit) × Unit))) (x6 : Int) (x7 : Int) : Option ((Int × Unit) ⊕ ((Int × Int × Unit) × Unit)) :=
  (cond (decide (x7 > 0)) (chk (!(x7 == 0)) (rec x7 (Int.tmod x6 x7))) (some (.inl (x6, ()))))
noncomputable def spec_gvLow_l1 (k : Nat) (x6 : Int) (x7 : Int) : Option ((Int × Unit) ⊕ ((Int × Int × Unit) × Unit)) := iter k (fun (rec : (Int × Int × Unit) → Option ((Int × Unit) ⊕ ((Int × Int × Unit) × Unit))) (x : (Int × Int × Unit)) => spec_gvLow_l1_b k (fun x6 x7 => rec (x6, x7, ())) x.1 x.2.1) (x6, x7, ())
noncomputable def spec_gvLow_f (k : Nat) (p0 : Int) (p1 : Int) : Option ((Int × Int × Unit) × Unit) :=
  (met (spec_gvLow_l1 k p0 p1) (fun j2 => (chk (!(j2.1 == 0)) (chk (!(j2.1 == 0)) (some (((iw (Int.tdiv p0 j2.1)), (iw (Int.tdiv p1 j2.1)), ()), ()))))))
noncomputable def spec_gvLow_a : Ann := (.q .o (.q .o (.q (.m [(6, 100384, .v (.int .i64))] (.l [(6, 100384, .v (.int .i64)), (7, 100448, .v (.int .i64))] (.q .o (.b (.e [] [5]))))) (.q (.e [] [7]) .o))))
theorem spec_gvLow_run (k : Nat) (p0 : Int) (p1 : Int) : funX Tryz.prog (callT []) k Tryz.f105 spec_gvLow_a [.v (.int .i64), .v (.int .i64)] [.v (.int .i64), .v (.int .i64)] (p0, p1, ()) = spec_gvLow_f k p0 p1 := by kernel_rfl
noncomputable def spec_gvLow_c (k : Nat) : Con := ⟨105, [.v (.int .i64), .v (.int .i64)], [.v (.int .i64), .v (.int .i64)], fun x => spec_gvLow_f k x.1 x.2.1⟩
theorem spec_gvLow_ok (k : Nat) : (spec_gvLow_c k).Sound Tryz.prog GL := con_ok (k := k) (fn := Tryz.f105) (A := spec_gvLow_a) (C := callT []) Tryz.func105 (by kernel_rfl) (show Tryz.f105.body = some (bodyX Tryz.f105) by rfl) (fun X hX => callT_at TableOk.nil X hX) (Nat.le_of_ble_eq_true (by kernel_rfl)) (fun ⟨p0, p1, _⟩ y h => by rw [← h]; exact spec_gvLow_run k p0 p1)
noncomputable def spec_MeanSearch_f (k : Nat) (p0 : (List (Int × Int))) (p1 : (List Int)) : Option ((Int × Int × Bool × Unit) × Unit) :=
  (Option.bind (spec_dwBoth_f k p0 p1) (fun y11 => (cond (!y11.1.1) (some ((0, 0, false, ()), ())) (Option.bind (spec_dwSum_f k p0 p1) (fun y16 => (Option.bind (spec_dwAll_f k p0) (fun y18 => (Option.bind (spec_gvLow_f k y16.1.1 y18.1.1) (fun y19 => (some ((y19.1.1, y19.1.2.1, true, ()), ())))))))))))
noncomputable def spec_MeanSearch_a : Ann := .o
theorem spec_MeanSearch_run (k : Nat) (p0 : (List (Int × Int))) (p1 : (List Int)) : funX Tryz.prog (callT [spec_dwBoth_c k, spec_dwSum_c k, spec_dwAll_c k, spec_gvLow_c k]) k Tryz.f38 spec_MeanSearch_a [.v (.slc 57 (.pr (.int .i64) (.int .i64))), .v (.slc 3 (.int .i64))] [.v (.int .i64), .v (.int .i64), .v .bool] (p0, p1, ()) = spec_MeanSearch_f k p0 p1 := by kernel_rfl
noncomputable def spec_MeanSearch_c (k : Nat) : Con := ⟨38, [.v (.slc 57 (.pr (.int .i64) (.int .i64))), .v (.slc 3 (.int .i64))], [.v (.int .i64), .v (.int .i64), .v .bool], fun x => spec_MeanSearch_f k x.1 x.2.1⟩
theorem spec_MeanSearch_ok (k : Nat) : (spec_MeanSearch_c k).Sound Tryz.prog GL := con_ok (k := k) (fn := Tryz.f38) (A := spec_MeanSearch_a) (C := callT [spec_dwBoth_c k, spec_dwSum_c k, spec_dwAll_c k, spec_gvLow_c k]) Tryz.func38 (by kernel_rfl) (show Tryz.f38.body = some (bodyX Tryz.f38) by rfl) (fun X hX => callT_at (TableOk.cons (spec_dwBoth_ok k) (TableOk.cons (spec_dwSum_ok k) (TableOk.cons (spec_dwAll_ok k) (TableOk.cons (spec_gvLow_ok k) TableOk.nil)))) X hX) (Nat.le_of_ble_eq_true (by kernel_rfl)) (fun ⟨p0, p1, _⟩ y h => by rw [← h]; exact spec_MeanSearch_run k p0 p1)
noncomputable def impl_meanOpened_1_f (k : Nat) (p0 : Int) (p1 : Int) : Option ((Int × Unit) × Unit) :=
  (some (((iw (p0 + 1)), ()), ()))
noncomputable def impl_meanOpened_1_a : Ann := .o
theorem impl_meanOpened_1_run (k : Nat) (p0 : Int) (p1 : Int) : funX Tryz.prog (callT []) k Tryz.f144 impl_meanOpened_1_a [.v (.int .i64), .v (.int .i64)] [.v (.int .i64)] (p0, p1, ()) = impl_meanOpened_1_f k p0 p1 := by kernel_rfl
noncomputable def impl_meanOpened_1_c (k : Nat) : Con := ⟨144, [.v (.int .i64), .v (.int .i64)], [.v (.int .i64)], fun x => impl_meanOpened_1_f k x.1 x.2.1⟩
theorem impl_meanOpened_1_ok (k : Nat) : (impl_meanOpened_1_c k).Sound Tryz.prog GL := con_ok (k := k) (fn := Tryz.f144) (A := impl_meanOpened_1_a) (C := callT []) Tryz.func144 (by kernel_rfl) (show Tryz.f144.body = some (bodyX Tryz.f144) by rfl) (fun X hX => callT_at TableOk.nil X hX) (Nat.le_of_ble_eq_true (by kernel_rfl)) (fun ⟨p0, p1, _⟩ y h => by rw [← h]; exact impl_meanOpened_1_run k p0 p1)
noncomputable def impl_mean__impl_meanOpened_1_l1_b (k : Nat) (p0 : (List (Int × Int))) (p1 : (List Int)) (rec : Int → Int → Int → Option ((Int × Unit) ⊕ ((Int × Int × Bool × Unit) × Unit))) (x9 : Int) (x10 : Int) (x15 : Int) : Option ((Int × Unit) ⊕ ((Int × Int × Bool × Unit) × Unit)) :=
  (cond (decide (x15 < ((List.length p1 : Nat) : Int))) (ixk x15 (List.length p1) (ixk (rd p1 x15) (List.length p0) (ixk (rd p1 x15) (List.length p0) (Option.bind (impl_meanOpened_1_f k x15 (iw (x10 + (rdG (0, 0) p0 (rd p1 x15)).2))) (fun y36 => (rec (iw (x9 + (iw ((rdG (0, 0) p0 (rd p1 x15)).1 * y36.1.1)))) (iw (x10 + (rdG (0, 0) p0 (rd p1 x15)).2)) (iw (x15 + 1)))))))) (some (.inl (x9, ()))))
noncomputable def impl_mean__impl_meanOpened_1_l1 (k : Nat) (p0 : (List (Int × Int))) (p1 : (List Int)) (x9 : Int) (x10 : Int) (x15 : Int) : Option ((Int × Unit) ⊕ ((Int × Int × Bool × Unit) × Unit)) := iter k (fun (rec : (Int × Int × Int × Unit) → Option ((Int × Unit) ⊕ ((Int × Int × Bool × Unit) × Unit))) (x : (Int × Int × Int × Unit)) => impl_mean__impl_meanOpened_1_l1_b k p0 p1 (fun x9 x10 x15 => rec (x9, x10, x15, ())) x.1 x.2.1 x.2.2.1) (x9, x10, x15, ())
noncomputable def impl_mean__impl_meanOpened_1_f (k : Nat) (p0 : (List (Int × Int))) (p1 : (List Int)) (p2 : Unit) : Option ((Int × Int × Bool × Unit) × Unit) :=
  (met (impl_mean__impl_meanOpened_1_l1 k p0 p1 0 0 0) (fun j2 => (Option.bind (impl_weights_f k p0) (fun y42 => (Option.bind (impl_fraction_f k j2.1 y42.1.1) (fun y43 => (some ((y43.1.1, y43.1.2.1, y43.1.2.2.1, ()), ()))))))))
noncomputable def impl_mean__impl_meanOpened_1_a : Ann := (.q .o (.q .o (.q (.q .o (.m [(9, 100576, .v (.int .i64))] (.l [(9, 100576, .v (.int .i64)), (10, 100640, .v (.int .i64)), (15, 100960, .v (.int .i64))] (.q .o (.q .o (.q (.b (.q .o (.q .o (.e [] [12])))) .o)))))) .o)))
theorem impl_mean__impl_meanOpened_1_run (k : Nat) (p0 : (List (Int × Int))) (p1 : (List Int)) (p2 : Unit) : funX Tryz.prog (callT [impl_meanOpened_1_c k, impl_weights_c k, impl_fraction_c k]) k Tryz.f118 impl_mean__impl_meanOpened_1_a [.v (.slc 57 (.pr (.int .i64) (.int .i64))), .v (.slc 3 (.int .i64)), .fn 144 []] [.v (.int .i64), .v (.int .i64), .v .bool] (p0, p1, p2, ()) = impl_mean__impl_meanOpened_1_f k p0 p1 p2 := by kernel_rfl
noncomputable def impl_mean__impl_meanOpened_1_c (k : Nat) : Con := ⟨118, [.v (.slc 57 (.pr (.int .i64) (.int .i64))), .v (.slc 3 (.int .i64)), .fn 144 []], [.v (.int .i64), .v (.int .i64), .v .bool], fun x => impl_mean__impl_meanOpened_1_f k x.1 x.2.1 x.2.2.1⟩
theorem impl_mean__impl_meanOpened_1_ok (k : Nat) : (impl_mean__impl_meanOpened_1_c k).Sound Tryz.prog GL := con_ok (k := k) (fn := Tryz.f118) (A := impl_mean__impl_meanOpened_1_a) (C := callT [impl_meanOpened_1_c k, impl_weights_c k, impl_fraction_c k]) Tryz.func118 (by kernel_rfl) (show Tryz.f118.body = some (bodyX Tryz.f118) by rfl) (fun X hX => callT_at (TableOk.cons (impl_meanOpened_1_ok k) (TableOk.cons (impl_weights_ok k) (TableOk.cons (impl_fraction_ok k) TableOk.nil))) X hX) (Nat.le_of_ble_eq_true (by kernel_rfl)) (fun ⟨p0, p1, p2, _⟩ y h => by rw [← h]; exact impl_mean__impl_meanOpened_1_run k p0 p1 p2)
noncomputable def impl_meanOpened_f (k : Nat) (p0 : (List (Int × Int))) (p1 : (List Int)) : Option ((Int × Int × Bool × Unit) × Unit) :=
  (Option.bind (impl_mean__impl_meanOpened_1_f k p0 p1 ()) (fun y9 => (some ((y9.1.1, y9.1.2.1, y9.1.2.2.1, ()), ()))))
noncomputable def impl_meanOpened_a : Ann := .o
theorem impl_meanOpened_run (k : Nat) (p0 : (List (Int × Int))) (p1 : (List Int)) : funX Tryz.prog (callT [impl_mean__impl_meanOpened_1_c k]) k Tryz.f108 impl_meanOpened_a [.v (.slc 57 (.pr (.int .i64) (.int .i64))), .v (.slc 3 (.int .i64))] [.v (.int .i64), .v (.int .i64), .v .bool] (p0, p1, ()) = impl_meanOpened_f k p0 p1 := by kernel_rfl
noncomputable def impl_meanOpened_c (k : Nat) : Con := ⟨108, [.v (.slc 57 (.pr (.int .i64) (.int .i64))), .v (.slc 3 (.int .i64))], [.v (.int .i64), .v (.int .i64), .v .bool], fun x => impl_meanOpened_f k x.1 x.2.1⟩
theorem impl_meanOpened_ok (k : Nat) : (impl_meanOpened_c k).Sound Tryz.prog GL := con_ok (k := k) (fn := Tryz.f108) (A := impl_meanOpened_a) (C := callT [impl_mean__impl_meanOpened_1_c k]) Tryz.func108 (by kernel_rfl) (show Tryz.f108.body = some (bodyX Tryz.f108) by rfl) (fun X hX => callT_at (TableOk.cons (impl_mean__impl_meanOpened_1_ok k) TableOk.nil) X hX) (Nat.le_of_ble_eq_true (by kernel_rfl)) (fun ⟨p0, p1, _⟩ y h => by rw [← h]; exact impl_meanOpened_run k p0 p1)
noncomputable def impl_MeanOpened_f (k : Nat) (p0 : (List (Int × Int))) (p1 : (List Int)) : Option ((Int × Int × Bool × Unit) × Unit) :=
  (Option.bind (impl_isSearch_f k p0 p1) (fun y9 => (cond (!y9.1.1) (some ((0, 0, false, ()), ())) (Option.bind (impl_meanOpened_f k p0 p1) (fun y13 => (some ((y13.1.1, y13.1.2.1, y13.1.2.2.1, ()), ())))))))
noncomputable def impl_MeanOpened_a : Ann := .o
theorem impl_MeanOpened_run (k : Nat) (p0 : (List (Int × Int))) (p1 : (List Int)) : funX Tryz.prog (callT [impl_isSearch_c k, impl_meanOpened_c k]) k Tryz.f39 impl_MeanOpened_a [.v (.slc 57 (.pr (.int .i64) (.int .i64))), .v (.slc 3 (.int .i64))] [.v (.int .i64), .v (.int .i64), .v .bool] (p0, p1, ()) = impl_MeanOpened_f k p0 p1 := by kernel_rfl
noncomputable def impl_MeanOpened_c (k : Nat) : Con := ⟨39, [.v (.slc 57 (.pr (.int .i64) (.int .i64))), .v (.slc 3 (.int .i64))], [.v (.int .i64), .v (.int .i64), .v .bool], fun x => impl_MeanOpened_f k x.1 x.2.1⟩
theorem impl_MeanOpened_ok (k : Nat) : (impl_MeanOpened_c k).Sound Tryz.prog GL := con_ok (k := k) (fn := Tryz.f39) (A := impl_MeanOpened_a) (C := callT [impl_isSearch_c k, impl_meanOpened_c k]) Tryz.func39 (by kernel_rfl) (show Tryz.f39.body = some (bodyX Tryz.f39) by rfl) (fun X hX => callT_at (TableOk.cons (impl_isSearch_ok k) (TableOk.cons (impl_meanOpened_ok k) TableOk.nil)) X hX) (Nat.le_of_ble_eq_true (by kernel_rfl)) (fun ⟨p0, p1, _⟩ y h => by rw [← h]; exact impl_MeanOpened_run k p0 p1)
noncomputable def spec_dwOpened_l1_b (k : Nat) (p0 : (List (Int × Int))) (p1 : (List Int)) (rec : Int → Int → Option ((Int × Unit) ⊕ ((Int × Unit) × Unit))) (x5 : Int) (x10 : Int) : Option ((Int × Unit) ⊕ ((Int × Unit) × Unit)) :=
  (cond (decide (x10 < ((List.length p1 : Nat) : Int))) (ixk x10 (List.length p1) (ixk (rd p1 x10) (List.length p0) (rec (iw (x5 + (iw ((rdG (0, 0) p0 (rd p1 x10)).1 * (iw (x10 + 1)))))) (iw (x10 + 1))))) (some (.inl (x5, ()))))
noncomputable def spec_dwOpened_l1 (k : Nat) (p0 : (List (Int × Int))) (p1 : (List Int)) (x5 : Int) (x10 : Int) : Option ((Int × Unit) ⊕ ((Int × Unit) × Unit)) := iter k (fun (rec : (Int × Int × Unit) → Option ((Int × Unit) ⊕ ((Int × Unit) × Unit))) (x : (Int × Int × Unit)) => spec_dwOpened_l1_b k p0 p1 (fun x5 x10 => rec (x5, x10, ())) x.1 x.2.1) (x5, x10, ())
noncomputable def spec_dwOpened_f (k : Nat) (p0 : (List (Int × Int))) (p1 : (List Int)) : Option ((Int × Unit) × Unit) :=
  (met (spec_dwOpened_l1 k p0 p1 0 0) (fun j2 => (some ((j2.1, ()), ()))))
noncomputable def spec_dwOpened_a : Ann := (.q .o (.q .o (.q (.q .o (.m [(5, 100320, .v (.int .i64))] (.l [(5, 100320, .v (.int .i64)), (10, 100640, .v (.int .i64))] .o))) .o)))
theorem spec_dwOpened_run (k : Nat) (p0 : (List (Int × Int))) (p1 : (List Int)) : funX Tryz.prog (callT []) k Tryz.f109 spec_dwOpened_a [.v (.slc 57 (.pr (.int .i64) (.int .i64))), .v (.slc 3 (.int .i64))] [.v (.int .i64)] (p0, p1, ()) = spec_dwOpened_f k p0 p1 := by kernel_rfl
noncomputable def spec_dwOpened_c (k : Nat) : Con := ⟨109, [.v (.slc 57 (.pr (.int .i64) (.int .i64))), .v (.slc 3 (.int .i64))], [.v (.int .i64)], fun x => spec_dwOpened_f k x.1 x.2.1⟩
theorem spec_dwOpened_ok (k : Nat) : (spec_dwOpened_c k).Sound Tryz.prog GL := con_ok (k := k) (fn := Tryz.f109) (A := spec_dwOpened_a) (C := callT []) Tryz.func109 (by kernel_rfl) (show Tryz.f109.body = some (bodyX Tryz.f109) by rfl) (fun X hX => callT_at TableOk.nil X hX) (Nat.le_of_ble_eq_true (by kernel_rfl)) (fun ⟨p0, p1, _⟩ y h => by rw [← h]; exact spec_dwOpened_run k p0 p1)
noncomputable def spec_MeanOpened_f (k : Nat) (p0 : (List (Int × Int))) (p1 : (List Int)) : Option ((Int × Int × Bool × Unit) × Unit) :=
  (Option.bind (spec_dwBoth_f k p0 p1) (fun y11 => (cond (!y11.1.1) (some ((0, 0, false, ()), ())) (Option.bind (spec_dwOpened_f k p0 p1) (fun y16 => (Option.bind (spec_dwAll_f k p0) (fun y18 => (Option.bind (spec_gvLow_f k y16.1.1 y18.1.1) (fun y19 => (some ((y19.1.1, y19.1.2.1, true, ()), ())))))))))))
noncomputable def spec_MeanOpened_a : Ann := .o
theorem spec_MeanOpened_run (k : Nat) (p0 : (List (Int × Int))) (p1 : (List Int)) : funX Tryz.prog (callT [spec_dwBoth_c k, spec_dwOpened_c k, spec_dwAll_c k, spec_gvLow_c k]) k Tryz.f40 spec_MeanOpened_a [.v (.slc 57 (.pr (.int .i64) (.int .i64))), .v (.slc 3 (.int .i64))] [.v (.int .i64), .v (.int .i64), .v .bool] (p0, p1, ()) = spec_MeanOpened_f k p0 p1 := by kernel_rfl
noncomputable def spec_MeanOpened_c (k : Nat) : Con := ⟨40, [.v (.slc 57 (.pr (.int .i64) (.int .i64))), .v (.slc 3 (.int .i64))], [.v (.int .i64), .v (.int .i64), .v .bool], fun x => spec_MeanOpened_f k x.1 x.2.1⟩
theorem spec_MeanOpened_ok (k : Nat) : (spec_MeanOpened_c k).Sound Tryz.prog GL := con_ok (k := k) (fn := Tryz.f40) (A := spec_MeanOpened_a) (C := callT [spec_dwBoth_c k, spec_dwOpened_c k, spec_dwAll_c k, spec_gvLow_c k]) Tryz.func40 (by kernel_rfl) (show Tryz.f40.body = some (bodyX Tryz.f40) by rfl) (fun X hX => callT_at (TableOk.cons (spec_dwBoth_ok k) (TableOk.cons (spec_dwOpened_ok k) (TableOk.cons (spec_dwAll_ok k) (TableOk.cons (spec_gvLow_ok k) TableOk.nil)))) X hX) (Nat.le_of_ble_eq_true (by kernel_rfl)) (fun ⟨p0, p1, _⟩ y h => by rw [← h]; exact spec_MeanOpened_run k p0 p1)
noncomputable def spec_IsSearch_f (k : Nat) (p0 : (List (Int × Int))) (p1 : (List Int)) : Option ((Bool × Bool × Unit) × Unit) :=
  (Option.bind (spec_dwGood_f k p0) (fun y7 => (cond (!y7.1.1) (some ((false, false, ()), ())) (Option.bind (spec_dwOrder_f k p0 p1) (fun y11 => (some ((y11.1.1, true, ()), ())))))))
noncomputable def spec_IsSearch_a : Ann := .o
theorem spec_IsSearch_run (k : Nat) (p0 : (List (Int × Int))) (p1 : (List Int)) : funX Tryz.prog (callT [spec_dwGood_c k, spec_dwOrder_c k]) k Tryz.f42 spec_IsSearch_a [.v (.slc 57 (.pr (.int .i64) (.int .i64))), .v (.slc 3 (.int .i64))] [.v .bool, .v .bool] (p0, p1, ()) = spec_IsSearch_f k p0 p1 := by kernel_rfl
noncomputable def spec_IsSearch_c (k : Nat) : Con := ⟨42, [.v (.slc 57 (.pr (.int .i64) (.int .i64))), .v (.slc 3 (.int .i64))], [.v .bool, .v .bool], fun x => spec_IsSearch_f k x.1 x.2.1⟩
theorem spec_IsSearch_ok (k : Nat) : (spec_IsSearch_c k).Sound Tryz.prog GL := con_ok (k := k) (fn := Tryz.f42) (A := spec_IsSearch_a) (C := callT [spec_dwGood_c k, spec_dwOrder_c k]) Tryz.func42 (by kernel_rfl) (show Tryz.f42.body = some (bodyX Tryz.f42) by rfl) (fun X hX => callT_at (TableOk.cons (spec_dwGood_ok k) (TableOk.cons (spec_dwOrder_ok k) TableOk.nil)) X hX) (Nat.le_of_ble_eq_true (by kernel_rfl)) (fun ⟨p0, p1, _⟩ y h => by rw [← h]; exact spec_IsSearch_run k p0 p1)
noncomputable def impl_MinutesForAll_l1_b (k : Nat) (p0 : (List (Int × Int))) (rec : Int → Int → Option ((Int × Unit) ⊕ ((Int × Bool × Unit) × Unit))) (x4 : Int) (x12 : Int) : Option ((Int × Unit) ⊕ ((Int × Bool × Unit) × Unit)) :=
  (cond (decide (x12 < ((List.length p0 : Nat) : Int))) (ixk x12 (List.length p0) (rec (iw (x4 + (rdG (0, 0) p0 x12).2)) (iw (x12 + 1)))) (some (.inl (x4, ()))))
noncomputable def impl_MinutesForAll_l1 (k : Nat) (p0 : (List (Int × Int))) (x4 : Int) (x12 : Int) : Option ((Int × Unit) ⊕ ((Int × Bool × Unit) × Unit)) := iter k (fun (rec : (Int × Int × Unit) → Option ((Int × Unit) ⊕ ((Int × Bool × Unit) × Unit))) (x : (Int × Int × Unit)) => impl_MinutesForAll_l1_b k p0 (fun x4 x12 => rec (x4, x12, ())) x.1 x.2.1) (x4, x12, ())
noncomputable def impl_MinutesForAll_f (k : Nat) (p0 : (List (Int × Int))) : Option ((Int × Bool × Unit) × Unit) :=
  (Option.bind (impl_AreDrawers_f k p0) (fun y8 => (cond (!y8.1.1) (some ((0, false, ()), ())) (met (impl_MinutesForAll_l1 k p0 0 0) (fun j2 => (some ((j2.1, true, ()), ())))))))
noncomputable def impl_MinutesForAll_a : Ann := (.q .o (.q .o (.q .o (.q (.q .o (.m [(4, 100256, .v (.int .i64))] (.l [(4, 100256, .v (.int .i64)), (12, 100768, .v (.int .i64))] .o))) .o))))
theorem impl_MinutesForAll_run (k : Nat) (p0 : (List (Int × Int))) : funX Tryz.prog (callT [impl_AreDrawers_c k]) k Tryz.f43 impl_MinutesForAll_a [.v (.slc 57 (.pr (.int .i64) (.int .i64)))] [.v (.int .i64), .v .bool] (p0, ()) = impl_MinutesForAll_f k p0 := by kernel_rfl
noncomputable def impl_MinutesForAll_c (k : Nat) : Con := ⟨43, [.v (.slc 57 (.pr (.int .i64) (.int .i64)))], [.v (.int .i64), .v .bool], fun x => impl_MinutesForAll_f k x.1⟩
theorem impl_MinutesForAll_ok (k : Nat) : (impl_MinutesForAll_c k).Sound Tryz.prog GL := con_ok (k := k) (fn := Tryz.f43) (A := impl_MinutesForAll_a) (C := callT [impl_AreDrawers_c k]) Tryz.func43 (by kernel_rfl) (show Tryz.f43.body = some (bodyX Tryz.f43) by rfl) (fun X hX => callT_at (TableOk.cons (impl_AreDrawers_ok k) TableOk.nil) X hX) (Nat.le_of_ble_eq_true (by kernel_rfl)) (fun ⟨p0, _⟩ y h => by rw [← h]; exact impl_MinutesForAll_run k p0)
noncomputable def spec_MinutesForAll_l1_b (k : Nat) (p0 : (List (Int × Int))) (rec : Int → Int → Option ((Int × Unit) ⊕ ((Int × Bool × Unit) × Unit))) (x4 : Int) (x12 : Int) : Option ((Int × Unit) ⊕ ((Int × Bool × Unit) × Unit)) :=
  (cond (decide (x12 < ((List.length p0 : Nat) : Int))) (ixk x12 (List.length p0) (rec (iw (x4 + (rdG (0, 0) p0 x12).2)) (iw (x12 + 1)))) (some (.inl (x4, ()))))
noncomputable def spec_MinutesForAll_l1 (k : Nat) (p0 : (List (Int × Int))) (x4 : Int) (x12 : Int) : Option ((Int × Unit) ⊕ ((Int × Bool × Unit) × Unit)) := iter k (fun (rec : (Int × Int × Unit) → Option ((Int × Unit) ⊕ ((Int × Bool × Unit) × Unit))) (x : (Int × Int × Unit)) => spec_MinutesForAll_l1_b k p0 (fun x4 x12 => rec (x4, x12, ())) x.1 x.2.1) (x4, x12, ())
noncomputable def spec_MinutesForAll_f (k : Nat) (p0 : (List (Int × Int))) : Option ((Int × Bool × Unit) × Unit) :=
  (Option.bind (spec_dwGood_f k p0) (fun y8 => (cond (!y8.1.1) (some ((0, false, ()), ())) (met (spec_MinutesForAll_l1 k p0 0 0) (fun j2 => (some ((j2.1, true, ()), ())))))))
noncomputable def spec_MinutesForAll_a : Ann := (.q .o (.q .o (.q .o (.q (.q .o (.m [(4, 100256, .v (.int .i64))] (.l [(4, 100256, .v (.int .i64)), (12, 100768, .v (.int .i64))] .o))) .o))))
theorem spec_MinutesForAll_run (k : Nat) (p0 : (List (Int × Int))) : funX Tryz.prog (callT [spec_dwGood_c k]) k Tryz.f44 spec_MinutesForAll_a [.v (.slc 57 (.pr (.int .i64) (.int .i64)))] [.v (.int .i64), .v .bool] (p0, ()) = spec_MinutesForAll_f k p0 := by kernel_rfl
noncomputable def spec_MinutesForAll_c (k : Nat) : Con := ⟨44, [.v (.slc 57 (.pr (.int .i64) (.int .i64)))], [.v (.int .i64), .v .bool], fun x => spec_MinutesForAll_f k x.1⟩
theorem spec_MinutesForAll_ok (k : Nat) : (spec_MinutesForAll_c k).Sound Tryz.prog GL := con_ok (k := k) (fn := Tryz.f44) (A := spec_MinutesForAll_a) (C := callT [spec_dwGood_c k]) Tryz.func44 (by kernel_rfl) (show Tryz.f44.body = some (bodyX Tryz.f44) by rfl) (fun X hX => callT_at (TableOk.cons (spec_dwGood_ok k) TableOk.nil) X hX) (Nat.le_of_ble_eq_true (by kernel_rfl)) (fun ⟨p0, _⟩ y h => by rw [← h]; exact spec_MinutesForAll_run k p0)
noncomputable def spec_AreDrawers_f (k : Nat) (p0 : (List (Int × Int))) : Option ((Bool × Unit) × Unit) :=
  (Option.bind (spec_dwGood_f k p0) (fun y4 => (some ((y4.1.1, ()), ()))))
noncomputable def spec_AreDrawers_a : Ann := .o
theorem spec_AreDrawers_run (k : Nat) (p0 : (List (Int × Int))) : funX Tryz.prog (callT [spec_dwGood_c k]) k Tryz.f46 spec_AreDrawers_a [.v (.slc 57 (.pr (.int .i64) (.int .i64)))] [.v .bool] (p0, ()) = spec_AreDrawers_f k p0 := by kernel_rfl
noncomputable def spec_AreDrawers_c (k : Nat) : Con := ⟨46, [.v (.slc 57 (.pr (.int .i64) (.int .i64)))], [.v .bool], fun x => spec_AreDrawers_f k x.1⟩
theorem spec_AreDrawers_ok (k : Nat) : (spec_AreDrawers_c k).Sound Tryz.prog GL := con_ok (k := k) (fn := Tryz.f46) (A := spec_AreDrawers_a) (C := callT [spec_dwGood_c k]) Tryz.func46 (by kernel_rfl) (show Tryz.f46.body = some (bodyX Tryz.f46) by rfl) (fun X hX => callT_at (TableOk.cons (spec_dwGood_ok k) TableOk.nil) X hX) (Nat.le_of_ble_eq_true (by kernel_rfl)) (fun ⟨p0, _⟩ y h => by rw [← h]; exact spec_AreDrawers_run k p0)
noncomputable def impl_isDrawer_f (k : Nat) (p0 : (List (Int × Int))) (p1 : Int) : Option ((Bool × Unit) × Unit) :=
  (met (Option.bind (impl_AreDrawers_f k p0) (fun y6 => (cond y6.1.1 (Option.bind (impl_within_f k p1 0 (iw (((List.length p0 : Nat) : Int) - 1))) (fun y12 => (some (.inl (y12.1.1, ()))))) (some (.inl (false, ())))))) (fun j1 => (some ((j1.1, ()), ()))))
noncomputable def impl_isDrawer_a : Ann := (.q .o (.q (.r [(4, 100256, .v .bool)]) .o))
theorem impl_isDrawer_run (k : Nat) (p0 : (List (Int × Int))) (p1 : Int) : funX Tryz.prog (callT [impl_AreDrawers_c k, impl_within_c k]) k Tryz.f116 impl_isDrawer_a [.v (.slc 57 (.pr (.int .i64) (.int .i64))), .v (.int .i64)] [.v .bool] (p0, p1, ()) = impl_isDrawer_f k p0 p1 := by kernel_rfl
noncomputable def impl_isDrawer_c (k : Nat) : Con := ⟨116, [.v (.slc 57 (.pr (.int .i64) (.int .i64))), .v (.int .i64)], [.v .bool], fun x => impl_isDrawer_f k x.1 x.2.1⟩
theorem impl_isDrawer_ok (k : Nat) : (impl_isDrawer_c k).Sound Tryz.prog GL := con_ok (k := k) (fn := Tryz.f116) (A := impl_isDrawer_a) (C := callT [impl_AreDrawers_c k, impl_within_c k]) Tryz.func116 (by kernel_rfl) (show Tryz.f116.body = some (bodyX Tryz.f116) by rfl) (fun X hX => callT_at (TableOk.cons (impl_AreDrawers_ok k) (TableOk.cons (impl_within_ok k) TableOk.nil)) X hX) (Nat.le_of_ble_eq_true (by kernel_rfl)) (fun ⟨p0, p1, _⟩ y h => by rw [← h]; exact impl_isDrawer_run k p0 p1)
noncomputable def slices_Index_int_int_l1_b (k : Nat) (p0 : (List Int)) (p1 : Int) (rec : Int → Option (Unit ⊕ ((Int × Unit) × Unit))) (x8 : Int) : Option (Unit ⊕ ((Int × Unit) × Unit)) :=
  (cond (decide (x8 < ((List.length p0 : Nat) : Int))) (ixk x8 (List.length p0) (cond (p1 == (rd p0 x8)) (some (.inr ((x8, ()), ()))) (rec (iw (x8 + 1))))) (some (.inl ())))
noncomputable def slices_Index_int_int_l1 (k : Nat) (p0 : (List Int)) (p1 : Int) (x8 : Int) : Option (Unit ⊕ ((Int × Unit) × Unit)) := iter k (fun (rec : (Int × Unit) → Option (Unit ⊕ ((Int × Unit) × Unit))) (x : (Int × Unit)) => slices_Index_int_int_l1_b k p0 p1 (fun x8 => rec (x8, ())) x.1) (x8, ())
noncomputable def slices_Index_int_int_f (k : Nat) (p0 : (List Int)) (p1 : Int) : Option ((Int × Unit) × Unit) :=
  (met (slices_Index_int_int_l1 k p0 p1 0) (fun j2 => (some (((-1), ()), ()))))
noncomputable def slices_Index_int_int_a : Ann := (.q .o (.q (.q .o (.m [] (.l [(8, 100512, .v (.int .i64))] .o))) .o))
theorem slices_Index_int_int_run (k : Nat) (p0 : (List Int)) (p1 : Int) : funX Tryz.prog (callT []) k Tryz.f117 slices_Index_int_int_a [.v (.slc 3 (.int .i64)), .v (.int .i64)] [.v (.int .i64)] (p0, p1, ()) = slices_Index_int_int_f k p0 p1 := by kernel_rfl
noncomputable def slices_Index_int_int_c (k : Nat) : Con := ⟨117, [.v (.slc 3 (.int .i64)), .v (.int .i64)], [.v (.int .i64)], fun x => slices_Index_int_int_f k x.1 x.2.1⟩
theorem slices_Index_int_int_ok (k : Nat) : (slices_Index_int_int_c k).Sound Tryz.prog GL := con_ok (k := k) (fn := Tryz.f117) (A := slices_Index_int_int_a) (C := callT []) Tryz.func117 (by kernel_rfl) (show Tryz.f117.body = some (bodyX Tryz.f117) by rfl) (fun X hX => callT_at TableOk.nil X hX) (Nat.le_of_ble_eq_true (by kernel_rfl)) (fun ⟨p0, p1, _⟩ y h => by rw [← h]; exact slices_Index_int_int_run k p0 p1)
noncomputable def impl_FoundAt_l2_b (k : Nat) (p0 : (List (Int × Int))) (p1 : (List Int)) (y24 : ((Int × Unit) × Unit)) (rec : Int → Int → Option ((Int × Unit) ⊕ ((Int × Bool × Unit) × Unit))) (x8 : Int) (x28 : Int) : Option ((Int × Unit) ⊕ ((Int × Bool × Unit) × Unit)) :=
  (cond (decide (x28 < ((List.length (List.take (Int.toNat (iw (y24.1.1 + 1))) p1) : Nat) : Int))) (ixk x28 (List.length (List.take (Int.toNat (iw (y24.1.1 + 1))) p1)) (ixk (rd (List.take (Int.toNat (iw (y24.1.1 + 1))) p1) x28) (List.length p0) (rec (iw (x8 + (rdG (0, 0) p0 (rd (List.take (Int.toNat (iw (y24.1.1 + 1))) p1) x28)).2)) (iw (x28 + 1))))) (some (.inl (x8, ()))))
noncomputable def impl_FoundAt_l2 (k : Nat) (p0 : (List (Int × Int))) (p1 : (List Int)) (y24 : ((Int × Unit) × Unit)) (x8 : Int) (x28 : Int) : Option ((Int × Unit) ⊕ ((Int × Bool × Unit) × Unit)) := iter k (fun (rec : (Int × Int × Unit) → Option ((Int × Unit) ⊕ ((Int × Bool × Unit) × Unit))) (x : (Int × Int × Unit)) => impl_FoundAt_l2_b k p0 p1 y24 (fun x8 x28 => rec (x8, x28, ())) x.1 x.2.1) (x8, x28, ())
noncomputable def impl_FoundAt_f (k : Nat) (p0 : (List (Int × Int))) (p1 : (List Int)) (p2 : Int) : Option ((Int × Bool × Unit) × Unit) :=
  (met (Option.bind (impl_isSearch_f k p0 p1) (fun y13 => (cond (!y13.1.1) (some (.inl (true, ()))) (Option.bind (impl_isDrawer_f k p0 p2) (fun y18 => (some (.inl ((!y18.1.1), ())))))))) (fun j1 => (cond j1.1 (some ((0, false, ()), ())) (Option.bind (slices_Index_int_int_f k p1 p2) (fun y24 => (chk (decide (0 ≤ (iw (y24.1.1 + 1)))) (chk (decide ((iw (y24.1.1 + 1)) ≤ ((List.length p1 : Nat) : Int))) (met (impl_FoundAt_l2 k p0 p1 y24 0 0) (fun j3 => (some ((j3.1, true, ()), ())))))))))))
noncomputable def impl_FoundAt_a : Ann := (.q .o (.q (.q (.r [(20, 101280, .v .bool)]) .o) (.q .o (.q (.q .o (.m [(8, 100512, .v (.int .i64))] (.l [(8, 100512, .v (.int .i64)), (28, 101792, .v (.int .i64))] .o))) .o))))
theorem impl_FoundAt_run (k : Nat) (p0 : (List (Int × Int))) (p1 : (List Int)) (p2 : Int) : funX Tryz.prog (callT [impl_isSearch_c k, impl_isDrawer_c k, slices_Index_int_int_c k]) k Tryz.f47 impl_FoundAt_a [.v (.slc 57 (.pr (.int .i64) (.int .i64))), .v (.slc 3 (.int .i64)), .v (.int .i64)] [.v (.int .i64), .v .bool] (p0, p1, p2, ()) = impl_FoundAt_f k p0 p1 p2 := by kernel_rfl
noncomputable def impl_FoundAt_c (k : Nat) : Con := ⟨47, [.v (.slc 57 (.pr (.int .i64) (.int .i64))), .v (.slc 3 (.int .i64)), .v (.int .i64)], [.v (.int .i64), .v .bool], fun x => impl_FoundAt_f k x.1 x.2.1 x.2.2.1⟩
theorem impl_FoundAt_ok (k : Nat) : (impl_FoundAt_c k).Sound Tryz.prog GL := con_ok (k := k) (fn := Tryz.f47) (A := impl_FoundAt_a) (C := callT [impl_isSearch_c k, impl_isDrawer_c k, slices_Index_int_int_c k]) Tryz.func47 (by kernel_rfl) (show Tryz.f47.body = some (bodyX Tryz.f47) by rfl) (fun X hX => callT_at (TableOk.cons (impl_isSearch_ok k) (TableOk.cons (impl_isDrawer_ok k) (TableOk.cons (slices_Index_int_int_ok k) TableOk.nil))) X hX) (Nat.le_of_ble_eq_true (by kernel_rfl)) (fun ⟨p0, p1, p2, _⟩ y h => by rw [← h]; exact impl_FoundAt_run k p0 p1 p2)
noncomputable def impl_ChanceWithin_1_f (k : Nat) (p0 : Int) (p1 : Int) (p2 : (Int × Unit)) : Option ((Int × Unit) × Unit) :=
  (cond (decide (p1 ≤ p2.1)) (some ((1, ()), ())) (some ((0, ()), ())))
noncomputable def impl_ChanceWithin_1_a : Ann := .o
theorem impl_ChanceWithin_1_run (k : Nat) (p0 : Int) (p1 : Int) (p2 : (Int × Unit)) : funX Tryz.prog (callT []) k Tryz.f119 impl_ChanceWithin_1_a [.v (.int .i64), .v (.int .i64), .rbox [(.int .i64)]] [.v (.int .i64)] (p0, p1, p2, ()) = impl_ChanceWithin_1_f k p0 p1 p2 := by kernel_rfl
noncomputable def impl_ChanceWithin_1_c (k : Nat) : Con := ⟨119, [.v (.int .i64), .v (.int .i64), .rbox [(.int .i64)]], [.v (.int .i64)], fun x => impl_ChanceWithin_1_f k x.1 x.2.1 x.2.2.1⟩
theorem impl_ChanceWithin_1_ok (k : Nat) : (impl_ChanceWithin_1_c k).Sound Tryz.prog GL := con_ok (k := k) (fn := Tryz.f119) (A := impl_ChanceWithin_1_a) (C := callT []) Tryz.func119 (by kernel_rfl) (show Tryz.f119.body = some (bodyX Tryz.f119) by rfl) (fun X hX => callT_at TableOk.nil X hX) (Nat.le_of_ble_eq_true (by kernel_rfl)) (fun ⟨p0, p1, p2, _⟩ y h => by rw [← h]; exact impl_ChanceWithin_1_run k p0 p1 p2)
noncomputable def impl_mean__impl_ChanceWithin_1_l1_b (k : Nat) (p0 : (List (Int × Int))) (p1 : (List Int)) (p2 : ((Int × Unit) × Unit)) (rec : Int → Int → Int → Option ((Int × Unit) ⊕ ((Int × Int × Bool × Unit) × Unit))) (x9 : Int) (x10 : Int) (x15 : Int) : Option ((Int × Unit) ⊕ ((Int × Int × Bool × Unit) × Unit)) :=
  (cond (decide (x15 < ((List.length p1 : Nat) : Int))) (ixk x15 (List.length p1) (ixk (rd p1 x15) (List.length p0) (ixk (rd p1 x15) (List.length p0) (Option.bind (impl_ChanceWithin_1_f k x15 (iw (x10 + (rdG (0, 0) p0 (rd p1 x15)).2)) (p2.1.1, ())) (fun y36 => (rec (iw (x9 + (iw ((rdG (0, 0) p0 (rd p1 x15)).1 * y36.1.1)))) (iw (x10 + (rdG (0, 0) p0 (rd p1 x15)).2)) (iw (x15 + 1)))))))) (some (.inl (x9, ()))))
noncomputable def impl_mean__impl_ChanceWithin_1_l1 (k : Nat) (p0 : (List (Int × Int))) (p1 : (List Int)) (p2 : ((Int × Unit) × Unit)) (x9 : Int) (x10 : Int) (x15 : Int) : Option ((Int × Unit) ⊕ ((Int × Int × Bool × Unit) × Unit)) := iter k (fun (rec : (Int × Int × Int × Unit) → Option ((Int × Unit) ⊕ ((Int × Int × Bool × Unit) × Unit))) (x : (Int × Int × Int × Unit)) => impl_mean__impl_ChanceWithin_1_l1_b k p0 p1 p2 (fun x9 x10 x15 => rec (x9, x10, x15, ())) x.1 x.2.1 x.2.2.1) (x9, x10, x15, ())
noncomputable def impl_mean__impl_ChanceWithin_1_f (k : Nat) (p0 : (List (Int × Int))) (p1 : (List Int)) (p2 : ((Int × Unit) × Unit)) : Option ((Int × Int × Bool × Unit) × Unit) :=
  (met (impl_mean__impl_ChanceWithin_1_l1 k p0 p1 p2 0 0 0) (fun j2 => (Option.bind (impl_weights_f k p0) (fun y42 => (Option.bind (impl_fraction_f k j2.1 y42.1.1) (fun y43 => (some ((y43.1.1, y43.1.2.1, y43.1.2.2.1, ()), ()))))))))
noncomputable def impl_mean__impl_ChanceWithin_1_a : Ann := (.q .o (.q .o (.q (.q .o (.m [(9, 100576, .v (.int .i64))] (.l [(9, 100576, .v (.int .i64)), (10, 100640, .v (.int .i64)), (15, 100960, .v (.int .i64))] (.q .o (.q .o (.q (.b (.q .o (.q .o (.e [] [12])))) .o)))))) .o)))
theorem impl_mean__impl_ChanceWithin_1_run (k : Nat) (p0 : (List (Int × Int))) (p1 : (List Int)) (p2 : ((Int × Unit) × Unit)) : funX Tryz.prog (callT [impl_ChanceWithin_1_c k, impl_weights_c k, impl_fraction_c k]) k Tryz.f118 impl_mean__impl_ChanceWithin_1_a [.v (.slc 57 (.pr (.int .i64) (.int .i64))), .v (.slc 3 (.int .i64)), .fn 119 [.r [(.int .i64)]]] [.v (.int .i64), .v (.int .i64), .v .bool] (p0, p1, p2, ()) = impl_mean__impl_ChanceWithin_1_f k p0 p1 p2 := by kernel_rfl
noncomputable def impl_mean__impl_ChanceWithin_1_c (k : Nat) : Con := ⟨118, [.v (.slc 57 (.pr (.int .i64) (.int .i64))), .v (.slc 3 (.int .i64)), .fn 119 [.r [(.int .i64)]]], [.v (.int .i64), .v (.int .i64), .v .bool], fun x => impl_mean__impl_ChanceWithin_1_f k x.1 x.2.1 x.2.2.1⟩
theorem impl_mean__impl_ChanceWithin_1_ok (k : Nat) : (impl_mean__impl_ChanceWithin_1_c k).Sound Tryz.prog GL := con_ok (k := k) (fn := Tryz.f118) (A := impl_mean__impl_ChanceWithin_1_a) (C := callT [impl_ChanceWithin_1_c k, impl_weights_c k, impl_fraction_c k]) Tryz.func118 (by kernel_rfl) (show Tryz.f118.body = some (bodyX Tryz.f118) by rfl) (fun X hX => callT_at (TableOk.cons (impl_ChanceWithin_1_ok k) (TableOk.cons (impl_weights_ok k) (TableOk.cons (impl_fraction_ok k) TableOk.nil))) X hX) (Nat.le_of_ble_eq_true (by kernel_rfl)) (fun ⟨p0, p1, p2, _⟩ y h => by rw [← h]; exact impl_mean__impl_ChanceWithin_1_run k p0 p1 p2)
noncomputable def impl_ChanceWithin_f (k : Nat) (p0 : (List (Int × Int))) (p1 : (List Int)) (p2 : Int) : Option ((Int × Int × Bool × Unit) × Unit) :=
  (met (Option.bind (impl_isSearch_f k p0 p1) (fun y11 => (cond (!y11.1.1) (some (.inl ((p2, ()), true, ()))) (Option.bind (impl_within_f k p2 0 1000) (fun y15 => (some (.inl ((p2, ()), (!y15.1.1), ())))))))) (fun j1 => (cond j1.2.1 (some ((0, 0, false, ()), ())) (Option.bind (impl_mean__impl_ChanceWithin_1_f k p0 p1 ((j1.1.1, ()), ())) (fun y21 => (some ((y21.1.1, y21.1.2.1, y21.1.2.2.1, ()), ())))))))
noncomputable def impl_ChanceWithin_a : Ann := (.q .o (.q (.q (.r [(5, 100320, .box false [.v (.int .i64)]), (17, 101088, .v .bool)]) .o) .o))
theorem impl_ChanceWithin_run (k : Nat) (p0 : (List (Int × Int))) (p1 : (List Int)) (p2 : Int) : funX Tryz.prog (callT [impl_isSearch_c k, impl_within_c k, impl_mean__impl_ChanceWithin_1_c k]) k Tryz.f48 impl_ChanceWithin_a [.v (.slc 57 (.pr (.int .i64) (.int .i64))), .v (.slc 3 (.int .i64)), .v (.int .i64)] [.v (.int .i64), .v (.int .i64), .v .bool] (p0, p1, p2, ()) = impl_ChanceWithin_f k p0 p1 p2 := by kernel_rfl
noncomputable def impl_ChanceWithin_c (k : Nat) : Con := ⟨48, [.v (.slc 57 (.pr (.int .i64) (.int .i64))), .v (.slc 3 (.int .i64)), .v (.int .i64)], [.v (.int .i64), .v (.int .i64), .v .bool], fun x => impl_ChanceWithin_f k x.1 x.2.1 x.2.2.1⟩
theorem impl_ChanceWithin_ok (k : Nat) : (impl_ChanceWithin_c k).Sound Tryz.prog GL := con_ok (k := k) (fn := Tryz.f48) (A := impl_ChanceWithin_a) (C := callT [impl_isSearch_c k, impl_within_c k, impl_mean__impl_ChanceWithin_1_c k]) Tryz.func48 (by kernel_rfl) (show Tryz.f48.body = some (bodyX Tryz.f48) by rfl) (fun X hX => callT_at (TableOk.cons (impl_isSearch_ok k) (TableOk.cons (impl_within_ok k) (TableOk.cons (impl_mean__impl_ChanceWithin_1_ok k) TableOk.nil))) X hX) (Nat.le_of_ble_eq_true (by kernel_rfl)) (fun ⟨p0, p1, p2, _⟩ y h => by rw [← h]; exact impl_ChanceWithin_run k p0 p1 p2)
noncomputable def laws_mIs_l2_b (k : Nat) (rec : Int → Int → Option ((Int × Unit) ⊕ ((Bool × Unit) × Unit))) (x9 : Int) (x10 : Int) : Option ((Int × Unit) ⊕ ((Bool × Unit) × Unit)) :=
  (cond (decide (x10 > 0)) (chk (!(x10 == 0)) (rec x10 (Int.tmod x9 x10))) (some (.inl (x9, ()))))
noncomputable def laws_mIs_l2 (k : Nat) (x9 : Int) (x10 : Int) : Option ((Int × Unit) ⊕ ((Bool × Unit) × Unit)) := iter k (fun (rec : (Int × Int × Unit) → Option ((Int × Unit) ⊕ ((Bool × Unit) × Unit))) (x : (Int × Int × Unit)) => laws_mIs_l2_b k (fun x9 x10 => rec (x9, x10, ())) x.1 x.2.1) (x9, x10, ())
noncomputable def laws_mIs_f (k : Nat) (p0 : Int) (p1 : Int) (p2 : Int) (p3 : Int) : Option ((Bool × Unit) × Unit) :=
  (met (cond (decide (p0 < 0)) (some (.inl (true, ()))) (cond (decide (p1 < 1)) (some (.inl (true, ()))) (some (.inl (((iw (p0 * p3)) != (iw (p2 * p1))), ()))))) (fun j1 => (cond j1.1 (some ((false, ()), ())) (met (laws_mIs_l2 k p0 p1) (fun j3 => (some (((j3.1 == 1), ()), ())))))))
noncomputable def laws_mIs_a : Ann := (.q .o (.q (.q (.r [(25, 101600, .v .bool)]) .o) (.q .o (.q (.m [(9, 100576, .v (.int .i64))] (.l [(9, 100576, .v (.int .i64)), (10, 100640, .v (.int .i64))] (.q .o (.b (.e [] [5]))))) .o))))
theorem laws_mIs_run (k : Nat) (p0 : Int) (p1 : Int) (p2 : Int) (p3 : Int) : funX Tryz.prog (callT []) k Tryz.f49 laws_mIs_a [.v (.int .i64), .v (.int .i64), .v (.int .i64), .v (.int .i64)] [.v .bool] (p0, p1, p2, p3, ()) = laws_mIs_f k p0 p1 p2 p3 := by kernel_rfl
noncomputable def laws_mIs_c (k : Nat) : Con := ⟨49, [.v (.int .i64), .v (.int .i64), .v (.int .i64), .v (.int .i64)], [.v .bool], fun x => laws_mIs_f k x.1 x.2.1 x.2.2.1 x.2.2.2.1⟩
theorem laws_mIs_ok (k : Nat) : (laws_mIs_c k).Sound Tryz.prog GL := con_ok (k := k) (fn := Tryz.f49) (A := laws_mIs_a) (C := callT []) Tryz.func49 (by kernel_rfl) (show Tryz.f49.body = some (bodyX Tryz.f49) by rfl) (fun X hX => callT_at TableOk.nil X hX) (Nat.le_of_ble_eq_true (by kernel_rfl)) (fun ⟨p0, p1, p2, p3, _⟩ y h => by rw [← h]; exact laws_mIs_run k p0 p1 p2 p3)
noncomputable def spec_DrawFoundAt_f (k : Nat) (p0 : (List Int)) : Option (((List (Int × Int)) × (List Int) × Int × Unit) × Unit) :=
  (Option.bind (spec_l1Cur_search_f k (p0, 0, 0, ())) (fun y13 => (Option.bind (spec_l1Cur_pick_f k (y13.2.1.1, y13.2.1.2.1, y13.2.1.2.2.1, ()) (iw (((List.length y13.1.1 : Nat) : Int) + 1))) (fun y22 => (Option.bind (spec_l1Cur_pick_f k (y22.2.1.1, y22.2.1.2.1, y22.2.1.2.2.1, ()) 9) (fun y24 => (some ((y13.1.1, y13.1.2.1, (iw (y22.1.1 - (iw (Int.tdiv y24.1.1 8)))), ()), ()))))))))
noncomputable def spec_DrawFoundAt_a : Ann := .o
theorem spec_DrawFoundAt_run (k : Nat) (p0 : (List Int)) : funX Tryz.prog (callT [spec_l1Cur_search_c k, spec_l1Cur_pick_c k]) k Tryz.f120 spec_DrawFoundAt_a [.v (.slc 5 (.int .u8))] [.own false 57 (.pr (.int .i64) (.int .i64)), .own false 3 (.int .i64), .v (.int .i64)] (p0, ()) = spec_DrawFoundAt_f k p0 := by kernel_rfl
noncomputable def spec_DrawFoundAt_c (k : Nat) : Con := ⟨120, [.v (.slc 5 (.int .u8))], [.own false 57 (.pr (.int .i64) (.int .i64)), .own false 3 (.int .i64), .v (.int .i64)], fun x => spec_DrawFoundAt_f k x.1⟩
theorem spec_DrawFoundAt_ok (k : Nat) : (spec_DrawFoundAt_c k).Sound Tryz.prog GL := con_ok (k := k) (fn := Tryz.f120) (A := spec_DrawFoundAt_a) (C := callT [spec_l1Cur_search_c k, spec_l1Cur_pick_c k]) Tryz.func120 (by kernel_rfl) (show Tryz.f120.body = some (bodyX Tryz.f120) by rfl) (fun X hX => callT_at (TableOk.cons (spec_l1Cur_search_ok k) (TableOk.cons (spec_l1Cur_pick_ok k) TableOk.nil)) X hX) (Nat.le_of_ble_eq_true (by kernel_rfl)) (fun ⟨p0, _⟩ y h => by rw [← h]; exact spec_DrawFoundAt_run k p0)
noncomputable def spec_DrawSwapCost_f (k : Nat) (p0 : (List Int)) : Option (((List (Int × Int)) × (List Int) × Int × Unit) × Unit) :=
  (Option.bind (spec_DrawFoundAt_f k p0) (fun y6 => (some ((y6.1.1, y6.1.2.1, y6.1.2.2.1, ()), ()))))
noncomputable def spec_DrawSwapCost_a : Ann := .o
theorem spec_DrawSwapCost_run (k : Nat) (p0 : (List Int)) : funX Tryz.prog (callT [spec_DrawFoundAt_c k]) k Tryz.f50 spec_DrawSwapCost_a [.v (.slc 5 (.int .u8))] [.own false 57 (.pr (.int .i64) (.int .i64)), .own false 3 (.int .i64), .v (.int .i64)] (p0, ()) = spec_DrawSwapCost_f k p0 := by kernel_rfl
noncomputable def spec_DrawSwapCost_c (k : Nat) : Con := ⟨50, [.v (.slc 5 (.int .u8))], [.own false 57 (.pr (.int .i64) (.int .i64)), .own false 3 (.int .i64), .v (.int .i64)], fun x => spec_DrawSwapCost_f k x.1⟩
theorem spec_DrawSwapCost_ok (k : Nat) : (spec_DrawSwapCost_c k).Sound Tryz.prog GL := con_ok (k := k) (fn := Tryz.f50) (A := spec_DrawSwapCost_a) (C := callT [spec_DrawFoundAt_c k]) Tryz.func50 (by kernel_rfl) (show Tryz.f50.body = some (bodyX Tryz.f50) by rfl) (fun X hX => callT_at (TableOk.cons (spec_DrawFoundAt_ok k) TableOk.nil) X hX) (Nat.le_of_ble_eq_true (by kernel_rfl)) (fun ⟨p0, _⟩ y h => by rw [← h]; exact spec_DrawSwapCost_run k p0)
noncomputable def impl_SwapCost_f (k : Nat) (p0 : (List (Int × Int))) (p1 : (List Int)) (p2 : Int) : Option ((Int × Bool × Unit) × Unit) :=
  (met (Option.bind (impl_isSearch_f k p0 p1) (fun y12 => (cond (!y12.1.1) (some (.inl (true, ()))) (Option.bind (impl_within_f k p2 0 (iw (((List.length p1 : Nat) : Int) - 2))) (fun y19 => (some (.inl ((!y19.1.1), ())))))))) (fun j1 => (cond j1.1 (some ((0, false, ()), ())) (met (ixk p2 (List.length p1) (ixk (rd p1 p2) (List.length p0) (ixk (iw (p2 + 1)) (List.length p1) (ixk (rd p1 (iw (p2 + 1))) (List.length p0) ((fun q => andX q q) (some (.inl (((rdG (0, 0) p0 (rd p1 p2)).1, (rdG (0, 0) p0 (rd p1 p2)).2, ()), ((rdG (0, 0) p0 (rd p1 (iw (p2 + 1)))).1, (rdG (0, 0) p0 (rd p1 (iw (p2 + 1)))).2, ()), ())))))))) (fun j2 => (some (((iw ((iw (j2.1.1 * j2.2.1.2.1)) - (iw (j2.2.1.1 * j2.1.2.1)))), true, ()), ())))))))
noncomputable def impl_SwapCost_a : Ann := (.q .o (.q (.q (.r [(21, 101344, .v .bool)]) .o) (.q (.d [] [18] [(8, 100512, .box false [.v (.int .i64), .v (.int .i64)]), (9, 100576, .box false [.v (.int .i64), .v (.int .i64)])]) .o)))
theorem impl_SwapCost_run (k : Nat) (p0 : (List (Int × Int))) (p1 : (List Int)) (p2 : Int) : funX Tryz.prog (callT [impl_isSearch_c k, impl_within_c k]) k Tryz.f51 impl_SwapCost_a [.v (.slc 57 (.pr (.int .i64) (.int .i64))), .v (.slc 3 (.int .i64)), .v (.int .i64)] [.v (.int .i64), .v .bool] (p0, p1, p2, ()) = impl_SwapCost_f k p0 p1 p2 := by kernel_rfl
noncomputable def impl_SwapCost_c (k : Nat) : Con := ⟨51, [.v (.slc 57 (.pr (.int .i64) (.int .i64))), .v (.slc 3 (.int .i64)), .v (.int .i64)], [.v (.int .i64), .v .bool], fun x => impl_SwapCost_f k x.1 x.2.1 x.2.2.1⟩
theorem impl_SwapCost_ok (k : Nat) : (impl_SwapCost_c k).Sound Tryz.prog GL := con_ok (k := k) (fn := Tryz.f51) (A := impl_SwapCost_a) (C := callT [impl_isSearch_c k, impl_within_c k]) Tryz.func51 (by kernel_rfl) (show Tryz.f51.body = some (bodyX Tryz.f51) by rfl) (fun X hX => callT_at (TableOk.cons (impl_isSearch_ok k) (TableOk.cons (impl_within_ok k) TableOk.nil)) X hX) (Nat.le_of_ble_eq_true (by kernel_rfl)) (fun ⟨p0, p1, p2, _⟩ y h => by rw [← h]; exact impl_SwapCost_run k p0 p1 p2)
noncomputable def spec_SwapCost_f (k : Nat) (p0 : (List (Int × Int))) (p1 : (List Int)) (p2 : Int) : Option ((Int × Bool × Unit) × Unit) :=
  (met (Option.bind (spec_dwBoth_f k p0 p1) (fun y12 => (cond (!y12.1.1) (some (.inl (true, ()))) (Option.bind (spec_l1In_f k p2 0 (iw (((List.length p0 : Nat) : Int) - 2))) (fun y19 => (some (.inl ((!y19.1.1), ())))))))) (fun j1 => (cond j1.1 (some ((0, false, ()), ())) (met (ixk p2 (List.length p1) (ixk (rd p1 p2) (List.length p0) (ixk (iw (p2 + 1)) (List.length p1) (ixk (rd p1 (iw (p2 + 1))) (List.length p0) ((fun q => andX q q) (some (.inl (((rdG (0, 0) p0 (rd p1 p2)).1, (rdG (0, 0) p0 (rd p1 p2)).2, ()), ((rdG (0, 0) p0 (rd p1 (iw (p2 + 1)))).1, (rdG (0, 0) p0 (rd p1 (iw (p2 + 1)))).2, ()), ())))))))) (fun j2 => (some (((iw ((iw (j2.1.1 * j2.2.1.2.1)) - (iw (j2.2.1.1 * j2.1.2.1)))), true, ()), ())))))))
noncomputable def spec_SwapCost_a : Ann := (.q .o (.q (.q (.r [(21, 101344, .v .bool)]) .o) (.q (.d [] [18] [(8, 100512, .box false [.v (.int .i64), .v (.int .i64)]), (9, 100576, .box false [.v (.int .i64), .v (.int .i64)])]) .o)))
theorem spec_SwapCost_run (k : Nat) (p0 : (List (Int × Int))) (p1 : (List Int)) (p2 : Int) : funX Tryz.prog (callT [spec_dwBoth_c k, spec_l1In_c k]) k Tryz.f52 spec_SwapCost_a [.v (.slc 57 (.pr (.int .i64) (.int .i64))), .v (.slc 3 (.int .i64)), .v (.int .i64)] [.v (.int .i64), .v .bool] (p0, p1, p2, ()) = spec_SwapCost_f k p0 p1 p2 := by kernel_rfl
noncomputable def spec_SwapCost_c (k : Nat) : Con := ⟨52, [.v (.slc 57 (.pr (.int .i64) (.int .i64))), .v (.slc 3 (.int .i64)), .v (.int .i64)], [.v (.int .i64), .v .bool], fun x => spec_SwapCost_f k x.1 x.2.1 x.2.2.1⟩
theorem spec_SwapCost_ok (k : Nat) : (spec_SwapCost_c k).Sound Tryz.prog GL := con_ok (k := k) (fn := Tryz.f52) (A := spec_SwapCost_a) (C := callT [spec_dwBoth_c k, spec_l1In_c k]) Tryz.func52 (by kernel_rfl) (show Tryz.f52.body = some (bodyX Tryz.f52) by rfl) (fun X hX => callT_at (TableOk.cons (spec_dwBoth_ok k) (TableOk.cons (spec_l1In_ok k) TableOk.nil)) X hX) (Nat.le_of_ble_eq_true (by kernel_rfl)) (fun ⟨p0, p1, p2, _⟩ y h => by rw [← h]; exact spec_SwapCost_run k p0 p1 p2)
noncomputable def spec_DrawAfterSearch_f (k : Nat) (p0 : (List Int)) : Option (((List (Int × Int)) × (List Int) × Int × Unit) × Unit) :=
  (Option.bind (spec_DrawFoundAt_f k p0) (fun y6 => (some ((y6.1.1, y6.1.2.1, y6.1.2.2.1, ()), ()))))
noncomputable def spec_DrawAfterSearch_a : Ann := .o
theorem spec_DrawAfterSearch_run (k : Nat) (p0 : (List Int)) : funX Tryz.prog (callT [spec_DrawFoundAt_c k]) k Tryz.f53 spec_DrawAfterSearch_a [.v (.slc 5 (.int .u8))] [.own false 57 (.pr (.int .i64) (.int .i64)), .own false 3 (.int .i64), .v (.int .i64)] (p0, ()) = spec_DrawAfterSearch_f k p0 := by kernel_rfl
noncomputable def spec_DrawAfterSearch_c (k : Nat) : Con := ⟨53, [.v (.slc 5 (.int .u8))], [.own false 57 (.pr (.int .i64) (.int .i64)), .own false 3 (.int .i64), .v (.int .i64)], fun x => spec_DrawAfterSearch_f k x.1⟩
theorem spec_DrawAfterSearch_ok (k : Nat) : (spec_DrawAfterSearch_c k).Sound Tryz.prog GL := con_ok (k := k) (fn := Tryz.f53) (A := spec_DrawAfterSearch_a) (C := callT [spec_DrawFoundAt_c k]) Tryz.func53 (by kernel_rfl) (show Tryz.f53.body = some (bodyX Tryz.f53) by rfl) (fun X hX => callT_at (TableOk.cons (spec_DrawFoundAt_ok k) TableOk.nil) X hX) (Nat.le_of_ble_eq_true (by kernel_rfl)) (fun ⟨p0, _⟩ y h => by rw [← h]; exact spec_DrawAfterSearch_run k p0)
noncomputable def slices_Clone_impl_Drawer_impl_Drawer_f (k : Nat) (p0 : (List (Int × Int))) : Option (((List (Int × Int)) × Unit) × Unit) :=
  (cond (List.isEmpty p0) (andX (some (([], ()), ())) (chk (decide (0 + List.length p0 ≤ 8278675785607)) (some ((p0, ()), ())))) (chk (decide (0 + List.length p0 ≤ 8278675785607)) (some ((p0, ()), ()))))
noncomputable def slices_Clone_impl_Drawer_impl_Drawer_a : Ann := .o
theorem slices_Clone_impl_Drawer_impl_Drawer_run (k : Nat) (p0 : (List (Int × Int))) : funX Tryz.prog (callT []) k Tryz.f147 slices_Clone_impl_Drawer_impl_Drawer_a [.v (.slc 57 (.pr (.int .i64) (.int .i64)))] [.own false 57 (.pr (.int .i64) (.int .i64))] (p0, ()) = slices_Clone_impl_Drawer_impl_Drawer_f k p0 := by kernel_rfl
noncomputable def slices_Clone_impl_Drawer_impl_Drawer_c (k : Nat) : Con := ⟨147, [.v (.slc 57 (.pr (.int .i64) (.int .i64)))], [.own false 57 (.pr (.int .i64) (.int .i64))], fun x => slices_Clone_impl_Drawer_impl_Drawer_f k x.1⟩
theorem slices_Clone_impl_Drawer_impl_Drawer_ok (k : Nat) : (slices_Clone_impl_Drawer_impl_Drawer_c k).Sound Tryz.prog GL := con_ok (k := k) (fn := Tryz.f147) (A := slices_Clone_impl_Drawer_impl_Drawer_a) (C := callT []) Tryz.func147 (by kernel_rfl) (show Tryz.f147.body = some (bodyX Tryz.f147) by rfl) (fun X hX => callT_at TableOk.nil X hX) (Nat.le_of_ble_eq_true (by kernel_rfl)) (fun ⟨p0, _⟩ y h => by rw [← h]; exact slices_Clone_impl_Drawer_impl_Drawer_run k p0)
noncomputable def impl_emptied_l1_b (k : Nat) (p1 : (List Int)) (rec : (List (Int × Int)) → Int → Option (((List (Int × Int)) × Unit) ⊕ (((List (Int × Int)) × Bool × Unit) × Unit))) (x6 : (List (Int × Int))) (x13 : Int) : Option (((List (Int × Int)) × Unit) ⊕ (((List (Int × Int)) × Bool × Unit) × Unit)) :=
  (cond (decide (x13 < ((List.length p1 : Nat) : Int))) (ixk x13 (List.length p1) (ixk (rd p1 x13) (List.length x6) (rec (setI x6 (rd p1 x13) (0, (rdG (0, 0) x6 (rd p1 x13)).2)) (iw (x13 + 1))))) (some (.inl (x6, ()))))
noncomputable def impl_emptied_l1 (k : Nat) (p1 : (List Int)) (x6 : (List (Int × Int))) (x13 : Int) : Option (((List (Int × Int)) × Unit) ⊕ (((List (Int × Int)) × Bool × Unit) × Unit)) := iter k (fun (rec : ((List (Int × Int)) × Int × Unit) → Option (((List (Int × Int)) × Unit) ⊕ (((List (Int × Int)) × Bool × Unit) × Unit))) (x : ((List (Int × Int)) × Int × Unit)) => impl_emptied_l1_b k p1 (fun x6 x13 => rec (x6, x13, ())) x.1 x.2.1) (x6, x13, ())
noncomputable def impl_emptied_f (k : Nat) (p0 : (List (Int × Int))) (p1 : (List Int)) : Option (((List (Int × Int)) × Bool × Unit) × Unit) :=
  (Option.bind (slices_Clone_impl_Drawer_impl_Drawer_f k p0) (fun y10 => (met (impl_emptied_l1 k p1 y10.1.1 0) (fun j2 => (Option.bind (impl_AreDrawers_f k j2.1) (fun y23 => (cond (!y23.1.1) (some (([], false, ()), ())) (some ((j2.1, true, ()), ())))))))))
noncomputable def impl_emptied_a : Ann := (.q .o (.q .o (.q (.q .o (.m [(6, 100384, .own false 57 (.pr (.int .i64) (.int .i64)))] (.l [(6, 100384, .own false 57 (.pr (.int .i64) (.int .i64))), (13, 100832, .v (.int .i64))] .o))) .o)))
theorem impl_emptied_run (k : Nat) (p0 : (List (Int × Int))) (p1 : (List Int)) : funX Tryz.prog (callT [slices_Clone_impl_Drawer_impl_Drawer_c k, impl_AreDrawers_c k]) k Tryz.f121 impl_emptied_a [.v (.slc 57 (.pr (.int .i64) (.int .i64))), .v (.slc 3 (.int .i64))] [.own false 57 (.pr (.int .i64) (.int .i64)), .v .bool] (p0, p1, ()) = impl_emptied_f k p0 p1 := by kernel_rfl
noncomputable def impl_emptied_c (k : Nat) : Con := ⟨121, [.v (.slc 57 (.pr (.int .i64) (.int .i64))), .v (.slc 3 (.int .i64))], [.own false 57 (.pr (.int .i64) (.int .i64)), .v .bool], fun x => impl_emptied_f k x.1 x.2.1⟩
theorem impl_emptied_ok (k : Nat) : (impl_emptied_c k).Sound Tryz.prog GL := con_ok (k := k) (fn := Tryz.f121) (A := impl_emptied_a) (C := callT [slices_Clone_impl_Drawer_impl_Drawer_c k, impl_AreDrawers_c k]) Tryz.func121 (by kernel_rfl) (show Tryz.f121.body = some (bodyX Tryz.f121) by rfl) (fun X hX => callT_at (TableOk.cons (slices_Clone_impl_Drawer_impl_Drawer_ok k) (TableOk.cons (impl_AreDrawers_ok k) TableOk.nil)) X hX) (Nat.le_of_ble_eq_true (by kernel_rfl)) (fun ⟨p0, p1, _⟩ y h => by rw [← h]; exact impl_emptied_run k p0 p1)
noncomputable def impl_AfterSearch_f (k : Nat) (p0 : (List (Int × Int))) (p1 : (List Int)) (p2 : Int) : Option (((List (Int × Int)) × Bool × Unit) × Unit) :=
  (met (Option.bind (impl_isSearch_f k p0 p1) (fun y10 => (cond (!y10.1.1) (some (.inl (true, ()))) (Option.bind (impl_within_f k p2 0 ((List.length p1 : Nat) : Int)) (fun y16 => (some (.inl ((!y16.1.1), ())))))))) (fun j1 => (cond j1.1 (some (([], false, ()), ())) (chk (decide (0 ≤ p2)) (chk (decide (p2 ≤ ((List.length p1 : Nat) : Int))) (Option.bind (impl_emptied_f k p0 (List.take (Int.toNat p2) p1)) (fun y23 => (some ((y23.1.1, y23.1.2.1, ()), ())))))))))
noncomputable def impl_AfterSearch_a : Ann := (.q .o (.q (.q (.r [(18, 101152, .v .bool)]) .o) .o))
theorem impl_AfterSearch_run (k : Nat) (p0 : (List (Int × Int))) (p1 : (List Int)) (p2 : Int) : funX Tryz.prog (callT [impl_isSearch_c k, impl_within_c k, impl_emptied_c k]) k Tryz.f54 impl_AfterSearch_a [.v (.slc 57 (.pr (.int .i64) (.int .i64))), .v (.slc 3 (.int .i64)), .v (.int .i64)] [.own false 57 (.pr (.int .i64) (.int .i64)), .v .bool] (p0, p1, p2, ()) = impl_AfterSearch_f k p0 p1 p2 := by kernel_rfl
noncomputable def impl_AfterSearch_c (k : Nat) : Con := ⟨54, [.v (.slc 57 (.pr (.int .i64) (.int .i64))), .v (.slc 3 (.int .i64)), .v (.int .i64)], [.own false 57 (.pr (.int .i64) (.int .i64)), .v .bool], fun x => impl_AfterSearch_f k x.1 x.2.1 x.2.2.1⟩
theorem impl_AfterSearch_ok (k : Nat) : (impl_AfterSearch_c k).Sound Tryz.prog GL := con_ok (k := k) (fn := Tryz.f54) (A := impl_AfterSearch_a) (C := callT [impl_isSearch_c k, impl_within_c k, impl_emptied_c k]) Tryz.func54 (by kernel_rfl) (show Tryz.f54.body = some (bodyX Tryz.f54) by rfl) (fun X hX => callT_at (TableOk.cons (impl_isSearch_ok k) (TableOk.cons (impl_within_ok k) (TableOk.cons (impl_emptied_ok k) TableOk.nil))) X hX) (Nat.le_of_ble_eq_true (by kernel_rfl)) (fun ⟨p0, p1, p2, _⟩ y h => by rw [← h]; exact impl_AfterSearch_run k p0 p1 p2)
noncomputable def spec_dwEmpty_l1_b (k : Nat) (p0 : (List (Int × Int))) (p1 : (List Int)) (rec : (List (Int × Int)) → Int → Option (((List (Int × Int)) × Unit) ⊕ (((List (Int × Int)) × Bool × Unit) × Unit))) (x6 : (List (Int × Int))) (x11 : Int) : Option (((List (Int × Int)) × Unit) ⊕ (((List (Int × Int)) × Bool × Unit) × Unit)) :=
  (cond (decide (x11 < ((List.length p0 : Nat) : Int))) (ixk x11 (List.length p0) (Option.bind (spec_l1Has_f k p1 x11) (fun y18 => (met (cond y18.1.1 (some (.inl (x6, (0, (rdG (0, 0) p0 x11).2, ()), ()))) (some (.inl (x6, ((rdG (0, 0) p0 x11).1, (rdG (0, 0) p0 x11).2, ()), ())))) (fun j2 => (chk (decide (List.length j2.1 + List.length [(j2.2.1.1, j2.2.1.2.1)] ≤ 8278675785607)) (rec (j2.1 ++ [(j2.2.1.1, j2.2.1.2.1)]) (iw (x11 + 1))))))))) (some (.inl (x6, ()))))
noncomputable def spec_dwEmpty_l1 (k : Nat) (p0 : (List (Int × Int))) (p1 : (List Int)) (x6 : (List (Int × Int))) (x11 : Int) : Option (((List (Int × Int)) × Unit) ⊕ (((List (Int × Int)) × Bool × Unit) × Unit)) := iter k (fun (rec : ((List (Int × Int)) × Int × Unit) → Option (((List (Int × Int)) × Unit) ⊕ (((List (Int × Int)) × Bool × Unit) × Unit))) (x : ((List (Int × Int)) × Int × Unit)) => spec_dwEmpty_l1_b k p0 p1 (fun x6 x11 => rec (x6, x11, ())) x.1 x.2.1) (x6, x11, ())
noncomputable def spec_dwEmpty_f (k : Nat) (p0 : (List (Int × Int))) (p1 : (List Int)) : Option (((List (Int × Int)) × Bool × Unit) × Unit) :=
  (met (spec_dwEmpty_l1 k p0 p1 [] 0) (fun j3 => (Option.bind (spec_dwGood_f k j3.1) (fun y26 => (cond (!y26.1.1) (some (([], false, ()), ())) (some ((j3.1, true, ()), ())))))))
noncomputable def spec_dwEmpty_a : Ann := (.q .o (.q .o (.q (.q .o (.m [(6, 100384, .own false 57 (.pr (.int .i64) (.int .i64)))] (.l [(6, 100384, .own false 57 (.pr (.int .i64) (.int .i64))), (11, 100704, .v (.int .i64))] (.q .o (.q .o (.q (.b (.q .o (.q (.q .o (.j [(6, 100384, .own false 57 (.pr (.int .i64) (.int .i64))), (8, 100512, .box false [.v (.int .i64), .v (.int .i64)])] .o .o)) .o))) .o)))))) .o)))
theorem spec_dwEmpty_run (k : Nat) (p0 : (List (Int × Int))) (p1 : (List Int)) : funX Tryz.prog (callT [spec_l1Has_c k, spec_dwGood_c k]) k Tryz.f122 spec_dwEmpty_a [.v (.slc 57 (.pr (.int .i64) (.int .i64))), .v (.slc 3 (.int .i64))] [.own false 57 (.pr (.int .i64) (.int .i64)), .v .bool] (p0, p1, ()) = spec_dwEmpty_f k p0 p1 := by kernel_rfl
noncomputable def spec_dwEmpty_c (k : Nat) : Con := ⟨122, [.v (.slc 57 (.pr (.int .i64) (.int .i64))), .v (.slc 3 (.int .i64))], [.own false 57 (.pr (.int .i64) (.int .i64)), .v .bool], fun x => spec_dwEmpty_f k x.1 x.2.1⟩
theorem spec_dwEmpty_ok (k : Nat) : (spec_dwEmpty_c k).Sound Tryz.prog GL := con_ok (k := k) (fn := Tryz.f122) (A := spec_dwEmpty_a) (C := callT [spec_l1Has_c k, spec_dwGood_c k]) Tryz.func122 (by kernel_rfl) (show Tryz.f122.body = some (bodyX Tryz.f122) by rfl) (fun X hX => callT_at (TableOk.cons (spec_l1Has_ok k) (TableOk.cons (spec_dwGood_ok k) TableOk.nil)) X hX) (Nat.le_of_ble_eq_true (by kernel_rfl)) (fun ⟨p0, p1, _⟩ y h => by rw [← h]; exact spec_dwEmpty_run k p0 p1)
noncomputable def spec_AfterSearch_f (k : Nat) (p0 : (List (Int × Int))) (p1 : (List Int)) (p2 : Int) : Option (((List (Int × Int)) × Bool × Unit) × Unit) :=
  (met (Option.bind (spec_dwBoth_f k p0 p1) (fun y10 => (cond (!y10.1.1) (some (.inl (true, ()))) (Option.bind (spec_l1In_f k p2 0 ((List.length p0 : Nat) : Int)) (fun y16 => (some (.inl ((!y16.1.1), ())))))))) (fun j1 => (cond j1.1 (some (([], false, ()), ())) (chk (decide (0 ≤ p2)) (chk (decide (p2 ≤ ((List.length p1 : Nat) : Int))) (Option.bind (spec_dwEmpty_f k p0 (List.take (Int.toNat p2) p1)) (fun y23 => (some ((y23.1.1, y23.1.2.1, ()), ())))))))))
noncomputable def spec_AfterSearch_a : Ann := (.q .o (.q (.q (.r [(18, 101152, .v .bool)]) .o) .o))
theorem spec_AfterSearch_run (k : Nat) (p0 : (List (Int × Int))) (p1 : (List Int)) (p2 : Int) : funX Tryz.prog (callT [spec_dwBoth_c k, spec_l1In_c k, spec_dwEmpty_c k]) k Tryz.f55 spec_AfterSearch_a [.v (.slc 57 (.pr (.int .i64) (.int .i64))), .v (.slc 3 (.int .i64)), .v (.int .i64)] [.own false 57 (.pr (.int .i64) (.int .i64)), .v .bool] (p0, p1, p2, ()) = spec_AfterSearch_f k p0 p1 p2 := by kernel_rfl
noncomputable def spec_AfterSearch_c (k : Nat) : Con := ⟨55, [.v (.slc 57 (.pr (.int .i64) (.int .i64))), .v (.slc 3 (.int .i64)), .v (.int .i64)], [.own false 57 (.pr (.int .i64) (.int .i64)), .v .bool], fun x => spec_AfterSearch_f k x.1 x.2.1 x.2.2.1⟩
theorem spec_AfterSearch_ok (k : Nat) : (spec_AfterSearch_c k).Sound Tryz.prog GL := con_ok (k := k) (fn := Tryz.f55) (A := spec_AfterSearch_a) (C := callT [spec_dwBoth_c k, spec_l1In_c k, spec_dwEmpty_c k]) Tryz.func55 (by kernel_rfl) (show Tryz.f55.body = some (bodyX Tryz.f55) by rfl) (fun X hX => callT_at (TableOk.cons (spec_dwBoth_ok k) (TableOk.cons (spec_l1In_ok k) (TableOk.cons (spec_dwEmpty_ok k) TableOk.nil))) X hX) (Nat.le_of_ble_eq_true (by kernel_rfl)) (fun ⟨p0, p1, p2, _⟩ y h => by rw [← h]; exact spec_AfterSearch_run k p0 p1 p2)
noncomputable def spec_DrawChanceIn_f (k : Nat) (p0 : (List Int)) : Option (((List (Int × Int)) × Int × Unit) × Unit) :=
  (Option.bind (spec_l1Cur_drawers_f k (p0, 0, 0, ())) (fun y10 => (Option.bind (spec_l1Cur_pick_f k (y10.2.1.1, y10.2.1.2.1, y10.2.1.2.2.1, ()) (iw (((List.length y10.1.1 : Nat) : Int) + 1))) (fun y16 => (Option.bind (spec_l1Cur_pick_f k (y16.2.1.1, y16.2.1.2.1, y16.2.1.2.2.1, ()) 9) (fun y18 => (some ((y10.1.1, (iw (y16.1.1 - (iw (Int.tdiv y18.1.1 8)))), ()), ()))))))))
noncomputable def spec_DrawChanceIn_a : Ann := .o
theorem spec_DrawChanceIn_run (k : Nat) (p0 : (List Int)) : funX Tryz.prog (callT [spec_l1Cur_drawers_c k, spec_l1Cur_pick_c k]) k Tryz.f123 spec_DrawChanceIn_a [.v (.slc 5 (.int .u8))] [.own false 57 (.pr (.int .i64) (.int .i64)), .v (.int .i64)] (p0, ()) = spec_DrawChanceIn_f k p0 := by kernel_rfl
noncomputable def spec_DrawChanceIn_c (k : Nat) : Con := ⟨123, [.v (.slc 5 (.int .u8))], [.own false 57 (.pr (.int .i64) (.int .i64)), .v (.int .i64)], fun x => spec_DrawChanceIn_f k x.1⟩
theorem spec_DrawChanceIn_ok (k : Nat) : (spec_DrawChanceIn_c k).Sound Tryz.prog GL := con_ok (k := k) (fn := Tryz.f123) (A := spec_DrawChanceIn_a) (C := callT [spec_l1Cur_drawers_c k, spec_l1Cur_pick_c k]) Tryz.func123 (by kernel_rfl) (show Tryz.f123.body = some (bodyX Tryz.f123) by rfl) (fun X hX => callT_at (TableOk.cons (spec_l1Cur_drawers_ok k) (TableOk.cons (spec_l1Cur_pick_ok k) TableOk.nil)) X hX) (Nat.le_of_ble_eq_true (by kernel_rfl)) (fun ⟨p0, _⟩ y h => by rw [← h]; exact spec_DrawChanceIn_run k p0)
noncomputable def spec_DrawAfterEmpty_f (k : Nat) (p0 : (List Int)) : Option (((List (Int × Int)) × Int × Unit) × Unit) :=
  (Option.bind (spec_DrawChanceIn_f k p0) (fun y5 => (some ((y5.1.1, y5.1.2.1, ()), ()))))
noncomputable def spec_DrawAfterEmpty_a : Ann := .o
theorem spec_DrawAfterEmpty_run (k : Nat) (p0 : (List Int)) : funX Tryz.prog (callT [spec_DrawChanceIn_c k]) k Tryz.f56 spec_DrawAfterEmpty_a [.v (.slc 5 (.int .u8))] [.own false 57 (.pr (.int .i64) (.int .i64)), .v (.int .i64)] (p0, ()) = spec_DrawAfterEmpty_f k p0 := by kernel_rfl
noncomputable def spec_DrawAfterEmpty_c (k : Nat) : Con := ⟨56, [.v (.slc 5 (.int .u8))], [.own false 57 (.pr (.int .i64) (.int .i64)), .v (.int .i64)], fun x => spec_DrawAfterEmpty_f k x.1⟩
theorem spec_DrawAfterEmpty_ok (k : Nat) : (spec_DrawAfterEmpty_c k).Sound Tryz.prog GL := con_ok (k := k) (fn := Tryz.f56) (A := spec_DrawAfterEmpty_a) (C := callT [spec_DrawChanceIn_c k]) Tryz.func56 (by kernel_rfl) (show Tryz.f56.body = some (bodyX Tryz.f56) by rfl) (fun X hX => callT_at (TableOk.cons (spec_DrawChanceIn_ok k) TableOk.nil) X hX) (Nat.le_of_ble_eq_true (by kernel_rfl)) (fun ⟨p0, _⟩ y h => by rw [← h]; exact spec_DrawAfterEmpty_run k p0)
noncomputable def impl_AfterEmpty_f (k : Nat) (p0 : (List (Int × Int))) (p1 : Int) : Option (((List (Int × Int)) × Bool × Unit) × Unit) :=
  (Option.bind (impl_isDrawer_f k p0 p1) (fun y8 => (cond (!y8.1.1) (some (([], false, ()), ())) (Option.bind (impl_emptied_f k p0 [p1]) (fun y13 => (some ((y13.1.1, y13.1.2.1, ()), ())))))))
noncomputable def impl_AfterEmpty_a : Ann := .o
theorem impl_AfterEmpty_run (k : Nat) (p0 : (List (Int × Int))) (p1 : Int) : funX Tryz.prog (callT [impl_isDrawer_c k, impl_emptied_c k]) k Tryz.f57 impl_AfterEmpty_a [.v (.slc 57 (.pr (.int .i64) (.int .i64))), .v (.int .i64)] [.own false 57 (.pr (.int .i64) (.int .i64)), .v .bool] (p0, p1, ()) = impl_AfterEmpty_f k p0 p1 := by kernel_rfl
noncomputable def impl_AfterEmpty_c (k : Nat) : Con := ⟨57, [.v (.slc 57 (.pr (.int .i64) (.int .i64))), .v (.int .i64)], [.own false 57 (.pr (.int .i64) (.int .i64)), .v .bool], fun x => impl_AfterEmpty_f k x.1 x.2.1⟩
theorem impl_AfterEmpty_ok (k : Nat) : (impl_AfterEmpty_c k).Sound Tryz.prog GL := con_ok (k := k) (fn := Tryz.f57) (A := impl_AfterEmpty_a) (C := callT [impl_isDrawer_c k, impl_emptied_c k]) Tryz.func57 (by kernel_rfl) (show Tryz.f57.body = some (bodyX Tryz.f57) by rfl) (fun X hX => callT_at (TableOk.cons (impl_isDrawer_ok k) (TableOk.cons (impl_emptied_ok k) TableOk.nil)) X hX) (Nat.le_of_ble_eq_true (by kernel_rfl)) (fun ⟨p0, p1, _⟩ y h => by rw [← h]; exact impl_AfterEmpty_run k p0 p1)
noncomputable def spec_AfterEmpty_f (k : Nat) (p0 : (List (Int × Int))) (p1 : Int) : Option (((List (Int × Int)) × Bool × Unit) × Unit) :=
  (met (Option.bind (spec_dwGood_f k p0) (fun y7 => (cond (!y7.1.1) (some (.inl (true, ()))) (Option.bind (spec_l1In_f k p1 0 (iw (((List.length p0 : Nat) : Int) - 1))) (fun y14 => (some (.inl ((!y14.1.1), ())))))))) (fun j1 => (cond j1.1 (some (([], false, ()), ())) (Option.bind (spec_dwEmpty_f k p0 [p1]) (fun y20 => (some ((y20.1.1, y20.1.2.1, ()), ())))))))
noncomputable def spec_AfterEmpty_a : Ann := (.q .o (.q (.q (.r [(16, 101024, .v .bool)]) .o) .o))
theorem spec_AfterEmpty_run (k : Nat) (p0 : (List (Int × Int))) (p1 : Int) : funX Tryz.prog (callT [spec_dwGood_c k, spec_l1In_c k, spec_dwEmpty_c k]) k Tryz.f58 spec_AfterEmpty_a [.v (.slc 57 (.pr (.int .i64) (.int .i64))), .v (.int .i64)] [.own false 57 (.pr (.int .i64) (.int .i64)), .v .bool] (p0, p1, ()) = spec_AfterEmpty_f k p0 p1 := by kernel_rfl
noncomputable def spec_AfterEmpty_c (k : Nat) : Con := ⟨58, [.v (.slc 57 (.pr (.int .i64) (.int .i64))), .v (.int .i64)], [.own false 57 (.pr (.int .i64) (.int .i64)), .v .bool], fun x => spec_AfterEmpty_f k x.1 x.2.1⟩
theorem spec_AfterEmpty_ok (k : Nat) : (spec_AfterEmpty_c k).Sound Tryz.prog GL := con_ok (k := k) (fn := Tryz.f58) (A := spec_AfterEmpty_a) (C := callT [spec_dwGood_c k, spec_l1In_c k, spec_dwEmpty_c k]) Tryz.func58 (by kernel_rfl) (show Tryz.f58.body = some (bodyX Tryz.f58) by rfl) (fun X hX => callT_at (TableOk.cons (spec_dwGood_ok k) (TableOk.cons (spec_l1In_ok k) (TableOk.cons (spec_dwEmpty_ok k) TableOk.nil))) X hX) (Nat.le_of_ble_eq_true (by kernel_rfl)) (fun ⟨p0, p1, _⟩ y h => by rw [← h]; exact spec_AfterEmpty_run k p0 p1)
noncomputable def impl_ChanceIn_f (k : Nat) (p0 : (List (Int × Int))) (p1 : Int) : Option ((Int × Int × Bool × Unit) × Unit) :=
  (Option.bind (impl_isDrawer_f k p0 p1) (fun y9 => (cond (!y9.1.1) (some ((0, 0, false, ()), ())) (ixk p1 (List.length p0) (Option.bind (impl_weights_f k p0) (fun y17 => (Option.bind (impl_fraction_f k ((rdG (0, 0) p0 p1).1) y17.1.1) (fun y18 => (some ((y18.1.1, y18.1.2.1, y18.1.2.2.1, ()), ()))))))))))
noncomputable def impl_ChanceIn_a : Ann := (.q .o (.q .o (.q (.e [] [11, 12, 13]) .o)))
theorem impl_ChanceIn_run (k : Nat) (p0 : (List (Int × Int))) (p1 : Int) : funX Tryz.prog (callT [impl_isDrawer_c k, impl_weights_c k, impl_fraction_c k]) k Tryz.f59 impl_ChanceIn_a [.v (.slc 57 (.pr (.int .i64) (.int .i64))), .v (.int .i64)] [.v (.int .i64), .v (.int .i64), .v .bool] (p0, p1, ()) = impl_ChanceIn_f k p0 p1 := by kernel_rfl
noncomputable def impl_ChanceIn_c (k : Nat) : Con := ⟨59, [.v (.slc 57 (.pr (.int .i64) (.int .i64))), .v (.int .i64)], [.v (.int .i64), .v (.int .i64), .v .bool], fun x => impl_ChanceIn_f k x.1 x.2.1⟩
theorem impl_ChanceIn_ok (k : Nat) : (impl_ChanceIn_c k).Sound Tryz.prog GL := con_ok (k := k) (fn := Tryz.f59) (A := impl_ChanceIn_a) (C := callT [impl_isDrawer_c k, impl_weights_c k, impl_fraction_c k]) Tryz.func59 (by kernel_rfl) (show Tryz.f59.body = some (bodyX Tryz.f59) by rfl) (fun X hX => callT_at (TableOk.cons (impl_isDrawer_ok k) (TableOk.cons (impl_weights_ok k) (TableOk.cons (impl_fraction_ok k) TableOk.nil))) X hX) (Nat.le_of_ble_eq_true (by kernel_rfl)) (fun ⟨p0, p1, _⟩ y h => by rw [← h]; exact impl_ChanceIn_run k p0 p1)
noncomputable def spec_ChanceIn_f (k : Nat) (p0 : (List (Int × Int))) (p1 : Int) : Option ((Int × Int × Bool × Unit) × Unit) :=
  (met (Option.bind (spec_dwGood_f k p0) (fun y10 => (cond (!y10.1.1) (some (.inl (true, ()))) (Option.bind (spec_l1In_f k p1 0 (iw (((List.length p0 : Nat) : Int) - 1))) (fun y17 => (some (.inl ((!y17.1.1), ())))))))) (fun j1 => (cond j1.1 (some ((0, 0, false, ()), ())) (ixk p1 (List.length p0) (Option.bind (spec_dwAll_f k p0) (fun y27 => (Option.bind (spec_gvLow_f k ((rdG (0, 0) p0 p1).1) y27.1.1) (fun y28 => (some ((y28.1.1, y28.1.2.1, true, ()), ()))))))))))
noncomputable def spec_ChanceIn_a : Ann := (.q .o (.q (.q (.r [(19, 101216, .v .bool)]) .o) (.q (.e [] [12]) .o)))
theorem spec_ChanceIn_run (k : Nat) (p0 : (List (Int × Int))) (p1 : Int) : funX Tryz.prog (callT [spec_dwGood_c k, spec_l1In_c k, spec_dwAll_c k, spec_gvLow_c k]) k Tryz.f60 spec_ChanceIn_a [.v (.slc 57 (.pr (.int .i64) (.int .i64))), .v (.int .i64)] [.v (.int .i64), .v (.int .i64), .v .bool] (p0, p1, ()) = spec_ChanceIn_f k p0 p1 := by kernel_rfl
noncomputable def spec_ChanceIn_c (k : Nat) : Con := ⟨60, [.v (.slc 57 (.pr (.int .i64) (.int .i64))), .v (.int .i64)], [.v (.int .i64), .v (.int .i64), .v .bool], fun x => spec_ChanceIn_f k x.1 x.2.1⟩
theorem spec_ChanceIn_ok (k : Nat) : (spec_ChanceIn_c k).Sound Tryz.prog GL := con_ok (k := k) (fn := Tryz.f60) (A := spec_ChanceIn_a) (C := callT [spec_dwGood_c k, spec_l1In_c k, spec_dwAll_c k, spec_gvLow_c k]) Tryz.func60 (by kernel_rfl) (show Tryz.f60.body = some (bodyX Tryz.f60) by rfl) (fun X hX => callT_at (TableOk.cons (spec_dwGood_ok k) (TableOk.cons (spec_l1In_ok k) (TableOk.cons (spec_dwAll_ok k) (TableOk.cons (spec_gvLow_ok k) TableOk.nil)))) X hX) (Nat.le_of_ble_eq_true (by kernel_rfl)) (fun ⟨p0, p1, _⟩ y h => by rw [← h]; exact spec_ChanceIn_run k p0 p1)
noncomputable def strconv_Itoa_f (k : Nat) (p0 : Int) : Option ((ByteArray × Unit) × Unit) := (itoaL p0).map fun y => (y, ())
noncomputable def strconv_Itoa_c (k : Nat) : Con := ⟨82, [.v (.int .i64)], [.v .str], fun x => (itoaL x.1).map fun y => (y, ())⟩
theorem strconv_Itoa_ok (k : Nat) : (strconv_Itoa_c k).Sound Tryz.prog GL := itoa_leaf ⟨Tryz.f82, Tryz.func82, by kernel_rfl, by rfl⟩ (fun i hi w => lay_strconv_Itoa_small i hi w)
noncomputable def strings_Join_f (k : Nat) (p0 : (List ByteArray)) (p1 : ByteArray) : Option ((ByteArray × Unit) × Unit) := (joinL p0 p1).map fun y => (y, ())
noncomputable def strings_Join_c (k : Nat) : Con := ⟨125, [.v (.slc 9 .str), .v .str], [.v .str], fun x => (joinL x.1 x.2.1).map fun y => (y, ())⟩
theorem strings_Join_ok (k : Nat) : (strings_Join_c k).Sound Tryz.prog GL := join_leaf ⟨Tryz.f125, Tryz.func125, by kernel_rfl, by rfl⟩ (fun bk o c xs sep w h1 h2 h3 h4 h5 => lay_strings_Join bk o c xs sep w h1 h2 h3 h4 h5) (fun a c sep w => lay_strings_Join_none a c sep w)
noncomputable def impl_DrawersText_l1_b (k : Nat) (p0 : (List (Int × Int))) (rec : (List ByteArray) → Int → Option (((List ByteArray) × Unit) ⊕ ((ByteArray × Bool × Unit) × Unit))) (x4 : (List ByteArray)) (x13 : Int) : Option (((List ByteArray) × Unit) ⊕ ((ByteArray × Bool × Unit) × Unit)) :=
  (cond (decide (x13 < ((List.length p0 : Nat) : Int))) (ixk x13 (List.length p0) (Option.bind (strconv_Itoa_f k ((rdG (0, 0) p0 x13).1)) (fun y20 => (chk (decide (y20.1.1.size + (lit [47]).size ≤ 9223372036854775807)) (Option.bind (strconv_Itoa_f k ((rdG (0, 0) p0 x13).2)) (fun y24 => (chk (decide ((y20.1.1 ++ (lit [47])).size + y24.1.1.size ≤ 9223372036854775807)) (chk (decide (List.length x4 + List.length [((y20.1.1 ++ (lit [47])) ++ y24.1.1)] ≤ 8278675785607)) (rec (x4 ++ [((y20.1.1 ++ (lit [47])) ++ y24.1.1)]) (iw (x13 + 1))))))))))) (some (.inl (x4, ()))))
noncomputable def impl_DrawersText_l1 (k : Nat) (p0 : (List (Int × Int))) (x4 : (List ByteArray)) (x13 : Int) : Option (((List ByteArray) × Unit) ⊕ ((ByteArray × Bool × Unit) × Unit)) := iter k (fun (rec : ((List ByteArray) × Int × Unit) → Option (((List ByteArray) × Unit) ⊕ ((ByteArray × Bool × Unit) × Unit))) (x : ((List ByteArray) × Int × Unit)) => impl_DrawersText_l1_b k p0 (fun x4 x13 => rec (x4, x13, ())) x.1 x.2.1) (x4, x13, ())
noncomputable def impl_DrawersText_f (k : Nat) (p0 : (List (Int × Int))) : Option ((ByteArray × Bool × Unit) × Unit) :=
  (Option.bind (impl_AreDrawers_f k p0) (fun y8 => (cond (!y8.1.1) (some ((ByteArray.empty, false, ()), ())) (met (impl_DrawersText_l1 k p0 [] 0) (fun j2 => (Option.bind (strings_Join_f k j2.1 (lit [59])) (fun y30 => (some ((y30.1.1, true, ()), ())))))))))
noncomputable def impl_DrawersText_a : Ann := (.q .o (.q .o (.q .o (.q (.q .o (.m [(4, 100256, .v (.slc 9 .str))] (.l [(4, 100256, .own false 9 .str), (13, 100832, .v (.int .i64))] (.q .o (.q .o (.q (.b (.q .o (.e [100256] [11]))) .o)))))) .o))))
theorem impl_DrawersText_run (k : Nat) (p0 : (List (Int × Int))) : funX Tryz.prog (callT [impl_AreDrawers_c k, strconv_Itoa_c k, strings_Join_c k]) k Tryz.f61 impl_DrawersText_a [.v (.slc 57 (.pr (.int .i64) (.int .i64)))] [.v .str, .v .bool] (p0, ()) = impl_DrawersText_f k p0 := by kernel_rfl
noncomputable def impl_DrawersText_c (k : Nat) : Con := ⟨61, [.v (.slc 57 (.pr (.int .i64) (.int .i64)))], [.v .str, .v .bool], fun x => impl_DrawersText_f k x.1⟩
theorem impl_DrawersText_ok (k : Nat) : (impl_DrawersText_c k).Sound Tryz.prog GL := con_ok (k := k) (fn := Tryz.f61) (A := impl_DrawersText_a) (C := callT [impl_AreDrawers_c k, strconv_Itoa_c k, strings_Join_c k]) Tryz.func61 (by kernel_rfl) (show Tryz.f61.body = some (bodyX Tryz.f61) by rfl) (fun X hX => callT_at (TableOk.cons (impl_AreDrawers_ok k) (TableOk.cons (strconv_Itoa_ok k) (TableOk.cons (strings_Join_ok k) TableOk.nil))) X hX) (Nat.le_of_ble_eq_true (by kernel_rfl)) (fun ⟨p0, _⟩ y h => by rw [← h]; exact impl_DrawersText_run k p0)
noncomputable def spec_l1Num_s (k : Nat) (me : Int → Option ((ByteArray × Unit) × Unit)) (p0 : Int) : Option ((ByteArray × Unit) × Unit) :=
  (cond (decide (p0 < 10)) (some (((strOfNums [(IntKind.wrap .u8 ((iw (48 + p0))))]), ()), ())) (met (andX (Option.bind (me (iw (Int.tdiv p0 10))) (fun y12 => (chk (decide (y12.1.1.size + (strOfNums [(IntKind.wrap .u8 ((iw (48 + (Int.tmod p0 10)))))]).size ≤ 9223372036854775807)) (some (.inl ((y12.1.1 ++ (strOfNums [(IntKind.wrap .u8 ((iw (48 + (Int.tmod p0 10)))))])), ())))))) ((fun q => andX q q) (Option.bind (me (iw (Int.tdiv p0 10))) (fun y12_1 => (chk (decide (y12_1.1.1.size + (strOfNums [(IntKind.wrap .u8 ((iw (48 + (Int.tmod p0 10)))))]).size ≤ 9223372036854775807)) (some (.inl ((y12_1.1.1 ++ (strOfNums [(IntKind.wrap .u8 ((iw (48 + (Int.tmod p0 10)))))])), ())))))))) (fun j1 => (some ((j1.1, ()), ())))))
noncomputable def spec_l1Num_r (k : Nat) : Nat → Int → Option ((ByteArray × Unit) × Unit)
  | 0 => fun _ => none
  | n + 1 => spec_l1Num_s k (spec_l1Num_r k n)
noncomputable def spec_l1Num_f (k : Nat) : Int → Option ((ByteArray × Unit) × Unit) := spec_l1Num_r k k
noncomputable def spec_l1Num_a : Ann := (.q .o (.q .o (.q (.d [] [10] [(2, 100128, .v .str)]) .o)))
noncomputable def spec_l1Num_d (k n : Nat) : Con := ⟨134, [.v (.int .i64)], [.v .str], fun x => spec_l1Num_r k n x.1⟩
theorem spec_l1Num_run (k n : Nat) (p0 : Int) : funX Tryz.prog (callT [spec_l1Num_d k n]) k Tryz.f134 spec_l1Num_a [.v (.int .i64)] [.v .str] (p0, ()) = spec_l1Num_r k (n + 1) p0 := by kernel_rfl
theorem spec_l1Num_rec (k : Nat) : ∀ n : Nat, (spec_l1Num_d k n).Sound Tryz.prog GL
  | 0 => con_none Tryz.func134 (by kernel_rfl) (show Tryz.f134.body = some (bodyX Tryz.f134) by rfl) (fun _ => rfl)
  | n + 1 => con_ok (k := k) (fn := Tryz.f134) (A := spec_l1Num_a) (C := callT [spec_l1Num_d k n]) Tryz.func134 (by kernel_rfl) (show Tryz.f134.body = some (bodyX Tryz.f134) by rfl) (fun X hX => callT_at (TableOk.cons (spec_l1Num_rec k n) TableOk.nil) X hX) (Nat.le_of_ble_eq_true (by kernel_rfl)) (fun ⟨p0, _⟩ y h => by rw [← h]; exact spec_l1Num_run k n p0)
noncomputable def spec_l1Num_c (k : Nat) : Con := ⟨134, [.v (.int .i64)], [.v .str], fun x => spec_l1Num_f k x.1⟩
theorem spec_l1Num_ok (k : Nat) : (spec_l1Num_c k).Sound Tryz.prog GL := spec_l1Num_rec k k
noncomputable def spec_dwText_l1_b (k : Nat) (p0 : (List (Int × Int))) (rec : ByteArray → Int → Option ((ByteArray × Unit) ⊕ ((ByteArray × Unit) × Unit))) (x3 : ByteArray) (x8 : Int) : Option ((ByteArray × Unit) ⊕ ((ByteArray × Unit) × Unit)) :=
  (cond (decide (x8 < ((List.length p0 : Nat) : Int))) (ixk x8 (List.length p0) (met (cond (decide (x8 > 0)) (chk (decide (x3.size + (lit [59]).size ≤ 9223372036854775807)) (some (.inl ((x3 ++ (lit [59])), ((rdG (0, 0) p0 x8).1, (rdG (0, 0) p0 x8).2, ()), ())))) (some (.inl (x3, ((rdG (0, 0) p0 x8).1, (rdG (0, 0) p0 x8).2, ()), ())))) (fun j2 => (Option.bind (spec_l1Num_f k j2.2.1.1) (fun y20 => (chk (decide (y20.1.1.size + (lit [47]).size ≤ 9223372036854775807)) (Option.bind (spec_l1Num_f k j2.2.1.2.1) (fun y24 => (chk (decide ((y20.1.1 ++ (lit [47])).size + y24.1.1.size ≤ 9223372036854775807)) (chk (decide (j2.1.size + ((y20.1.1 ++ (lit [47])) ++ y24.1.1).size ≤ 9223372036854775807)) (rec (j2.1 ++ ((y20.1.1 ++ (lit [47])) ++ y24.1.1)) (iw (x8 + 1))))))))))))) (some (.inl (x3, ()))))
noncomputable def spec_dwText_l1 (k : Nat) (p0 : (List (Int × Int))) (x3 : ByteArray) (x8 : Int) : Option ((ByteArray × Unit) ⊕ ((ByteArray × Unit) × Unit)) := iter k (fun (rec : (ByteArray × Int × Unit) → Option ((ByteArray × Unit) ⊕ ((ByteArray × Unit) × Unit))) (x : (ByteArray × Int × Unit)) => spec_dwText_l1_b k p0 (fun x3 x8 => rec (x3, x8, ())) x.1 x.2.1) (x3, x8, ())
noncomputable def spec_dwText_f (k : Nat) (p0 : (List (Int × Int))) : Option ((ByteArray × Unit) × Unit) :=
  (met (spec_dwText_l1 k p0 ByteArray.empty 0) (fun j3 => (some ((j3.1, ()), ()))))
noncomputable def spec_dwText_a : Ann := (.q .o (.q .o (.q (.q .o (.m [(3, 100192, .v .str)] (.l [(3, 100192, .v .str), (8, 100512, .v (.int .i64))] (.q .o (.q .o (.q (.b (.q .o (.q (.q .o (.j [(3, 100192, .v .str), (5, 100320, .box false [.v (.int .i64), .v (.int .i64)])] .o .o)) (.e [] [10])))) .o)))))) .o)))
theorem spec_dwText_run (k : Nat) (p0 : (List (Int × Int))) : funX Tryz.prog (callT [spec_l1Num_c k]) k Tryz.f126 spec_dwText_a [.v (.slc 57 (.pr (.int .i64) (.int .i64)))] [.v .str] (p0, ()) = spec_dwText_f k p0 := by kernel_rfl
noncomputable def spec_dwText_c (k : Nat) : Con := ⟨126, [.v (.slc 57 (.pr (.int .i64) (.int .i64)))], [.v .str], fun x => spec_dwText_f k x.1⟩
theorem spec_dwText_ok (k : Nat) : (spec_dwText_c k).Sound Tryz.prog GL := con_ok (k := k) (fn := Tryz.f126) (A := spec_dwText_a) (C := callT [spec_l1Num_c k]) Tryz.func126 (by kernel_rfl) (show Tryz.f126.body = some (bodyX Tryz.f126) by rfl) (fun X hX => callT_at (TableOk.cons (spec_l1Num_ok k) TableOk.nil) X hX) (Nat.le_of_ble_eq_true (by kernel_rfl)) (fun ⟨p0, _⟩ y h => by rw [← h]; exact spec_dwText_run k p0)
noncomputable def spec_DrawersText_f (k : Nat) (p0 : (List (Int × Int))) : Option ((ByteArray × Bool × Unit) × Unit) :=
  (Option.bind (spec_dwGood_f k p0) (fun y5 => (cond (!y5.1.1) (some ((ByteArray.empty, false, ()), ())) (Option.bind (spec_dwText_f k p0) (fun y8 => (some ((y8.1.1, true, ()), ())))))))
noncomputable def spec_DrawersText_a : Ann := .o
theorem spec_DrawersText_run (k : Nat) (p0 : (List (Int × Int))) : funX Tryz.prog (callT [spec_dwGood_c k, spec_dwText_c k]) k Tryz.f62 spec_DrawersText_a [.v (.slc 57 (.pr (.int .i64) (.int .i64)))] [.v .str, .v .bool] (p0, ()) = spec_DrawersText_f k p0 := by kernel_rfl
noncomputable def spec_DrawersText_c (k : Nat) : Con := ⟨62, [.v (.slc 57 (.pr (.int .i64) (.int .i64)))], [.v .str, .v .bool], fun x => spec_DrawersText_f k x.1⟩
theorem spec_DrawersText_ok (k : Nat) : (spec_DrawersText_c k).Sound Tryz.prog GL := con_ok (k := k) (fn := Tryz.f62) (A := spec_DrawersText_a) (C := callT [spec_dwGood_c k, spec_dwText_c k]) Tryz.func62 (by kernel_rfl) (show Tryz.f62.body = some (bodyX Tryz.f62) by rfl) (fun X hX => callT_at (TableOk.cons (spec_dwGood_ok k) (TableOk.cons (spec_dwText_ok k) TableOk.nil)) X hX) (Nat.le_of_ble_eq_true (by kernel_rfl)) (fun ⟨p0, _⟩ y h => by rw [← h]; exact spec_DrawersText_run k p0)
noncomputable def spec_l1Cur_spoilt_l1_b (k : Nat) (p2 : ByteArray) (rec : ((List Int) × Int × Int × Unit) → ByteArray → Int → Option ((((List Int) × Int × Int × Unit) × ByteArray × Unit) ⊕ ((ByteArray × Unit) × (((List Int) × Int × Int × Unit) × Unit)))) (x0 : ((List Int) × Int × Int × Unit)) (x1 : ByteArray) (x7 : Int) : Option ((((List Int) × Int × Int × Unit) × ByteArray × Unit) ⊕ ((ByteArray × Unit) × (((List Int) × Int × Int × Unit) × Unit))) :=
  (met (cond (decide (x7 > 0)) (some (.inl ((x0.1, x0.2.1, x0.2.2.1, ()), (decide (((ByteArray.size x1 : Nat) : Int) > 0)), ()))) (some (.inl ((x0.1, x0.2.1, x0.2.2.1, ()), false, ())))) (fun j2 => (cond j2.2.1 (met (Option.bind (spec_l1Cur_pick_f k (j2.1.1, j2.1.2.1, j2.1.2.2.1, ()) ((ByteArray.size x1 : Nat) : Int)) (fun y25 => (Option.bind (spec_l1Cur_pick_f k (y25.2.1.1, y25.2.1.2.1, y25.2.1.2.2.1, ()) ((ByteArray.size p2 : Nat) : Int)) (fun y30 => (ixk y30.1.1 (ByteArray.size p2) (Option.bind (spec_l1Cur_pick_f k (y30.2.1.1, y30.2.1.2.1, y30.2.1.2.2.1, ()) 3) (fun y35 => (met (met (cond (y35.1.1 == 0) (chk (decide (0 ≤ y25.1.1)) (chk (decide (y25.1.1 ≤ ((ByteArray.size x1 : Nat) : Int))) (chk (decide ((ByteArray.extract x1 0 (Int.toNat y25.1.1)).size + (strOfNums [(byteAt p2 y30.1.1)]).size ≤ 9223372036854775807)) (chk (decide (0 ≤ y25.1.1)) (chk (decide (y25.1.1 ≤ ((ByteArray.size x1 : Nat) : Int))) (chk (decide (((ByteArray.extract x1 0 (Int.toNat y25.1.1)) ++ (strOfNums [(byteAt p2 y30.1.1)])).size + (ByteArray.extract x1 (Int.toNat y25.1.1) (ByteArray.size x1)).size ≤ 9223372036854775807)) (some (.inl ((y35.2.1.1, y35.2.1.2.1, y35.2.1.2.2.1, ()), (((ByteArray.extract x1 0 (Int.toNat y25.1.1)) ++ (strOfNums [(byteAt p2 y30.1.1)])) ++ (ByteArray.extract x1 (Int.toNat y25.1.1) (ByteArray.size x1))), ()))))))))) (met (cond (y35.1.1 == 1) (chk (decide (0 ≤ y25.1.1)) (chk (decide (y25.1.1 ≤ ((ByteArray.size x1 : Nat) : Int))) (chk (decide ((ByteArray.extract x1 0 (Int.toNat y25.1.1)).size + (strOfNums [(byteAt p2 y30.1.1)]).size ≤ 9223372036854775807)) (chk (decide (0 ≤ (iw (y25.1.1 + 1)))) (chk (decide ((iw (y25.1.1 + 1)) ≤ ((ByteArray.size x1 : Nat) : Int))) (chk (decide (((ByteArray.extract x1 0 (Int.toNat y25.1.1)) ++ (strOfNums [(byteAt p2 y30.1.1)])).size + (ByteArray.extract x1 (Int.toNat (iw (y25.1.1 + 1))) (ByteArray.size x1)).size ≤ 9223372036854775807)) (some (.inl ((y35.2.1.1, y35.2.1.2.1, y35.2.1.2.2.1, ()), (((ByteArray.extract x1 0 (Int.toNat y25.1.1)) ++ (strOfNums [(byteAt p2 y30.1.1)])) ++ (ByteArray.extract x1 (Int.toNat (iw (y25.1.1 + 1))) (ByteArray.size x1))), ()))))))))) (chk (decide (0 ≤ y25.1.1)) (chk (decide (y25.1.1 ≤ ((ByteArray.size x1 : Nat) : Int))) (chk (decide (0 ≤ (iw (y25.1.1 + 1)))) (chk (decide ((iw (y25.1.1 + 1)) ≤ ((ByteArray.size x1 : Nat) : Int))) (chk (decide ((ByteArray.extract x1 0 (Int.toNat y25.1.1)).size + (ByteArray.extract x1 (Int.toNat (iw (y25.1.1 + 1))) (ByteArray.size x1)).size ≤ 9223372036854775807)) (some (.inl ((y35.2.1.1, y35.2.1.2.1, y35.2.1.2.2.1, ()), ((ByteArray.extract x1 0 (Int.toNat y25.1.1)) ++ (ByteArray.extract x1 (Int.toNat (iw (y25.1.1 + 1))) (ByteArray.size x1))), ()))))))))) (fun j3 => (some (.inl ((j3.1.1, j3.1.2.1, j3.1.2.2.1, ()), j3.2.1, ())))))) (fun j4 => (some (.inl ((j4.1.1, j4.1.2.1, j4.1.2.2.1, ()), j4.2.1, ()))))) (fun j5 => (some (.inl ((j5.1.1, j5.1.2.1, j5.1.2.2.1, ()), j5.2.1, ())))))))))))) (fun j6 => (rec (j6.1.1, j6.1.2.1, j6.1.2.2.1, ()) j6.2.1 (iw (x7 - 1))))) (some (.inl ((j2.1.1, j2.1.2.1, j2.1.2.2.1, ()), x1, ()))))))
noncomputable def spec_l1Cur_spoilt_l1 (k : Nat) (p2 : ByteArray) (x0 : ((List Int) × Int × Int × Unit)) (x1 : ByteArray) (x7 : Int) : Option ((((List Int) × Int × Int × Unit) × ByteArray × Unit) ⊕ ((ByteArray × Unit) × (((List Int) × Int × Int × Unit) × Unit))) := iter k (fun (rec : (((List Int) × Int × Int × Unit) × ByteArray × Int × Unit) → Option ((((List Int) × Int × Int × Unit) × ByteArray × Unit) ⊕ ((ByteArray × Unit) × (((List Int) × Int × Int × Unit) × Unit)))) (x : (((List Int) × Int × Int × Unit) × ByteArray × Int × Unit)) => spec_l1Cur_spoilt_l1_b k p2 (fun x0 x1 x7 => rec (x0, x1, x7, ())) x.1 x.2.1 x.2.2.1) (x0, x1, x7, ())
noncomputable def spec_l1Cur_spoilt_f (k : Nat) (p0 : ((List Int) × Int × Int × Unit)) (p1 : ByteArray) (p2 : ByteArray) : Option ((ByteArray × Unit) × (((List Int) × Int × Int × Unit) × Unit)) :=
  (Option.bind (spec_l1Cur_pick_f k (p0.1, p0.2.1, p0.2.2.1, ()) 2) (fun y11 => (met (spec_l1Cur_spoilt_l1 k p2 (y11.2.1.1, y11.2.1.2.1, y11.2.1.2.2.1, ()) p1 (iw (1 + y11.1.1))) (fun j7 => (some ((j7.2.1, ()), ((j7.1.1, j7.1.2.1, j7.1.2.2.1, ()), ())))))))
noncomputable def spec_l1Cur_spoilt_a : Ann := (.q .o (.q (.q .o (.m [(0, 3000000, .box true [.v (.slc 5 (.int .u8)), .v (.int .i64), .v (.int .u64)]), (1, 100064, .v .str)] (.l [(0, 3000000, .box true [.v (.slc 5 (.int .u8)), .v (.int .i64), .v (.int .u64)]), (1, 100064, .v .str), (7, 100448, .v (.int .i64))] (.q (.q (.r [(0, 3000000, .box true [.v (.slc 5 (.int .u8)), .v (.int .i64), .v (.int .u64)]), (19, 101216, .v .bool)]) .o) (.q (.m [(0, 3000000, .box true [.v (.slc 5 (.int .u8)), .v (.int .i64), .v (.int .u64)]), (1, 100064, .v .str)] (.q .o (.q .o (.q .o (.m [(0, 3000000, .box true [.v (.slc 5 (.int .u8)), .v (.int .i64), .v (.int .u64)]), (1, 100064, .v .str)] (.q .o (.j [(0, 3000000, .box true [.v (.slc 5 (.int .u8)), .v (.int .i64), .v (.int .u64)]), (1, 100064, .v .str)] (.e [] [9]) (.q .o (.j [(0, 3000000, .box true [.v (.slc 5 (.int .u8)), .v (.int .i64), .v (.int .u64)]), (1, 100064, .v .str)] (.e [] [10]) (.e [] [8])))))))))) .o))))) .o))
theorem spec_l1Cur_spoilt_run (k : Nat) (p0 : ((List Int) × Int × Int × Unit)) (p1 : ByteArray) (p2 : ByteArray) : funX Tryz.prog (callT [spec_l1Cur_pick_c k]) k Tryz.f99 spec_l1Cur_spoilt_a [.box true [.v (.slc 5 (.int .u8)), .v (.int .i64), .v (.int .u64)], .v .str, .v .str] [.v .str] (p0, p1, p2, ()) = spec_l1Cur_spoilt_f k p0 p1 p2 := by kernel_rfl
noncomputable def spec_l1Cur_spoilt_c (k : Nat) : Con := ⟨99, [.box true [.v (.slc 5 (.int .u8)), .v (.int .i64), .v (.int .u64)], .v .str, .v .str], [.v .str], fun x => spec_l1Cur_spoilt_f k x.1 x.2.1 x.2.2.1⟩
theorem spec_l1Cur_spoilt_ok (k : Nat) : (spec_l1Cur_spoilt_c k).Sound Tryz.prog GL := con_ok (k := k) (fn := Tryz.f99) (A := spec_l1Cur_spoilt_a) (C := callT [spec_l1Cur_pick_c k]) Tryz.func99 (by kernel_rfl) (show Tryz.f99.body = some (bodyX Tryz.f99) by rfl) (fun X hX => callT_at (TableOk.cons (spec_l1Cur_pick_ok k) TableOk.nil) X hX) (Nat.le_of_ble_eq_true (by kernel_rfl)) (fun ⟨p0, p1, p2, _⟩ y h => by rw [← h]; exact spec_l1Cur_spoilt_run k p0 p1 p2)
noncomputable def spec_DrawParseDrawers_f (k : Nat) (p0 : (List Int)) : Option ((ByteArray × Unit) × Unit) :=
  (Option.bind (spec_l1Cur_sureDrawers_f k (p0, 0, 0, ()) 4) (fun y9 => (Option.bind (spec_dwText_f k y9.1.1) (fun y10 => (Option.bind (spec_l1Cur_one_f k (y9.2.1.1, y9.2.1.2.1, y9.2.1.2.2.1, ()) 3) (fun y12 => (met (cond y12.1.1 (Option.bind (spec_l1Cur_spoilt_f k (y12.2.1.1, y12.2.1.2.1, y12.2.1.2.2.1, ()) y10.1.1 (lit [48, 49, 50, 53, 47, 59, 120])) (fun y15 => (some (.inl (y15.1.1, ()))))) (some (.inl (y10.1.1, ())))) (fun j1 => (some ((j1.1, ()), ()))))))))))
noncomputable def spec_DrawParseDrawers_a : Ann := (.q .o (.q .o (.q .o (.q (.q .o (.j [(4, 100256, .v .str)] .o .o)) .o))))
theorem spec_DrawParseDrawers_run (k : Nat) (p0 : (List Int)) : funX Tryz.prog (callT [spec_l1Cur_sureDrawers_c k, spec_dwText_c k, spec_l1Cur_one_c k, spec_l1Cur_spoilt_c k]) k Tryz.f63 spec_DrawParseDrawers_a [.v (.slc 5 (.int .u8))] [.v .str] (p0, ()) = spec_DrawParseDrawers_f k p0 := by kernel_rfl
noncomputable def spec_DrawParseDrawers_c (k : Nat) : Con := ⟨63, [.v (.slc 5 (.int .u8))], [.v .str], fun x => spec_DrawParseDrawers_f k x.1⟩
theorem spec_DrawParseDrawers_ok (k : Nat) : (spec_DrawParseDrawers_c k).Sound Tryz.prog GL := con_ok (k := k) (fn := Tryz.f63) (A := spec_DrawParseDrawers_a) (C := callT [spec_l1Cur_sureDrawers_c k, spec_dwText_c k, spec_l1Cur_one_c k, spec_l1Cur_spoilt_c k]) Tryz.func63 (by kernel_rfl) (show Tryz.f63.body = some (bodyX Tryz.f63) by rfl) (fun X hX => callT_at (TableOk.cons (spec_l1Cur_sureDrawers_ok k) (TableOk.cons (spec_dwText_ok k) (TableOk.cons (spec_l1Cur_one_ok k) (TableOk.cons (spec_l1Cur_spoilt_ok k) TableOk.nil)))) X hX) (Nat.le_of_ble_eq_true (by kernel_rfl)) (fun ⟨p0, _⟩ y h => by rw [← h]; exact spec_DrawParseDrawers_run k p0)
noncomputable def strings_Split_f (k : Nat) (p0 : ByteArray) (p1 : ByteArray) : Option (((List ByteArray) × Unit) × Unit) := (splitL p0 p1).map fun l => ((l, ()), ())
noncomputable def strings_Split_c (k : Nat) : Con := ⟨128, [.v .str, .v .str], [.own false 9 .str], fun x => (splitL x.1 x.2.1).map fun l => ((l, ()), ())⟩
theorem strings_Split_ok (k : Nat) : (strings_Split_c k).Sound Tryz.prog GL := split_leaf (k := 0) (by decide) ⟨Tryz.f128, Tryz.func128, by kernel_rfl, by rfl⟩ (fun s sep m w h1 h2 h3 => lay_strings_Split s sep m w h1 h2 h3)
noncomputable def strings_Cut_f (k : Nat) (p0 : ByteArray) (p1 : ByteArray) : Option ((ByteArray × ByteArray × Bool × Unit) × Unit) := (cutL p0 p1).map fun y => (y, ())
noncomputable def strings_Cut_c (k : Nat) : Con := ⟨87, [.v .str, .v .str], [.v .str, .v .str, .v .bool], fun x => (cutL x.1 x.2.1).map fun y => (y, ())⟩
theorem strings_Cut_ok (k : Nat) : (strings_Cut_c k).Sound Tryz.prog GL := cut_leaf (k := 0) (by decide) ⟨Tryz.f87, Tryz.func87, by kernel_rfl, by rfl⟩ (fun s sep m w h1 h2 => lay_strings_Cut s sep m w h1 h2)
noncomputable def strings_Trim_f (k : Nat) (p0 : ByteArray) (p1 : ByteArray) : Option ((ByteArray × Unit) × Unit) := (trimL p0 p1).map fun y => (y, ())
noncomputable def strings_Trim_c (k : Nat) : Con := ⟨138, [.v .str, .v .str], [.v .str], fun x => (trimL x.1 x.2.1).map fun y => (y, ())⟩
theorem strings_Trim_ok (k : Nat) : (strings_Trim_c k).Sound Tryz.prog GL := trim_leaf ⟨Tryz.f138, Tryz.func138, by kernel_rfl, by rfl⟩ (fun s c w h1 h2 h3 => lay_strings_Trim_laid s c w h1 h2 h3)
noncomputable def strconv_Atoi_f (k : Nat) (p0 : ByteArray) : Option ((Int × Unit × Unit) × Unit) := (atoiL p0).map fun y => (y, ())
noncomputable def strconv_Atoi_c (k : Nat) : Con := ⟨139, [.v .str], [.v (.int .i64), .nilI], fun x => (atoiL x.1).map fun y => (y, ())⟩
theorem strconv_Atoi_ok (k : Nat) : (strconv_Atoi_c k).Sound Tryz.prog GL := atoi_leaf (t := 5) ⟨Tryz.f139, Tryz.func139, by kernel_rfl, by rfl⟩ (fun s h1 v h2 w => lay_strconv_Atoi_ok s h1 v h2 w)
noncomputable def impl_number_f (k : Nat) (p0 : ByteArray) (p1 : Int) : Option ((Int × Bool × Unit) × Unit) :=
  (met (Option.bind (impl_within_f k ((ByteArray.size p0 : Nat) : Int) 1 p1) (fun y11 => (cond (!y11.1.1) (some (.inl (true, ()))) (Option.bind (strings_Trim_f k p0 (lit [48, 49, 50, 51, 52, 53, 54, 55, 56, 57])) (fun y15 => (cond (!(y15.1.1.toList == ByteArray.empty.toList)) (some (.inl (true, ()))) (chk (decide ((0 : Int) < ((ByteArray.size p0 : Nat) : Int))) (cond ((byteAt p0 0) == 48) (some (.inl ((decide (((ByteArray.size p0 : Nat) : Int) > 1)), ()))) (some (.inl (false, ()))))))))))) (fun j1 => (cond j1.1 (some ((0, false, ()), ())) (Option.bind (strconv_Atoi_f k p0) (fun y30 => (some ((y30.1.1, true, ()), ())))))))
noncomputable def impl_number_a : Ann := (.q .o (.q (.q (.r [(27, 101728, .v .bool)]) .o) (.q .o (.q (.e [] [4]) .o))))
theorem impl_number_run (k : Nat) (p0 : ByteArray) (p1 : Int) : funX Tryz.prog (callT [impl_within_c k, strings_Trim_c k, strconv_Atoi_c k]) k Tryz.f88 impl_number_a [.v .str, .v (.int .i64)] [.v (.int .i64), .v .bool] (p0, p1, ()) = impl_number_f k p0 p1 := by kernel_rfl
noncomputable def impl_number_c (k : Nat) : Con := ⟨88, [.v .str, .v (.int .i64)], [.v (.int .i64), .v .bool], fun x => impl_number_f k x.1 x.2.1⟩
theorem impl_number_ok (k : Nat) : (impl_number_c k).Sound Tryz.prog GL := con_ok (k := k) (fn := Tryz.f88) (A := impl_number_a) (C := callT [impl_within_c k, strings_Trim_c k, strconv_Atoi_c k]) Tryz.func88 (by kernel_rfl) (show Tryz.f88.body = some (bodyX Tryz.f88) by rfl) (fun X hX => callT_at (TableOk.cons (impl_within_ok k) (TableOk.cons (strings_Trim_ok k) (TableOk.cons (strconv_Atoi_ok k) TableOk.nil))) X hX) (Nat.le_of_ble_eq_true (by kernel_rfl)) (fun ⟨p0, p1, _⟩ y h => by rw [← h]; exact impl_number_run k p0 p1)
noncomputable def impl_ParseDrawers_l1_b (k : Nat) (y19 : (((List ByteArray) × Unit) × Unit)) (rec : (List (Int × Int)) → (List ByteArray) → Int → Option (((List (Int × Int)) × Unit) ⊕ (((List (Int × Int)) × Bool × Unit) × Unit))) (x4 : (List (Int × Int))) (x19 : (List ByteArray)) (x21 : Int) : Option (((List (Int × Int)) × Unit) ⊕ (((List (Int × Int)) × Bool × Unit) × Unit)) :=
  (cond (decide (x21 < ((List.length y19.1.1 : Nat) : Int))) (ixk x21 (List.length x19) (Option.bind (strings_Cut_f k (rdG ByteArray.empty x19 x21) (lit [47])) (fun y27 => (Option.bind (impl_number_f k y27.1.1 2) (fun y33 => (Option.bind (impl_number_f k y27.1.2.1 2) (fun y38 => (met (cond (!y33.1.2.1) (some (.inl (x4, true, ()))) (some (.inl (x4, (!y38.1.2.1), ())))) (fun j2 => (cond j2.2.1 (some (.inr (([], false, ()), ()))) (chk (decide (List.length j2.1 + List.length [(y33.1.1, y38.1.1)] ≤ 8278675785607)) (rec (j2.1 ++ [(y33.1.1, y38.1.1)]) x19 (iw (x21 + 1)))))))))))))) (some (.inl (x4, ()))))
noncomputable def impl_ParseDrawers_l1 (k : Nat) (y19 : (((List ByteArray) × Unit) × Unit)) (x4 : (List (Int × Int))) (x19 : (List ByteArray)) (x21 : Int) : Option (((List (Int × Int)) × Unit) ⊕ (((List (Int × Int)) × Bool × Unit) × Unit)) := iter k (fun (rec : ((List (Int × Int)) × (List ByteArray) × Int × Unit) → Option (((List (Int × Int)) × Unit) ⊕ (((List (Int × Int)) × Bool × Unit) × Unit))) (x : ((List (Int × Int)) × (List ByteArray) × Int × Unit)) => impl_ParseDrawers_l1_b k y19 (fun x4 x19 x21 => rec (x4, x19, x21, ())) x.1 x.2.1 x.2.2.1) (x4, x19, x21, ())
noncomputable def impl_ParseDrawers_f (k : Nat) (p0 : ByteArray) : Option (((List (Int × Int)) × Bool × Unit) × Unit) :=
  (cond (decide (((ByteArray.size p0 : Nat) : Int) > 48)) (some (([], false, ()), ())) (Option.bind (strings_Split_f k p0 (lit [59])) (fun y19 => (met (impl_ParseDrawers_l1 k y19 [] y19.1.1 0) (fun j3 => (Option.bind (impl_AreDrawers_f k j3.1) (fun y55 => (cond (!y55.1.1) (some (([], false, ()), ())) (some ((j3.1, true, ()), ()))))))))))
noncomputable def impl_ParseDrawers_a : Ann := (.q .o (.q .o (.q .o (.q (.q .o (.m [(4, 100256, .own false 57 (.pr (.int .i64) (.int .i64)))] (.l [(4, 100256, .own false 57 (.pr (.int .i64) (.int .i64))), (19, 101216, .v (.slc 9 .str)), (21, 101344, .v (.int .i64))] (.q .o (.q .o (.q (.b (.q .o (.q .o (.q .o (.q .o (.q (.q (.r [(4, 100256, .own false 57 (.pr (.int .i64) (.int .i64))), (46, 102944, .v .bool)]) .o) .o)))))) .o)))))) .o))))
theorem impl_ParseDrawers_run (k : Nat) (p0 : ByteArray) : funX Tryz.prog (callT [strings_Split_c k, strings_Cut_c k, impl_number_c k, impl_AreDrawers_c k]) k Tryz.f64 impl_ParseDrawers_a [.v .str] [.own false 57 (.pr (.int .i64) (.int .i64)), .v .bool] (p0, ()) = impl_ParseDrawers_f k p0 := by kernel_rfl
noncomputable def impl_ParseDrawers_c (k : Nat) : Con := ⟨64, [.v .str], [.own false 57 (.pr (.int .i64) (.int .i64)), .v .bool], fun x => impl_ParseDrawers_f k x.1⟩
theorem impl_ParseDrawers_ok (k : Nat) : (impl_ParseDrawers_c k).Sound Tryz.prog GL := con_ok (k := k) (fn := Tryz.f64) (A := impl_ParseDrawers_a) (C := callT [strings_Split_c k, strings_Cut_c k, impl_number_c k, impl_AreDrawers_c k]) Tryz.func64 (by kernel_rfl) (show Tryz.f64.body = some (bodyX Tryz.f64) by rfl) (fun X hX => callT_at (TableOk.cons (strings_Split_ok k) (TableOk.cons (strings_Cut_ok k) (TableOk.cons (impl_number_ok k) (TableOk.cons (impl_AreDrawers_ok k) TableOk.nil)))) X hX) (Nat.le_of_ble_eq_true (by kernel_rfl)) (fun ⟨p0, _⟩ y h => by rw [← h]; exact impl_ParseDrawers_run k p0)
noncomputable def spec_l1Split_l1_b (k : Nat) (p0 : ByteArray) (p1 : Int) (rec : (List ByteArray) → Int → Int → Option (((List ByteArray) × Int × Unit) ⊕ (((List ByteArray) × Unit) × Unit))) (x5 : (List ByteArray)) (x6 : Int) (x7 : Int) : Option (((List ByteArray) × Int × Unit) ⊕ (((List ByteArray) × Unit) × Unit)) :=
  (cond (decide (x7 < ((ByteArray.size p0 : Nat) : Int))) (met (ixk x7 (ByteArray.size p0) (met (cond ((byteAt p0 x7) == p1) (chk (decide (0 ≤ x7)) (chk (decide (x7 ≤ ((ByteArray.size p0 : Nat) : Int))) (chk (decide (0 ≤ x6)) (chk (decide (x6 ≤ x7)) (chk (decide (List.length x5 + List.length [(ByteArray.extract p0 (Int.toNat x6) (Int.toNat x7))] ≤ 8278675785607)) (some (.inl ((x5 ++ [(ByteArray.extract p0 (Int.toNat x6) (Int.toNat x7))]), (iw (x7 + 1)), ())))))))) (some (.inl (x5, x6, ())))) (fun j2 => (some (.inl (j2.1, j2.2.1, ())))))) (fun j3 => (rec j3.1 j3.2.1 (iw (x7 + 1))))) (some (.inl (x5, x6, ()))))
noncomputable def spec_l1Split_l1 (k : Nat) (p0 : ByteArray) (p1 : Int) (x5 : (List ByteArray)) (x6 : Int) (x7 : Int) : Option (((List ByteArray) × Int × Unit) ⊕ (((List ByteArray) × Unit) × Unit)) := iter k (fun (rec : ((List ByteArray) × Int × Int × Unit) → Option (((List ByteArray) × Int × Unit) ⊕ (((List ByteArray) × Unit) × Unit))) (x : ((List ByteArray) × Int × Int × Unit)) => spec_l1Split_l1_b k p0 p1 (fun x5 x6 x7 => rec (x5, x6, x7, ())) x.1 x.2.1 x.2.2.1) (x5, x6, x7, ())
noncomputable def spec_l1Split_f (k : Nat) (p0 : ByteArray) (p1 : Int) : Option (((List ByteArray) × Unit) × Unit) :=
  (met (spec_l1Split_l1 k p0 p1 [] 0 0) (fun j4 => (chk (decide (0 ≤ j4.2.1)) (chk (decide (j4.2.1 ≤ ((ByteArray.size p0 : Nat) : Int))) (chk (decide (List.length j4.1 + List.length [(ByteArray.extract p0 (Int.toNat j4.2.1) (ByteArray.size p0))] ≤ 8278675785607)) (some (((j4.1 ++ [(ByteArray.extract p0 (Int.toNat j4.2.1) (ByteArray.size p0))]), ()), ())))))))
noncomputable def spec_l1Split_a : Ann := (.q .o (.q .o (.q .o (.q (.q .o (.m [(5, 100320, .own false 9 .str), (6, 100384, .v (.int .i64))] (.l [(5, 100320, .own false 9 .str), (6, 100384, .v (.int .i64)), (7, 100448, .v (.int .i64))] (.q .o (.q (.m [(5, 100320, .own false 9 .str), (6, 100384, .v (.int .i64))] (.q .o (.j [(5, 100320, .own false 9 .str), (6, 100384, .v (.int .i64))] .o .o))) .o))))) .o))))
theorem spec_l1Split_run (k : Nat) (p0 : ByteArray) (p1 : Int) : funX Tryz.prog (callT []) k Tryz.f129 spec_l1Split_a [.v .str, .v (.int .u8)] [.own false 9 .str] (p0, p1, ()) = spec_l1Split_f k p0 p1 := by kernel_rfl
noncomputable def spec_l1Split_c (k : Nat) : Con := ⟨129, [.v .str, .v (.int .u8)], [.own false 9 .str], fun x => spec_l1Split_f k x.1 x.2.1⟩
theorem spec_l1Split_ok (k : Nat) : (spec_l1Split_c k).Sound Tryz.prog GL := con_ok (k := k) (fn := Tryz.f129) (A := spec_l1Split_a) (C := callT []) Tryz.func129 (by kernel_rfl) (show Tryz.f129.body = some (bodyX Tryz.f129) by rfl) (fun X hX => callT_at TableOk.nil X hX) (Nat.le_of_ble_eq_true (by kernel_rfl)) (fun ⟨p0, p1, _⟩ y h => by rw [← h]; exact spec_l1Split_run k p0 p1)
noncomputable def spec_l1Read_l2_b (k : Nat) (p0 : ByteArray) (rec : Int → Int → Option ((Int × Unit) ⊕ ((Int × Unit) × Unit))) (x3 : Int) (x4 : Int) : Option ((Int × Unit) ⊕ ((Int × Unit) × Unit)) :=
  (cond (decide (x4 < ((ByteArray.size p0 : Nat) : Int))) (met (ixk x4 (ByteArray.size p0) (cond (decide ((byteAt p0 x4) < 48)) (some (.inl (true, ()))) (ixk x4 (ByteArray.size p0) (some (.inl ((decide ((byteAt p0 x4) > 57)), ())))))) (fun j3 => (cond j3.1 (some (.inr (((-1), ()), ()))) (ixk x4 (ByteArray.size p0) (rec (iw ((iw (10 * x3)) + (iw ((IntKind.wrap .u8 ((byteAt p0 x4) - 48)))))) (iw (x4 + 1))))))) (some (.inl (x3, ()))))
noncomputable def spec_l1Read_l2 (k : Nat) (p0 : ByteArray) (x3 : Int) (x4 : Int) : Option ((Int × Unit) ⊕ ((Int × Unit) × Unit)) := iter k (fun (rec : (Int × Int × Unit) → Option ((Int × Unit) ⊕ ((Int × Unit) × Unit))) (x : (Int × Int × Unit)) => spec_l1Read_l2_b k p0 (fun x3 x4 => rec (x3, x4, ())) x.1 x.2.1) (x3, x4, ())
noncomputable def spec_l1Read_f (k : Nat) (p0 : ByteArray) : Option ((Int × Unit) × Unit) :=
  (met (Option.bind (spec_l1In_f k ((ByteArray.size p0 : Nat) : Int) 1 6) (fun y7 => (cond (!y7.1.1) (some (.inl (true, ()))) (chk (decide ((0 : Int) < ((ByteArray.size p0 : Nat) : Int))) (cond ((byteAt p0 0) == 48) (some (.inl ((decide (((ByteArray.size p0 : Nat) : Int) > 1)), ()))) (some (.inl (false, ())))))))) (fun j1 => (cond j1.1 (some (((-1), ()), ())) (met (spec_l1Read_l2 k p0 0 0) (fun j4 => (some ((j4.1, ()), ())))))))
noncomputable def spec_l1Read_a : Ann := (.q .o (.q (.q (.r [(18, 101152, .v .bool)]) .o) (.q .o (.q (.q .o (.m [(3, 100192, .v (.int .i64))] (.l [(3, 100192, .v (.int .i64)), (4, 100256, .v (.int .i64))] (.q .o (.q (.b (.q (.q (.r [(34, 102176, .v .bool)]) .o) .o)) .o))))) .o))))
theorem spec_l1Read_run (k : Nat) (p0 : ByteArray) : funX Tryz.prog (callT [spec_l1In_c k]) k Tryz.f130 spec_l1Read_a [.v .str] [.v (.int .i64)] (p0, ()) = spec_l1Read_f k p0 := by kernel_rfl
noncomputable def spec_l1Read_c (k : Nat) : Con := ⟨130, [.v .str], [.v (.int .i64)], fun x => spec_l1Read_f k x.1⟩
theorem spec_l1Read_ok (k : Nat) : (spec_l1Read_c k).Sound Tryz.prog GL := con_ok (k := k) (fn := Tryz.f130) (A := spec_l1Read_a) (C := callT [spec_l1In_c k]) Tryz.func130 (by kernel_rfl) (show Tryz.f130.body = some (bodyX Tryz.f130) by rfl) (fun X hX => callT_at (TableOk.cons (spec_l1In_ok k) TableOk.nil) X hX) (Nat.le_of_ble_eq_true (by kernel_rfl)) (fun ⟨p0, _⟩ y h => by rw [← h]; exact spec_l1Read_run k p0)
noncomputable def spec_ParseDrawers_l1_b (k : Nat) (y12 : (((List ByteArray) × Unit) × Unit)) (rec : (List (Int × Int)) → (List ByteArray) → Int → Option (((List (Int × Int)) × Unit) ⊕ (((List (Int × Int)) × Bool × Unit) × Unit))) (x4 : (List (Int × Int))) (x12 : (List ByteArray)) (x14 : Int) : Option (((List (Int × Int)) × Unit) ⊕ (((List (Int × Int)) × Bool × Unit) × Unit)) :=
  (cond (decide (x14 < ((List.length y12.1.1 : Nat) : Int))) (ixk x14 (List.length x12) (Option.bind (spec_l1Split_f k (rdG ByteArray.empty x12 x14) 47) (fun y19 => (cond (((List.length y19.1.1 : Nat) : Int) != 2) (some (.inr (([], false, ()), ()))) (met (chk (decide ((0 : Int) < ((List.length y19.1.1 : Nat) : Int))) (chk (decide (1 < ((List.length y19.1.1 : Nat) : Int))) (andX ((fun q => andX q q) (Option.bind (spec_l1Read_f k (rdG ByteArray.empty y19.1.1 0)) (fun y27 => (Option.bind (spec_l1Read_f k (rdG ByteArray.empty y19.1.1 1)) (fun y31 => (chk (decide (List.length x4 + List.length [(y27.1.1, y31.1.1)] ≤ 8278675785607)) (some (.inl ((x4 ++ [(y27.1.1, y31.1.1)]), ()))))))))) (Option.bind (spec_l1Read_f k (rdG ByteArray.empty y19.1.1 0)) (fun y27_2 => (Option.bind (spec_l1Read_f k (rdG ByteArray.empty y19.1.1 1)) (fun y31_2 => (chk (decide (List.length x4 + List.length [(y27_2.1.1, y31_2.1.1)] ≤ 8278675785607)) (some (.inl ((x4 ++ [(y27_2.1.1, y31_2.1.1)]), ()))))))))))) (fun j2 => (rec j2.1 x12 (iw (x14 + 1))))))))) (some (.inl (x4, ()))))
noncomputable def spec_ParseDrawers_l1 (k : Nat) (y12 : (((List ByteArray) × Unit) × Unit)) (x4 : (List (Int × Int))) (x12 : (List ByteArray)) (x14 : Int) : Option (((List (Int × Int)) × Unit) ⊕ (((List (Int × Int)) × Bool × Unit) × Unit)) := iter k (fun (rec : ((List (Int × Int)) × (List ByteArray) × Int × Unit) → Option (((List (Int × Int)) × Unit) ⊕ (((List (Int × Int)) × Bool × Unit) × Unit))) (x : ((List (Int × Int)) × (List ByteArray) × Int × Unit)) => spec_ParseDrawers_l1_b k y12 (fun x4 x12 x14 => rec (x4, x12, x14, ())) x.1 x.2.1 x.2.2.1) (x4, x12, x14, ())
noncomputable def spec_ParseDrawers_f (k : Nat) (p0 : ByteArray) : Option (((List (Int × Int)) × Bool × Unit) × Unit) :=
  (cond (decide (((ByteArray.size p0 : Nat) : Int) > 48)) (some (([], false, ()), ())) (Option.bind (spec_l1Split_f k p0 59) (fun y12 => (met (spec_ParseDrawers_l1 k y12 [] y12.1.1 0) (fun j3 => (met (Option.bind (spec_dwGood_f k j3.1) (fun y37 => (cond (!y37.1.1) (some (.inl (j3.1, true, ()))) (Option.bind (spec_dwText_f k j3.1) (fun y41 => (some (.inl (j3.1, (!(y41.1.1.toList == p0.toList)), ())))))))) (fun j4 => (cond j4.2.1 (some (([], false, ()), ())) (some ((j4.1, true, ()), ()))))))))))
noncomputable def spec_ParseDrawers_a : Ann := (.q .o (.q .o (.q .o (.q (.q .o (.m [(4, 100256, .own false 57 (.pr (.int .i64) (.int .i64)))] (.l [(4, 100256, .own false 57 (.pr (.int .i64) (.int .i64))), (12, 100768, .v (.slc 9 .str)), (14, 100896, .v (.int .i64))] (.q .o (.q .o (.q (.b (.q .o (.q .o (.q .o (.d [100256] [12] [(4, 100256, .own false 57 (.pr (.int .i64) (.int .i64)))]))))) .o)))))) (.q (.q (.r [(4, 100256, .own false 57 (.pr (.int .i64) (.int .i64))), (44, 102816, .v .bool)]) .o) .o)))))
theorem spec_ParseDrawers_run (k : Nat) (p0 : ByteArray) : funX Tryz.prog (callT [spec_l1Split_c k, spec_l1Read_c k, spec_dwGood_c k, spec_dwText_c k]) k Tryz.f65 spec_ParseDrawers_a [.v .str] [.own false 57 (.pr (.int .i64) (.int .i64)), .v .bool] (p0, ()) = spec_ParseDrawers_f k p0 := by kernel_rfl
noncomputable def spec_ParseDrawers_c (k : Nat) : Con := ⟨65, [.v .str], [.own false 57 (.pr (.int .i64) (.int .i64)), .v .bool], fun x => spec_ParseDrawers_f k x.1⟩
theorem spec_ParseDrawers_ok (k : Nat) : (spec_ParseDrawers_c k).Sound Tryz.prog GL := con_ok (k := k) (fn := Tryz.f65) (A := spec_ParseDrawers_a) (C := callT [spec_l1Split_c k, spec_l1Read_c k, spec_dwGood_c k, spec_dwText_c k]) Tryz.func65 (by kernel_rfl) (show Tryz.f65.body = some (bodyX Tryz.f65) by rfl) (fun X hX => callT_at (TableOk.cons (spec_l1Split_ok k) (TableOk.cons (spec_l1Read_ok k) (TableOk.cons (spec_dwGood_ok k) (TableOk.cons (spec_dwText_ok k) TableOk.nil)))) X hX) (Nat.le_of_ble_eq_true (by kernel_rfl)) (fun ⟨p0, _⟩ y h => by rw [← h]; exact spec_ParseDrawers_run k p0)
noncomputable def laws_mDrawers_l1_b (k : Nat) (p0 : (List (Int × Int))) (p1 : (List (Int × Int))) (rec : Int → Option (Unit ⊕ ((Bool × Unit) × Unit))) (x13 : Int) : Option (Unit ⊕ ((Bool × Unit) × Unit)) :=
  (cond (decide (x13 < ((List.length p0 : Nat) : Int))) (ixk x13 (List.length p0) (ixk x13 (List.length p1) (cond (!(((rdG (0, 0) p0 x13).1 == (rdG (0, 0) p1 x13).1) && (((rdG (0, 0) p0 x13).2 == (rdG (0, 0) p1 x13).2) && true))) (some (.inr ((false, ()), ()))) (rec (iw (x13 + 1)))))) (some (.inl ())))
noncomputable def laws_mDrawers_l1 (k : Nat) (p0 : (List (Int × Int))) (p1 : (List (Int × Int))) (x13 : Int) : Option (Unit ⊕ ((Bool × Unit) × Unit)) := iter k (fun (rec : (Int × Unit) → Option (Unit ⊕ ((Bool × Unit) × Unit))) (x : (Int × Unit)) => laws_mDrawers_l1_b k p0 p1 (fun x13 => rec (x13, ())) x.1) (x13, ())
noncomputable def laws_mDrawers_f (k : Nat) (p0 : (List (Int × Int))) (p1 : (List (Int × Int))) : Option ((Bool × Unit) × Unit) :=
  (cond (((List.length p0 : Nat) : Int) != ((List.length p1 : Nat) : Int)) (some ((false, ()), ())) (met (laws_mDrawers_l1 k p0 p1 0) (fun j2 => (some ((true, ()), ())))))
noncomputable def laws_mDrawers_a : Ann := (.q .o (.q .o (.q (.q .o (.m [] (.l [(13, 100832, .v (.int .i64))] .o))) .o)))
theorem laws_mDrawers_run (k : Nat) (p0 : (List (Int × Int))) (p1 : (List (Int × Int))) : funX Tryz.prog (callT []) k Tryz.f66 laws_mDrawers_a [.v (.slc 57 (.pr (.int .i64) (.int .i64))), .v (.slc 57 (.pr (.int .i64) (.int .i64)))] [.v .bool] (p0, p1, ()) = laws_mDrawers_f k p0 p1 := by kernel_rfl
noncomputable def laws_mDrawers_c (k : Nat) : Con := ⟨66, [.v (.slc 57 (.pr (.int .i64) (.int .i64))), .v (.slc 57 (.pr (.int .i64) (.int .i64)))], [.v .bool], fun x => laws_mDrawers_f k x.1 x.2.1⟩
theorem laws_mDrawers_ok (k : Nat) : (laws_mDrawers_c k).Sound Tryz.prog GL := con_ok (k := k) (fn := Tryz.f66) (A := laws_mDrawers_a) (C := callT []) Tryz.func66 (by kernel_rfl) (show Tryz.f66.body = some (bodyX Tryz.f66) by rfl) (fun X hX => callT_at TableOk.nil X hX) (Nat.le_of_ble_eq_true (by kernel_rfl)) (fun ⟨p0, p1, _⟩ y h => by rw [← h]; exact laws_mDrawers_run k p0 p1)
noncomputable def laws_mHas_l1_b (k : Nat) (p0 : (List Int)) (p1 : Int) (rec : Int → Option (Unit ⊕ ((Bool × Unit) × Unit))) (x9 : Int) : Option (Unit ⊕ ((Bool × Unit) × Unit)) :=
  (cond (decide (x9 < ((List.length p0 : Nat) : Int))) (ixk x9 (List.length p0) (cond ((rd p0 x9) == p1) (some (.inr ((true, ()), ()))) (rec (iw (x9 + 1))))) (some (.inl ())))
noncomputable def laws_mHas_l1 (k : Nat) (p0 : (List Int)) (p1 : Int) (x9 : Int) : Option (Unit ⊕ ((Bool × Unit) × Unit)) := iter k (fun (rec : (Int × Unit) → Option (Unit ⊕ ((Bool × Unit) × Unit))) (x : (Int × Unit)) => laws_mHas_l1_b k p0 p1 (fun x9 => rec (x9, ())) x.1) (x9, ())
noncomputable def laws_mHas_f (k : Nat) (p0 : (List Int)) (p1 : Int) : Option ((Bool × Unit) × Unit) :=
  (met (laws_mHas_l1 k p0 p1 0) (fun j2 => (some ((false, ()), ()))))
noncomputable def laws_mHas_a : Ann := (.q .o (.q (.q .o (.m [] (.l [(9, 100576, .v (.int .i64))] .o))) .o))
theorem laws_mHas_run (k : Nat) (p0 : (List Int)) (p1 : Int) : funX Tryz.prog (callT []) k Tryz.f67 laws_mHas_a [.v (.slc 3 (.int .i64)), .v (.int .i64)] [.v .bool] (p0, p1, ()) = laws_mHas_f k p0 p1 := by kernel_rfl
noncomputable def laws_mHas_c (k : Nat) : Con := ⟨67, [.v (.slc 3 (.int .i64)), .v (.int .i64)], [.v .bool], fun x => laws_mHas_f k x.1 x.2.1⟩
theorem laws_mHas_ok (k : Nat) : (laws_mHas_c k).Sound Tryz.prog GL := con_ok (k := k) (fn := Tryz.f67) (A := laws_mHas_a) (C := callT []) Tryz.func67 (by kernel_rfl) (show Tryz.f67.body = some (bodyX Tryz.f67) by rfl) (fun X hX => callT_at TableOk.nil X hX) (Nat.le_of_ble_eq_true (by kernel_rfl)) (fun ⟨p0, p1, _⟩ y h => by rw [← h]; exact laws_mHas_run k p0 p1)
noncomputable def laws_FnDrawersSearched_l2_b (k : Nat) (j1 : ((List (Int × Int)) × (List Int) × Bool × Unit)) (rec : Int → Int → Int → Int → Int → Option ((Int × Int × Int × Int × Unit) ⊕ (Unit ⊕ ((Bool × Unit) × Unit)))) (x27 : Int) (x28 : Int) (x29 : Int) (x30 : Int) (x233 : Int) : Option ((Int × Int × Int × Int × Unit) ⊕ (Unit ⊕ ((Bool × Unit) × Unit))) :=
  (cond (decide (x233 < ((List.length j1.2.1 : Nat) : Int))) (ixk x233 (List.length j1.2.1) (ixk (rd j1.2.1 x233) (List.length j1.1) (Option.bind (impl_FoundAt_f k j1.1 j1.2.1 (rd j1.2.1 x233)) (fun y267 => (met (cond (!y267.1.2.1) (some (.inl (true, ()))) (some (.inl ((y267.1.1 != (iw (x27 + (rdG (0, 0) j1.1 (rd j1.2.1 x233)).2))), ())))) (fun j3 => (cond j3.1 (some (.inr (.inr ((false, ()), ())))) (rec (iw (x27 + (rdG (0, 0) j1.1 (rd j1.2.1 x233)).2)) (iw (x28 + (iw ((rdG (0, 0) j1.1 (rd j1.2.1 x233)).1 * (iw (x27 + (rdG (0, 0) j1.1 (rd j1.2.1 x233)).2)))))) (iw (x29 + (iw ((rdG (0, 0) j1.1 (rd j1.2.1 x233)).1 * (iw (x233 + 1)))))) (iw (x30 + (rdG (0, 0) j1.1 (rd j1.2.1 x233)).1)) (iw (x233 + 1)))))))))) (some (.inl (x27, x28, x29, x30, ()))))
noncomputable def laws_FnDrawersSearched_l2 (k : Nat) (j1 : ((List (Int × Int)) × (List Int) × Bool × Unit)) (x27 : Int) (x28 : Int) (x29 : Int) (x30 : Int) (x233 : Int) : Option ((Int × Int × Int × Int × Unit) ⊕ (Unit ⊕ ((Bool × Unit) × Unit))) := iter k (fun (rec : (Int × Int × Int × Int × Int × Unit) → Option ((Int × Int × Int × Int × Unit) ⊕ (Unit ⊕ ((Bool × Unit) × Unit)))) (x : (Int × Int × Int × Int × Int × Unit)) => laws_FnDrawersSearched_l2_b k j1 (fun x27 x28 x29 x30 x233 => rec (x27, x28, x29, x30, x233, ())) x.1 x.2.1 x.2.2.1 x.2.2.2.1 x.2.2.2.2.1) (x27, x28, x29, x30, x233, ())
noncomputable def laws_FnDrawersSearched_l8_b (k : Nat) (j7 : ((List (Int × Int)) × (List Int) × (List (Int × Int)) × (List Int) × (List (Int × Int)) × (List (Int × Int)) × (List (Int × Int)) × (List (Int × Int)) × Bool × Unit)) (rec : (List Int) → Int → Int → Int → Option ((Int × Int × Unit) ⊕ (Unit ⊕ ((Bool × Unit) × Unit)))) (x74 : (List Int)) (x75 : Int) (x76 : Int) (x519 : Int) : Option ((Int × Int × Unit) ⊕ (Unit ⊕ ((Bool × Unit) × Unit))) :=
  (cond (decide (x519 < ((List.length j7.1 : Nat) : Int))) (ixk x519 (List.length j7.1) (Option.bind (impl_FoundAt_f k j7.1 j7.2.1 x519) (fun y528 => (Option.bind (impl_FoundAt_f k j7.1 x74 x519) (fun y535 => (met (cond (!y528.1.2.1) (some (.inl (((rdG (0, 0) j7.1 x519).1, (rdG (0, 0) j7.1 x519).2, ()), true, ()))) (some (.inl (((rdG (0, 0) j7.1 x519).1, (rdG (0, 0) j7.1 x519).2, ()), (!y535.1.2.1), ())))) (fun j9 => (cond j9.2.1 (some (.inr (.inr ((false, ()), ())))) (rec x74 (iw (x75 + (iw (j9.1.1 * y528.1.1)))) (iw (x76 + (iw (j9.1.1 * y535.1.1)))) (iw (x519 + 1))))))))))) (some (.inl (x75, x76, ()))))
noncomputable def laws_FnDrawersSearched_l8 (k : Nat) (j7 : ((List (Int × Int)) × (List Int) × (List (Int × Int)) × (List Int) × (List (Int × Int)) × (List (Int × Int)) × (List (Int × Int)) × (List (Int × Int)) × Bool × Unit)) (x74 : (List Int)) (x75 : Int) (x76 : Int) (x519 : Int) : Option ((Int × Int × Unit) ⊕ (Unit ⊕ ((Bool × Unit) × Unit))) := iter k (fun (rec : ((List Int) × Int × Int × Int × Unit) → Option ((Int × Int × Unit) ⊕ (Unit ⊕ ((Bool × Unit) × Unit)))) (x : ((List Int) × Int × Int × Int × Unit)) => laws_FnDrawersSearched_l8_b k j7 (fun x74 x75 x76 x519 => rec (x74, x75, x76, x519, ())) x.1 x.2.1 x.2.2.1 x.2.2.2.1) (x74, x75, x76, x519, ())
noncomputable def laws_FnDrawersSearched_l12_b (k : Nat) (y343 : (((List (Int × Int)) × (List Int) × Int × Unit) × Unit)) (j7 : ((List (Int × Int)) × (List Int) × (List (Int × Int)) × (List Int) × (List (Int × Int)) × (List (Int × Int)) × (List (Int × Int)) × (List (Int × Int)) × Bool × Unit)) (rec : Int → Option (Unit ⊕ (Unit ⊕ ((Bool × Unit) × Unit)))) (x565 : Int) : Option (Unit ⊕ (Unit ⊕ ((Bool × Unit) × Unit))) :=
  (cond (decide (x565 < ((List.length j7.2.2.2.2.1 : Nat) : Int))) (ixk x565 (List.length j7.2.2.2.2.1) (chk (decide (0 ≤ y343.1.2.2.1)) (chk (decide (y343.1.2.2.1 ≤ ((List.length j7.2.2.2.1 : Nat) : Int))) (Option.bind (laws_mHas_f k (List.take (Int.toNat y343.1.2.2.1) j7.2.2.2.1) x565) (fun y574 => (met (ixk x565 (List.length j7.2.2.1) (cond ((rdG (0, 0) j7.2.2.2.2.1 x565).2 != (rdG (0, 0) j7.2.2.1 x565).2) (some (.inl (true, ()))) (cond y574.1.1 (cond ((rdG (0, 0) j7.2.2.2.2.1 x565).1 != 0) (some (.inl (true, ()))) (cond (!y574.1.1) (ixk x565 (List.length j7.2.2.1) (some (.inl (((rdG (0, 0) j7.2.2.2.2.1 x565).1 != (rdG (0, 0) j7.2.2.1 x565).1), ())))) (some (.inl (false, ()))))) (cond (!y574.1.1) (ixk x565 (List.length j7.2.2.1) (some (.inl (((rdG (0, 0) j7.2.2.2.2.1 x565).1 != (rdG (0, 0) j7.2.2.1 x565).1), ())))) (some (.inl (false, ()))))))) (fun j13 => (cond j13.1 (some (.inr (.inr ((false, ()), ())))) (rec (iw (x565 + 1))))))))))) (some (.inl ())))
noncomputable def laws_FnDrawersSearched_l12 (k : Nat) (y343 : (((List (Int × Int)) × (List Int) × Int × Unit) × Unit)) (j7 : ((List (Int × Int)) × (List Int) × (List (Int × Int)) × (List Int) × (List (Int × Int)) × (List (Int × Int)) × (List (Int × Int)) × (List (Int × Int)) × Bool × Unit)) (x565 : Int) : Option (Unit ⊕ (Unit ⊕ ((Bool × Unit) × Unit))) := iter k (fun (rec : (Int × Unit) → Option (Unit ⊕ (Unit ⊕ ((Bool × Unit) × Unit)))) (x : (Int × Unit)) => laws_FnDrawersSearched_l12_b k y343 j7 (fun x565 => rec (x565, ())) x.1) (x565, ())
noncomputable def laws_FnDrawersSearched_f (k : Nat) (p0 : (List Int)) (p1 : (List Int)) : Option ((Bool × Unit) × Unit) :=
  (Option.bind (laws_big_f k p0 p1) (fun y95 => (cond y95.1.1 (some ((true, ()), ())) (Option.bind (spec_DrawMeanSearch_f k p0) (fun y98 => (Option.bind (impl_MeanSearch_f k y98.1.1 y98.1.2.1) (fun y104 => (Option.bind (spec_MeanSearch_f k y98.1.1 y98.1.2.1) (fun y111 => (Option.bind (impl_MeanOpened_f k y98.1.1 y98.1.2.1) (fun y118 => (Option.bind (spec_MeanOpened_f k y98.1.1 y98.1.2.1) (fun y125 => (Option.bind (impl_IsSearch_f k y98.1.1 y98.1.2.1) (fun y132 => (Option.bind (spec_IsSearch_f k y98.1.1 y98.1.2.1) (fun y138 => (Option.bind (impl_MinutesForAll_f k y98.1.1) (fun y143 => (Option.bind (spec_MinutesForAll_f k y98.1.1) (fun y148 => (met (cond (!(y104.1.2.2.1 == y111.1.2.2.1)) (some (.inl (y98.1.1, y98.1.2.1, true, ()))) (cond (y104.1.1 != y111.1.1) (some (.inl (y98.1.1, y98.1.2.1, true, ()))) (cond (y104.1.2.1 != y111.1.2.1) (some (.inl (y98.1.1, y98.1.2.1, true, ()))) (cond (!(y118.1.2.2.1 == y125.1.2.2.1)) (some (.inl (y98.1.1, y98.1.2.1, true, ()))) (cond (y118.1.1 != y125.1.1) (some (.inl (y98.1.1, y98.1.2.1, true, ()))) (cond (y118.1.2.1 != y125.1.2.1) (some (.inl (y98.1.1, y98.1.2.1, true, ()))) (cond (!(y132.1.2.1 == y138.1.2.1)) (some (.inl (y98.1.1, y98.1.2.1, true, ()))) (cond (!(y132.1.1 == y138.1.1)) (some (.inl (y98.1.1, y98.1.2.1, true, ()))) (cond (!(y143.1.2.1 == y148.1.2.1)) (some (.inl (y98.1.1, y98.1.2.1, true, ()))) (cond (y143.1.1 != y148.1.1) (some (.inl (y98.1.1, y98.1.2.1, true, ()))) (cond y132.1.2.1 (cond (!(y104.1.2.2.1 == y132.1.1)) (some (.inl (y98.1.1, y98.1.2.1, true, ()))) (cond (!(y118.1.2.2.1 == y104.1.2.2.1)) (some (.inl (y98.1.1, y98.1.2.1, true, ()))) (cond (!(y132.1.2.1 == y143.1.2.1)) (some (.inl (y98.1.1, y98.1.2.1, true, ()))) (Option.bind (impl_AreDrawers_f k y98.1.1) (fun y220 => (cond (!(y143.1.2.1 == y220.1.1)) (some (.inl (y98.1.1, y98.1.2.1, true, ()))) (Option.bind (impl_AreDrawers_f k y98.1.1) (fun y225 => (Option.bind (spec_AreDrawers_f k y98.1.1) (fun y227 => (some (.inl (y98.1.1, y98.1.2.1, (!(y225.1.1 == y227.1.1)), ()))))))))))))) (cond (!(y104.1.2.2.1 == false)) (some (.inl (y98.1.1, y98.1.2.1, true, ()))) (cond (!(y118.1.2.2.1 == y104.1.2.2.1)) (some (.inl (y98.1.1, y98.1.2.1, true, ()))) (cond (!(y132.1.2.1 == y143.1.2.1)) (some (.inl (y98.1.1, y98.1.2.1, true, ()))) (Option.bind (impl_AreDrawers_f k y98.1.1) (fun y220_1 => (cond (!(y143.1.2.1 == y220_1.1.1)) (some (.inl (y98.1.1, y98.1.2.1, true, ()))) (Option.bind (impl_AreDrawers_f k y98.1.1) (fun y225_1 => (Option.bind (spec_AreDrawers_f k y98.1.1) (fun y227_1 => (some (.inl (y98.1.1, y98.1.2.1, (!(y225_1.1.1 == y227_1.1.1)), ())))))))))))))))))))))))) (fun j1 => (cond j1.2.2.1 (some ((false, ()), ())) (met (cond y104.1.2.2.1 (met (laws_FnDrawersSearched_l2 k j1 0 0 0 0 0) (fun j4 => (Option.bind (impl_ChanceWithin_f k j1.1 j1.2.1 y143.1.1) (fun y282 => (met (cond (j4.1 != y143.1.1) (some (.inl (true, ()))) (Option.bind (laws_mIs_f k y104.1.1 y104.1.2.1 j4.2.1 j4.2.2.2.1) (fun y294 => (cond (!y294.1.1) (some (.inl (true, ()))) (Option.bind (laws_mIs_f k y118.1.1 y118.1.2.1 j4.2.2.1 j4.2.2.2.1) (fun y302 => (cond (!y302.1.1) (some (.inl (true, ()))) (cond (decide (y143.1.1 ≤ 1000)) (cond (!y282.1.2.2.1) (some (.inl (true, ()))) (cond (y282.1.1 != 1) (some (.inl (true, ()))) (some (.inl ((y282.1.2.1 != 1), ()))))) (some (.inl (false, ()))))))))))) (fun j5 => (cond j5.1 (some (.inr ((false, ()), ()))) (some (.inl ()))))))))) (some (.inl ()))) (fun j6 => (Option.bind (spec_DrawSwapCost_f k p1) (fun y323 => (Option.bind (impl_SwapCost_f k y323.1.1 y323.1.2.1 y323.1.2.2.1) (fun y331 => (Option.bind (spec_SwapCost_f k y323.1.1 y323.1.2.1 y323.1.2.2.1) (fun y338 => (Option.bind (spec_DrawAfterSearch_f k p1) (fun y343 => (Option.bind (impl_AfterSearch_f k y343.1.1 y343.1.2.1 y343.1.2.2.1) (fun y351 => (Option.bind (spec_AfterSearch_f k y343.1.1 y343.1.2.1 y343.1.2.2.1) (fun y358 => (Option.bind (spec_DrawAfterEmpty_f k p1) (fun y363 => (Option.bind (impl_AfterEmpty_f k y363.1.1 y363.1.2.1) (fun y369 => (Option.bind (spec_AfterEmpty_f k y363.1.1 y363.1.2.1) (fun y375 => (Option.bind (impl_ChanceIn_f k y363.1.1 y363.1.2.1) (fun y381 => (Option.bind (spec_ChanceIn_f k y363.1.1 y363.1.2.1) (fun y388 => (Option.bind (impl_DrawersText_f k y363.1.1) (fun y394 => (Option.bind (spec_DrawersText_f k y363.1.1) (fun y399 => (Option.bind (spec_DrawParseDrawers_f k p1) (fun y403 => (Option.bind (impl_ParseDrawers_f k y403.1.1) (fun y406 => (Option.bind (spec_ParseDrawers_f k y403.1.1) (fun y411 => (met (cond (!(y331.1.2.1 == y338.1.2.1)) (some (.inl (y323.1.1, y323.1.2.1, y343.1.1, y343.1.2.1, y351.1.1, y363.1.1, y369.1.1, y406.1.1, true, ()))) (cond (y331.1.1 != y338.1.1) (some (.inl (y323.1.1, y323.1.2.1, y343.1.1, y343.1.2.1, y351.1.1, y363.1.1, y369.1.1, y406.1.1, true, ()))) (cond (!(y351.1.2.1 == y358.1.2.1)) (some (.inl (y323.1.1, y323.1.2.1, y343.1.1, y343.1.2.1, y351.1.1, y363.1.1, y369.1.1, y406.1.1, true, ()))) (Option.bind (laws_mDrawers_f k y351.1.1 y358.1.1) (fun y430 => (cond (!y430.1.1) (some (.inl (y323.1.1, y323.1.2.1, y343.1.1, y343.1.2.1, y351.1.1, y363.1.1, y369.1.1, y406.1.1, true, ()))) (cond (!(y369.1.2.1 == y375.1.2.1)) (some (.inl (y323.1.1, y323.1.2.1, y343.1.1, y343.1.2.1, y351.1.1, y363.1.1, y369.1.1, y406.1.1, true, ()))) (Option.bind (laws_mDrawers_f k y369.1.1 y375.1.1) (fun y441 => (cond (!y441.1.1) (some (.inl (y323.1.1, y323.1.2.1, y343.1.1, y343.1.2.1, y351.1.1, y363.1.1, y369.1.1, y406.1.1, true, ()))) (cond (!(y381.1.2.2.1 == y388.1.2.2.1)) (some (.inl (y323.1.1, y323.1.2.1, y343.1.1, y343.1.2.1, y351.1.1, y363.1.1, y369.1.1, y406.1.1, true, ()))) (cond (y381.1.1 != y388.1.1) (some (.inl (y323.1.1, y323.1.2.1, y343.1.1, y343.1.2.1, y351.1.1, y363.1.1, y369.1.1, y406.1.1, true, ()))) (cond (y381.1.2.1 != y388.1.2.1) (some (.inl (y323.1.1, y323.1.2.1, y343.1.1, y343.1.2.1, y351.1.1, y363.1.1, y369.1.1, y406.1.1, true, ()))) (cond (!(y394.1.2.1 == y399.1.2.1)) (some (.inl (y323.1.1, y323.1.2.1, y343.1.1, y343.1.2.1, y351.1.1, y363.1.1, y369.1.1, y406.1.1, true, ()))) (cond (!(y394.1.1.toList == y399.1.1.toList)) (some (.inl (y323.1.1, y323.1.2.1, y343.1.1, y343.1.2.1, y351.1.1, y363.1.1, y369.1.1, y406.1.1, true, ()))) (cond (!(y406.1.2.1 == y411.1.2.1)) (some (.inl (y323.1.1, y323.1.2.1, y343.1.1, y343.1.2.1, y351.1.1, y363.1.1, y369.1.1, y406.1.1, true, ()))) (Option.bind (laws_mDrawers_f k y406.1.1 y411.1.1) (fun y477 => (cond (!y477.1.1) (some (.inl (y323.1.1, y323.1.2.1, y343.1.1, y343.1.2.1, y351.1.1, y363.1.1, y369.1.1, y406.1.1, true, ()))) (cond y369.1.2.1 (cond (!y381.1.2.2.1) (some (.inl (y323.1.1, y323.1.2.1, y343.1.1, y343.1.2.1, y351.1.1, y363.1.1, y369.1.1, y406.1.1, true, ()))) (cond y381.1.2.2.1 (some (.inl (y323.1.1, y323.1.2.1, y343.1.1, y343.1.2.1, y351.1.1, y363.1.1, y369.1.1, y406.1.1, (y369.1.2.1 == (y381.1.1 == y381.1.2.1)), ()))) (some (.inl (y323.1.1, y323.1.2.1, y343.1.1, y343.1.2.1, y351.1.1, y363.1.1, y369.1.1, y406.1.1, false, ()))))) (cond y381.1.2.2.1 (some (.inl (y323.1.1, y323.1.2.1, y343.1.1, y343.1.2.1, y351.1.1, y363.1.1, y369.1.1, y406.1.1, (y369.1.2.1 == (y381.1.1 == y381.1.2.1)), ()))) (some (.inl (y323.1.1, y323.1.2.1, y343.1.1, y343.1.2.1, y351.1.1, y363.1.1, y369.1.1, y406.1.1, false, ())))))))))))))))))))))))) (fun j7 => (cond j7.2.2.2.2.2.2.2.2.1 (some ((false, ()), ())) (met (cond y331.1.2.1 (chk (decide (0 + List.length j7.2.1 ≤ 15637498706147)) (ixk (iw (y323.1.2.2.1 + 1)) (List.length j7.2.1) (ixk y323.1.2.2.1 (List.length j7.2.1) (ixk y323.1.2.2.1 (List.length j7.2.1) (ixk (iw (y323.1.2.2.1 + 1)) (List.length (setI j7.2.1 y323.1.2.2.1 (rd j7.2.1 (iw (y323.1.2.2.1 + 1))))) (met (laws_FnDrawersSearched_l8 k j7 (setI (setI j7.2.1 y323.1.2.2.1 (rd j7.2.1 (iw (y323.1.2.2.1 + 1)))) (iw (y323.1.2.2.1 + 1)) (rd j7.2.1 y323.1.2.2.1)) 0 0 0) (fun j10 => (cond ((iw (j10.2.1 - j10.1)) != y331.1.1) (some (.inr ((false, ()), ()))) (some (.inl ())))))))))) (some (.inl ()))) (fun j11 => (met (cond y351.1.2.1 (met (laws_FnDrawersSearched_l12 k y343 j7 0) (fun j14 => (some (.inl ())))) (some (.inl ()))) (fun j15 => (met (cond y369.1.2.1 (Option.bind (impl_ChanceIn_f k j7.2.2.2.2.2.2.1 y363.1.2.1) (fun y610 => (met (cond (((List.length j7.2.2.2.2.2.2.1 : Nat) : Int) != ((List.length j7.2.2.2.2.2.1 : Nat) : Int)) (some (.inl (true, ()))) (cond (!y610.1.2.2.1) (some (.inl (true, ()))) (some (.inl ((y610.1.1 != 0), ()))))) (fun j16 => (cond j16.1 (some (.inr ((false, ()), ()))) (some (.inl ()))))))) (some (.inl ()))) (fun j17 => (met (cond y394.1.2.1 (Option.bind (impl_ParseDrawers_f k y394.1.1) (fun y630 => (met (cond (!y630.1.2.1) (some (.inl (true, ()))) (Option.bind (laws_mDrawers_f k y630.1.1 j7.2.2.2.2.2.1) (fun y638 => (some (.inl ((!y638.1.1), ())))))) (fun j18 => (cond j18.1 (some (.inr ((false, ()), ()))) (some (.inl ()))))))) (some (.inl ()))) (fun j19 => (cond y406.1.2.1 (Option.bind (impl_DrawersText_f k j7.2.2.2.2.2.2.2.1) (fun y644 => (met (cond y644.1.2.1 (some (.inl ((y644.1.1.toList == y403.1.1.toList), ()))) (some (.inl (false, ())))) (fun j20 => (some ((j20.1, ()), ())))))) (some ((true, ()), ()))))))))))))))))))))))))))))))))))))))))))))))))))))))))))))))))))))))))
noncomputable def laws_FnDrawersSearched_a : Ann := (.q .o (.q .o (.q .o (.q .o (.q .o (.q .o (.q .o (.q .o (.q .o (.q .o (.q .o (.q (.q (.r [(5, 100320, .v (.slc 57 (.pr (.int .i64) (.int .i64)))), (6, 100384, .v (.slc 3 (.int .i64))), (229, 114656, .v .bool)]) .o) (.q (.q .o (.j [] (.q .o (.q (.q .o (.m [(27, 101728, .v (.int .i64)), (28, 101792, .v (.int .i64)), (29, 101856, .v (.int .i64)), (30, 101920, .v (.int .i64))] (.l [(27, 101728, .v (.int .i64)), (28, 101792, .v (.int .i64)), (29, 101856, .v (.int .i64)), (30, 101920, .v (.int .i64)), (233, 114912, .v (.int .i64))] (.q .o (.q .o (.q (.b (.q .o (.q .o (.q .o (.q .o (.q .o (.q .o (.q .o (.q (.r [(276, 117664, .v .bool)]) .o))))))))) .o)))))) (.q .o (.q (.r [(320, 120480, .v .bool)]) .o)))) .o)) (.q .o (.q .o (.q .o (.q .o (.q .o (.q .o (.q .o (.q .o (.q .o (.q .o (.q .o (.q .o (.q .o (.q .o (.q .o (.q .o (.q (.q (.r [(39, 102496, .v (.slc 57 (.pr (.int .i64) (.int .i64)))), (40, 102560, .v (.slc 3 (.int .i64))), (46, 102944, .v (.slc 57 (.pr (.int .i64) (.int .i64)))), (47, 103008, .v (.slc 3 (.int .i64))), (49, 103136, .v (.slc 57 (.pr (.int .i64) (.int .i64)))), (53, 103392, .v (.slc 57 (.pr (.int .i64) (.int .i64)))), (55, 103520, .v (.slc 57 (.pr (.int .i64) (.int .i64)))), (70, 104480, .v (.slc 57 (.pr (.int .i64) (.int .i64)))), (496, 131744, .v .bool)]) .o) (.q (.q .o (.j [] (.q .o (.q .o (.q .o (.q .o (.q (.q .o (.m [(75, 104800, .v (.int .i64)), (76, 104864, .v (.int .i64))] (.l [(74, 104736, .v (.slc 3 (.int .i64))), (75, 104800, .v (.int .i64)), (76, 104864, .v (.int .i64)), (519, 133216, .v (.int .i64))] (.q .o (.q .o (.q (.b (.q .o (.q .o (.q .o (.q (.q (.r [(78, 104992, .box false [.v (.int .i64), .v (.int .i64)]), (543, 134752, .v .bool)]) .o) .o))))) .o)))))) .o))))) .o)) (.q (.q .o (.j [] (.q .o (.m [] (.l [(565, 136160, .v (.int .i64))] (.q .o (.q .o (.q (.b (.q .o (.q .o (.q (.d [] [] [(604, 138656, .v .bool)]) .o)))) .o)))))) .o)) (.q (.q .o (.j [] (.q .o (.q (.r [(626, 140064, .v .bool)]) .o)) .o)) (.q (.q .o (.j [] (.q .o (.q (.r [(640, 140960, .v .bool)]) .o)) .o)) (.q (.q .o (.c (.q .o (.q (.r [(4, 100256, .v .bool)]) .o)) .o)) .o)))))))))))))))))))))))))))))))))))
theorem laws_FnDrawersSearched_run (k : Nat) (p0 : (List Int)) (p1 : (List Int)) : funX Tryz.prog (callT [laws_big_c k, spec_DrawMeanSearch_c k, impl_MeanSearch_c k, spec_MeanSearch_c k, impl_MeanOpened_c k, spec_MeanOpened_c k, impl_IsSearch_c k, spec_IsSearch_c k, impl_MinutesForAll_c k, spec_MinutesForAll_c k, impl_AreDrawers_c k, spec_AreDrawers_c k, impl_FoundAt_c k, impl_ChanceWithin_c k, laws_mIs_c k, spec_DrawSwapCost_c k, impl_SwapCost_c k, spec_SwapCost_c k, spec_DrawAfterSearch_c k, impl_AfterSearch_c k, spec_AfterSearch_c k, spec_DrawAfterEmpty_c k, impl_AfterEmpty_c k, spec_AfterEmpty_c k, impl_ChanceIn_c k, spec_ChanceIn_c k, impl_DrawersText_c k, spec_DrawersText_c k, spec_DrawParseDrawers_c k, impl_ParseDrawers_c k, spec_ParseDrawers_c k, laws_mDrawers_c k, laws_mHas_c k]) k Tryz.f4 laws_FnDrawersSearched_a [.v (.slc 5 (.int .u8)), .v (.slc 5 (.int .u8))] [.v .bool] (p0, p1, ()) = laws_FnDrawersSearched_f k p0 p1 := by kernel_rfl
noncomputable def laws_FnDrawersSearched_c (k : Nat) : Con := ⟨4, [.v (.slc 5 (.int .u8)), .v (.slc 5 (.int .u8))], [.v .bool], fun x => laws_FnDrawersSearched_f k x.1 x.2.1⟩
theorem laws_FnDrawersSearched_ok (k : Nat) : (laws_FnDrawersSearched_c k).Sound Tryz.prog GL := con_ok (k := k) (fn := Tryz.f4) (A := laws_FnDrawersSearched_a) (C := callT [laws_big_c k, spec_DrawMeanSearch_c k, impl_MeanSearch_c k, spec_MeanSearch_c k, impl_MeanOpened_c k, spec_MeanOpened_c k, impl_IsSearch_c k, spec_IsSearch_c k, impl_MinutesForAll_c k, spec_MinutesForAll_c k, impl_AreDrawers_c k, spec_AreDrawers_c k, impl_FoundAt_c k, impl_ChanceWithin_c k, laws_mIs_c k, spec_DrawSwapCost_c k, impl_SwapCost_c k, spec_SwapCost_c k, spec_DrawAfterSearch_c k, impl_AfterSearch_c k, spec_AfterSearch_c k, spec_DrawAfterEmpty_c k, impl_AfterEmpty_c k, spec_AfterEmpty_c k, impl_ChanceIn_c k, spec_ChanceIn_c k, impl_DrawersText_c k, spec_DrawersText_c k, spec_DrawParseDrawers_c k, impl_ParseDrawers_c k, spec_ParseDrawers_c k, laws_mDrawers_c k, laws_mHas_c k]) Tryz.func4 (by kernel_rfl) (show Tryz.f4.body = some (bodyX Tryz.f4) by rfl) (fun X hX => callT_at (TableOk.cons (laws_big_ok k) (TableOk.cons (spec_DrawMeanSearch_ok k) (TableOk.cons (impl_MeanSearch_ok k) (TableOk.cons (spec_MeanSearch_ok k) (TableOk.cons (impl_MeanOpened_ok k) (TableOk.cons (spec_MeanOpened_ok k) (TableOk.cons (impl_IsSearch_ok k) (TableOk.cons (spec_IsSearch_ok k) (TableOk.cons (impl_MinutesForAll_ok k) (TableOk.cons (spec_MinutesForAll_ok k) (TableOk.cons (impl_AreDrawers_ok k) (TableOk.cons (spec_AreDrawers_ok k) (TableOk.cons (impl_FoundAt_ok k) (TableOk.cons (impl_ChanceWithin_ok k) (TableOk.cons (laws_mIs_ok k) (TableOk.cons (spec_DrawSwapCost_ok k) (TableOk.cons (impl_SwapCost_ok k) (TableOk.cons (spec_SwapCost_ok k) (TableOk.cons (spec_DrawAfterSearch_ok k) (TableOk.cons (impl_AfterSearch_ok k) (TableOk.cons (spec_AfterSearch_ok k) (TableOk.cons (spec_DrawAfterEmpty_ok k) (TableOk.cons (impl_AfterEmpty_ok k) (TableOk.cons (spec_AfterEmpty_ok k) (TableOk.cons (impl_ChanceIn_ok k) (TableOk.cons (spec_ChanceIn_ok k) (TableOk.cons (impl_DrawersText_ok k) (TableOk.cons (spec_DrawersText_ok k) (TableOk.cons (spec_DrawParseDrawers_ok k) (TableOk.cons (impl_ParseDrawers_ok k) (TableOk.cons (spec_ParseDrawers_ok k) (TableOk.cons (laws_mDrawers_ok k) (TableOk.cons (laws_mHas_ok k) TableOk.nil))))))))))))))))))))))))))))))))) X hX) (Nat.le_of_ble_eq_true (by kernel_rfl)) (fun ⟨p0, p1, _⟩ y h => by rw [← h]; exact laws_FnDrawersSearched_run k p0 p1)
end Go.Proofs.YtmhcdiiiiklplaaGreatDoorV.Law
