/- The functions that a law reaches, as plain Lean functions; each is what the run of its code comes to. Printed by a program of this session. Conditions: none. -/
import Derived.Test.YtmogbnhgelihlaaGreatDoorVaiNice
import Derived.Test.YtmogbnhgelihlaaGreatDoorVaiSeq
import Derived.RangeFuncBox
import Derived.RangeFuncLeaves
import Derived.WalkKit
import Derived.OwnWalkIn
import Derived.TacticsInMore
import Derived.LoopNIn
import Derived.LoopIn
import Derived.Shelf.Sort.Plain
import Derived.Shelf.Slices.In.SortNone
import Derived.Test.YtmogbnhgelihlaaGreatDoorVaiText
import Derived.Shelf.LaysM
import Derived.Shelf.Strconv.Itoa3
import Derived.Shelf.Strings.Cut
import Derived.Shelf.Strings.SlTrimAscii
import Derived.Lib.AtoiErrMem
import Derived.Shelf.LaysC
import Derived.Shelf.Strconv.AtoiAll
import Derived.Test.YtmogbnhgelihlaaGreatDoorProg
import Derived.KernelRfl
namespace Go.Proofs.YtmogbnhgelihlaaGreatDoorV.Law
set_option linter.unusedSimpArgs false
open Go.Proofs Go.Proofs.YtmogbnhgelihlaaGreatDoorV
open Go.Shelf Go.Sort Go.RowKit Go.Lib
set_option maxRecDepth 1000000
set_option linter.unusedVariables false
abbrev GL : List Nat := [0]
theorem iter_values_call (a : Option Addr) (n c : Nat) (w : World) : Calls Tryz.prog 128 #[.slice a n c] w fun e w' => e = .returned (.func (.func 157) #[] #[.pointer (some ⟨w.heap.size, 0, none⟩)]) ∧ w' = w.alloc (.cells #[.slice a n c] 41) := by
  have h : CallsIn Fence.wide 1 Tryz.prog 128 #[.slice a n c] w fun e w' => e = .returned (.func (.func 157) #[] #[.pointer (some ⟨w.heap.size, 0, none⟩)]) ∧ w' = w.alloc (.cells #[.slice a n c] 41) := by
    refine callsIn_of_wp Tryz.func128 rfl trivial ?_ rfl
    simp only [Tryz.ntmps128, List.size_toArray, List.length_cons, List.length_nil, Nat.reduceAdd, Nat.reduceSub, Array.replicate_succ, Array.replicate_zero, List.push_toArray, List.append_toArray, List.nil_append, List.cons_append]
    gi_wp2
    go_ret
    exact ⟨rfl, rfl⟩
  exact callsIn_wide.1 h
theorem rule_values : RuleOk Tryz.prog (valuesRule 128 157) := valuesRule_ok ⟨Tryz.f128, Tryz.func128, by kernel_rfl, by rfl⟩ iter_values_call
def lay_lays189_ren : Go.Shelf.Ren := ⟨fun | 189 => 115 | 125 => 152 | 257 => 151 | 128 => 183 | 129 => 184 | 294 => 174 | 295 => 175 | 296 => 176 | 297 => 177 | 298 => 178 | 299 => 179 | 216 => 180 | 300 => 181 | 301 => 182 | 328 => 205 | 329 => 206 | 330 => 207 | 331 => 208 | 332 => 209 | 215 => 150 | 343 => 228 | n => n, fun | 28 => 41 | 3 => 3 | 46 => 132 | 0 => 0 | 51 => 158 | 53 => 60 | 4 => 4 | 183 => 153 | 182 => 152 | 131 => 26 | 5 => 5 | 9 => 9 | 218 => 178 | 222 => 182 | 228 => 199 | 229 => 24 | n => n, fun | n => n⟩
theorem lay_lays189 : Go.Proofs.Lays.n189 Tryz.prog lay_lays189_ren := {
  mixed := by kernel_rfl
  f125 := Tryz.func152.trans (congrArg some (by kernel_rfl))
  f128 := Tryz.func183.trans (congrArg some (by kernel_rfl))
  f129 := Tryz.func184.trans (congrArg some (by kernel_rfl))
  f189 := Tryz.func115.trans (congrArg some (by kernel_rfl))
  f215 := Tryz.func150.trans (congrArg some (by kernel_rfl))
  f216 := Tryz.func180.trans (congrArg some (by kernel_rfl))
  f257 := Tryz.func151.trans (congrArg some (by kernel_rfl))
  f294 := Tryz.func174.trans (congrArg some (by kernel_rfl))
  f295 := Tryz.func175.trans (congrArg some (by kernel_rfl))
  f296 := Tryz.func176.trans (congrArg some (by kernel_rfl))
  f297 := Tryz.func177.trans (congrArg some (by kernel_rfl))
  f298 := Tryz.func178.trans (congrArg some (by kernel_rfl))
  f299 := Tryz.func179.trans (congrArg some (by kernel_rfl))
  f300 := Tryz.func181.trans (congrArg some (by kernel_rfl))
  f301 := Tryz.func182.trans (congrArg some (by kernel_rfl))
  f328 := Tryz.func205.trans (congrArg some (by kernel_rfl))
  f329 := Tryz.func206.trans (congrArg some (by kernel_rfl))
  f330 := Tryz.func207.trans (congrArg some (by kernel_rfl))
  f331 := Tryz.func208.trans (congrArg some (by kernel_rfl))
  f332 := Tryz.func209.trans (congrArg some (by kernel_rfl))
  f343 := Tryz.func228.trans (congrArg some (by kernel_rfl))
  t0 := Tryz.underlying0
  a0 := Tryz.isAgg0
  z0 := Tryz.sizeOf0
  v0 := Tryz.zeroValue0
  t3 := Tryz.underlying3
  a3 := Tryz.isAgg3
  z3 := Tryz.sizeOf3
  v3 := Tryz.zeroValue3
  t4 := Tryz.underlying4
  a4 := Tryz.isAgg4
  z4 := Tryz.sizeOf4
  v4 := Tryz.zeroValue4
  t5 := Tryz.underlying5
  a5 := Tryz.isAgg5
  z5 := Tryz.sizeOf5
  v5 := Tryz.zeroValue5
  t9 := Tryz.underlying9
  a9 := Tryz.isAgg9
  z9 := Tryz.sizeOf9
  v9 := Tryz.zeroValue9
  t28 := Tryz.underlying41
  a28 := Tryz.isAgg41
  z28 := Tryz.sizeOf41
  v28 := Tryz.zeroValue41
  t46 := Tryz.underlying132
  a46 := Tryz.isAgg132
  z46 := Tryz.sizeOf132
  v46 := Tryz.zeroValue132
  t51 := Tryz.underlying158
  a51 := Tryz.isAgg158
  z51 := Tryz.sizeOf158
  v51 := Tryz.zeroValue158
  t53 := Tryz.underlying60
  a53 := Tryz.isAgg60
  z53 := Tryz.sizeOf60
  v53 := Tryz.zeroValue60
  t131 := Tryz.underlying26
  a131 := Tryz.isAgg26
  z131 := Tryz.sizeOf26
  v131 := Tryz.zeroValue26
  t182 := Tryz.underlying152
  a182 := Tryz.isAgg152
  z182 := Tryz.sizeOf152
  v182 := Tryz.zeroValue152
  t183 := Tryz.underlying153
  a183 := Tryz.isAgg153
  z183 := Tryz.sizeOf153
  v183 := Tryz.zeroValue153
  t218 := Tryz.underlying178
  a218 := Tryz.isAgg178
  z218 := Tryz.sizeOf178
  v218 := Tryz.zeroValue178
  t222 := Tryz.underlying182
  a222 := Tryz.isAgg182
  z222 := Tryz.sizeOf182
  v222 := Tryz.zeroValue182
  t228 := Tryz.underlying199
  a228 := Tryz.isAgg199
  z228 := Tryz.sizeOf199
  v228 := Tryz.zeroValue199
  t229 := Tryz.underlying24
  a229 := Tryz.isAgg24
  z229 := Tryz.sizeOf24
  v229 := Tryz.zeroValue24 }
open Go.Sort Go.RowKit in
theorem lay_slices_Sort_int (blk off cap : Nat) (zs : List Int) (w : World) (hH : Holds (Value.int .i64) w blk off zs.toArray) (hblk : blk < w.heap.size) (hsz : zs.length < 4611686018427387904) :
    Calls Tryz.prog 115 #[.slice (some ⟨blk, off, none⟩) zs.length cap] w fun e w' =>
      e = .returned (.tuple #[]) ∧ ∃ n os, w' = grow (putRow (Value.int .i64) (Sort.ahead w n) blk off (zs.mergeSort fun x y => decide (x ≤ y)).toArray) os := Any.slices_Sort_int lay_lays189 blk off cap zs w hH hblk hsz
open Go.RowKit Go.Sort in
theorem lay_slices_Sort_int_none (p : Option Addr) (cap : Nat) (w : World) :
    Calls Tryz.prog 115 #[.slice p 0 cap] w fun e w' => e = .returned (.tuple #[]) ∧ w' = w := Any.slices_Sort_int_none lay_lays189 p cap w
attribute [local go_sem] Oper.semAt_some
set_option maxRecDepth 100000 in
set_option maxHeartbeats 2000000 in
theorem iter_values_seq (F : Fence) (n : Nat) (h7 : F.fn 157) (hro : F.round = none) (hn : 1 ≤ n) (bs : Nat) (tt : TypeId) (v : Value) (zs : List Int) (w : World) (hbs : w.heap[bs]? = some (.cells #[v] tt (0, 0))) (hI : IntsAt w v zs) (hreach : zs.length ≤ 1000000000) :
    SeqB F n Tryz.prog 157 #[.pointer (some ⟨bs, 0, none⟩)] encZ (fun xs => xs = zs) zs.length w := fun l J W hW hJ hB2 hY h0 => by
  have hlt : bs < w.heap.size := (Array.getElem?_eq_some_iff.1 hbs).1
  have hc0 : w.cell? ⟨bs, 0, none⟩ = some v := by simp [World.cell?, hbs]
  have hBs : W.cell? ⟨bs, 0, none⟩ = some v := (hW.cell (p := ⟨bs, 0, none⟩) hlt).trans hc0
  rcases hI with ⟨A, cp, rfl, rfl⟩ | ⟨b, off, cap, rfl, hb, hcs⟩
  · refine callsIn_of_wp Tryz.func157 rfl h7 ?_ hro
    simp only [Tryz.ntmps157, List.size_toArray, List.length_cons, List.length_nil, Nat.reduceAdd, Nat.reduceSub, Array.replicate_succ, Array.replicate_zero, List.push_toArray, List.append_toArray, List.nil_append, List.cons_append]
    gi_wp2
    gi_loopw [7] (fun i wr => i = .int .i64 0 ∧ J [] wr) (fun _ _ => 0)
    case atStart => exact ⟨rfl, h0⟩
    case round =>
      obtain ⟨rfl, hJs⟩ := hrel
      gi_wp2
      go_end0
      exact ⟨⟨_, rfl⟩, [], rfl, hJs⟩
  · refine callsIn_of_wp Tryz.func157 rfl h7 ?_ hro
    simp only [Tryz.ntmps157, List.size_toArray, List.length_cons, List.length_nil, Nat.reduceAdd, Nat.reduceSub, Array.replicate_succ, Array.replicate_zero, List.push_toArray, List.append_toArray, List.nil_append, List.cons_append]
    gi_wp2
    gi_loopw [7] (fun i wr => ∃ k : Nat, k ≤ zs.length ∧ i = .int .i64 k ∧ J (zs.take k) wr) (fun i _ => zs.length - (Go.Proofs.intOf i).toNat)
    case atStart => exact ⟨0, Nat.zero_le _, rfl, h0⟩
    case round =>
      obtain ⟨k, hk, rfl, hJs⟩ := hrel
      have hcx : k < zs.length → wr.cell? ⟨b, off + k, none⟩ = some (.int .i64 (zs[k]?.getD 0)) := fun h => ((hB2 _ _ hJs).cell (p := ⟨b, off + k, none⟩) hb).trans (hcs k h)
      by_cases hl : k < zs.length
      · obtain ⟨fn, tmps, assign, body, hy, hR⟩ := hY _ (zs[k]'hl) wr hJs (by rw [List.length_take]; omega)
        dsimp only [encZ] at hy
        have hcx' := hcx hl
        have ht : zs.take (k + 1) = zs.take k ++ [zs[k]'hl] := List.take_succ_eq_append_getElem hl
        gi_wp2
        refine hR.mono ?_
        rintro e W3 ⟨rfl, hJ3, hk3⟩
        gi_wp2
        go_roundw
        case rel => exact ⟨k + 1, by omega, by simp, by rw [ht]; exact hJ3⟩
        case measure => simp [Go.Proofs.intOf]; omega
      · obtain rfl : k = zs.length := by omega
        gi_wp2
        go_end0
        exact ⟨⟨_, rfl⟩, zs, rfl, by simpa using hJs⟩
def iter_ren : Go.Shelf.Ren := ⟨fun | 6 => 127 | 8 => 156 | 9 => 115 | 11 => 189 | n => n, fun | 26 => 3 | 28 => 117 | 24 => 41 | 0 => 0 | 33 => 63 | n => n, fun n => n⟩
theorem iter_lays : SlLaysZI.n6 Tryz.prog iter_ren := {
  mixed := by kernel_rfl
  f6 := ⟨"slices.Sorted[int]", by decide, Tryz.func127.trans (congrArg some (by kernel_rfl))⟩
  f8 := ⟨"slices.Collect[int]", by decide, Tryz.func156.trans (congrArg some (by kernel_rfl))⟩
  f11 := ⟨"slices.AppendSeq[[]int,int]", by decide, Tryz.func189.trans (congrArg some (by kernel_rfl))⟩
  t0 := Tryz.underlying0
  a0 := Tryz.isAgg0
  z0 := Tryz.sizeOf0
  v0 := Tryz.zeroValue0
  t24 := Tryz.underlying41
  a24 := Tryz.isAgg41
  z24 := Tryz.sizeOf41
  v24 := Tryz.zeroValue41
  t26 := Tryz.underlying3
  a26 := Tryz.isAgg3
  z26 := Tryz.sizeOf3
  v26 := Tryz.zeroValue3
  t28 := Tryz.underlying117
  a28 := Tryz.isAgg117
  z28 := Tryz.sizeOf117
  v28 := Tryz.zeroValue117
  i26 := by kernel_rfl }
theorem iter_sorts (m : Nat) : AnyZI.SortsIn Tryz.prog iter_ren Fence.wide m :=
  ⟨fun blk off cap ss W hH hblk hsz => callsIn_wide.2 (lay_slices_Sort_int blk off cap ss W hH hblk hsz), fun p cap W => callsIn_wide.2 (lay_slices_Sort_int_none p cap W)⟩
theorem iter_sorted (bs : Nat) (tt : TypeId) (v : Value) (zs : List Int) (w : World) (hbs : w.heap[bs]? = some (.cells #[v] tt (0, 0))) (hI : IntsAt w v zs) (hreach : zs.length ≤ 1000000000) :
    Calls Tryz.prog 127 #[.func (.func 157) #[] #[.pointer (some ⟨bs, 0, none⟩)]] w fun e' w' => ∃ u, e' = .returned u ∧ w'.ownsRow w.heap.size 3 1 u zs.length ((sortI zs).map (Value.int .i64 ·)) ∧ Below w.heap.size w w' := by
  refine (callsIn_wide.1 (sortedB iter_lays Fence.wide 5 trivial trivial trivial trivial rfl (by omega) (iter_sorts _) (enters_of Tryz.func115 (by kernel_rfl) rfl) 157 _ trivial (enters_of Tryz.func157 (by kernel_rfl) rfl) (fun xs => xs = zs) zs.length (by unfold maxLen; omega) (by omega) w
    (iter_values_seq Fence.wide 2 trivial rfl (by omega) bs tt v zs w hbs hI hreach))).mono ?_
  rintro e' w' ⟨u, ss, rfl, rfl, ho, _, hb⟩
  exact ⟨u, rfl, ho, hb⟩
theorem rule_sorted : RuleOk Tryz.prog (seqRule 127 157 3) := seqRule_ok ⟨Tryz.f127, Tryz.func127, by kernel_rfl, by rfl⟩ iter_sorted
def lay_lays171_ren : Go.Shelf.Ren := ⟨fun | 171 => 133 | 243 => 160 | 246 => 190 | 283 => 215 | 284 => 216 | 285 => 217 | 286 => 218 | 129 => 184 | 317 => 233 | 318 => 234 | 319 => 235 | 320 => 236 | 337 => 241 | 338 => 242 | n => n, fun | 3 => 3 | 9 => 9 | 2 => 2 | 4 => 4 | 171 => 186 | 0 => 0 | 53 => 60 | 37 => 22 | 5 => 5 | 173 => 188 | 212 => 205 | 51 => 158 | 20 => 20 | 213 => 206 | 46 => 132 | 232 => 217 | 233 => 218 | n => n, fun | 17 => 3 | 18 => 6 | 19 => 7 | n => n⟩
theorem lay_lays171 : Go.Proofs.Lays.n171 Tryz.prog lay_lays171_ren := {
  mixed := by kernel_rfl
  f129 := Tryz.func184.trans (congrArg some (by kernel_rfl))
  f171 := Tryz.func133.trans (congrArg some (by kernel_rfl))
  f243 := Tryz.func160.trans (congrArg some (by kernel_rfl))
  f246 := Tryz.func190.trans (congrArg some (by kernel_rfl))
  f283 := Tryz.func215.trans (congrArg some (by kernel_rfl))
  f284 := Tryz.func216.trans (congrArg some (by kernel_rfl))
  f285 := Tryz.func217.trans (congrArg some (by kernel_rfl))
  f286 := Tryz.func218.trans (congrArg some (by kernel_rfl))
  f317 := Tryz.func233.trans (congrArg some (by kernel_rfl))
  f318 := Tryz.func234.trans (congrArg some (by kernel_rfl))
  f319 := Tryz.func235.trans (congrArg some (by kernel_rfl))
  f320 := Tryz.func236.trans (congrArg some (by kernel_rfl))
  f337 := Tryz.func241.trans (congrArg some (by kernel_rfl))
  f338 := Tryz.func242.trans (congrArg some (by kernel_rfl))
  t0 := Tryz.underlying0
  a0 := Tryz.isAgg0
  z0 := Tryz.sizeOf0
  v0 := Tryz.zeroValue0
  t2 := Tryz.underlying2
  a2 := Tryz.isAgg2
  z2 := Tryz.sizeOf2
  v2 := Tryz.zeroValue2
  t3 := Tryz.underlying3
  a3 := Tryz.isAgg3
  z3 := Tryz.sizeOf3
  v3 := Tryz.zeroValue3
  t4 := Tryz.underlying4
  a4 := Tryz.isAgg4
  z4 := Tryz.sizeOf4
  v4 := Tryz.zeroValue4
  t5 := Tryz.underlying5
  a5 := Tryz.isAgg5
  z5 := Tryz.sizeOf5
  v5 := Tryz.zeroValue5
  t9 := Tryz.underlying9
  a9 := Tryz.isAgg9
  z9 := Tryz.sizeOf9
  v9 := Tryz.zeroValue9
  t20 := Tryz.underlying20
  a20 := Tryz.isAgg20
  z20 := Tryz.sizeOf20
  v20 := Tryz.zeroValue20
  t37 := Tryz.underlying22
  a37 := Tryz.isAgg22
  z37 := Tryz.sizeOf22
  v37 := Tryz.zeroValue22
  t46 := Tryz.underlying132
  a46 := Tryz.isAgg132
  z46 := Tryz.sizeOf132
  v46 := Tryz.zeroValue132
  t51 := Tryz.underlying158
  a51 := Tryz.isAgg158
  z51 := Tryz.sizeOf158
  v51 := Tryz.zeroValue158
  t53 := Tryz.underlying60
  a53 := Tryz.isAgg60
  z53 := Tryz.sizeOf60
  v53 := Tryz.zeroValue60
  t171 := Tryz.underlying186
  a171 := Tryz.isAgg186
  z171 := Tryz.sizeOf186
  v171 := Tryz.zeroValue186
  t173 := Tryz.underlying188
  a173 := Tryz.isAgg188
  z173 := Tryz.sizeOf188
  v173 := Tryz.zeroValue188
  t212 := Tryz.underlying205
  a212 := Tryz.isAgg205
  z212 := Tryz.sizeOf205
  v212 := Tryz.zeroValue205
  t213 := Tryz.underlying206
  a213 := Tryz.isAgg206
  z213 := Tryz.sizeOf206
  t232 := Tryz.underlying217
  a232 := Tryz.isAgg217
  z232 := Tryz.sizeOf217
  v232 := Tryz.zeroValue217
  t233 := Tryz.underlying218
  a233 := Tryz.isAgg218
  z233 := Tryz.sizeOf218
  v233 := Tryz.zeroValue218
  g17 := by kernel_rfl
  g18 := by kernel_rfl
  g19 := by kernel_rfl }
open Go.RowKit Go.Sort Go.Lib in
theorem lay_strconv_Itoa_small (i : Nat) (hi : i < 100) (w : World) :
    Calls Tryz.prog 133 #[.int .i64 i] w fun e w' => e = .returned (.string ⟨(Lib.decDigits i).toArray⟩) ∧ w' = w := Any.strconv_Itoa_small lay_lays171 i hi w

def lay_lays145_ren : Go.Shelf.Ren := ⟨fun | 145 => 83 | 220 => 135 | 219 => 161 | 217 => 191 | 225 => 192 | 224 => 193 | 267 => 194 | 266 => 219 | 314 => 220 | n => n, fun | 9 => 9 | 4 => 4 | 59 => 82 | 3 => 3 | 5 => 5 | 46 => 132 | 146 => 190 | 51 => 158 | n => n, fun | 1 => 0 | n => n⟩
theorem lay_lays145 : Go.Proofs.Lays.n145 Tryz.prog lay_lays145_ren := {
  mixed := by kernel_rfl
  f145 := Tryz.func83.trans (congrArg some (by kernel_rfl))
  f217 := Tryz.func191.trans (congrArg some (by kernel_rfl))
  f219 := Tryz.func161.trans (congrArg some (by kernel_rfl))
  f220 := Tryz.func135.trans (congrArg some (by kernel_rfl))
  f224 := Tryz.func193.trans (congrArg some (by kernel_rfl))
  f225 := Tryz.func192.trans (congrArg some (by kernel_rfl))
  f266 := Tryz.func219.trans (congrArg some (by kernel_rfl))
  f267 := Tryz.func194.trans (congrArg some (by kernel_rfl))
  f314 := Tryz.func220.trans (congrArg some (by kernel_rfl))
  t3 := Tryz.underlying3
  a3 := Tryz.isAgg3
  z3 := Tryz.sizeOf3
  v3 := Tryz.zeroValue3
  t4 := Tryz.underlying4
  a4 := Tryz.isAgg4
  z4 := Tryz.sizeOf4
  v4 := Tryz.zeroValue4
  t5 := Tryz.underlying5
  a5 := Tryz.isAgg5
  z5 := Tryz.sizeOf5
  v5 := Tryz.zeroValue5
  t9 := Tryz.underlying9
  a9 := Tryz.isAgg9
  z9 := Tryz.sizeOf9
  v9 := Tryz.zeroValue9
  t46 := Tryz.underlying132
  a46 := Tryz.isAgg132
  z46 := Tryz.sizeOf132
  v46 := Tryz.zeroValue132
  t51 := Tryz.underlying158
  a51 := Tryz.isAgg158
  z51 := Tryz.sizeOf158
  v51 := Tryz.zeroValue158
  t59 := Tryz.underlying82
  a59 := Tryz.isAgg82
  z59 := Tryz.sizeOf82
  v59 := Tryz.zeroValue82
  t146 := Tryz.underlying190
  a146 := Tryz.isAgg190
  z146 := Tryz.sizeOf190
  v146 := Tryz.zeroValue190
  g1 := by kernel_rfl }
open Go.RowKit Go.Lib in
theorem lay_strings_Cut (s sep : ByteArray) (m : Int) (w : World) (hs : s.size < 4294967281) (hm : w.cell? ⟨0, 0, none⟩ = some (.int .i64 m)) :
    Calls Tryz.prog 83 #[.string s, .string sep] w fun e w' => e = .returned (.tuple #[.string ⟨(Lib.cut s.data.toList sep.data.toList).1.toArray⟩, .string ⟨(Lib.cut s.data.toList sep.data.toList).2.1.toArray⟩, .bool (Lib.cut s.data.toList sep.data.toList).2.2]) ∧ ∃ n, w' = w.drewN n := Any.strings_Cut lay_lays145 s sep m w hs hm

def lay_lays160_ren : Go.Shelf.Ren := ⟨fun | 160 => 136 | 232 => 163 | 231 => 162 | 227 => 164 | 234 => 166 | 233 => 165 | 236 => 168 | 235 => 167 | 228 => 195 | 271 => 198 | 151 => 197 | 197 => 196 | 120 => 223 | 152 => 222 | 260 => 221 | 137 => 237 | 119 => 238 | 224 => 193 | 225 => 192 | 217 => 191 | 266 => 219 | n => n, fun | 9 => 9 | 4 => 4 | 3 => 3 | 5 => 5 | 117 => 143 | 116 => 142 | 0 => 0 | 124 => 146 | 21 => 21 | 105 => 169 | 46 => 132 | 119 => 207 | 139 => 210 | 138 => 209 | n => n, fun | 3 => 4 | 4 => 5 | n => n⟩
theorem lay_lays160 : Go.Proofs.Lays.n160 Tryz.prog lay_lays160_ren := {
  mixed := by kernel_rfl
  f119 := Tryz.func238.trans (congrArg some (by kernel_rfl))
  f120 := Tryz.func223.trans (congrArg some (by kernel_rfl))
  f137 := Tryz.func237.trans (congrArg some (by kernel_rfl))
  f151 := Tryz.func197.trans (congrArg some (by kernel_rfl))
  f152 := Tryz.func222.trans (congrArg some (by kernel_rfl))
  f160 := Tryz.func136.trans (congrArg some (by kernel_rfl))
  f197 := Tryz.func196.trans (congrArg some (by kernel_rfl))
  f217 := Tryz.func191.trans (congrArg some (by kernel_rfl))
  f224 := Tryz.func193.trans (congrArg some (by kernel_rfl))
  f225 := Tryz.func192.trans (congrArg some (by kernel_rfl))
  f227 := Tryz.func164.trans (congrArg some (by kernel_rfl))
  f228 := Tryz.func195.trans (congrArg some (by kernel_rfl))
  f231 := Tryz.func162.trans (congrArg some (by kernel_rfl))
  f232 := Tryz.func163.trans (congrArg some (by kernel_rfl))
  f233 := Tryz.func165.trans (congrArg some (by kernel_rfl))
  f234 := Tryz.func166.trans (congrArg some (by kernel_rfl))
  f235 := Tryz.func167.trans (congrArg some (by kernel_rfl))
  f236 := Tryz.func168.trans (congrArg some (by kernel_rfl))
  f260 := Tryz.func221.trans (congrArg some (by kernel_rfl))
  f266 := Tryz.func219.trans (congrArg some (by kernel_rfl))
  f271 := Tryz.func198.trans (congrArg some (by kernel_rfl))
  t0 := Tryz.underlying0
  a0 := Tryz.isAgg0
  z0 := Tryz.sizeOf0
  v0 := Tryz.zeroValue0
  t3 := Tryz.underlying3
  a3 := Tryz.isAgg3
  z3 := Tryz.sizeOf3
  v3 := Tryz.zeroValue3
  t4 := Tryz.underlying4
  a4 := Tryz.isAgg4
  z4 := Tryz.sizeOf4
  v4 := Tryz.zeroValue4
  t5 := Tryz.underlying5
  a5 := Tryz.isAgg5
  z5 := Tryz.sizeOf5
  v5 := Tryz.zeroValue5
  t9 := Tryz.underlying9
  a9 := Tryz.isAgg9
  z9 := Tryz.sizeOf9
  v9 := Tryz.zeroValue9
  t21 := Tryz.underlying21
  a21 := Tryz.isAgg21
  z21 := Tryz.sizeOf21
  v21 := Tryz.zeroValue21
  t46 := Tryz.underlying132
  a46 := Tryz.isAgg132
  z46 := Tryz.sizeOf132
  v46 := Tryz.zeroValue132
  t105 := Tryz.underlying169
  a105 := Tryz.isAgg169
  z105 := Tryz.sizeOf169
  v105 := Tryz.zeroValue169
  t116 := Tryz.underlying142
  a116 := Tryz.isAgg142
  z116 := Tryz.sizeOf142
  t117 := Tryz.underlying143
  a117 := Tryz.isAgg143
  z117 := Tryz.sizeOf143
  v117 := Tryz.zeroValue143
  t119 := Tryz.underlying207
  a119 := Tryz.isAgg207
  z119 := Tryz.sizeOf207
  t124 := Tryz.underlying146
  a124 := Tryz.isAgg146
  z124 := Tryz.sizeOf146
  v124 := Tryz.zeroValue146
  t138 := Tryz.underlying209
  a138 := Tryz.isAgg209
  z138 := Tryz.sizeOf209
  v138 := Tryz.zeroValue209
  t139 := Tryz.underlying210
  a139 := Tryz.isAgg210
  z139 := Tryz.sizeOf210
  v139 := Tryz.zeroValue210
  g3 := by kernel_rfl
  g4 := by kernel_rfl }
open Go.RowKit in
theorem lay_strings_Trim_laid (s cutset : ByteArray) (w : World) (hs : s.size ≤ 9223372036854775807) (hcs : cutset.size < 4294967281) (hascii : ∀ (j : Nat) b, cutset.data.toList[j]? = some b → b.toNat < 128) :
    Calls Tryz.prog 136 #[.string s, .string cutset] w fun e w' => e = .returned (.string ⟨(Lib.trimS s.data.toList cutset.data.toList).toArray⟩) ∧ Below w.heap.size w w' := Any.strings_Trim_laid lay_lays160 (by kernel_rfl) s cutset w hs hcs hascii

def lay_laysC172_ren : Go.Shelf.Ren := ⟨fun | 172 => 137 | 244 => 169 | 245 => 170 | 247 => 199 | 279 => 200 | 280 => 201 | 281 => 202 | 282 => 203 | 287 => 224 | 316 => 225 | 171 => 133 | 205 => 226 | 321 => 239 | 322 => 240 | 243 => 160 | 246 => 190 | 283 => 215 | 284 => 216 | 285 => 217 | 286 => 218 | 129 => 184 | 317 => 233 | 318 => 234 | 319 => 235 | 320 => 236 | 337 => 241 | 338 => 242 | n => n, fun | 9 => 9 | 3 => 3 | 75 => 123 | 76 => 124 | 4 => 4 | 5 => 5 | 167 => 172 | 37 => 22 | 0 => 0 | 85 => 173 | 2 => 2 | 168 => 175 | 53 => 60 | 175 => 193 | 46 => 132 | 210 => 197 | 127 => 185 | 145 => 216 | 143 => 214 | 21 => 21 | 171 => 186 | 173 => 188 | 212 => 205 | 51 => 158 | 20 => 20 | 213 => 206 | 232 => 217 | 233 => 218 | 80 => 79 | n => n, fun | 15 => 1 | 16 => 2 | 17 => 3 | 18 => 6 | 19 => 7 | n => n⟩
theorem lay_laysC172 : Go.Proofs.LaysC.n172 Tryz.prog lay_laysC172_ren := {
  mixed := by kernel_rfl
  f129 := Tryz.func184.trans (congrArg some (by kernel_rfl))
  f171 := Tryz.func133.trans (congrArg some (by kernel_rfl))
  f172 := Tryz.func137.trans (congrArg some (by kernel_rfl))
  f205 := Tryz.func226.trans (congrArg some (by kernel_rfl))
  f243 := Tryz.func160.trans (congrArg some (by kernel_rfl))
  f244 := Tryz.func169.trans (congrArg some (by kernel_rfl))
  f245 := Tryz.func170.trans (congrArg some (by kernel_rfl))
  f246 := Tryz.func190.trans (congrArg some (by kernel_rfl))
  f247 := Tryz.func199.trans (congrArg some (by kernel_rfl))
  f279 := Tryz.func200.trans (congrArg some (by kernel_rfl))
  f280 := Tryz.func201.trans (congrArg some (by kernel_rfl))
  f281 := Tryz.func202.trans (congrArg some (by kernel_rfl))
  f282 := Tryz.func203.trans (congrArg some (by kernel_rfl))
  f283 := Tryz.func215.trans (congrArg some (by kernel_rfl))
  f284 := Tryz.func216.trans (congrArg some (by kernel_rfl))
  f285 := Tryz.func217.trans (congrArg some (by kernel_rfl))
  f286 := Tryz.func218.trans (congrArg some (by kernel_rfl))
  f287 := Tryz.func224.trans (congrArg some (by kernel_rfl))
  f316 := Tryz.func225.trans (congrArg some (by kernel_rfl))
  f317 := Tryz.func233.trans (congrArg some (by kernel_rfl))
  f318 := Tryz.func234.trans (congrArg some (by kernel_rfl))
  f319 := Tryz.func235.trans (congrArg some (by kernel_rfl))
  f320 := Tryz.func236.trans (congrArg some (by kernel_rfl))
  f321 := Tryz.func239.trans (congrArg some (by kernel_rfl))
  f322 := Tryz.func240.trans (congrArg some (by kernel_rfl))
  f337 := Tryz.func241.trans (congrArg some (by kernel_rfl))
  f338 := Tryz.func242.trans (congrArg some (by kernel_rfl))
  t0 := Tryz.underlying0
  a0 := Tryz.isAgg0
  z0 := Tryz.sizeOf0
  v0 := Tryz.zeroValue0
  t2 := Tryz.underlying2
  a2 := Tryz.isAgg2
  z2 := Tryz.sizeOf2
  v2 := Tryz.zeroValue2
  t3 := Tryz.underlying3
  a3 := Tryz.isAgg3
  z3 := Tryz.sizeOf3
  v3 := Tryz.zeroValue3
  t4 := Tryz.underlying4
  a4 := Tryz.isAgg4
  z4 := Tryz.sizeOf4
  v4 := Tryz.zeroValue4
  t5 := Tryz.underlying5
  a5 := Tryz.isAgg5
  z5 := Tryz.sizeOf5
  v5 := Tryz.zeroValue5
  t9 := Tryz.underlying9
  a9 := Tryz.isAgg9
  z9 := Tryz.sizeOf9
  v9 := Tryz.zeroValue9
  t20 := Tryz.underlying20
  a20 := Tryz.isAgg20
  z20 := Tryz.sizeOf20
  v20 := Tryz.zeroValue20
  t21 := Tryz.underlying21
  a21 := Tryz.isAgg21
  z21 := Tryz.sizeOf21
  v21 := Tryz.zeroValue21
  t37 := Tryz.underlying22
  a37 := Tryz.isAgg22
  z37 := Tryz.sizeOf22
  v37 := Tryz.zeroValue22
  t46 := Tryz.underlying132
  a46 := Tryz.isAgg132
  z46 := Tryz.sizeOf132
  v46 := Tryz.zeroValue132
  t51 := Tryz.underlying158
  a51 := Tryz.isAgg158
  z51 := Tryz.sizeOf158
  v51 := Tryz.zeroValue158
  t53 := Tryz.underlying60
  a53 := Tryz.isAgg60
  z53 := Tryz.sizeOf60
  v53 := Tryz.zeroValue60
  t75 := Tryz.underlying123
  a75 := Tryz.isAgg123
  z75 := Tryz.sizeOf123
  v75 := Tryz.zeroValue123
  t76 := Tryz.underlying124
  a76 := Tryz.isAgg124
  z76 := Tryz.sizeOf124
  v76 := Tryz.zeroValue124
  t85 := Tryz.underlying173
  a85 := Tryz.isAgg173
  z85 := Tryz.sizeOf173
  v85 := Tryz.zeroValue173
  t127 := Tryz.underlying185
  a127 := Tryz.isAgg185
  z127 := Tryz.sizeOf185
  v127 := Tryz.zeroValue185
  t143 := Tryz.underlying214
  a143 := Tryz.isAgg214
  z143 := Tryz.sizeOf214
  v143 := Tryz.zeroValue214
  t145 := Tryz.underlying216
  a145 := Tryz.isAgg216
  z145 := Tryz.sizeOf216
  v145 := Tryz.zeroValue216
  t167 := Tryz.underlying172
  a167 := Tryz.isAgg172
  z167 := Tryz.sizeOf172
  v167 := Tryz.zeroValue172
  t168 := Tryz.underlying175
  a168 := Tryz.isAgg175
  z168 := Tryz.sizeOf175
  v168 := Tryz.zeroValue175
  t171 := Tryz.underlying186
  a171 := Tryz.isAgg186
  z171 := Tryz.sizeOf186
  v171 := Tryz.zeroValue186
  t173 := Tryz.underlying188
  a173 := Tryz.isAgg188
  z173 := Tryz.sizeOf188
  v173 := Tryz.zeroValue188
  t175 := Tryz.underlying193
  a175 := Tryz.isAgg193
  z175 := Tryz.sizeOf193
  v175 := Tryz.zeroValue193
  t210 := Tryz.underlying197
  a210 := Tryz.isAgg197
  z210 := Tryz.sizeOf197
  v210 := Tryz.zeroValue197
  t212 := Tryz.underlying205
  a212 := Tryz.isAgg205
  z212 := Tryz.sizeOf205
  v212 := Tryz.zeroValue205
  t213 := Tryz.underlying206
  a213 := Tryz.isAgg206
  z213 := Tryz.sizeOf206
  t232 := Tryz.underlying217
  a232 := Tryz.isAgg217
  z232 := Tryz.sizeOf217
  v232 := Tryz.zeroValue217
  t233 := Tryz.underlying218
  a233 := Tryz.isAgg218
  z233 := Tryz.sizeOf218
  v233 := Tryz.zeroValue218
  g15 := by kernel_rfl
  g16 := by kernel_rfl
  g17 := by kernel_rfl
  g18 := by kernel_rfl
  g19 := by kernel_rfl
  t80 := Tryz.underlying79
  a80 := Tryz.isAgg79
  z80 := Tryz.sizeOf79
  v80 := Tryz.zeroValue79
  i0 := by kernel_rfl
  i2 := by kernel_rfl
  i3 := by kernel_rfl
  i4 := by kernel_rfl
  i5 := by kernel_rfl
  i9 := by kernel_rfl
  i20 := by kernel_rfl
  i21 := by kernel_rfl
  i37 := by kernel_rfl
  i46 := by kernel_rfl
  i51 := by kernel_rfl
  i53 := by kernel_rfl
  i75 := by kernel_rfl
  i76 := by kernel_rfl
  i80 := by kernel_rfl
  i85 := by kernel_rfl
  i127 := by kernel_rfl
  i143 := by kernel_rfl
  i145 := by kernel_rfl
  i167 := by kernel_rfl
  i168 := by kernel_rfl
  i171 := by kernel_rfl
  i173 := by kernel_rfl
  i175 := by kernel_rfl
  i210 := by kernel_rfl
  i212 := by kernel_rfl
  i232 := by kernel_rfl
  i233 := by kernel_rfl
  m15 := by kernel_rfl
  m16 := by kernel_rfl
  m17 := by kernel_rfl
  m18 := by kernel_rfl
  m19 := by kernel_rfl
  c0 := by kernel_rfl
  c2 := by kernel_rfl
  c3 := by kernel_rfl
  c4 := by kernel_rfl
  c5 := by kernel_rfl
  c9 := by kernel_rfl
  c20 := by kernel_rfl
  c21 := by kernel_rfl
  c37 := by kernel_rfl
  c46 := by kernel_rfl
  c51 := by kernel_rfl
  c53 := by kernel_rfl
  c75 := by kernel_rfl
  c76 := by kernel_rfl
  c80 := by kernel_rfl
  c85 := by kernel_rfl
  c127 := by kernel_rfl
  c143 := by kernel_rfl
  c145 := by kernel_rfl
  c167 := by kernel_rfl
  c168 := by kernel_rfl
  c171 := by kernel_rfl
  c173 := by kernel_rfl
  c175 := by kernel_rfl
  c210 := by kernel_rfl
  c212 := by kernel_rfl
  c213 := by kernel_rfl
  c232 := by kernel_rfl
  c233 := by kernel_rfl }
theorem lay_strconv_Atoi_ok (s : ByteArray) (hmax : s.size ≤ 9223372036854775806) (v : Int) (h : Lib.atoiAll s.data.toList = .ok v) (w : World) :
    Calls Tryz.prog 137 #[.string s] w fun e w' => e = .returned (.tuple #[.int .i64 v, .nilIface]) ∧ (w' = w ∨ ∃ t, w' = Lib.bytesWorld w 5 t) := Any.strconv_Atoi_ok lay_laysC172 s hmax v h w

noncomputable def laws_big_f (k : Nat) (p0 : (List Int)) (p1 : (List Int)) : Option ((Bool × Unit) × Unit) :=
  (met (cond (decide (((List.length p0 : Nat) : Int) > 1048576)) (some (.inl (true, ()))) (some (.inl ((decide (((List.length p1 : Nat) : Int) > (iw (1048576 - ((List.length p0 : Nat) : Int))))), ())))) (fun j1 => (some ((j1.1, ()), ()))))
noncomputable def laws_big_a : Ann := (.q .o (.q (.r [(4, 100256, .v .bool)]) .o))
theorem laws_big_run (k : Nat) (p0 : (List Int)) (p1 : (List Int)) : funX Tryz.prog (callT []) k Tryz.f5 laws_big_a [.v (.slc 5 (.int .u8)), .v (.slc 5 (.int .u8))] [.v .bool] (p0, p1, ()) = laws_big_f k p0 p1 := by kernel_rfl
noncomputable def laws_big_c (k : Nat) : Con := ⟨5, [.v (.slc 5 (.int .u8)), .v (.slc 5 (.int .u8))], [.v .bool], fun x => laws_big_f k x.1 x.2.1⟩
theorem laws_big_ok (k : Nat) : (laws_big_c k).Sound Tryz.prog GL := con_ok (k := k) (fn := Tryz.f5) (A := laws_big_a) (C := callT []) Tryz.func5 (by kernel_rfl) (show Tryz.f5.body = some (bodyX Tryz.f5) by rfl) (fun X hX => callT_at TableOk.nil X hX) (Nat.le_of_ble_eq_true (by kernel_rfl)) (fun ⟨p0, p1, _⟩ y h => by rw [← h]; exact laws_big_run k p0 p1)
noncomputable def spec_l1Cur_next_f (k : Nat) (p0 : ((List Int) × Int × Int × Unit)) : Option ((Int × Unit) × (((List Int) × Int × Int × Unit) × Unit)) :=
  (met (cond (decide (p0.2.1 < ((List.length p0.1 : Nat) : Int))) (ixk p0.2.1 (List.length p0.1) (some (.inl ((p0.1, p0.2.1, p0.2.2.1, ()), (iw ((rd p0.1 p0.2.1))), ())))) (some (.inl ((p0.1, p0.2.1, p0.2.2.1, ()), 0, ())))) (fun j1 => (cond (decide ((iw (j1.1.2.1 + 1)) ≤ ((List.length j1.1.1 : Nat) : Int))) (some ((j1.2.1, ()), ((j1.1.1, (iw (j1.1.2.1 + 1)), (IntKind.wrap .u64 ((IntKind.wrap .u64 ((IntKind.wrap .u64 (j1.1.2.2.1 * 6364136223846793005)) + (IntKind.wrap .u64 (j1.2.1)))) + 1442695040888963407)), ()), ()))) (some (((iw ((andI .u64 (shrI .u64 (IntKind.wrap .u64 ((IntKind.wrap .u64 ((IntKind.wrap .u64 (j1.1.2.2.1 * 6364136223846793005)) + (IntKind.wrap .u64 (j1.2.1)))) + 1442695040888963407)) 40) 255))), ()), ((j1.1.1, (iw (j1.1.2.1 + 1)), (IntKind.wrap .u64 ((IntKind.wrap .u64 ((IntKind.wrap .u64 (j1.1.2.2.1 * 6364136223846793005)) + (IntKind.wrap .u64 (j1.2.1)))) + 1442695040888963407)), ()), ()))))))
noncomputable def spec_l1Cur_next_a : Ann := (.q .o (.q .o (.q (.q .o (.j [(0, 3000000, .box true [.v (.slc 5 (.int .u8)), .v (.int .i64), .v (.int .u64)]), (3, 100192, .v (.int .i64))] (.e [] [11]) .o)) .o)))
theorem spec_l1Cur_next_run (k : Nat) (p0 : ((List Int) × Int × Int × Unit)) : funX Tryz.prog (callT []) k Tryz.f124 spec_l1Cur_next_a [.box true [.v (.slc 5 (.int .u8)), .v (.int .i64), .v (.int .u64)]] [.v (.int .i64)] (p0, ()) = spec_l1Cur_next_f k p0 := by kernel_rfl
noncomputable def spec_l1Cur_next_c (k : Nat) : Con := ⟨124, [.box true [.v (.slc 5 (.int .u8)), .v (.int .i64), .v (.int .u64)]], [.v (.int .i64)], fun x => spec_l1Cur_next_f k x.1⟩
theorem spec_l1Cur_next_ok (k : Nat) : (spec_l1Cur_next_c k).Sound Tryz.prog GL := con_ok (k := k) (fn := Tryz.f124) (A := spec_l1Cur_next_a) (C := callT []) Tryz.func124 (by kernel_rfl) (show Tryz.f124.body = some (bodyX Tryz.f124) by rfl) (fun X hX => callT_at TableOk.nil X hX) (Nat.le_of_ble_eq_true (by kernel_rfl)) (fun ⟨p0, _⟩ y h => by rw [← h]; exact spec_l1Cur_next_run k p0)
noncomputable def spec_l1Cur_pick_f (k : Nat) (p0 : ((List Int) × Int × Int × Unit)) (p1 : Int) : Option ((Int × Unit) × (((List Int) × Int × Int × Unit) × Unit)) :=
  (cond (decide (p1 ≤ 1)) (some ((0, ()), ((p0.1, p0.2.1, p0.2.2.1, ()), ()))) (Option.bind (spec_l1Cur_next_f k (p0.1, p0.2.1, p0.2.2.1, ())) (fun y9 => (met (cond (decide (p1 > 200)) (Option.bind (spec_l1Cur_next_f k (y9.2.1.1, y9.2.1.2.1, y9.2.1.2.2.1, ())) (fun y15 => (some (.inl ((y15.2.1.1, y15.2.1.2.1, y15.2.1.2.2.1, ()), (iw ((iw (y9.1.1 * 256)) + y15.1.1)), ()))))) (some (.inl ((y9.2.1.1, y9.2.1.2.1, y9.2.1.2.2.1, ()), y9.1.1, ())))) (fun j1 => (chk (!(p1 == 0)) (some (((Int.tmod j1.2.1 p1), ()), ((j1.1.1, j1.1.2.1, j1.1.2.2.1, ()), ())))))))))
noncomputable def spec_l1Cur_pick_a : Ann := (.q .o (.q .o (.q .o (.q (.q .o (.j [(0, 3000000, .box true [.v (.slc 5 (.int .u8)), .v (.int .i64), .v (.int .u64)]), (5, 100320, .v (.int .i64))] .o .o)) .o))))
theorem spec_l1Cur_pick_run (k : Nat) (p0 : ((List Int) × Int × Int × Unit)) (p1 : Int) : funX Tryz.prog (callT [spec_l1Cur_next_c k]) k Tryz.f66 spec_l1Cur_pick_a [.box true [.v (.slc 5 (.int .u8)), .v (.int .i64), .v (.int .u64)], .v (.int .i64)] [.v (.int .i64)] (p0, p1, ()) = spec_l1Cur_pick_f k p0 p1 := by kernel_rfl
noncomputable def spec_l1Cur_pick_c (k : Nat) : Con := ⟨66, [.box true [.v (.slc 5 (.int .u8)), .v (.int .i64), .v (.int .u64)], .v (.int .i64)], [.v (.int .i64)], fun x => spec_l1Cur_pick_f k x.1 x.2.1⟩
theorem spec_l1Cur_pick_ok (k : Nat) : (spec_l1Cur_pick_c k).Sound Tryz.prog GL := con_ok (k := k) (fn := Tryz.f66) (A := spec_l1Cur_pick_a) (C := callT [spec_l1Cur_next_c k]) Tryz.func66 (by kernel_rfl) (show Tryz.f66.body = some (bodyX Tryz.f66) by rfl) (fun X hX => callT_at (TableOk.cons (spec_l1Cur_next_ok k) TableOk.nil) X hX) (Nat.le_of_ble_eq_true (by kernel_rfl)) (fun ⟨p0, p1, _⟩ y h => by rw [← h]; exact spec_l1Cur_pick_run k p0 p1)
noncomputable def spec_l1Cur_one_f (k : Nat) (p0 : ((List Int) × Int × Int × Unit)) (p1 : Int) : Option ((Bool × Unit) × (((List Int) × Int × Int × Unit) × Unit)) :=
  (Option.bind (spec_l1Cur_pick_f k (p0.1, p0.2.1, p0.2.2.1, ()) p1) (fun y7 => (some (((y7.1.1 == 0), ()), ((y7.2.1.1, y7.2.1.2.1, y7.2.1.2.2.1, ()), ())))))
noncomputable def spec_l1Cur_one_a : Ann := .o
theorem spec_l1Cur_one_run (k : Nat) (p0 : ((List Int) × Int × Int × Unit)) (p1 : Int) : funX Tryz.prog (callT [spec_l1Cur_pick_c k]) k Tryz.f64 spec_l1Cur_one_a [.box true [.v (.slc 5 (.int .u8)), .v (.int .i64), .v (.int .u64)], .v (.int .i64)] [.v .bool] (p0, p1, ()) = spec_l1Cur_one_f k p0 p1 := by kernel_rfl
noncomputable def spec_l1Cur_one_c (k : Nat) : Con := ⟨64, [.box true [.v (.slc 5 (.int .u8)), .v (.int .i64), .v (.int .u64)], .v (.int .i64)], [.v .bool], fun x => spec_l1Cur_one_f k x.1 x.2.1⟩
theorem spec_l1Cur_one_ok (k : Nat) : (spec_l1Cur_one_c k).Sound Tryz.prog GL := con_ok (k := k) (fn := Tryz.f64) (A := spec_l1Cur_one_a) (C := callT [spec_l1Cur_pick_c k]) Tryz.func64 (by kernel_rfl) (show Tryz.f64.body = some (bodyX Tryz.f64) by rfl) (fun X hX => callT_at (TableOk.cons (spec_l1Cur_pick_ok k) TableOk.nil) X hX) (Nat.le_of_ble_eq_true (by kernel_rfl)) (fun ⟨p0, p1, _⟩ y h => by rw [← h]; exact spec_l1Cur_one_run k p0 p1)
noncomputable def spec_l1Cur_among_f (k : Nat) (p0 : ((List Int) × Int × Int × Unit)) (p1 : (List Int)) : Option ((Int × Unit) × (((List Int) × Int × Int × Unit) × Unit)) :=
  (Option.bind (spec_l1Cur_pick_f k (p0.1, p0.2.1, p0.2.2.1, ()) ((List.length p1 : Nat) : Int)) (fun y9 => (ixk y9.1.1 (List.length p1) (some (((rd p1 y9.1.1), ()), ((y9.2.1.1, y9.2.1.2.1, y9.2.1.2.2.1, ()), ()))))))
noncomputable def spec_l1Cur_among_a : Ann := .o
theorem spec_l1Cur_among_run (k : Nat) (p0 : ((List Int) × Int × Int × Unit)) (p1 : (List Int)) : funX Tryz.prog (callT [spec_l1Cur_pick_c k]) k Tryz.f65 spec_l1Cur_among_a [.box true [.v (.slc 5 (.int .u8)), .v (.int .i64), .v (.int .u64)], .v (.slc 3 (.int .i64))] [.v (.int .i64)] (p0, p1, ()) = spec_l1Cur_among_f k p0 p1 := by kernel_rfl
noncomputable def spec_l1Cur_among_c (k : Nat) : Con := ⟨65, [.box true [.v (.slc 5 (.int .u8)), .v (.int .i64), .v (.int .u64)], .v (.slc 3 (.int .i64))], [.v (.int .i64)], fun x => spec_l1Cur_among_f k x.1 x.2.1⟩
theorem spec_l1Cur_among_ok (k : Nat) : (spec_l1Cur_among_c k).Sound Tryz.prog GL := con_ok (k := k) (fn := Tryz.f65) (A := spec_l1Cur_among_a) (C := callT [spec_l1Cur_pick_c k]) Tryz.func65 (by kernel_rfl) (show Tryz.f65.body = some (bodyX Tryz.f65) by rfl) (fun X hX => callT_at (TableOk.cons (spec_l1Cur_pick_ok k) TableOk.nil) X hX) (Nat.le_of_ble_eq_true (by kernel_rfl)) (fun ⟨p0, p1, _⟩ y h => by rw [← h]; exact spec_l1Cur_among_run k p0 p1)
noncomputable def spec_DrawLeastPairs_f (k : Nat) (p0 : (List Int)) : Option ((Int × Int × Unit) × Unit) :=
  (Option.bind (spec_l1Cur_one_f k (p0, 0, 0, ()) 9) (fun y9 => (cond y9.1.1 (Option.bind (spec_l1Cur_among_f k (y9.2.1.1, y9.2.1.2.1, y9.2.1.2.2.1, ()) [(-1), 0, 1, 30, 31]) (fun y12 => (Option.bind (spec_l1Cur_among_f k (y12.2.1.1, y12.2.1.2.1, y12.2.1.2.2.1, ()) [(-1), 0, 1, 30, 31]) (fun y15 => (some ((y12.1.1, y15.1.1, ()), ())))))) (Option.bind (spec_l1Cur_pick_f k (y9.2.1.1, y9.2.1.2.1, y9.2.1.2.2.1, ()) 9) (fun y17 => (Option.bind (spec_l1Cur_pick_f k (y17.2.1.1, y17.2.1.2.1, y17.2.1.2.2.1, ()) 9) (fun y20 => (some (((iw (1 + y17.1.1)), (iw (1 + y20.1.1)), ()), ())))))))))
noncomputable def spec_DrawLeastPairs_a : Ann := .o
theorem spec_DrawLeastPairs_run (k : Nat) (p0 : (List Int)) : funX Tryz.prog (callT [spec_l1Cur_one_c k, spec_l1Cur_among_c k, spec_l1Cur_pick_c k]) k Tryz.f6 spec_DrawLeastPairs_a [.v (.slc 5 (.int .u8))] [.v (.int .i64), .v (.int .i64)] (p0, ()) = spec_DrawLeastPairs_f k p0 := by kernel_rfl
noncomputable def spec_DrawLeastPairs_c (k : Nat) : Con := ⟨6, [.v (.slc 5 (.int .u8))], [.v (.int .i64), .v (.int .i64)], fun x => spec_DrawLeastPairs_f k x.1⟩
theorem spec_DrawLeastPairs_ok (k : Nat) : (spec_DrawLeastPairs_c k).Sound Tryz.prog GL := con_ok (k := k) (fn := Tryz.f6) (A := spec_DrawLeastPairs_a) (C := callT [spec_l1Cur_one_c k, spec_l1Cur_among_c k, spec_l1Cur_pick_c k]) Tryz.func6 (by kernel_rfl) (show Tryz.f6.body = some (bodyX Tryz.f6) by rfl) (fun X hX => callT_at (TableOk.cons (spec_l1Cur_one_ok k) (TableOk.cons (spec_l1Cur_among_ok k) (TableOk.cons (spec_l1Cur_pick_ok k) TableOk.nil))) X hX) (Nat.le_of_ble_eq_true (by kernel_rfl)) (fun ⟨p0, _⟩ y h => by rw [← h]; exact spec_DrawLeastPairs_run k p0)
noncomputable def impl_within_f (k : Nat) (p0 : Int) (p1 : Int) (p2 : Int) : Option ((Bool × Unit) × Unit) :=
  (met (cond (decide (p1 ≤ p0)) (some (.inl ((decide (p0 ≤ p2)), ()))) (some (.inl (false, ())))) (fun j1 => (some ((j1.1, ()), ()))))
noncomputable def impl_within_a : Ann := (.q .o (.q (.r [(6, 100384, .v .bool)]) .o))
theorem impl_within_run (k : Nat) (p0 : Int) (p1 : Int) (p2 : Int) : funX Tryz.prog (callT []) k Tryz.f78 impl_within_a [.v (.int .i64), .v (.int .i64), .v (.int .i64)] [.v .bool] (p0, p1, p2, ()) = impl_within_f k p0 p1 p2 := by kernel_rfl
noncomputable def impl_within_c (k : Nat) : Con := ⟨78, [.v (.int .i64), .v (.int .i64), .v (.int .i64)], [.v .bool], fun x => impl_within_f k x.1 x.2.1 x.2.2.1⟩
theorem impl_within_ok (k : Nat) : (impl_within_c k).Sound Tryz.prog GL := con_ok (k := k) (fn := Tryz.f78) (A := impl_within_a) (C := callT []) Tryz.func78 (by kernel_rfl) (show Tryz.f78.body = some (bodyX Tryz.f78) by rfl) (fun X hX => callT_at TableOk.nil X hX) (Nat.le_of_ble_eq_true (by kernel_rfl)) (fun ⟨p0, p1, p2, _⟩ y h => by rw [← h]; exact impl_within_run k p0 p1 p2)
noncomputable def impl_areTimes_f (k : Nat) (p0 : Int) (p1 : Int) : Option ((Bool × Unit) × Unit) :=
  (met (Option.bind (impl_within_f k p0 1 30) (fun y6 => (cond y6.1.1 (Option.bind (impl_within_f k p1 1 30) (fun y9 => (some (.inl (y9.1.1, ()))))) (some (.inl (false, ())))))) (fun j1 => (some ((j1.1, ()), ()))))
noncomputable def impl_areTimes_a : Ann := (.q .o (.q (.r [(4, 100256, .v .bool)]) .o))
theorem impl_areTimes_run (k : Nat) (p0 : Int) (p1 : Int) : funX Tryz.prog (callT [impl_within_c k]) k Tryz.f67 impl_areTimes_a [.v (.int .i64), .v (.int .i64)] [.v .bool] (p0, p1, ()) = impl_areTimes_f k p0 p1 := by kernel_rfl
noncomputable def impl_areTimes_c (k : Nat) : Con := ⟨67, [.v (.int .i64), .v (.int .i64)], [.v .bool], fun x => impl_areTimes_f k x.1 x.2.1⟩
theorem impl_areTimes_ok (k : Nat) : (impl_areTimes_c k).Sound Tryz.prog GL := con_ok (k := k) (fn := Tryz.f67) (A := impl_areTimes_a) (C := callT [impl_within_c k]) Tryz.func67 (by kernel_rfl) (show Tryz.f67.body = some (bodyX Tryz.f67) by rfl) (fun X hX => callT_at (TableOk.cons (impl_within_ok k) TableOk.nil) X hX) (Nat.le_of_ble_eq_true (by kernel_rfl)) (fun ⟨p0, p1, _⟩ y h => by rw [← h]; exact impl_areTimes_run k p0 p1)
noncomputable def impl_LeastPairs_f (k : Nat) (p0 : Int) (p1 : Int) : Option ((Int × Bool × Unit) × Unit) :=
  (Option.bind (impl_areTimes_f k p0 p1) (fun y8 => (cond (!y8.1.1) (some ((0, false, ()), ())) (some (((iw ((iw (p0 + p1)) - 1)), true, ()), ())))))
noncomputable def impl_LeastPairs_a : Ann := .o
theorem impl_LeastPairs_run (k : Nat) (p0 : Int) (p1 : Int) : funX Tryz.prog (callT [impl_areTimes_c k]) k Tryz.f7 impl_LeastPairs_a [.v (.int .i64), .v (.int .i64)] [.v (.int .i64), .v .bool] (p0, p1, ()) = impl_LeastPairs_f k p0 p1 := by kernel_rfl
noncomputable def impl_LeastPairs_c (k : Nat) : Con := ⟨7, [.v (.int .i64), .v (.int .i64)], [.v (.int .i64), .v .bool], fun x => impl_LeastPairs_f k x.1 x.2.1⟩
theorem impl_LeastPairs_ok (k : Nat) : (impl_LeastPairs_c k).Sound Tryz.prog GL := con_ok (k := k) (fn := Tryz.f7) (A := impl_LeastPairs_a) (C := callT [impl_areTimes_c k]) Tryz.func7 (by kernel_rfl) (show Tryz.f7.body = some (bodyX Tryz.f7) by rfl) (fun X hX => callT_at (TableOk.cons (impl_areTimes_ok k) TableOk.nil) X hX) (Nat.le_of_ble_eq_true (by kernel_rfl)) (fun ⟨p0, p1, _⟩ y h => by rw [← h]; exact impl_LeastPairs_run k p0 p1)
noncomputable def spec_l1In_f (k : Nat) (p0 : Int) (p1 : Int) (p2 : Int) : Option ((Bool × Unit) × Unit) :=
  (met (cond (decide (p0 ≥ p1)) (some (.inl ((decide (p0 ≤ p2)), ()))) (some (.inl (false, ())))) (fun j1 => (some ((j1.1, ()), ()))))
noncomputable def spec_l1In_a : Ann := (.q .o (.q (.r [(6, 100384, .v .bool)]) .o))
theorem spec_l1In_run (k : Nat) (p0 : Int) (p1 : Int) (p2 : Int) : funX Tryz.prog (callT []) k Tryz.f68 spec_l1In_a [.v (.int .i64), .v (.int .i64), .v (.int .i64)] [.v .bool] (p0, p1, p2, ()) = spec_l1In_f k p0 p1 p2 := by kernel_rfl
noncomputable def spec_l1In_c (k : Nat) : Con := ⟨68, [.v (.int .i64), .v (.int .i64), .v (.int .i64)], [.v .bool], fun x => spec_l1In_f k x.1 x.2.1 x.2.2.1⟩
theorem spec_l1In_ok (k : Nat) : (spec_l1In_c k).Sound Tryz.prog GL := con_ok (k := k) (fn := Tryz.f68) (A := spec_l1In_a) (C := callT []) Tryz.func68 (by kernel_rfl) (show Tryz.f68.body = some (bodyX Tryz.f68) by rfl) (fun X hX => callT_at TableOk.nil X hX) (Nat.le_of_ble_eq_true (by kernel_rfl)) (fun ⟨p0, p1, p2, _⟩ y h => by rw [← h]; exact spec_l1In_run k p0 p1 p2)
noncomputable def spec_l1Most_f (k : Nat) (p0 : Int) (p1 : Int) : Option ((Int × Unit) × Unit) :=
  (cond (decide (p0 > p1)) (some ((p0, ()), ())) (some ((p1, ()), ())))
noncomputable def spec_l1Most_a : Ann := .o
theorem spec_l1Most_run (k : Nat) (p0 : Int) (p1 : Int) : funX Tryz.prog (callT []) k Tryz.f125 spec_l1Most_a [.v (.int .i64), .v (.int .i64)] [.v (.int .i64)] (p0, p1, ()) = spec_l1Most_f k p0 p1 := by kernel_rfl
noncomputable def spec_l1Most_c (k : Nat) : Con := ⟨125, [.v (.int .i64), .v (.int .i64)], [.v (.int .i64)], fun x => spec_l1Most_f k x.1 x.2.1⟩
theorem spec_l1Most_ok (k : Nat) : (spec_l1Most_c k).Sound Tryz.prog GL := con_ok (k := k) (fn := Tryz.f125) (A := spec_l1Most_a) (C := callT []) Tryz.func125 (by kernel_rfl) (show Tryz.f125.body = some (bodyX Tryz.f125) by rfl) (fun X hX => callT_at TableOk.nil X hX) (Nat.le_of_ble_eq_true (by kernel_rfl)) (fun ⟨p0, p1, _⟩ y h => by rw [← h]; exact spec_l1Most_run k p0 p1)
noncomputable def spec_dyLeast_l2_b (k : Nat) (p0 : Int) (p1 : Int) (rec : Int → Int → Option ((Int × Unit) ⊕ ((Int × Unit) ⊕ ((Int × Unit) ⊕ ((Int × Unit) × Unit))))) (x7 : Int) (x8 : Int) : Option ((Int × Unit) ⊕ ((Int × Unit) ⊕ ((Int × Unit) ⊕ ((Int × Unit) × Unit)))) :=
  (cond (decide (x8 < p1)) (rec (iw (x7 + p0)) (iw (x8 + p0))) (some (.inl (x7, ()))))
noncomputable def spec_dyLeast_l2 (k : Nat) (p0 : Int) (p1 : Int) (x7 : Int) (x8 : Int) : Option ((Int × Unit) ⊕ ((Int × Unit) ⊕ ((Int × Unit) ⊕ ((Int × Unit) × Unit)))) := iter k (fun (rec : (Int × Int × Unit) → Option ((Int × Unit) ⊕ ((Int × Unit) ⊕ ((Int × Unit) ⊕ ((Int × Unit) × Unit))))) (x : (Int × Int × Unit)) => spec_dyLeast_l2_b k p0 p1 (fun x7 x8 => rec (x7, x8, ())) x.1 x.2.1) (x7, x8, ())
noncomputable def spec_dyLeast_l1_b (k : Nat) (p0 : Int) (p1 : Int) (rec : Int → Int → Option ((Int × Unit) ⊕ ((Int × Unit) × Unit))) (x5 : Int) (x6 : Int) : Option ((Int × Unit) ⊕ ((Int × Unit) × Unit)) :=
  (cond (decide (x6 < p0)) (met (met (spec_dyLeast_l2 k p0 p1 x6 (iw (x6 + 1))) (fun j3 => (Option.bind (spec_l1Most_f k x5 j3.1) (fun y28 => (some (.inl (y28.1.1, ()))))))) (fun j4 => (rec j4.1 (iw (x6 + 1))))) (some (.inl (x5, ()))))
noncomputable def spec_dyLeast_l1 (k : Nat) (p0 : Int) (p1 : Int) (x5 : Int) (x6 : Int) : Option ((Int × Unit) ⊕ ((Int × Unit) × Unit)) := iter k (fun (rec : (Int × Int × Unit) → Option ((Int × Unit) ⊕ ((Int × Unit) × Unit))) (x : (Int × Int × Unit)) => spec_dyLeast_l1_b k p0 p1 (fun x5 x6 => rec (x5, x6, ())) x.1 x.2.1) (x5, x6, ())
noncomputable def spec_dyLeast_f (k : Nat) (p0 : Int) (p1 : Int) : Option ((Int × Unit) × Unit) :=
  (met (spec_dyLeast_l1 k p0 p1 0 0) (fun j5 => (some (((iw (j5.1 + 1)), ()), ()))))
noncomputable def spec_dyLeast_a : Ann := (.q .o (.q .o (.q (.q .o (.m [(5, 100320, .v (.int .i64))] (.l [(5, 100320, .v (.int .i64)), (6, 100384, .v (.int .i64))] (.q .o (.q (.m [(5, 100320, .v (.int .i64))] (.q .o (.q (.q .o (.m [(7, 100448, .v (.int .i64))] (.l [(7, 100448, .v (.int .i64)), (8, 100512, .v (.int .i64))] .o))) .o))) .o))))) .o)))
theorem spec_dyLeast_run (k : Nat) (p0 : Int) (p1 : Int) : funX Tryz.prog (callT [spec_l1Most_c k]) k Tryz.f69 spec_dyLeast_a [.v (.int .i64), .v (.int .i64)] [.v (.int .i64)] (p0, p1, ()) = spec_dyLeast_f k p0 p1 := by kernel_rfl
noncomputable def spec_dyLeast_c (k : Nat) : Con := ⟨69, [.v (.int .i64), .v (.int .i64)], [.v (.int .i64)], fun x => spec_dyLeast_f k x.1 x.2.1⟩
theorem spec_dyLeast_ok (k : Nat) : (spec_dyLeast_c k).Sound Tryz.prog GL := con_ok (k := k) (fn := Tryz.f69) (A := spec_dyLeast_a) (C := callT [spec_l1Most_c k]) Tryz.func69 (by kernel_rfl) (show Tryz.f69.body = some (bodyX Tryz.f69) by rfl) (fun X hX => callT_at (TableOk.cons (spec_l1Most_ok k) TableOk.nil) X hX) (Nat.le_of_ble_eq_true (by kernel_rfl)) (fun ⟨p0, p1, _⟩ y h => by rw [← h]; exact spec_dyLeast_run k p0 p1)
noncomputable def spec_LeastPairs_f (k : Nat) (p0 : Int) (p1 : Int) : Option ((Int × Bool × Unit) × Unit) :=
  (met (Option.bind (spec_l1In_f k p0 1 30) (fun y7 => (cond (!y7.1.1) (some (.inl (true, ()))) (Option.bind (spec_l1In_f k p1 1 30) (fun y11 => (some (.inl ((!y11.1.1), ())))))))) (fun j1 => (cond j1.1 (some ((0, false, ()), ())) (Option.bind (spec_dyLeast_f k p0 p1) (fun y16 => (some ((y16.1.1, true, ()), ())))))))
noncomputable def spec_LeastPairs_a : Ann := (.q .o (.q (.q (.r [(13, 100832, .v .bool)]) .o) .o))
theorem spec_LeastPairs_run (k : Nat) (p0 : Int) (p1 : Int) : funX Tryz.prog (callT [spec_l1In_c k, spec_dyLeast_c k]) k Tryz.f8 spec_LeastPairs_a [.v (.int .i64), .v (.int .i64)] [.v (.int .i64), .v .bool] (p0, p1, ()) = spec_LeastPairs_f k p0 p1 := by kernel_rfl
noncomputable def spec_LeastPairs_c (k : Nat) : Con := ⟨8, [.v (.int .i64), .v (.int .i64)], [.v (.int .i64), .v .bool], fun x => spec_LeastPairs_f k x.1 x.2.1⟩
theorem spec_LeastPairs_ok (k : Nat) : (spec_LeastPairs_c k).Sound Tryz.prog GL := con_ok (k := k) (fn := Tryz.f8) (A := spec_LeastPairs_a) (C := callT [spec_l1In_c k, spec_dyLeast_c k]) Tryz.func8 (by kernel_rfl) (show Tryz.f8.body = some (bodyX Tryz.f8) by rfl) (fun X hX => callT_at (TableOk.cons (spec_l1In_ok k) (TableOk.cons (spec_dyLeast_ok k) TableOk.nil)) X hX) (Nat.le_of_ble_eq_true (by kernel_rfl)) (fun ⟨p0, p1, _⟩ y h => by rw [← h]; exact spec_LeastPairs_run k p0 p1)
noncomputable def impl_IsWash_f (k : Nat) (p0 : (Int × (Int × Int))) : Option ((Bool × Unit) × Unit) :=
  (met (Option.bind (impl_within_f k p0.1 1 30) (fun y5 => (cond y5.1.1 (Option.bind (impl_areTimes_f k p0.2.1 p0.2.2) (fun y11 => (some (.inl (y11.1.1, ()))))) (some (.inl (false, ())))))) (fun j1 => (some ((j1.1, ()), ()))))
noncomputable def impl_IsWash_a : Ann := (.q .o (.q (.r [(2, 100128, .v .bool)]) .o))
theorem impl_IsWash_run (k : Nat) (p0 : (Int × (Int × Int))) : funX Tryz.prog (callT [impl_within_c k, impl_areTimes_c k]) k Tryz.f26 impl_IsWash_a [.v (.pr (.int .i64) (.pr (.int .i64) (.int .i64)))] [.v .bool] (p0, ()) = impl_IsWash_f k p0 := by kernel_rfl
noncomputable def impl_IsWash_c (k : Nat) : Con := ⟨26, [.v (.pr (.int .i64) (.pr (.int .i64) (.int .i64)))], [.v .bool], fun x => impl_IsWash_f k x.1⟩
theorem impl_IsWash_ok (k : Nat) : (impl_IsWash_c k).Sound Tryz.prog GL := con_ok (k := k) (fn := Tryz.f26) (A := impl_IsWash_a) (C := callT [impl_within_c k, impl_areTimes_c k]) Tryz.func26 (by kernel_rfl) (show Tryz.f26.body = some (bodyX Tryz.f26) by rfl) (fun X hX => callT_at (TableOk.cons (impl_within_ok k) (TableOk.cons (impl_areTimes_ok k) TableOk.nil)) X hX) (Nat.le_of_ble_eq_true (by kernel_rfl)) (fun ⟨p0, _⟩ y h => by rw [← h]; exact impl_IsWash_run k p0)
noncomputable def slices_Index_int_int_l1_b (k : Nat) (p0 : (List Int)) (p1 : Int) (rec : Int → Option (Unit ⊕ ((Int × Unit) × Unit))) (x8 : Int) : Option (Unit ⊕ ((Int × Unit) × Unit)) :=
  (cond (decide (x8 < ((List.length p0 : Nat) : Int))) (ixk x8 (List.length p0) (cond (p1 == (rd p0 x8)) (some (.inr ((x8, ()), ()))) (rec (iw (x8 + 1))))) (some (.inl ())))
noncomputable def slices_Index_int_int_l1 (k : Nat) (p0 : (List Int)) (p1 : Int) (x8 : Int) : Option (Unit ⊕ ((Int × Unit) × Unit)) := iter k (fun (rec : (Int × Unit) → Option (Unit ⊕ ((Int × Unit) × Unit))) (x : (Int × Unit)) => slices_Index_int_int_l1_b k p0 p1 (fun x8 => rec (x8, ())) x.1) (x8, ())
noncomputable def slices_Index_int_int_f (k : Nat) (p0 : (List Int)) (p1 : Int) : Option ((Int × Unit) × Unit) :=
  (met (slices_Index_int_int_l1 k p0 p1 0) (fun j2 => (some (((-1), ()), ()))))
noncomputable def slices_Index_int_int_a : Ann := (.q .o (.q (.q .o (.m [] (.l [(8, 100512, .v (.int .i64))] .o))) .o))
theorem slices_Index_int_int_run (k : Nat) (p0 : (List Int)) (p1 : Int) : funX Tryz.prog (callT []) k Tryz.f155 slices_Index_int_int_a [.v (.slc 3 (.int .i64)), .v (.int .i64)] [.v (.int .i64)] (p0, p1, ()) = slices_Index_int_int_f k p0 p1 := by kernel_rfl
noncomputable def slices_Index_int_int_c (k : Nat) : Con := ⟨155, [.v (.slc 3 (.int .i64)), .v (.int .i64)], [.v (.int .i64)], fun x => slices_Index_int_int_f k x.1 x.2.1⟩
theorem slices_Index_int_int_ok (k : Nat) : (slices_Index_int_int_c k).Sound Tryz.prog GL := con_ok (k := k) (fn := Tryz.f155) (A := slices_Index_int_int_a) (C := callT []) Tryz.func155 (by kernel_rfl) (show Tryz.f155.body = some (bodyX Tryz.f155) by rfl) (fun X hX => callT_at TableOk.nil X hX) (Nat.le_of_ble_eq_true (by kernel_rfl)) (fun ⟨p0, p1, _⟩ y h => by rw [← h]; exact slices_Index_int_int_run k p0 p1)
noncomputable def slices_Contains_int_int_f (k : Nat) (p0 : (List Int)) (p1 : Int) : Option ((Bool × Unit) × Unit) :=
  (Option.bind (slices_Index_int_int_f k p0 p1) (fun y7 => (some (((decide (y7.1.1 ≥ 0)), ()), ()))))
noncomputable def slices_Contains_int_int_a : Ann := .o
theorem slices_Contains_int_int_run (k : Nat) (p0 : (List Int)) (p1 : Int) : funX Tryz.prog (callT [slices_Index_int_int_c k]) k Tryz.f126 slices_Contains_int_int_a [.v (.slc 3 (.int .i64)), .v (.int .i64)] [.v .bool] (p0, p1, ()) = slices_Contains_int_int_f k p0 p1 := by kernel_rfl
noncomputable def slices_Contains_int_int_c (k : Nat) : Con := ⟨126, [.v (.slc 3 (.int .i64)), .v (.int .i64)], [.v .bool], fun x => slices_Contains_int_int_f k x.1 x.2.1⟩
theorem slices_Contains_int_int_ok (k : Nat) : (slices_Contains_int_int_c k).Sound Tryz.prog GL := con_ok (k := k) (fn := Tryz.f126) (A := slices_Contains_int_int_a) (C := callT [slices_Index_int_int_c k]) Tryz.func126 (by kernel_rfl) (show Tryz.f126.body = some (bodyX Tryz.f126) by rfl) (fun X hX => callT_at (TableOk.cons (slices_Index_int_int_ok k) TableOk.nil) X hX) (Nat.le_of_ble_eq_true (by kernel_rfl)) (fun ⟨p0, p1, _⟩ y h => by rw [← h]; exact slices_Contains_int_int_run k p0 p1)
noncomputable def slices_Clone_int_int_f (k : Nat) (p0 : (List Int)) : Option (((List Int) × Unit) × Unit) :=
  (cond (List.isEmpty p0) (andX (some (([], ()), ())) (chk (decide (0 + List.length p0 ≤ 15637498706147)) (some ((p0, ()), ())))) (chk (decide (0 + List.length p0 ≤ 15637498706147)) (some ((p0, ()), ()))))
noncomputable def slices_Clone_int_int_a : Ann := .o
theorem slices_Clone_int_int_run (k : Nat) (p0 : (List Int)) : funX Tryz.prog (callT []) k Tryz.f129 slices_Clone_int_int_a [.v (.slc 3 (.int .i64))] [.own false 3 (.int .i64)] (p0, ()) = slices_Clone_int_int_f k p0 := by kernel_rfl
noncomputable def slices_Clone_int_int_c (k : Nat) : Con := ⟨129, [.v (.slc 3 (.int .i64))], [.own false 3 (.int .i64)], fun x => slices_Clone_int_int_f k x.1⟩
theorem slices_Clone_int_int_ok (k : Nat) : (slices_Clone_int_int_c k).Sound Tryz.prog GL := con_ok (k := k) (fn := Tryz.f129) (A := slices_Clone_int_int_a) (C := callT []) Tryz.func129 (by kernel_rfl) (show Tryz.f129.body = some (bodyX Tryz.f129) by rfl) (fun X hX => callT_at TableOk.nil X hX) (Nat.le_of_ble_eq_true (by kernel_rfl)) (fun ⟨p0, _⟩ y h => by rw [← h]; exact slices_Clone_int_int_run k p0)
noncomputable def impl_Wash_days_l2_b (k : Nat) (j1 : ((Int × Int × Int × Unit) × (List Int) × (List Int) × (List Int) × (List (Int × ((List Int) × ((List Int) × (List Int))))) × Unit)) (rec : (Int × Int × Int × Unit) → (List Int) → (List Int) → (List Int) → (List (Int × ((List Int) × ((List Int) × (List Int))))) → Int → Option (((Int × Int × Int × Unit) × (List Int) × (List Int) × (List Int) × (List (Int × ((List Int) × ((List Int) × (List Int))))) × Unit) ⊕ (((List (Int × ((List Int) × ((List Int) × (List Int))))) × Unit) × Unit))) (x2 : (Int × Int × Int × Unit)) (x5 : (List Int)) (x6 : (List Int)) (x7 : (List Int)) (x8 : (List (Int × ((List Int) × ((List Int) × (List Int)))))) (x25 : Int) : Option (((Int × Int × Int × Unit) × (List Int) × (List Int) × (List Int) × (List (Int × ((List Int) × ((List Int) × (List Int))))) × Unit) ⊕ (((List (Int × ((List Int) × ((List Int) × (List Int))))) × Unit) × Unit)) :=
  (cond (decide (x25 < ((List.length j1.2.1 : Nat) : Int))) (ixk x25 (List.length x5) (rec (x2.1, x2.2.1, x2.2.2.1, ()) (setI x5 x25 (-1)) x6 x7 x8 (iw (x25 + 1)))) (some (.inl ((x2.1, x2.2.1, x2.2.2.1, ()), x5, x6, x7, x8, ()))))
noncomputable def impl_Wash_days_l2 (k : Nat) (j1 : ((Int × Int × Int × Unit) × (List Int) × (List Int) × (List Int) × (List (Int × ((List Int) × ((List Int) × (List Int))))) × Unit)) (x2 : (Int × Int × Int × Unit)) (x5 : (List Int)) (x6 : (List Int)) (x7 : (List Int)) (x8 : (List (Int × ((List Int) × ((List Int) × (List Int)))))) (x25 : Int) : Option (((Int × Int × Int × Unit) × (List Int) × (List Int) × (List Int) × (List (Int × ((List Int) × ((List Int) × (List Int))))) × Unit) ⊕ (((List (Int × ((List Int) × ((List Int) × (List Int))))) × Unit) × Unit)) := iter k (fun (rec : ((Int × Int × Int × Unit) × (List Int) × (List Int) × (List Int) × (List (Int × ((List Int) × ((List Int) × (List Int))))) × Int × Unit) → Option (((Int × Int × Int × Unit) × (List Int) × (List Int) × (List Int) × (List (Int × ((List Int) × ((List Int) × (List Int))))) × Unit) ⊕ (((List (Int × ((List Int) × ((List Int) × (List Int))))) × Unit) × Unit))) (x : ((Int × Int × Int × Unit) × (List Int) × (List Int) × (List Int) × (List (Int × ((List Int) × ((List Int) × (List Int))))) × Int × Unit)) => impl_Wash_days_l2_b k j1 (fun x2 x5 x6 x7 x8 x25 => rec (x2, x5, x6, x7, x8, x25, ())) x.1 x.2.1 x.2.2.1 x.2.2.2.1 x.2.2.2.2.1 x.2.2.2.2.2.1) (x2, x5, x6, x7, x8, x25, ())
noncomputable def impl_Wash_days_l5_b (k : Nat) (x5_1 : (List Int)) (x33 : Int) (rec : (Int × Int × Int × Unit) → (List Int) → (List Int) → (List Int) → (List (Int × ((List Int) × ((List Int) × (List Int))))) → (Int × (List Int) × (List Int) × (List Int) × Unit) → Int → Option (((Int × Int × Int × Unit) × (List Int) × (List Int) × (List Int) × (List (Int × ((List Int) × ((List Int) × (List Int))))) × (Int × (List Int) × (List Int) × (List Int) × Unit) × Unit) ⊕ (((Int × Int × Int × Unit) × (List Int) × (List Int) × (List Int) × (List (Int × ((List Int) × ((List Int) × (List Int))))) × Unit) ⊕ (((List (Int × ((List Int) × ((List Int) × (List Int))))) × Unit) ⊕ (((List (Int × ((List Int) × ((List Int) × (List Int))))) × Unit) × Unit))))) (x2_2 : (Int × Int × Int × Unit)) (x5_2 : (List Int)) (x6_2 : (List Int)) (x7_2 : (List Int)) (x8_2 : (List (Int × ((List Int) × ((List Int) × (List Int)))))) (x11 : (Int × (List Int) × (List Int) × (List Int) × Unit)) (x39 : Int) : Option (((Int × Int × Int × Unit) × (List Int) × (List Int) × (List Int) × (List (Int × ((List Int) × ((List Int) × (List Int))))) × (Int × (List Int) × (List Int) × (List Int) × Unit) × Unit) ⊕ (((Int × Int × Int × Unit) × (List Int) × (List Int) × (List Int) × (List (Int × ((List Int) × ((List Int) × (List Int))))) × Unit) ⊕ (((List (Int × ((List Int) × ((List Int) × (List Int))))) × Unit) ⊕ (((List (Int × ((List Int) × ((List Int) × (List Int))))) × Unit) × Unit)))) :=
  (cond (decide (x39 < ((List.length x5_1 : Nat) : Int))) (met (met (ixk x39 (List.length x6_2) (cond (decide ((rd x6_2 x39) > x33)) (some (.inl ((x2_2.1, x2_2.2.1, x2_2.2.2.1, ()), x5_2, x6_2, x7_2, x8_2, (x11.1, x11.2.1, x11.2.2.1, x11.2.2.2.1, ()), true, ()))) (Option.bind (slices_Contains_int_int_f k x7_2 x39) (fun y51 => (some (.inl ((x2_2.1, x2_2.2.1, x2_2.2.2.1, ()), x5_2, x6_2, x7_2, x8_2, (x11.1, x11.2.1, x11.2.2.1, x11.2.2.2.1, ()), y51.1.1, ()))))))) (fun j6 => (cond j6.2.2.2.2.2.2.1 (some (.inl ((j6.1.1, j6.1.2.1, j6.1.2.2.1, ()), j6.2.1, j6.2.2.1, j6.2.2.2.1, j6.2.2.2.2.1, (j6.2.2.2.2.2.1.1, j6.2.2.2.2.2.1.2.1, j6.2.2.2.2.2.1.2.2.1, j6.2.2.2.2.2.1.2.2.2.1, ()), ()))) (chk (decide (List.length j6.2.2.2.2.2.1.2.1 + List.length [x39] ≤ 15637498706147)) (met (cond (decide (j6.2.2.2.2.2.1.1 < 0)) (some (.inl ((j6.1.1, j6.1.2.1, j6.1.2.2.1, ()), j6.2.1, j6.2.2.1, j6.2.2.2.1, j6.2.2.2.2.1, (j6.2.2.2.2.2.1.1, (j6.2.2.2.2.2.1.2.1 ++ [x39]), j6.2.2.2.2.2.1.2.2.1, j6.2.2.2.2.2.1.2.2.2.1, ()), true, ()))) (ixk x39 (List.length j6.2.1) (ixk j6.2.2.2.2.2.1.1 (List.length j6.2.1) (some (.inl ((j6.1.1, j6.1.2.1, j6.1.2.2.1, ()), j6.2.1, j6.2.2.1, j6.2.2.2.1, j6.2.2.2.2.1, (j6.2.2.2.2.2.1.1, (j6.2.2.2.2.2.1.2.1 ++ [x39]), j6.2.2.2.2.2.1.2.2.1, j6.2.2.2.2.2.1.2.2.2.1, ()), (decide ((rd j6.2.1 x39) < (rd j6.2.1 j6.2.2.2.2.2.1.1))), ())))))) (fun j7 => (met (cond j7.2.2.2.2.2.2.1 (some (.inl ((j7.1.1, j7.1.2.1, j7.1.2.2.1, ()), j7.2.1, j7.2.2.1, j7.2.2.2.1, j7.2.2.2.2.1, (x39, j7.2.2.2.2.2.1.2.1, j7.2.2.2.2.2.1.2.2.1, j7.2.2.2.2.2.1.2.2.2.1, ()), ()))) (some (.inl ((j7.1.1, j7.1.2.1, j7.1.2.2.1, ()), j7.2.1, j7.2.2.1, j7.2.2.2.1, j7.2.2.2.2.1, (j7.2.2.2.2.2.1.1, j7.2.2.2.2.2.1.2.1, j7.2.2.2.2.2.1.2.2.1, j7.2.2.2.2.2.1.2.2.2.1, ()), ())))) (fun j8 => (some (.inl ((j8.1.1, j8.1.2.1, j8.1.2.2.1, ()), j8.2.1, j8.2.2.1, j8.2.2.2.1, j8.2.2.2.2.1, (j8.2.2.2.2.2.1.1, j8.2.2.2.2.2.1.2.1, j8.2.2.2.2.2.1.2.2.1, j8.2.2.2.2.2.1.2.2.2.1, ()), ()))))))))))) (fun j9 => (rec (j9.1.1, j9.1.2.1, j9.1.2.2.1, ()) j9.2.1 j9.2.2.1 j9.2.2.2.1 j9.2.2.2.2.1 (j9.2.2.2.2.2.1.1, j9.2.2.2.2.2.1.2.1, j9.2.2.2.2.2.1.2.2.1, j9.2.2.2.2.2.1.2.2.2.1, ()) (iw (x39 + 1))))) (some (.inl ((x2_2.1, x2_2.2.1, x2_2.2.2.1, ()), x5_2, x6_2, x7_2, x8_2, (x11.1, x11.2.1, x11.2.2.1, x11.2.2.2.1, ()), ()))))
noncomputable def impl_Wash_days_l5 (k : Nat) (x5_1 : (List Int)) (x33 : Int) (x2_2 : (Int × Int × Int × Unit)) (x5_2 : (List Int)) (x6_2 : (List Int)) (x7_2 : (List Int)) (x8_2 : (List (Int × ((List Int) × ((List Int) × (List Int)))))) (x11 : (Int × (List Int) × (List Int) × (List Int) × Unit)) (x39 : Int) : Option (((Int × Int × Int × Unit) × (List Int) × (List Int) × (List Int) × (List (Int × ((List Int) × ((List Int) × (List Int))))) × (Int × (List Int) × (List Int) × (List Int) × Unit) × Unit) ⊕ (((Int × Int × Int × Unit) × (List Int) × (List Int) × (List Int) × (List (Int × ((List Int) × ((List Int) × (List Int))))) × Unit) ⊕ (((List (Int × ((List Int) × ((List Int) × (List Int))))) × Unit) ⊕ (((List (Int × ((List Int) × ((List Int) × (List Int))))) × Unit) × Unit)))) := iter k (fun (rec : ((Int × Int × Int × Unit) × (List Int) × (List Int) × (List Int) × (List (Int × ((List Int) × ((List Int) × (List Int))))) × (Int × (List Int) × (List Int) × (List Int) × Unit) × Int × Unit) → Option (((Int × Int × Int × Unit) × (List Int) × (List Int) × (List Int) × (List (Int × ((List Int) × ((List Int) × (List Int))))) × (Int × (List Int) × (List Int) × (List Int) × Unit) × Unit) ⊕ (((Int × Int × Int × Unit) × (List Int) × (List Int) × (List Int) × (List (Int × ((List Int) × ((List Int) × (List Int))))) × Unit) ⊕ (((List (Int × ((List Int) × ((List Int) × (List Int))))) × Unit) ⊕ (((List (Int × ((List Int) × ((List Int) × (List Int))))) × Unit) × Unit))))) (x : ((Int × Int × Int × Unit) × (List Int) × (List Int) × (List Int) × (List (Int × ((List Int) × ((List Int) × (List Int))))) × (Int × (List Int) × (List Int) × (List Int) × Unit) × Int × Unit)) => impl_Wash_days_l5_b k x5_1 x33 (fun x2_2 x5_2 x6_2 x7_2 x8_2 x11 x39 => rec (x2_2, x5_2, x6_2, x7_2, x8_2, x11, x39, ())) x.1 x.2.1 x.2.2.1 x.2.2.2.1 x.2.2.2.2.1 x.2.2.2.2.2.1 x.2.2.2.2.2.2.1) (x2_2, x5_2, x6_2, x7_2, x8_2, x11, x39, ())
noncomputable def impl_Wash_days_l12_b (k : Nat) (x33 : Int) (j11 : ((Int × Int × Int × Unit) × (List Int) × (List Int) × (List Int) × (List (Int × ((List Int) × ((List Int) × (List Int))))) × (Int × (List Int) × (List Int) × (List Int) × Unit) × Unit)) (rec : (Int × Int × Int × Unit) → (List Int) → (List Int) → (List (Int × ((List Int) × ((List Int) × (List Int))))) → (Int × (List Int) × (List Int) × (List Int) × Unit) → (List Int) → Int → Option (((Int × Int × Int × Unit) × (List Int) × (List Int) × (List (Int × ((List Int) × ((List Int) × (List Int))))) × (Int × (List Int) × (List Int) × (List Int) × Unit) × Unit) ⊕ (((Int × Int × Int × Unit) × (List Int) × (List Int) × (List Int) × (List (Int × ((List Int) × ((List Int) × (List Int))))) × (Int × (List Int) × (List Int) × (List Int) × Unit) × Unit) ⊕ (((Int × Int × Int × Unit) × (List Int) × (List Int) × (List Int) × (List (Int × ((List Int) × ((List Int) × (List Int))))) × Unit) ⊕ (((List (Int × ((List Int) × ((List Int) × (List Int))))) × Unit) ⊕ (((List (Int × ((List Int) × ((List Int) × (List Int))))) × Unit) × Unit)))))) (x2_3 : (Int × Int × Int × Unit)) (x5_3 : (List Int)) (x6_3 : (List Int)) (x8_3 : (List (Int × ((List Int) × ((List Int) × (List Int)))))) (x11_1 : (Int × (List Int) × (List Int) × (List Int) × Unit)) (x104 : (List Int)) (x106 : Int) : Option (((Int × Int × Int × Unit) × (List Int) × (List Int) × (List (Int × ((List Int) × ((List Int) × (List Int))))) × (Int × (List Int) × (List Int) × (List Int) × Unit) × Unit) ⊕ (((Int × Int × Int × Unit) × (List Int) × (List Int) × (List Int) × (List (Int × ((List Int) × ((List Int) × (List Int))))) × (Int × (List Int) × (List Int) × (List Int) × Unit) × Unit) ⊕ (((Int × Int × Int × Unit) × (List Int) × (List Int) × (List Int) × (List (Int × ((List Int) × ((List Int) × (List Int))))) × Unit) ⊕ (((List (Int × ((List Int) × ((List Int) × (List Int))))) × Unit) ⊕ (((List (Int × ((List Int) × ((List Int) × (List Int))))) × Unit) × Unit))))) :=
  (cond (decide (x106 < ((List.length j11.2.2.2.1 : Nat) : Int))) (ixk x106 (List.length x104) (ixk (rd x104 x106) (List.length x6_3) (rec (x2_3.1, x2_3.2.1, x2_3.2.2.1, ()) x5_3 (setI x6_3 (rd x104 x106) (iw (x33 + x2_3.2.2.1))) x8_3 (x11_1.1, x11_1.2.1, x11_1.2.2.1, x11_1.2.2.2.1, ()) x104 (iw (x106 + 1))))) (some (.inl ((x2_3.1, x2_3.2.1, x2_3.2.2.1, ()), x5_3, x6_3, x8_3, (x11_1.1, x11_1.2.1, x11_1.2.2.1, x11_1.2.2.2.1, ()), ()))))
noncomputable def impl_Wash_days_l12 (k : Nat) (x33 : Int) (j11 : ((Int × Int × Int × Unit) × (List Int) × (List Int) × (List Int) × (List (Int × ((List Int) × ((List Int) × (List Int))))) × (Int × (List Int) × (List Int) × (List Int) × Unit) × Unit)) (x2_3 : (Int × Int × Int × Unit)) (x5_3 : (List Int)) (x6_3 : (List Int)) (x8_3 : (List (Int × ((List Int) × ((List Int) × (List Int)))))) (x11_1 : (Int × (List Int) × (List Int) × (List Int) × Unit)) (x104 : (List Int)) (x106 : Int) : Option (((Int × Int × Int × Unit) × (List Int) × (List Int) × (List (Int × ((List Int) × ((List Int) × (List Int))))) × (Int × (List Int) × (List Int) × (List Int) × Unit) × Unit) ⊕ (((Int × Int × Int × Unit) × (List Int) × (List Int) × (List Int) × (List (Int × ((List Int) × ((List Int) × (List Int))))) × (Int × (List Int) × (List Int) × (List Int) × Unit) × Unit) ⊕ (((Int × Int × Int × Unit) × (List Int) × (List Int) × (List Int) × (List (Int × ((List Int) × ((List Int) × (List Int))))) × Unit) ⊕ (((List (Int × ((List Int) × ((List Int) × (List Int))))) × Unit) ⊕ (((List (Int × ((List Int) × ((List Int) × (List Int))))) × Unit) × Unit))))) := iter k (fun (rec : ((Int × Int × Int × Unit) × (List Int) × (List Int) × (List (Int × ((List Int) × ((List Int) × (List Int))))) × (Int × (List Int) × (List Int) × (List Int) × Unit) × (List Int) × Int × Unit) → Option (((Int × Int × Int × Unit) × (List Int) × (List Int) × (List (Int × ((List Int) × ((List Int) × (List Int))))) × (Int × (List Int) × (List Int) × (List Int) × Unit) × Unit) ⊕ (((Int × Int × Int × Unit) × (List Int) × (List Int) × (List Int) × (List (Int × ((List Int) × ((List Int) × (List Int))))) × (Int × (List Int) × (List Int) × (List Int) × Unit) × Unit) ⊕ (((Int × Int × Int × Unit) × (List Int) × (List Int) × (List Int) × (List (Int × ((List Int) × ((List Int) × (List Int))))) × Unit) ⊕ (((List (Int × ((List Int) × ((List Int) × (List Int))))) × Unit) ⊕ (((List (Int × ((List Int) × ((List Int) × (List Int))))) × Unit) × Unit)))))) (x : ((Int × Int × Int × Unit) × (List Int) × (List Int) × (List (Int × ((List Int) × ((List Int) × (List Int))))) × (Int × (List Int) × (List Int) × (List Int) × Unit) × (List Int) × Int × Unit)) => impl_Wash_days_l12_b k x33 j11 (fun x2_3 x5_3 x6_3 x8_3 x11_1 x104 x106 => rec (x2_3, x5_3, x6_3, x8_3, x11_1, x104, x106, ())) x.1 x.2.1 x.2.2.1 x.2.2.2.1 x.2.2.2.2.1 x.2.2.2.2.2.1 x.2.2.2.2.2.2.1) (x2_3, x5_3, x6_3, x8_3, x11_1, x104, x106, ())
noncomputable def impl_Wash_days_l4_b (k : Nat) (p1 : Int) (rec : (Int × Int × Int × Unit) → (List Int) → (List Int) → (List Int) → (List (Int × ((List Int) × ((List Int) × (List Int))))) → Int → Option (((List (Int × ((List Int) × ((List Int) × (List Int))))) × Unit) ⊕ (((List (Int × ((List Int) × ((List Int) × (List Int))))) × Unit) × Unit))) (x2_1 : (Int × Int × Int × Unit)) (x5_1 : (List Int)) (x6_1 : (List Int)) (x7_1 : (List Int)) (x8_1 : (List (Int × ((List Int) × ((List Int) × (List Int)))))) (x33 : Int) : Option (((List (Int × ((List Int) × ((List Int) × (List Int))))) × Unit) ⊕ (((List (Int × ((List Int) × ((List Int) × (List Int))))) × Unit) × Unit)) :=
  (cond (decide (x33 < p1)) (met (met (impl_Wash_days_l5 k x5_1 x33 (x2_1.1, x2_1.2.1, x2_1.2.2.1, ()) x5_1 x6_1 x7_1 x8_1 ((-1), ([] : List Int), ([] : List Int), ([] : List Int), ()) 0) (fun j10 => (met (cond (decide (j10.2.2.2.2.2.1.1 ≥ 0)) (ixk j10.2.2.2.2.2.1.1 (List.length j10.2.1) (chk (decide (List.length j10.2.2.2.1 + List.length [j10.2.2.2.2.2.1.1] ≤ 15637498706147)) (some (.inl ((j10.1.1, j10.1.2.1, j10.1.2.2.1, ()), (setI j10.2.1 j10.2.2.2.2.2.1.1 x33), j10.2.2.1, (j10.2.2.2.1 ++ [j10.2.2.2.2.2.1.1]), j10.2.2.2.2.1, (j10.2.2.2.2.2.1.1, j10.2.2.2.2.2.1.2.1, j10.2.2.2.2.2.1.2.2.1, j10.2.2.2.2.2.1.2.2.2.1, ()), ()))))) (some (.inl ((j10.1.1, j10.1.2.1, j10.1.2.2.1, ()), j10.2.1, j10.2.2.1, j10.2.2.2.1, j10.2.2.2.2.1, (j10.2.2.2.2.2.1.1, j10.2.2.2.2.2.1.2.1, j10.2.2.2.2.2.1.2.2.1, j10.2.2.2.2.2.1.2.2.2.1, ()), ())))) (fun j11 => (chk (decide (List.length j11.2.2.2.1 ≤ 1000000000)) (chk (!(j11.1.2.1 == 0)) (met (cond ((Int.tmod (iw (x33 + 1)) j11.1.2.1) == 0) (Option.bind (slices_Clone_int_int_f k (sortI j11.2.2.2.1)) (fun y102 => (met (impl_Wash_days_l12 k x33 j11 (j11.1.1, j11.1.2.1, j11.1.2.2.1, ()) j11.2.1 j11.2.2.1 j11.2.2.2.2.1 (j11.2.2.2.2.2.1.1, j11.2.2.2.2.2.1.2.1, (sortI j11.2.2.2.1), y102.1.1, ()) j11.2.2.2.1 0) (fun j13 => (some (.inl ((j13.1.1, j13.1.2.1, j13.1.2.2.1, ()), j13.2.1, j13.2.2.1, [], j13.2.2.2.1, (j13.2.2.2.2.1.1, j13.2.2.2.2.1.2.1, j13.2.2.2.2.1.2.2.1, j13.2.2.2.2.1.2.2.2.1, ()), ()))))))) (some (.inl ((j11.1.1, j11.1.2.1, j11.1.2.2.1, ()), j11.2.1, j11.2.2.1, j11.2.2.2.1, j11.2.2.2.2.1, (j11.2.2.2.2.2.1.1, j11.2.2.2.2.2.1.2.1, (sortI j11.2.2.2.1), j11.2.2.2.2.2.1.2.2.2.1, ()), ())))) (fun j14 => (chk (decide (List.length j14.2.2.2.2.1 + List.length [(j14.2.2.2.2.2.1.1, (j14.2.2.2.2.2.1.2.1, (j14.2.2.2.2.2.1.2.2.1, j14.2.2.2.2.2.1.2.2.2.1)))] ≤ 1737499856238)) (some (.inl ((j14.1.1, j14.1.2.1, j14.1.2.2.1, ()), j14.2.1, j14.2.2.1, j14.2.2.2.1, (j14.2.2.2.2.1 ++ [(j14.2.2.2.2.2.1.1, (j14.2.2.2.2.2.1.2.1, (j14.2.2.2.2.2.1.2.2.1, j14.2.2.2.2.2.1.2.2.2.1)))]), ())))))))))))) (fun j15 => (rec (j15.1.1, j15.1.2.1, j15.1.2.2.1, ()) j15.2.1 j15.2.2.1 j15.2.2.2.1 j15.2.2.2.2.1 (iw (x33 + 1))))) (some (.inl (x8_1, ()))))
noncomputable def impl_Wash_days_l4 (k : Nat) (p1 : Int) (x2_1 : (Int × Int × Int × Unit)) (x5_1 : (List Int)) (x6_1 : (List Int)) (x7_1 : (List Int)) (x8_1 : (List (Int × ((List Int) × ((List Int) × (List Int)))))) (x33 : Int) : Option (((List (Int × ((List Int) × ((List Int) × (List Int))))) × Unit) ⊕ (((List (Int × ((List Int) × ((List Int) × (List Int))))) × Unit) × Unit)) := iter k (fun (rec : ((Int × Int × Int × Unit) × (List Int) × (List Int) × (List Int) × (List (Int × ((List Int) × ((List Int) × (List Int))))) × Int × Unit) → Option (((List (Int × ((List Int) × ((List Int) × (List Int))))) × Unit) ⊕ (((List (Int × ((List Int) × ((List Int) × (List Int))))) × Unit) × Unit))) (x : ((Int × Int × Int × Unit) × (List Int) × (List Int) × (List Int) × (List (Int × ((List Int) × ((List Int) × (List Int))))) × Int × Unit)) => impl_Wash_days_l4_b k p1 (fun x2_1 x5_1 x6_1 x7_1 x8_1 x33 => rec (x2_1, x5_1, x6_1, x7_1, x8_1, x33, ())) x.1 x.2.1 x.2.2.1 x.2.2.2.1 x.2.2.2.2.1 x.2.2.2.2.2.1) (x2_1, x5_1, x6_1, x7_1, x8_1, x33, ())
noncomputable def impl_Wash_days_f (k : Nat) (p0 : (Int × (Int × Int))) (p1 : Int) : Option (((List (Int × ((List Int) × ((List Int) × (List Int))))) × Unit) × Unit) :=
  (met (andX (chk (decide ((0 : Int) ≤ p0.1)) (chk (decide (p0.1 ≤ ((15637498706147 : Nat) : Int))) (andX (chk (decide ((0 : Int) ≤ p0.1)) (chk (decide (p0.1 ≤ ((15637498706147 : Nat) : Int))) ((fun q => andX q q) (some (.inl ((p0.1, p0.2.1, p0.2.2, ()), (List.replicate (Int.toNat p0.1) (0 : Int)), (List.replicate (Int.toNat p0.1) (0 : Int)), [], [], ())))))) (andX ((fun q => andX q q) (chk (decide ((0 : Int) ≤ p0.1)) (chk (decide (p0.1 ≤ ((15637498706147 : Nat) : Int))) (some (.inl ((p0.1, p0.2.1, p0.2.2, ()), (List.replicate (Int.toNat p0.1) (0 : Int)), (List.replicate (Int.toNat p0.1) (0 : Int)), [], [], ())))))) ((fun q => andX q q) (chk (decide ((0 : Int) ≤ p0.1)) (chk (decide (p0.1 ≤ ((15637498706147 : Nat) : Int))) (some (.inl ((p0.1, p0.2.1, p0.2.2, ()), (List.replicate (Int.toNat p0.1) (0 : Int)), (List.replicate (Int.toNat p0.1) (0 : Int)), [], [], ())))))))))) (andX (chk (decide ((0 : Int) ≤ p0.1)) (chk (decide (p0.1 ≤ ((15637498706147 : Nat) : Int))) (andX (chk (decide ((0 : Int) ≤ p0.1)) (chk (decide (p0.1 ≤ ((15637498706147 : Nat) : Int))) ((fun q => andX q q) (some (.inl ((p0.1, p0.2.1, p0.2.2, ()), (List.replicate (Int.toNat p0.1) (0 : Int)), (List.replicate (Int.toNat p0.1) (0 : Int)), [], [], ())))))) (andX ((fun q => andX q q) (chk (decide ((0 : Int) ≤ p0.1)) (chk (decide (p0.1 ≤ ((15637498706147 : Nat) : Int))) (some (.inl ((p0.1, p0.2.1, p0.2.2, ()), (List.replicate (Int.toNat p0.1) (0 : Int)), (List.replicate (Int.toNat p0.1) (0 : Int)), [], [], ())))))) ((fun q => andX q q) (chk (decide ((0 : Int) ≤ p0.1)) (chk (decide (p0.1 ≤ ((15637498706147 : Nat) : Int))) (some (.inl ((p0.1, p0.2.1, p0.2.2, ()), (List.replicate (Int.toNat p0.1) (0 : Int)), (List.replicate (Int.toNat p0.1) (0 : Int)), [], [], ())))))))))) (andX (andX (chk (decide ((0 : Int) ≤ p0.1)) (chk (decide (p0.1 ≤ ((15637498706147 : Nat) : Int))) ((fun q => andX q q) (chk (decide ((0 : Int) ≤ p0.1)) (chk (decide (p0.1 ≤ ((15637498706147 : Nat) : Int))) (some (.inl ((p0.1, p0.2.1, p0.2.2, ()), (List.replicate (Int.toNat p0.1) (0 : Int)), (List.replicate (Int.toNat p0.1) (0 : Int)), [], [], ())))))))) (andX (chk (decide ((0 : Int) ≤ p0.1)) (chk (decide (p0.1 ≤ ((15637498706147 : Nat) : Int))) ((fun q => andX q q) (chk (decide ((0 : Int) ≤ p0.1)) (chk (decide (p0.1 ≤ ((15637498706147 : Nat) : Int))) (some (.inl ((p0.1, p0.2.1, p0.2.2, ()), (List.replicate (Int.toNat p0.1) (0 : Int)), (List.replicate (Int.toNat p0.1) (0 : Int)), [], [], ())))))))) ((fun q => andX q q) (chk (decide ((0 : Int) ≤ p0.1)) (chk (decide (p0.1 ≤ ((15637498706147 : Nat) : Int))) (chk (decide ((0 : Int) ≤ p0.1)) (chk (decide (p0.1 ≤ ((15637498706147 : Nat) : Int))) (some (.inl ((p0.1, p0.2.1, p0.2.2, ()), (List.replicate (Int.toNat p0.1) (0 : Int)), (List.replicate (Int.toNat p0.1) (0 : Int)), [], [], ())))))))))) (andX (chk (decide ((0 : Int) ≤ p0.1)) (chk (decide (p0.1 ≤ ((15637498706147 : Nat) : Int))) ((fun q => andX q q) (chk (decide ((0 : Int) ≤ p0.1)) (chk (decide (p0.1 ≤ ((15637498706147 : Nat) : Int))) (some (.inl ((p0.1, p0.2.1, p0.2.2, ()), (List.replicate (Int.toNat p0.1) (0 : Int)), (List.replicate (Int.toNat p0.1) (0 : Int)), [], [], ())))))))) (andX (chk (decide ((0 : Int) ≤ p0.1)) (chk (decide (p0.1 ≤ ((15637498706147 : Nat) : Int))) ((fun q => andX q q) (chk (decide ((0 : Int) ≤ p0.1)) (chk (decide (p0.1 ≤ ((15637498706147 : Nat) : Int))) (some (.inl ((p0.1, p0.2.1, p0.2.2, ()), (List.replicate (Int.toNat p0.1) (0 : Int)), (List.replicate (Int.toNat p0.1) (0 : Int)), [], [], ())))))))) ((fun q => andX q q) (chk (decide ((0 : Int) ≤ p0.1)) (chk (decide (p0.1 ≤ ((15637498706147 : Nat) : Int))) (chk (decide ((0 : Int) ≤ p0.1)) (chk (decide (p0.1 ≤ ((15637498706147 : Nat) : Int))) (some (.inl ((p0.1, p0.2.1, p0.2.2, ()), (List.replicate (Int.toNat p0.1) (0 : Int)), (List.replicate (Int.toNat p0.1) (0 : Int)), [], [], ()))))))))))))) (fun j1 => (met (impl_Wash_days_l2 k j1 (j1.1.1, j1.1.2.1, j1.1.2.2.1, ()) j1.2.1 j1.2.2.1 j1.2.2.2.1 j1.2.2.2.2.1 0) (fun j3 => (met (impl_Wash_days_l4 k p1 (j3.1.1, j3.1.2.1, j3.1.2.2.1, ()) j3.2.1 j3.2.2.1 j3.2.2.2.1 j3.2.2.2.2.1 0) (fun j16 => (some ((j16.1, ()), ()))))))))
noncomputable def impl_Wash_days_a : Ann := (.q .o (.q (.d [] [11] [(2, 100128, .box false [.v (.int .i64), .v (.int .i64), .v (.int .i64)]), (5, 100320, .own false 3 (.int .i64)), (6, 100384, .own false 3 (.int .i64)), (7, 100448, .own false 3 (.int .i64)), (8, 100512, .own false 72 (.pr (.int .i64) (.pr (.slc 3 (.int .i64)) (.pr (.slc 3 (.int .i64)) (.slc 3 (.int .i64))))))]) (.q (.q .o (.m [(2, 100128, .box false [.v (.int .i64), .v (.int .i64), .v (.int .i64)]), (5, 100320, .own false 3 (.int .i64)), (6, 100384, .own false 3 (.int .i64)), (7, 100448, .own false 3 (.int .i64)), (8, 100512, .own false 72 (.pr (.int .i64) (.pr (.slc 3 (.int .i64)) (.pr (.slc 3 (.int .i64)) (.slc 3 (.int .i64))))))] (.l [(2, 100128, .box false [.v (.int .i64), .v (.int .i64), .v (.int .i64)]), (5, 100320, .own false 3 (.int .i64)), (6, 100384, .own false 3 (.int .i64)), (7, 100448, .own false 3 (.int .i64)), (8, 100512, .own false 72 (.pr (.int .i64) (.pr (.slc 3 (.int .i64)) (.pr (.slc 3 (.int .i64)) (.slc 3 (.int .i64)))))), (25, 101600, .v (.int .i64))] .o))) (.q (.q .o (.m [(8, 100512, .own false 72 (.pr (.int .i64) (.pr (.slc 3 (.int .i64)) (.pr (.slc 3 (.int .i64)) (.slc 3 (.int .i64))))))] (.l [(2, 100128, .box false [.v (.int .i64), .v (.int .i64), .v (.int .i64)]), (5, 100320, .own false 3 (.int .i64)), (6, 100384, .own false 3 (.int .i64)), (7, 100448, .own false 3 (.int .i64)), (8, 100512, .own false 72 (.pr (.int .i64) (.pr (.slc 3 (.int .i64)) (.pr (.slc 3 (.int .i64)) (.slc 3 (.int .i64)))))), (33, 102112, .v (.int .i64))] (.q .o (.q .o (.q (.m [(2, 100128, .box false [.v (.int .i64), .v (.int .i64), .v (.int .i64)]), (5, 100320, .own false 3 (.int .i64)), (6, 100384, .own false 3 (.int .i64)), (7, 100448, .own false 3 (.int .i64)), (8, 100512, .own false 72 (.pr (.int .i64) (.pr (.slc 3 (.int .i64)) (.pr (.slc 3 (.int .i64)) (.slc 3 (.int .i64))))))] (.q .o (.q .o (.q (.q .o (.m [(2, 100128, .box false [.v (.int .i64), .v (.int .i64), .v (.int .i64)]), (5, 100320, .own false 3 (.int .i64)), (6, 100384, .own false 3 (.int .i64)), (7, 100448, .own false 3 (.int .i64)), (8, 100512, .own false 72 (.pr (.int .i64) (.pr (.slc 3 (.int .i64)) (.pr (.slc 3 (.int .i64)) (.slc 3 (.int .i64)))))), (11, 100704, .box false [.v (.int .i64), .v (.slc 3 (.int .i64)), .v (.slc 3 (.int .i64)), .v (.slc 3 (.int .i64))])] (.l [(2, 100128, .box false [.v (.int .i64), .v (.int .i64), .v (.int .i64)]), (5, 100320, .own false 3 (.int .i64)), (6, 100384, .own false 3 (.int .i64)), (7, 100448, .own false 3 (.int .i64)), (8, 100512, .own false 72 (.pr (.int .i64) (.pr (.slc 3 (.int .i64)) (.pr (.slc 3 (.int .i64)) (.slc 3 (.int .i64)))))), (11, 100704, .box false [.v (.int .i64), .own 3 (.int .i64), .v (.slc 3 (.int .i64)), .v (.slc 3 (.int .i64))]), (39, 102496, .v (.int .i64))] (.q .o (.q .o (.q (.m [(2, 100128, .box false [.v (.int .i64), .v (.int .i64), .v (.int .i64)]), (5, 100320, .own false 3 (.int .i64)), (6, 100384, .own false 3 (.int .i64)), (7, 100448, .own false 3 (.int .i64)), (8, 100512, .own false 72 (.pr (.int .i64) (.pr (.slc 3 (.int .i64)) (.pr (.slc 3 (.int .i64)) (.slc 3 (.int .i64)))))), (11, 100704, .box false [.v (.int .i64), .own 3 (.int .i64), .v (.slc 3 (.int .i64)), .v (.slc 3 (.int .i64))])] (.q .o (.q (.q (.r [(2, 100128, .box false [.v (.int .i64), .v (.int .i64), .v (.int .i64)]), (5, 100320, .own false 3 (.int .i64)), (6, 100384, .own false 3 (.int .i64)), (7, 100448, .own false 3 (.int .i64)), (8, 100512, .own false 72 (.pr (.int .i64) (.pr (.slc 3 (.int .i64)) (.pr (.slc 3 (.int .i64)) (.slc 3 (.int .i64)))))), (11, 100704, .box false [.v (.int .i64), .own 3 (.int .i64), .v (.slc 3 (.int .i64)), .v (.slc 3 (.int .i64))]), (52, 103328, .v .bool)]) .o) (.q .o (.q (.d [] [] [(2, 100128, .box false [.v (.int .i64), .v (.int .i64), .v (.int .i64)]), (5, 100320, .own false 3 (.int .i64)), (6, 100384, .own false 3 (.int .i64)), (7, 100448, .own false 3 (.int .i64)), (8, 100512, .own false 72 (.pr (.int .i64) (.pr (.slc 3 (.int .i64)) (.pr (.slc 3 (.int .i64)) (.slc 3 (.int .i64)))))), (11, 100704, .box false [.v (.int .i64), .own 3 (.int .i64), .v (.slc 3 (.int .i64)), .v (.slc 3 (.int .i64))]), (73, 104672, .v .bool)]) (.j [(2, 100128, .box false [.v (.int .i64), .v (.int .i64), .v (.int .i64)]), (5, 100320, .own false 3 (.int .i64)), (6, 100384, .own false 3 (.int .i64)), (7, 100448, .own false 3 (.int .i64)), (8, 100512, .own false 72 (.pr (.int .i64) (.pr (.slc 3 (.int .i64)) (.pr (.slc 3 (.int .i64)) (.slc 3 (.int .i64)))))), (11, 100704, .box false [.v (.int .i64), .own 3 (.int .i64), .v (.slc 3 (.int .i64)), .v (.slc 3 (.int .i64))])] .o .o)))))) .o)))))) (.q (.q .o (.j [(2, 100128, .box false [.v (.int .i64), .v (.int .i64), .v (.int .i64)]), (5, 100320, .own false 3 (.int .i64)), (6, 100384, .own false 3 (.int .i64)), (7, 100448, .own false 3 (.int .i64)), (8, 100512, .own false 72 (.pr (.int .i64) (.pr (.slc 3 (.int .i64)) (.pr (.slc 3 (.int .i64)) (.slc 3 (.int .i64)))))), (11, 100704, .box false [.v (.int .i64), .v (.slc 3 (.int .i64)), .v (.slc 3 (.int .i64)), .v (.slc 3 (.int .i64))])] .o .o)) (.q .o (.q (.q .o (.j [(2, 100128, .box false [.v (.int .i64), .v (.int .i64), .v (.int .i64)]), (5, 100320, .own false 3 (.int .i64)), (6, 100384, .own false 3 (.int .i64)), (7, 100448, .own false 3 (.int .i64)), (8, 100512, .own false 72 (.pr (.int .i64) (.pr (.slc 3 (.int .i64)) (.pr (.slc 3 (.int .i64)) (.slc 3 (.int .i64)))))), (11, 100704, .box false [.v (.int .i64), .v (.slc 3 (.int .i64)), .v (.slc 3 (.int .i64)), .v (.slc 3 (.int .i64))])] (.q .o (.q (.q .o (.m [(2, 100128, .box false [.v (.int .i64), .v (.int .i64), .v (.int .i64)]), (5, 100320, .own false 3 (.int .i64)), (6, 100384, .own false 3 (.int .i64)), (8, 100512, .own false 72 (.pr (.int .i64) (.pr (.slc 3 (.int .i64)) (.pr (.slc 3 (.int .i64)) (.slc 3 (.int .i64)))))), (11, 100704, .box false [.v (.int .i64), .v (.slc 3 (.int .i64)), .v (.slc 3 (.int .i64)), .v (.slc 3 (.int .i64))])] (.l [(2, 100128, .box false [.v (.int .i64), .v (.int .i64), .v (.int .i64)]), (5, 100320, .own false 3 (.int .i64)), (6, 100384, .own false 3 (.int .i64)), (8, 100512, .own false 72 (.pr (.int .i64) (.pr (.slc 3 (.int .i64)) (.pr (.slc 3 (.int .i64)) (.slc 3 (.int .i64)))))), (11, 100704, .box false [.v (.int .i64), .v (.slc 3 (.int .i64)), .v (.slc 3 (.int .i64)), .v (.slc 3 (.int .i64))]), (104, 106656, .v (.slc 3 (.int .i64))), (106, 106784, .v (.int .i64))] .o))) .o)) .o)) .o))))))) .o)))))) .o))))
theorem impl_Wash_days_run (k : Nat) (p0 : (Int × (Int × Int))) (p1 : Int) : funX Tryz.prog (callR [valuesRule 128 157, seqRule 127 157 3] [slices_Contains_int_int_c k, slices_Clone_int_int_c k]) k Tryz.f71 impl_Wash_days_a [.v (.pr (.int .i64) (.pr (.int .i64) (.int .i64))), .v (.int .i64)] [.own false 72 (.pr (.int .i64) (.pr (.slc 3 (.int .i64)) (.pr (.slc 3 (.int .i64)) (.slc 3 (.int .i64)))))] (p0, p1, ()) = impl_Wash_days_f k p0 p1 := by kernel_rfl
noncomputable def impl_Wash_days_c (k : Nat) : Con := ⟨71, [.v (.pr (.int .i64) (.pr (.int .i64) (.int .i64))), .v (.int .i64)], [.own false 72 (.pr (.int .i64) (.pr (.slc 3 (.int .i64)) (.pr (.slc 3 (.int .i64)) (.slc 3 (.int .i64)))))], fun x => impl_Wash_days_f k x.1 x.2.1⟩
theorem impl_Wash_days_ok (k : Nat) : (impl_Wash_days_c k).Sound Tryz.prog GL := con_ok (k := k) (fn := Tryz.f71) (A := impl_Wash_days_a) (C := callR [valuesRule 128 157, seqRule 127 157 3] [slices_Contains_int_int_c k, slices_Clone_int_int_c k]) Tryz.func71 (by kernel_rfl) (show Tryz.f71.body = some (bodyX Tryz.f71) by rfl) (fun X hX => callR_at (RulesOk.cons rule_values (RulesOk.cons rule_sorted RulesOk.nil)) (TableOk.cons (slices_Contains_int_int_ok k) (TableOk.cons (slices_Clone_int_int_ok k) TableOk.nil)) X hX) (Nat.le_of_ble_eq_true (by kernel_rfl)) (fun ⟨p0, p1, _⟩ y h => by rw [← h]; exact impl_Wash_days_run k p0 p1)
noncomputable def impl_day_isBare_f (k : Nat) (p0 : (Int × ((List Int) × ((List Int) × (List Int))))) : Option ((Bool × Unit) × Unit) :=
  (some (((decide (p0.1 < 0)), ()), ()))
noncomputable def impl_day_isBare_a : Ann := .o
theorem impl_day_isBare_run (k : Nat) (p0 : (Int × ((List Int) × ((List Int) × (List Int))))) : funX Tryz.prog (callT []) k Tryz.f72 impl_day_isBare_a [.v (.pr (.int .i64) (.pr (.slc 3 (.int .i64)) (.pr (.slc 3 (.int .i64)) (.slc 3 (.int .i64)))))] [.v .bool] (p0, ()) = impl_day_isBare_f k p0 := by kernel_rfl
noncomputable def impl_day_isBare_c (k : Nat) : Con := ⟨72, [.v (.pr (.int .i64) (.pr (.slc 3 (.int .i64)) (.pr (.slc 3 (.int .i64)) (.slc 3 (.int .i64)))))], [.v .bool], fun x => impl_day_isBare_f k x.1⟩
theorem impl_day_isBare_ok (k : Nat) : (impl_day_isBare_c k).Sound Tryz.prog GL := con_ok (k := k) (fn := Tryz.f72) (A := impl_day_isBare_a) (C := callT []) Tryz.func72 (by kernel_rfl) (show Tryz.f72.body = some (bodyX Tryz.f72) by rfl) (fun X hX => callT_at TableOk.nil X hX) (Nat.le_of_ble_eq_true (by kernel_rfl)) (fun ⟨p0, _⟩ y h => by rw [← h]; exact impl_day_isBare_run k p0)
noncomputable def slices_IndexFunc_impl_day_impl_day__impl_day_isBare_l1_b (k : Nat) (p0 : (List (Int × ((List Int) × ((List Int) × (List Int)))))) (rec : Int → Option (Unit ⊕ ((Int × Unit) × Unit))) (x8 : Int) : Option (Unit ⊕ ((Int × Unit) × Unit)) :=
  (cond (decide (x8 < ((List.length p0 : Nat) : Int))) (ixk x8 (List.length p0) (Option.bind (impl_day_isBare_f k ((rdG (0, ([], ([], []))) p0 x8).1, ((rdG (0, ([], ([], []))) p0 x8).2.1, ((rdG (0, ([], ([], []))) p0 x8).2.2.1, (rdG (0, ([], ([], []))) p0 x8).2.2.2)))) (fun y16 => (cond y16.1.1 (some (.inr ((x8, ()), ()))) (rec (iw (x8 + 1))))))) (some (.inl ())))
noncomputable def slices_IndexFunc_impl_day_impl_day__impl_day_isBare_l1 (k : Nat) (p0 : (List (Int × ((List Int) × ((List Int) × (List Int)))))) (x8 : Int) : Option (Unit ⊕ ((Int × Unit) × Unit)) := iter k (fun (rec : (Int × Unit) → Option (Unit ⊕ ((Int × Unit) × Unit))) (x : (Int × Unit)) => slices_IndexFunc_impl_day_impl_day__impl_day_isBare_l1_b k p0 (fun x8 => rec (x8, ())) x.1) (x8, ())
noncomputable def slices_IndexFunc_impl_day_impl_day__impl_day_isBare_f (k : Nat) (p0 : (List (Int × ((List Int) × ((List Int) × (List Int)))))) (p1 : Unit) : Option ((Int × Unit) × Unit) :=
  (met (slices_IndexFunc_impl_day_impl_day__impl_day_isBare_l1 k p0 0) (fun j2 => (some (((-1), ()), ()))))
noncomputable def slices_IndexFunc_impl_day_impl_day__impl_day_isBare_a : Ann := (.q .o (.q (.q .o (.m [] (.l [(8, 100512, .v (.int .i64))] .o))) .o))
theorem slices_IndexFunc_impl_day_impl_day__impl_day_isBare_run (k : Nat) (p0 : (List (Int × ((List Int) × ((List Int) × (List Int)))))) (p1 : Unit) : funX Tryz.prog (callT [impl_day_isBare_c k]) k Tryz.f70 slices_IndexFunc_impl_day_impl_day__impl_day_isBare_a [.v (.slc 72 (.pr (.int .i64) (.pr (.slc 3 (.int .i64)) (.pr (.slc 3 (.int .i64)) (.slc 3 (.int .i64)))))), .fn 72 []] [.v (.int .i64)] (p0, p1, ()) = slices_IndexFunc_impl_day_impl_day__impl_day_isBare_f k p0 p1 := by kernel_rfl
noncomputable def slices_IndexFunc_impl_day_impl_day__impl_day_isBare_c (k : Nat) : Con := ⟨70, [.v (.slc 72 (.pr (.int .i64) (.pr (.slc 3 (.int .i64)) (.pr (.slc 3 (.int .i64)) (.slc 3 (.int .i64)))))), .fn 72 []], [.v (.int .i64)], fun x => slices_IndexFunc_impl_day_impl_day__impl_day_isBare_f k x.1 x.2.1⟩
theorem slices_IndexFunc_impl_day_impl_day__impl_day_isBare_ok (k : Nat) : (slices_IndexFunc_impl_day_impl_day__impl_day_isBare_c k).Sound Tryz.prog GL := con_ok (k := k) (fn := Tryz.f70) (A := slices_IndexFunc_impl_day_impl_day__impl_day_isBare_a) (C := callT [impl_day_isBare_c k]) Tryz.func70 (by kernel_rfl) (show Tryz.f70.body = some (bodyX Tryz.f70) by rfl) (fun X hX => callT_at (TableOk.cons (impl_day_isBare_ok k) TableOk.nil) X hX) (Nat.le_of_ble_eq_true (by kernel_rfl)) (fun ⟨p0, p1, _⟩ y h => by rw [← h]; exact slices_IndexFunc_impl_day_impl_day__impl_day_isBare_run k p0 p1)
noncomputable def impl_FirstBare_f (k : Nat) (p0 : (Int × (Int × Int))) : Option ((Int × Bool × Unit) × Unit) :=
  (Option.bind (impl_IsWash_f k p0) (fun y6 => (cond (!y6.1.1) (some ((0, false, ()), ())) (Option.bind (impl_Wash_days_f k p0 501) (fun y9 => (Option.bind (slices_IndexFunc_impl_day_impl_day__impl_day_isBare_f k y9.1.1 ()) (fun y10 => (some (((max2 y10.1.1 0), (decide (y10.1.1 ≥ 0)), ()), ())))))))))
noncomputable def impl_FirstBare_a : Ann := .o
theorem impl_FirstBare_run (k : Nat) (p0 : (Int × (Int × Int))) : funX Tryz.prog (callT [impl_IsWash_c k, impl_Wash_days_c k, slices_IndexFunc_impl_day_impl_day__impl_day_isBare_c k]) k Tryz.f9 impl_FirstBare_a [.v (.pr (.int .i64) (.pr (.int .i64) (.int .i64)))] [.v (.int .i64), .v .bool] (p0, ()) = impl_FirstBare_f k p0 := by kernel_rfl
noncomputable def impl_FirstBare_c (k : Nat) : Con := ⟨9, [.v (.pr (.int .i64) (.pr (.int .i64) (.int .i64)))], [.v (.int .i64), .v .bool], fun x => impl_FirstBare_f k x.1⟩
theorem impl_FirstBare_ok (k : Nat) : (impl_FirstBare_c k).Sound Tryz.prog GL := con_ok (k := k) (fn := Tryz.f9) (A := impl_FirstBare_a) (C := callT [impl_IsWash_c k, impl_Wash_days_c k, slices_IndexFunc_impl_day_impl_day__impl_day_isBare_c k]) Tryz.func9 (by kernel_rfl) (show Tryz.f9.body = some (bodyX Tryz.f9) by rfl) (fun X hX => callT_at (TableOk.cons (impl_IsWash_ok k) (TableOk.cons (impl_Wash_days_ok k) (TableOk.cons (slices_IndexFunc_impl_day_impl_day__impl_day_isBare_ok k) TableOk.nil))) X hX) (Nat.le_of_ble_eq_true (by kernel_rfl)) (fun ⟨p0, _⟩ y h => by rw [← h]; exact impl_FirstBare_run k p0)
noncomputable def spec_DrawGreatestEvery_f (k : Nat) (p0 : (List Int)) : Option ((Int × Int × Unit) × Unit) :=
  (Option.bind (spec_l1Cur_one_f k (p0, 0, 0, ()) 9) (fun y9 => (cond y9.1.1 (Option.bind (spec_l1Cur_among_f k (y9.2.1.1, y9.2.1.2.1, y9.2.1.2.2.1, ()) [(-1), 0, 1, 30, 31]) (fun y12 => (Option.bind (spec_l1Cur_among_f k (y12.2.1.1, y12.2.1.2.1, y12.2.1.2.2.1, ()) [(-1), 0, 1, 30, 31]) (fun y15 => (some ((y12.1.1, y15.1.1, ()), ())))))) (Option.bind (spec_l1Cur_pick_f k (y9.2.1.1, y9.2.1.2.1, y9.2.1.2.2.1, ()) 12) (fun y17 => (Option.bind (spec_l1Cur_pick_f k (y17.2.1.1, y17.2.1.2.1, y17.2.1.2.2.1, ()) 6) (fun y20 => (some (((iw (1 + y17.1.1)), (iw (1 + y20.1.1)), ()), ())))))))))
noncomputable def spec_DrawGreatestEvery_a : Ann := .o
theorem spec_DrawGreatestEvery_run (k : Nat) (p0 : (List Int)) : funX Tryz.prog (callT [spec_l1Cur_one_c k, spec_l1Cur_among_c k, spec_l1Cur_pick_c k]) k Tryz.f10 spec_DrawGreatestEvery_a [.v (.slc 5 (.int .u8))] [.v (.int .i64), .v (.int .i64)] (p0, ()) = spec_DrawGreatestEvery_f k p0 := by kernel_rfl
noncomputable def spec_DrawGreatestEvery_c (k : Nat) : Con := ⟨10, [.v (.slc 5 (.int .u8))], [.v (.int .i64), .v (.int .i64)], fun x => spec_DrawGreatestEvery_f k x.1⟩
theorem spec_DrawGreatestEvery_ok (k : Nat) : (spec_DrawGreatestEvery_c k).Sound Tryz.prog GL := con_ok (k := k) (fn := Tryz.f10) (A := spec_DrawGreatestEvery_a) (C := callT [spec_l1Cur_one_c k, spec_l1Cur_among_c k, spec_l1Cur_pick_c k]) Tryz.func10 (by kernel_rfl) (show Tryz.f10.body = some (bodyX Tryz.f10) by rfl) (fun X hX => callT_at (TableOk.cons (spec_l1Cur_one_ok k) (TableOk.cons (spec_l1Cur_among_ok k) (TableOk.cons (spec_l1Cur_pick_ok k) TableOk.nil))) X hX) (Nat.le_of_ble_eq_true (by kernel_rfl)) (fun ⟨p0, _⟩ y h => by rw [← h]; exact spec_DrawGreatestEvery_run k p0)
noncomputable def impl_greatest_f (k : Nat) (p0 : Int) (p1 : Int) (p2 : Int) : Option ((Int × Bool × Unit) × Unit) :=
  (met (Option.bind (impl_within_f k p0 1 30) (fun y9 => (cond (!y9.1.1) (some (.inl (true, ()))) (Option.bind (impl_within_f k p1 1 30) (fun y13 => (cond (!y13.1.1) (some (.inl (true, ()))) (some (.inl ((decide (p0 < p1)), ()))))))))) (fun j1 => (cond j1.1 (some ((0, false, ()), ())) (some (((min2 p2 (iw ((iw (p0 - p1)) + 1))), true, ()), ())))))
noncomputable def impl_greatest_a : Ann := (.q .o (.q (.q (.r [(20, 101280, .v .bool)]) .o) .o))
theorem impl_greatest_run (k : Nat) (p0 : Int) (p1 : Int) (p2 : Int) : funX Tryz.prog (callT [impl_within_c k]) k Tryz.f73 impl_greatest_a [.v (.int .i64), .v (.int .i64), .v (.int .i64)] [.v (.int .i64), .v .bool] (p0, p1, p2, ()) = impl_greatest_f k p0 p1 p2 := by kernel_rfl
noncomputable def impl_greatest_c (k : Nat) : Con := ⟨73, [.v (.int .i64), .v (.int .i64), .v (.int .i64)], [.v (.int .i64), .v .bool], fun x => impl_greatest_f k x.1 x.2.1 x.2.2.1⟩
theorem impl_greatest_ok (k : Nat) : (impl_greatest_c k).Sound Tryz.prog GL := con_ok (k := k) (fn := Tryz.f73) (A := impl_greatest_a) (C := callT [impl_within_c k]) Tryz.func73 (by kernel_rfl) (show Tryz.f73.body = some (bodyX Tryz.f73) by rfl) (fun X hX => callT_at (TableOk.cons (impl_within_ok k) TableOk.nil) X hX) (Nat.le_of_ble_eq_true (by kernel_rfl)) (fun ⟨p0, p1, p2, _⟩ y h => by rw [← h]; exact impl_greatest_run k p0 p1 p2)
noncomputable def impl_GreatestEvery_f (k : Nat) (p0 : Int) (p1 : Int) : Option ((Int × Bool × Unit) × Unit) :=
  (Option.bind (impl_greatest_f k p0 p1 30) (fun y8 => (some ((y8.1.1, y8.1.2.1, ()), ()))))
noncomputable def impl_GreatestEvery_a : Ann := .o
theorem impl_GreatestEvery_run (k : Nat) (p0 : Int) (p1 : Int) : funX Tryz.prog (callT [impl_greatest_c k]) k Tryz.f11 impl_GreatestEvery_a [.v (.int .i64), .v (.int .i64)] [.v (.int .i64), .v .bool] (p0, p1, ()) = impl_GreatestEvery_f k p0 p1 := by kernel_rfl
noncomputable def impl_GreatestEvery_c (k : Nat) : Con := ⟨11, [.v (.int .i64), .v (.int .i64)], [.v (.int .i64), .v .bool], fun x => impl_GreatestEvery_f k x.1 x.2.1⟩
theorem impl_GreatestEvery_ok (k : Nat) : (impl_GreatestEvery_c k).Sound Tryz.prog GL := con_ok (k := k) (fn := Tryz.f11) (A := impl_GreatestEvery_a) (C := callT [impl_greatest_c k]) Tryz.func11 (by kernel_rfl) (show Tryz.f11.body = some (bodyX Tryz.f11) by rfl) (fun X hX => callT_at (TableOk.cons (impl_greatest_ok k) TableOk.nil) X hX) (Nat.le_of_ble_eq_true (by kernel_rfl)) (fun ⟨p0, p1, _⟩ y h => by rw [← h]; exact impl_GreatestEvery_run k p0 p1)
noncomputable def spec_GreatestEvery_l2_b (k : Nat) (p0 : Int) (p1 : Int) (rec : Int → Option (Unit ⊕ ((Int × Bool × Unit) × Unit))) (x6 : Int) : Option (Unit ⊕ ((Int × Bool × Unit) × Unit)) :=
  (cond (decide (x6 > 0)) (Option.bind (spec_dyLeast_f k x6 p1) (fun y21 => (cond (decide (y21.1.1 ≤ p0)) (some (.inr ((x6, true, ()), ()))) (rec (iw (x6 - 1)))))) (some (.inl ())))
noncomputable def spec_GreatestEvery_l2 (k : Nat) (p0 : Int) (p1 : Int) (x6 : Int) : Option (Unit ⊕ ((Int × Bool × Unit) × Unit)) := iter k (fun (rec : (Int × Unit) → Option (Unit ⊕ ((Int × Bool × Unit) × Unit))) (x : (Int × Unit)) => spec_GreatestEvery_l2_b k p0 p1 (fun x6 => rec (x6, ())) x.1) (x6, ())
noncomputable def spec_GreatestEvery_f (k : Nat) (p0 : Int) (p1 : Int) : Option ((Int × Bool × Unit) × Unit) :=
  (met (Option.bind (spec_l1In_f k p0 1 30) (fun y8 => (cond (!y8.1.1) (some (.inl (true, ()))) (Option.bind (spec_l1In_f k p1 1 30) (fun y12 => (some (.inl ((!y12.1.1), ())))))))) (fun j1 => (cond j1.1 (some ((0, false, ()), ())) (met (spec_GreatestEvery_l2 k p0 p1 30) (fun j3 => (some ((0, false, ()), ())))))))
noncomputable def spec_GreatestEvery_a : Ann := (.q .o (.q (.q (.r [(14, 100896, .v .bool)]) .o) (.q (.q .o (.m [] (.l [(6, 100384, .v (.int .i64))] .o))) .o)))
theorem spec_GreatestEvery_run (k : Nat) (p0 : Int) (p1 : Int) : funX Tryz.prog (callT [spec_l1In_c k, spec_dyLeast_c k]) k Tryz.f12 spec_GreatestEvery_a [.v (.int .i64), .v (.int .i64)] [.v (.int .i64), .v .bool] (p0, p1, ()) = spec_GreatestEvery_f k p0 p1 := by kernel_rfl
noncomputable def spec_GreatestEvery_c (k : Nat) : Con := ⟨12, [.v (.int .i64), .v (.int .i64)], [.v (.int .i64), .v .bool], fun x => spec_GreatestEvery_f k x.1 x.2.1⟩
theorem spec_GreatestEvery_ok (k : Nat) : (spec_GreatestEvery_c k).Sound Tryz.prog GL := con_ok (k := k) (fn := Tryz.f12) (A := spec_GreatestEvery_a) (C := callT [spec_l1In_c k, spec_dyLeast_c k]) Tryz.func12 (by kernel_rfl) (show Tryz.f12.body = some (bodyX Tryz.f12) by rfl) (fun X hX => callT_at (TableOk.cons (spec_l1In_ok k) (TableOk.cons (spec_dyLeast_ok k) TableOk.nil)) X hX) (Nat.le_of_ble_eq_true (by kernel_rfl)) (fun ⟨p0, p1, _⟩ y h => by rw [← h]; exact spec_GreatestEvery_run k p0 p1)
noncomputable def spec_DrawGreatestDry_f (k : Nat) (p0 : (List Int)) : Option ((Int × Int × Unit) × Unit) :=
  (Option.bind (spec_DrawGreatestEvery_f k p0) (fun y5 => (some ((y5.1.1, y5.1.2.1, ()), ()))))
noncomputable def spec_DrawGreatestDry_a : Ann := .o
theorem spec_DrawGreatestDry_run (k : Nat) (p0 : (List Int)) : funX Tryz.prog (callT [spec_DrawGreatestEvery_c k]) k Tryz.f13 spec_DrawGreatestDry_a [.v (.slc 5 (.int .u8))] [.v (.int .i64), .v (.int .i64)] (p0, ()) = spec_DrawGreatestDry_f k p0 := by kernel_rfl
noncomputable def spec_DrawGreatestDry_c (k : Nat) : Con := ⟨13, [.v (.slc 5 (.int .u8))], [.v (.int .i64), .v (.int .i64)], fun x => spec_DrawGreatestDry_f k x.1⟩
theorem spec_DrawGreatestDry_ok (k : Nat) : (spec_DrawGreatestDry_c k).Sound Tryz.prog GL := con_ok (k := k) (fn := Tryz.f13) (A := spec_DrawGreatestDry_a) (C := callT [spec_DrawGreatestEvery_c k]) Tryz.func13 (by kernel_rfl) (show Tryz.f13.body = some (bodyX Tryz.f13) by rfl) (fun X hX => callT_at (TableOk.cons (spec_DrawGreatestEvery_ok k) TableOk.nil) X hX) (Nat.le_of_ble_eq_true (by kernel_rfl)) (fun ⟨p0, _⟩ y h => by rw [← h]; exact spec_DrawGreatestDry_run k p0)
noncomputable def impl_GreatestDry_f (k : Nat) (p0 : Int) (p1 : Int) : Option ((Int × Bool × Unit) × Unit) :=
  (Option.bind (impl_greatest_f k p0 p1 30) (fun y8 => (some ((y8.1.1, y8.1.2.1, ()), ()))))
noncomputable def impl_GreatestDry_a : Ann := .o
theorem impl_GreatestDry_run (k : Nat) (p0 : Int) (p1 : Int) : funX Tryz.prog (callT [impl_greatest_c k]) k Tryz.f14 impl_GreatestDry_a [.v (.int .i64), .v (.int .i64)] [.v (.int .i64), .v .bool] (p0, p1, ()) = impl_GreatestDry_f k p0 p1 := by kernel_rfl
noncomputable def impl_GreatestDry_c (k : Nat) : Con := ⟨14, [.v (.int .i64), .v (.int .i64)], [.v (.int .i64), .v .bool], fun x => impl_GreatestDry_f k x.1 x.2.1⟩
theorem impl_GreatestDry_ok (k : Nat) : (impl_GreatestDry_c k).Sound Tryz.prog GL := con_ok (k := k) (fn := Tryz.f14) (A := impl_GreatestDry_a) (C := callT [impl_greatest_c k]) Tryz.func14 (by kernel_rfl) (show Tryz.f14.body = some (bodyX Tryz.f14) by rfl) (fun X hX => callT_at (TableOk.cons (impl_greatest_ok k) TableOk.nil) X hX) (Nat.le_of_ble_eq_true (by kernel_rfl)) (fun ⟨p0, p1, _⟩ y h => by rw [← h]; exact impl_GreatestDry_run k p0 p1)
noncomputable def spec_GreatestDry_l2_b (k : Nat) (p0 : Int) (p1 : Int) (rec : Int → Option (Unit ⊕ ((Int × Bool × Unit) × Unit))) (x6 : Int) : Option (Unit ⊕ ((Int × Bool × Unit) × Unit)) :=
  (cond (decide (x6 > 0)) (Option.bind (spec_dyLeast_f k p1 x6) (fun y21 => (cond (decide (y21.1.1 ≤ p0)) (some (.inr ((x6, true, ()), ()))) (rec (iw (x6 - 1)))))) (some (.inl ())))
noncomputable def spec_GreatestDry_l2 (k : Nat) (p0 : Int) (p1 : Int) (x6 : Int) : Option (Unit ⊕ ((Int × Bool × Unit) × Unit)) := iter k (fun (rec : (Int × Unit) → Option (Unit ⊕ ((Int × Bool × Unit) × Unit))) (x : (Int × Unit)) => spec_GreatestDry_l2_b k p0 p1 (fun x6 => rec (x6, ())) x.1) (x6, ())
noncomputable def spec_GreatestDry_f (k : Nat) (p0 : Int) (p1 : Int) : Option ((Int × Bool × Unit) × Unit) :=
  (met (Option.bind (spec_l1In_f k p0 1 30) (fun y8 => (cond (!y8.1.1) (some (.inl (true, ()))) (Option.bind (spec_l1In_f k p1 1 30) (fun y12 => (some (.inl ((!y12.1.1), ())))))))) (fun j1 => (cond j1.1 (some ((0, false, ()), ())) (met (spec_GreatestDry_l2 k p0 p1 30) (fun j3 => (some ((0, false, ()), ())))))))
noncomputable def spec_GreatestDry_a : Ann := (.q .o (.q (.q (.r [(14, 100896, .v .bool)]) .o) (.q (.q .o (.m [] (.l [(6, 100384, .v (.int .i64))] .o))) .o)))
theorem spec_GreatestDry_run (k : Nat) (p0 : Int) (p1 : Int) : funX Tryz.prog (callT [spec_l1In_c k, spec_dyLeast_c k]) k Tryz.f15 spec_GreatestDry_a [.v (.int .i64), .v (.int .i64)] [.v (.int .i64), .v .bool] (p0, p1, ()) = spec_GreatestDry_f k p0 p1 := by kernel_rfl
noncomputable def spec_GreatestDry_c (k : Nat) : Con := ⟨15, [.v (.int .i64), .v (.int .i64)], [.v (.int .i64), .v .bool], fun x => spec_GreatestDry_f k x.1 x.2.1⟩
theorem spec_GreatestDry_ok (k : Nat) : (spec_GreatestDry_c k).Sound Tryz.prog GL := con_ok (k := k) (fn := Tryz.f15) (A := spec_GreatestDry_a) (C := callT [spec_l1In_c k, spec_dyLeast_c k]) Tryz.func15 (by kernel_rfl) (show Tryz.f15.body = some (bodyX Tryz.f15) by rfl) (fun X hX => callT_at (TableOk.cons (spec_l1In_ok k) (TableOk.cons (spec_dyLeast_ok k) TableOk.nil)) X hX) (Nat.le_of_ble_eq_true (by kernel_rfl)) (fun ⟨p0, p1, _⟩ y h => by rw [← h]; exact spec_GreatestDry_run k p0 p1)
noncomputable def spec_l1Cur_sureWash_f (k : Nat) (p0 : ((List Int) × Int × Int × Unit)) : Option (((Int × (Int × Int)) × Unit) × (((List Int) × Int × Int × Unit) × Unit)) :=
  (Option.bind (spec_l1Cur_pick_f k (p0.1, p0.2.1, p0.2.2.1, ()) 9) (fun y4 => (Option.bind (spec_l1Cur_pick_f k (y4.2.1.1, y4.2.1.2.1, y4.2.1.2.2.1, ()) 7) (fun y7 => (Option.bind (spec_l1Cur_pick_f k (y7.2.1.1, y7.2.1.2.1, y7.2.1.2.2.1, ()) 4) (fun y10 => (some ((((iw (1 + y4.1.1)), ((iw (1 + y7.1.1)), (iw (1 + y10.1.1)))), ()), ((y10.2.1.1, y10.2.1.2.1, y10.2.1.2.2.1, ()), ())))))))))
noncomputable def spec_l1Cur_sureWash_a : Ann := .o
theorem spec_l1Cur_sureWash_run (k : Nat) (p0 : ((List Int) × Int × Int × Unit)) : funX Tryz.prog (callT [spec_l1Cur_pick_c k]) k Tryz.f81 spec_l1Cur_sureWash_a [.box true [.v (.slc 5 (.int .u8)), .v (.int .i64), .v (.int .u64)]] [.v (.pr (.int .i64) (.pr (.int .i64) (.int .i64)))] (p0, ()) = spec_l1Cur_sureWash_f k p0 := by kernel_rfl
noncomputable def spec_l1Cur_sureWash_c (k : Nat) : Con := ⟨81, [.box true [.v (.slc 5 (.int .u8)), .v (.int .i64), .v (.int .u64)]], [.v (.pr (.int .i64) (.pr (.int .i64) (.int .i64)))], fun x => spec_l1Cur_sureWash_f k x.1⟩
theorem spec_l1Cur_sureWash_ok (k : Nat) : (spec_l1Cur_sureWash_c k).Sound Tryz.prog GL := con_ok (k := k) (fn := Tryz.f81) (A := spec_l1Cur_sureWash_a) (C := callT [spec_l1Cur_pick_c k]) Tryz.func81 (by kernel_rfl) (show Tryz.f81.body = some (bodyX Tryz.f81) by rfl) (fun X hX => callT_at (TableOk.cons (spec_l1Cur_pick_ok k) TableOk.nil) X hX) (Nat.le_of_ble_eq_true (by kernel_rfl)) (fun ⟨p0, _⟩ y h => by rw [← h]; exact spec_l1Cur_sureWash_run k p0)
noncomputable def spec_l1Cur_washing_f (k : Nat) (p0 : ((List Int) × Int × Int × Unit)) : Option (((Int × (Int × Int)) × Unit) × (((List Int) × Int × Int × Unit) × Unit)) :=
  (Option.bind (spec_l1Cur_sureWash_f k (p0.1, p0.2.1, p0.2.2.1, ())) (fun y5 => (Option.bind (spec_l1Cur_pick_f k (y5.2.1.1, y5.2.1.2.1, y5.2.1.2.2.1, ()) 20) (fun y7 => (met (met (cond (y7.1.1 == 0) (Option.bind (spec_l1Cur_among_f k (y7.2.1.1, y7.2.1.2.1, y7.2.1.2.2.1, ()) [(-1), 0, 1, 30, 31, 4611686018427387904]) (fun y12 => (some (.inl ((y12.2.1.1, y12.2.1.2.1, y12.2.1.2.2.1, ()), ((0 : Int), (0 : Int), (0 : Int), ()), (y12.1.1, y5.1.1.2.1, y5.1.1.2.2, ()), ()))))) (met (cond (y7.1.1 == 1) (Option.bind (spec_l1Cur_among_f k (y7.2.1.1, y7.2.1.2.1, y7.2.1.2.2.1, ()) [(-1), 0, 1, 30, 31, 4611686018427387904]) (fun y18 => (some (.inl ((y18.2.1.1, y18.2.1.2.1, y18.2.1.2.2.1, ()), ((0 : Int), (0 : Int), (0 : Int), ()), (y5.1.1.1, y18.1.1, y5.1.1.2.2, ()), ()))))) (met (cond (y7.1.1 == 2) (Option.bind (spec_l1Cur_among_f k (y7.2.1.1, y7.2.1.2.1, y7.2.1.2.2.1, ()) [(-1), 0, 1, 30, 31, 4611686018427387904]) (fun y24 => (some (.inl ((y24.2.1.1, y24.2.1.2.1, y24.2.1.2.2.1, ()), ((0 : Int), (0 : Int), (0 : Int), ()), (y5.1.1.1, y5.1.1.2.1, y24.1.1, ()), ()))))) (some (.inl ((y7.2.1.1, y7.2.1.2.1, y7.2.1.2.2.1, ()), ((0 : Int), (0 : Int), (0 : Int), ()), (y5.1.1.1, y5.1.1.2.1, y5.1.1.2.2, ()), ())))) (fun j1 => (some (.inl ((j1.1.1, j1.1.2.1, j1.1.2.2.1, ()), (j1.2.1.1, j1.2.1.2.1, j1.2.1.2.2.1, ()), (j1.2.2.1.1, j1.2.2.1.2.1, j1.2.2.1.2.2.1, ()), ())))))) (fun j2 => (some (.inl ((j2.1.1, j2.1.2.1, j2.1.2.2.1, ()), (j2.2.1.1, j2.2.1.2.1, j2.2.1.2.2.1, ()), (j2.2.2.1.1, j2.2.2.1.2.1, j2.2.2.1.2.2.1, ()), ())))))) (fun j3 => (some (.inl ((j3.1.1, j3.1.2.1, j3.1.2.2.1, ()), (j3.2.1.1, j3.2.1.2.1, j3.2.1.2.2.1, ()), (j3.2.2.1.1, j3.2.2.1.2.1, j3.2.2.1.2.2.1, ()), ()))))) (fun j4 => (some (((j4.2.2.1.1, (j4.2.2.1.2.1, j4.2.2.1.2.2.1)), ()), ((j4.1.1, j4.1.2.1, j4.1.2.2.1, ()), ())))))))))
noncomputable def spec_l1Cur_washing_a : Ann := (.q .o (.q .o (.q (.q .o (.m [(0, 3000000, .box true [.v (.slc 5 (.int .u8)), .v (.int .i64), .v (.int .u64)]), (2, 100128, .box false [.v (.int .i64), .v (.int .i64), .v (.int .i64)]), (3, 100192, .box false [.v (.int .i64), .v (.int .i64), .v (.int .i64)])] (.q .o (.j [(0, 3000000, .box true [.v (.slc 5 (.int .u8)), .v (.int .i64), .v (.int .u64)]), (2, 100128, .box false [.v (.int .i64), .v (.int .i64), .v (.int .i64)]), (3, 100192, .box false [.v (.int .i64), .v (.int .i64), .v (.int .i64)])] .o (.q .o (.j [(0, 3000000, .box true [.v (.slc 5 (.int .u8)), .v (.int .i64), .v (.int .u64)]), (2, 100128, .box false [.v (.int .i64), .v (.int .i64), .v (.int .i64)]), (3, 100192, .box false [.v (.int .i64), .v (.int .i64), .v (.int .i64)])] .o (.q .o (.j [(0, 3000000, .box true [.v (.slc 5 (.int .u8)), .v (.int .i64), .v (.int .u64)]), (2, 100128, .box false [.v (.int .i64), .v (.int .i64), .v (.int .i64)]), (3, 100192, .box false [.v (.int .i64), .v (.int .i64), .v (.int .i64)])] .o .o)))))))) .o)))
theorem spec_l1Cur_washing_run (k : Nat) (p0 : ((List Int) × Int × Int × Unit)) : funX Tryz.prog (callT [spec_l1Cur_sureWash_c k, spec_l1Cur_pick_c k, spec_l1Cur_among_c k]) k Tryz.f77 spec_l1Cur_washing_a [.box true [.v (.slc 5 (.int .u8)), .v (.int .i64), .v (.int .u64)]] [.v (.pr (.int .i64) (.pr (.int .i64) (.int .i64)))] (p0, ()) = spec_l1Cur_washing_f k p0 := by kernel_rfl
noncomputable def spec_l1Cur_washing_c (k : Nat) : Con := ⟨77, [.box true [.v (.slc 5 (.int .u8)), .v (.int .i64), .v (.int .u64)]], [.v (.pr (.int .i64) (.pr (.int .i64) (.int .i64)))], fun x => spec_l1Cur_washing_f k x.1⟩
theorem spec_l1Cur_washing_ok (k : Nat) : (spec_l1Cur_washing_c k).Sound Tryz.prog GL := con_ok (k := k) (fn := Tryz.f77) (A := spec_l1Cur_washing_a) (C := callT [spec_l1Cur_sureWash_c k, spec_l1Cur_pick_c k, spec_l1Cur_among_c k]) Tryz.func77 (by kernel_rfl) (show Tryz.f77.body = some (bodyX Tryz.f77) by rfl) (fun X hX => callT_at (TableOk.cons (spec_l1Cur_sureWash_ok k) (TableOk.cons (spec_l1Cur_pick_ok k) (TableOk.cons (spec_l1Cur_among_ok k) TableOk.nil))) X hX) (Nat.le_of_ble_eq_true (by kernel_rfl)) (fun ⟨p0, _⟩ y h => by rw [← h]; exact spec_l1Cur_washing_run k p0)
noncomputable def spec_DrawIsWash_f (k : Nat) (p0 : (List Int)) : Option (((Int × (Int × Int)) × Unit) × Unit) :=
  (Option.bind (spec_l1Cur_washing_f k (p0, 0, 0, ())) (fun y8 => (some ((y8.1.1, ()), ()))))
noncomputable def spec_DrawIsWash_a : Ann := .o
theorem spec_DrawIsWash_run (k : Nat) (p0 : (List Int)) : funX Tryz.prog (callT [spec_l1Cur_washing_c k]) k Tryz.f74 spec_DrawIsWash_a [.v (.slc 5 (.int .u8))] [.v (.pr (.int .i64) (.pr (.int .i64) (.int .i64)))] (p0, ()) = spec_DrawIsWash_f k p0 := by kernel_rfl
noncomputable def spec_DrawIsWash_c (k : Nat) : Con := ⟨74, [.v (.slc 5 (.int .u8))], [.v (.pr (.int .i64) (.pr (.int .i64) (.int .i64)))], fun x => spec_DrawIsWash_f k x.1⟩
theorem spec_DrawIsWash_ok (k : Nat) : (spec_DrawIsWash_c k).Sound Tryz.prog GL := con_ok (k := k) (fn := Tryz.f74) (A := spec_DrawIsWash_a) (C := callT [spec_l1Cur_washing_c k]) Tryz.func74 (by kernel_rfl) (show Tryz.f74.body = some (bodyX Tryz.f74) by rfl) (fun X hX => callT_at (TableOk.cons (spec_l1Cur_washing_ok k) TableOk.nil) X hX) (Nat.le_of_ble_eq_true (by kernel_rfl)) (fun ⟨p0, _⟩ y h => by rw [← h]; exact spec_DrawIsWash_run k p0)
noncomputable def spec_DrawFirstBare_f (k : Nat) (p0 : (List Int)) : Option (((Int × (Int × Int)) × Unit) × Unit) :=
  (Option.bind (spec_DrawIsWash_f k p0) (fun y4 => (some ((y4.1.1, ()), ()))))
noncomputable def spec_DrawFirstBare_a : Ann := .o
theorem spec_DrawFirstBare_run (k : Nat) (p0 : (List Int)) : funX Tryz.prog (callT [spec_DrawIsWash_c k]) k Tryz.f16 spec_DrawFirstBare_a [.v (.slc 5 (.int .u8))] [.v (.pr (.int .i64) (.pr (.int .i64) (.int .i64)))] (p0, ()) = spec_DrawFirstBare_f k p0 := by kernel_rfl
noncomputable def spec_DrawFirstBare_c (k : Nat) : Con := ⟨16, [.v (.slc 5 (.int .u8))], [.v (.pr (.int .i64) (.pr (.int .i64) (.int .i64)))], fun x => spec_DrawFirstBare_f k x.1⟩
theorem spec_DrawFirstBare_ok (k : Nat) : (spec_DrawFirstBare_c k).Sound Tryz.prog GL := con_ok (k := k) (fn := Tryz.f16) (A := spec_DrawFirstBare_a) (C := callT [spec_DrawIsWash_c k]) Tryz.func16 (by kernel_rfl) (show Tryz.f16.body = some (bodyX Tryz.f16) by rfl) (fun X hX => callT_at (TableOk.cons (spec_DrawIsWash_ok k) TableOk.nil) X hX) (Nat.le_of_ble_eq_true (by kernel_rfl)) (fun ⟨p0, _⟩ y h => by rw [← h]; exact spec_DrawFirstBare_run k p0)
noncomputable def spec_dyGood_f (k : Nat) (p0 : (Int × (Int × Int))) : Option ((Bool × Unit) × Unit) :=
  (met (Option.bind (spec_l1In_f k p0.1 1 30) (fun y5 => (cond y5.1.1 (Option.bind (spec_l1In_f k p0.2.1 1 30) (fun y9 => (cond y9.1.1 (Option.bind (spec_l1In_f k p0.2.2 1 30) (fun y14 => (some (.inl (y14.1.1, ()))))) (some (.inl (false, ())))))) (some (.inl (false, ())))))) (fun j1 => (some ((j1.1, ()), ()))))
noncomputable def spec_dyGood_a : Ann := (.q .o (.q (.r [(2, 100128, .v .bool)]) .o))
theorem spec_dyGood_run (k : Nat) (p0 : (Int × (Int × Int))) : funX Tryz.prog (callT [spec_l1In_c k]) k Tryz.f75 spec_dyGood_a [.v (.pr (.int .i64) (.pr (.int .i64) (.int .i64)))] [.v .bool] (p0, ()) = spec_dyGood_f k p0 := by kernel_rfl
noncomputable def spec_dyGood_c (k : Nat) : Con := ⟨75, [.v (.pr (.int .i64) (.pr (.int .i64) (.int .i64)))], [.v .bool], fun x => spec_dyGood_f k x.1⟩
theorem spec_dyGood_ok (k : Nat) : (spec_dyGood_c k).Sound Tryz.prog GL := con_ok (k := k) (fn := Tryz.f75) (A := spec_dyGood_a) (C := callT [spec_l1In_c k]) Tryz.func75 (by kernel_rfl) (show Tryz.f75.body = some (bodyX Tryz.f75) by rfl) (fun X hX => callT_at (TableOk.cons (spec_l1In_ok k) TableOk.nil) X hX) (Nat.le_of_ble_eq_true (by kernel_rfl)) (fun ⟨p0, _⟩ y h => by rw [← h]; exact spec_dyGood_run k p0)
noncomputable def spec_dyStart_l1_b (k : Nat) (rec : (Int × Int × Int × Unit) → ((List Int) × (List Int) × Unit) → Int → Option ((((List Int) × (List Int) × Unit) × Unit) ⊕ ((((List Int) × (List Int) × Unit) × Unit) × Unit))) (x1 : (Int × Int × Int × Unit)) (x3 : ((List Int) × (List Int) × Unit)) (x4 : Int) : Option ((((List Int) × (List Int) × Unit) × Unit) ⊕ ((((List Int) × (List Int) × Unit) × Unit) × Unit)) :=
  (cond (decide (x4 < x1.1)) (chk (decide (List.length x3.1 + List.length [0] ≤ 15637498706147)) (chk (decide (List.length x3.2.1 + List.length [(-1)] ≤ 15637498706147)) (rec (x1.1, x1.2.1, x1.2.2.1, ()) ((x3.1 ++ [0]), (x3.2.1 ++ [(-1)]), ()) (iw (x4 + 1))))) (some (.inl ((x3.1, x3.2.1, ()), ()))))
noncomputable def spec_dyStart_l1 (k : Nat) (x1 : (Int × Int × Int × Unit)) (x3 : ((List Int) × (List Int) × Unit)) (x4 : Int) : Option ((((List Int) × (List Int) × Unit) × Unit) ⊕ ((((List Int) × (List Int) × Unit) × Unit) × Unit)) := iter k (fun (rec : ((Int × Int × Int × Unit) × ((List Int) × (List Int) × Unit) × Int × Unit) → Option ((((List Int) × (List Int) × Unit) × Unit) ⊕ ((((List Int) × (List Int) × Unit) × Unit) × Unit))) (x : ((Int × Int × Int × Unit) × ((List Int) × (List Int) × Unit) × Int × Unit)) => spec_dyStart_l1_b k (fun x1 x3 x4 => rec (x1, x3, x4, ())) x.1 x.2.1 x.2.2.1) (x1, x3, x4, ())
noncomputable def spec_dyStart_f (k : Nat) (p0 : (Int × (Int × Int))) : Option ((((List Int) × (List Int) × Unit) × Unit) × Unit) :=
  (met (spec_dyStart_l1 k (p0.1, p0.2.1, p0.2.2, ()) (([] : List Int), ([] : List Int), ()) 0) (fun j2 => (some (((j2.1.1, j2.1.2.1, ()), ()), ()))))
noncomputable def spec_dyStart_a : Ann := (.q .o (.q .o (.q (.q .o (.m [(3, 100192, .box false [.own 3 (.int .i64), .own 3 (.int .i64)])] (.l [(1, 100064, .box false [.v (.int .i64), .v (.int .i64), .v (.int .i64)]), (3, 100192, .box false [.own 3 (.int .i64), .own 3 (.int .i64)]), (4, 100256, .v (.int .i64))] .o))) .o)))
theorem spec_dyStart_run (k : Nat) (p0 : (Int × (Int × Int))) : funX Tryz.prog (callT []) k Tryz.f130 spec_dyStart_a [.v (.pr (.int .i64) (.pr (.int .i64) (.int .i64)))] [.box false [.own 3 (.int .i64), .own 3 (.int .i64)]] (p0, ()) = spec_dyStart_f k p0 := by kernel_rfl
noncomputable def spec_dyStart_c (k : Nat) : Con := ⟨130, [.v (.pr (.int .i64) (.pr (.int .i64) (.int .i64)))], [.box false [.own 3 (.int .i64), .own 3 (.int .i64)]], fun x => spec_dyStart_f k x.1⟩
theorem spec_dyStart_ok (k : Nat) : (spec_dyStart_c k).Sound Tryz.prog GL := con_ok (k := k) (fn := Tryz.f130) (A := spec_dyStart_a) (C := callT []) Tryz.func130 (by kernel_rfl) (show Tryz.f130.body = some (bodyX Tryz.f130) by rfl) (fun X hX => callT_at TableOk.nil X hX) (Nat.le_of_ble_eq_true (by kernel_rfl)) (fun ⟨p0, _⟩ y h => by rw [← h]; exact spec_dyStart_run k p0)
noncomputable def spec_dyState_isClean_f (k : Nat) (p0 : ((List Int) × (List Int) × Unit)) (p1 : Int) (p2 : Int) : Option ((Bool × Unit) × (((List Int) × (List Int) × Unit) × Unit)) :=
  (met (ixk p1 (List.length p0.1) (cond (decide ((rd p0.1 p1) ≥ 0)) (ixk p1 (List.length p0.1) (some (.inl ((p0.1, p0.2.1, ()), (decide ((rd p0.1 p1) ≤ p2)), ())))) (some (.inl ((p0.1, p0.2.1, ()), false, ()))))) (fun j1 => (some ((j1.2.1, ()), ((j1.1.1, j1.1.2.1, ()), ())))))
noncomputable def spec_dyState_isClean_a : Ann := (.q .o (.q (.r [(0, 3000000, .box true [.pin 3 (.int .i64), .pin 3 (.int .i64)]), (6, 100384, .v .bool)]) .o))
theorem spec_dyState_isClean_run (k : Nat) (p0 : ((List Int) × (List Int) × Unit)) (p1 : Int) (p2 : Int) : funX Tryz.prog (callT []) k Tryz.f158 spec_dyState_isClean_a [.box true [.pin 3 (.int .i64), .pin 3 (.int .i64)], .v (.int .i64), .v (.int .i64)] [.v .bool] (p0, p1, p2, ()) = spec_dyState_isClean_f k p0 p1 p2 := by kernel_rfl
noncomputable def spec_dyState_isClean_c (k : Nat) : Con := ⟨158, [.box true [.pin 3 (.int .i64), .pin 3 (.int .i64)], .v (.int .i64), .v (.int .i64)], [.v .bool], fun x => spec_dyState_isClean_f k x.1 x.2.1 x.2.2.1⟩
theorem spec_dyState_isClean_ok (k : Nat) : (spec_dyState_isClean_c k).Sound Tryz.prog GL := con_ok (k := k) (fn := Tryz.f158) (A := spec_dyState_isClean_a) (C := callT []) Tryz.func158 (by kernel_rfl) (show Tryz.f158.body = some (bodyX Tryz.f158) by rfl) (fun X hX => callT_at TableOk.nil X hX) (Nat.le_of_ble_eq_true (by kernel_rfl)) (fun ⟨p0, p1, p2, _⟩ y h => by rw [← h]; exact spec_dyState_isClean_run k p0 p1 p2)
noncomputable def spec_dyState_wear_l1_b (k : Nat) (p0 : ((List Int) × (List Int) × Unit)) (p1 : Int) (rec : ((List Int) × (List Int) × Unit) → Int → Int → Option ((((List Int) × (List Int) × Unit) × Int × Unit) ⊕ ((Int × Unit) × (((List Int) × (List Int) × Unit) × Unit)))) (x0 : ((List Int) × (List Int) × Unit)) (x5 : Int) (x12 : Int) : Option ((((List Int) × (List Int) × Unit) × Int × Unit) ⊕ ((Int × Unit) × (((List Int) × (List Int) × Unit) × Unit))) :=
  (cond (decide (x12 < ((List.length p0.1 : Nat) : Int))) (met (met (Option.bind (spec_dyState_isClean_f k (x0.1, x0.2.1, ()) x12 p1) (fun y18 => (cond y18.1.1 (cond (decide (x5 < 0)) (some (.inl ((y18.2.1.1, y18.2.1.2.1, ()), true, ()))) (andX (ixk x12 (List.length y18.2.1.2.1) (andX (ixk x5 (List.length y18.2.1.2.1) (some (.inl ((y18.2.1.1, y18.2.1.2.1, ()), (decide ((rd y18.2.1.2.1 x12) < (rd y18.2.1.2.1 x5))), ())))) (ixk x5 (List.length y18.2.1.2.1) ((fun q => andX q q) (some (.inl ((y18.2.1.1, y18.2.1.2.1, ()), (decide ((rd y18.2.1.2.1 x12) < (rd y18.2.1.2.1 x5))), ()))))))) (ixk x5 (List.length y18.2.1.2.1) (andX (ixk x12 (List.length y18.2.1.2.1) ((fun q => andX q q) (some (.inl ((y18.2.1.1, y18.2.1.2.1, ()), (decide ((rd y18.2.1.2.1 x12) < (rd y18.2.1.2.1 x5))), ()))))) (ixk x12 (List.length y18.2.1.2.1) (some (.inl ((y18.2.1.1, y18.2.1.2.1, ()), (decide ((rd y18.2.1.2.1 x12) < (rd y18.2.1.2.1 x5))), ())))))))) (some (.inl ((y18.2.1.1, y18.2.1.2.1, ()), false, ())))))) (fun j2 => (met (cond j2.2.1 (some (.inl ((j2.1.1, j2.1.2.1, ()), x12, ()))) (some (.inl ((j2.1.1, j2.1.2.1, ()), x5, ())))) (fun j3 => (some (.inl ((j3.1.1, j3.1.2.1, ()), j3.2.1, ()))))))) (fun j4 => (rec (j4.1.1, j4.1.2.1, ()) j4.2.1 (iw (x12 + 1))))) (some (.inl ((x0.1, x0.2.1, ()), x5, ()))))
noncomputable def spec_dyState_wear_l1 (k : Nat) (p0 : ((List Int) × (List Int) × Unit)) (p1 : Int) (x0 : ((List Int) × (List Int) × Unit)) (x5 : Int) (x12 : Int) : Option ((((List Int) × (List Int) × Unit) × Int × Unit) ⊕ ((Int × Unit) × (((List Int) × (List Int) × Unit) × Unit))) := iter k (fun (rec : (((List Int) × (List Int) × Unit) × Int × Int × Unit) → Option ((((List Int) × (List Int) × Unit) × Int × Unit) ⊕ ((Int × Unit) × (((List Int) × (List Int) × Unit) × Unit)))) (x : (((List Int) × (List Int) × Unit) × Int × Int × Unit)) => spec_dyState_wear_l1_b k p0 p1 (fun x0 x5 x12 => rec (x0, x5, x12, ())) x.1 x.2.1 x.2.2.1) (x0, x5, x12, ())
noncomputable def spec_dyState_wear_f (k : Nat) (p0 : ((List Int) × (List Int) × Unit)) (p1 : Int) : Option ((Int × Unit) × (((List Int) × (List Int) × Unit) × Unit)) :=
  (met (spec_dyState_wear_l1 k p0 p1 (p0.1, p0.2.1, ()) (-1) 0) (fun j5 => (met (cond (decide (j5.2.1 ≥ 0)) (ixk j5.2.1 (List.length j5.1.1) (ixk j5.2.1 (List.length j5.1.2.1) (some (.inl (((setI j5.1.1 j5.2.1 (-1)), (setI j5.1.2.1 j5.2.1 p1), ()), ()))))) (some (.inl ((j5.1.1, j5.1.2.1, ()), ())))) (fun j6 => (some ((j5.2.1, ()), ((j6.1.1, j6.1.2.1, ()), ())))))))
noncomputable def spec_dyState_wear_a : Ann := (.q .o (.q .o (.q (.q .o (.m [(0, 3000000, .box true [.pin 3 (.int .i64), .pin 3 (.int .i64)]), (5, 100320, .v (.int .i64))] (.l [(0, 3000000, .box true [.pin 3 (.int .i64), .pin 3 (.int .i64)]), (5, 100320, .v (.int .i64)), (12, 100768, .v (.int .i64))] (.q .o (.q .o (.q (.m [(0, 3000000, .box true [.pin 3 (.int .i64), .pin 3 (.int .i64)]), (5, 100320, .v (.int .i64))] (.q .o (.q (.d [3000000, 3000001, 3000002] [] [(0, 3000000, .box true [.pin 3 (.int .i64), .pin 3 (.int .i64)]), (39, 102496, .v .bool)]) (.j [(0, 3000000, .box true [.pin 3 (.int .i64), .pin 3 (.int .i64)]), (5, 100320, .v (.int .i64))] .o .o)))) .o)))))) (.q (.q .o (.j [(0, 3000000, .box true [.pin 3 (.int .i64), .pin 3 (.int .i64)])] .o .o)) .o))))
theorem spec_dyState_wear_run (k : Nat) (p0 : ((List Int) × (List Int) × Unit)) (p1 : Int) : funX Tryz.prog (callT [spec_dyState_isClean_c k]) k Tryz.f131 spec_dyState_wear_a [.box true [.pin 3 (.int .i64), .pin 3 (.int .i64)], .v (.int .i64)] [.v (.int .i64)] (p0, p1, ()) = spec_dyState_wear_f k p0 p1 := by kernel_rfl
noncomputable def spec_dyState_wear_c (k : Nat) : Con := ⟨131, [.box true [.pin 3 (.int .i64), .pin 3 (.int .i64)], .v (.int .i64)], [.v (.int .i64)], fun x => spec_dyState_wear_f k x.1 x.2.1⟩
theorem spec_dyState_wear_ok (k : Nat) : (spec_dyState_wear_c k).Sound Tryz.prog GL := con_ok (k := k) (fn := Tryz.f131) (A := spec_dyState_wear_a) (C := callT [spec_dyState_isClean_c k]) Tryz.func131 (by kernel_rfl) (show Tryz.f131.body = some (bodyX Tryz.f131) by rfl) (fun X hX => callT_at (TableOk.cons (spec_dyState_isClean_ok k) TableOk.nil) X hX) (Nat.le_of_ble_eq_true (by kernel_rfl)) (fun ⟨p0, p1, _⟩ y h => by rw [← h]; exact spec_dyState_wear_run k p0 p1)
noncomputable def spec_dyState_basket_l1_b (k : Nat) (p0 : ((List Int) × (List Int) × Unit)) (rec : ((List Int) × (List Int) × Unit) → (List Int) → Unit → Int → Option ((((List Int) × (List Int) × Unit) × (List Int) × Unit) ⊕ (((List Int) × Unit) × (((List Int) × (List Int) × Unit) × Unit)))) (x0 : ((List Int) × (List Int) × Unit)) (x3 : (List Int)) (x9 : Unit) (x11 : Int) : Option ((((List Int) × (List Int) × Unit) × (List Int) × Unit) ⊕ (((List Int) × Unit) × (((List Int) × (List Int) × Unit) × Unit))) :=
  (cond (decide (x11 < ((List.length p0.1 : Nat) : Int))) (met (ixk x11 (List.length x0.1) (met (cond (decide ((rd x0.1 x11) < 0)) (chk (decide (List.length x3 + List.length [x11] ≤ 15637498706147)) (some (.inl ((x0.1, x0.2.1, ()), (x3 ++ [x11]), (), ())))) (some (.inl ((x0.1, x0.2.1, ()), x3, (), ())))) (fun j2 => (some (.inl ((j2.1.1, j2.1.2.1, ()), j2.2.1, (), ())))))) (fun j3 => (rec (j3.1.1, j3.1.2.1, ()) j3.2.1 () (iw (x11 + 1))))) (some (.inl ((x0.1, x0.2.1, ()), x3, ()))))
noncomputable def spec_dyState_basket_l1 (k : Nat) (p0 : ((List Int) × (List Int) × Unit)) (x0 : ((List Int) × (List Int) × Unit)) (x3 : (List Int)) (x9 : Unit) (x11 : Int) : Option ((((List Int) × (List Int) × Unit) × (List Int) × Unit) ⊕ (((List Int) × Unit) × (((List Int) × (List Int) × Unit) × Unit))) := iter k (fun (rec : (((List Int) × (List Int) × Unit) × (List Int) × Unit × Int × Unit) → Option ((((List Int) × (List Int) × Unit) × (List Int) × Unit) ⊕ (((List Int) × Unit) × (((List Int) × (List Int) × Unit) × Unit)))) (x : (((List Int) × (List Int) × Unit) × (List Int) × Unit × Int × Unit)) => spec_dyState_basket_l1_b k p0 (fun x0 x3 x9 x11 => rec (x0, x3, x9, x11, ())) x.1 x.2.1 x.2.2.1 x.2.2.2.1) (x0, x3, x9, x11, ())
noncomputable def spec_dyState_basket_f (k : Nat) (p0 : ((List Int) × (List Int) × Unit)) : Option (((List Int) × Unit) × (((List Int) × (List Int) × Unit) × Unit)) :=
  (met (spec_dyState_basket_l1 k p0 (p0.1, p0.2.1, ()) [] () 0) (fun j4 => (some ((j4.2.1, ()), ((j4.1.1, j4.1.2.1, ()), ())))))
noncomputable def spec_dyState_basket_a : Ann := (.q .o (.q .o (.q (.q .o (.m [(0, 3000000, .box true [.pin 3 (.int .i64), .pin 3 (.int .i64)]), (3, 100192, .own false 3 (.int .i64))] (.l [(0, 3000000, .box true [.pin 3 (.int .i64), .pin 3 (.int .i64)]), (3, 100192, .own false 3 (.int .i64)), (9, 3000001, .same), (11, 100704, .v (.int .i64))] (.q .o (.q .o (.q (.m [(0, 3000000, .box true [.pin 3 (.int .i64), .pin 3 (.int .i64)]), (3, 100192, .own false 3 (.int .i64)), (9, 3000001, .same)] (.q .o (.q .o (.j [(0, 3000000, .box true [.pin 3 (.int .i64), .pin 3 (.int .i64)]), (3, 100192, .own false 3 (.int .i64)), (9, 3000001, .same)] .o .o)))) .o)))))) .o)))
theorem spec_dyState_basket_run (k : Nat) (p0 : ((List Int) × (List Int) × Unit)) : funX Tryz.prog (callT []) k Tryz.f159 spec_dyState_basket_a [.box true [.pin 3 (.int .i64), .pin 3 (.int .i64)]] [.own false 3 (.int .i64)] (p0, ()) = spec_dyState_basket_f k p0 := by kernel_rfl
noncomputable def spec_dyState_basket_c (k : Nat) : Con := ⟨159, [.box true [.pin 3 (.int .i64), .pin 3 (.int .i64)]], [.own false 3 (.int .i64)], fun x => spec_dyState_basket_f k x.1⟩
theorem spec_dyState_basket_ok (k : Nat) : (spec_dyState_basket_c k).Sound Tryz.prog GL := con_ok (k := k) (fn := Tryz.f159) (A := spec_dyState_basket_a) (C := callT []) Tryz.func159 (by kernel_rfl) (show Tryz.f159.body = some (bodyX Tryz.f159) by rfl) (fun X hX => callT_at TableOk.nil X hX) (Nat.le_of_ble_eq_true (by kernel_rfl)) (fun ⟨p0, _⟩ y h => by rw [← h]; exact spec_dyState_basket_run k p0)
noncomputable def spec_dyState_wash_l1_b (k : Nat) (p2 : Int) (y17 : (((List Int) × Unit) × (((List Int) × (List Int) × Unit) × Unit))) (rec : ((List Int) × (List Int) × Unit) → (Int × Int × Int × Unit) → (List Int) → (List Int) → Int → Option ((((List Int) × (List Int) × Unit) × (List Int) × Unit) ⊕ (((List Int) × Unit) × (((List Int) × (List Int) × Unit) × Unit)))) (x0 : ((List Int) × (List Int) × Unit)) (x4 : (Int × Int × Int × Unit)) (x7 : (List Int)) (x18 : (List Int)) (x20 : Int) : Option ((((List Int) × (List Int) × Unit) × (List Int) × Unit) ⊕ (((List Int) × Unit) × (((List Int) × (List Int) × Unit) × Unit))) :=
  (cond (decide (x20 < ((List.length y17.1.1 : Nat) : Int))) (ixk x20 (List.length x18) (ixk (rd x18 x20) (List.length x0.1) (rec ((setI x0.1 (rd x18 x20) (iw (p2 + x4.2.2.1))), x0.2.1, ()) (x4.1, x4.2.1, x4.2.2.1, ()) x7 x18 (iw (x20 + 1))))) (some (.inl ((x0.1, x0.2.1, ()), x7, ()))))
noncomputable def spec_dyState_wash_l1 (k : Nat) (p2 : Int) (y17 : (((List Int) × Unit) × (((List Int) × (List Int) × Unit) × Unit))) (x0 : ((List Int) × (List Int) × Unit)) (x4 : (Int × Int × Int × Unit)) (x7 : (List Int)) (x18 : (List Int)) (x20 : Int) : Option ((((List Int) × (List Int) × Unit) × (List Int) × Unit) ⊕ (((List Int) × Unit) × (((List Int) × (List Int) × Unit) × Unit))) := iter k (fun (rec : (((List Int) × (List Int) × Unit) × (Int × Int × Int × Unit) × (List Int) × (List Int) × Int × Unit) → Option ((((List Int) × (List Int) × Unit) × (List Int) × Unit) ⊕ (((List Int) × Unit) × (((List Int) × (List Int) × Unit) × Unit)))) (x : (((List Int) × (List Int) × Unit) × (Int × Int × Int × Unit) × (List Int) × (List Int) × Int × Unit)) => spec_dyState_wash_l1_b k p2 y17 (fun x0 x4 x7 x18 x20 => rec (x0, x4, x7, x18, x20, ())) x.1 x.2.1 x.2.2.1 x.2.2.2.1 x.2.2.2.2.1) (x0, x4, x7, x18, x20, ())
noncomputable def spec_dyState_wash_f (k : Nat) (p0 : ((List Int) × (List Int) × Unit)) (p1 : (Int × (Int × Int))) (p2 : Int) : Option (((List Int) × Unit) × (((List Int) × (List Int) × Unit) × Unit)) :=
  (chk (!(p1.2.1 == 0)) (cond ((Int.tmod (iw (p2 + 1)) p1.2.1) != 0) (some (([], ()), ((p0.1, p0.2.1, ()), ()))) (Option.bind (spec_dyState_basket_f k (p0.1, p0.2.1, ())) (fun y17 => (met (spec_dyState_wash_l1 k p2 y17 (y17.2.1.1, y17.2.1.2.1, ()) (p1.1, p1.2.1, p1.2.2, ()) y17.1.1 y17.1.1 0) (fun j2 => (some ((j2.2.1, ()), ((j2.1.1, j2.1.2.1, ()), ())))))))))
noncomputable def spec_dyState_wash_a : Ann := (.q .o (.q .o (.q .o (.q (.q .o (.m [(0, 3000000, .box true [.pin 3 (.int .i64), .pin 3 (.int .i64)]), (7, 100448, .v (.slc 3 (.int .i64)))] (.l [(0, 3000000, .box true [.pin 3 (.int .i64), .pin 3 (.int .i64)]), (4, 100256, .box false [.v (.int .i64), .v (.int .i64), .v (.int .i64)]), (7, 100448, .v (.slc 3 (.int .i64))), (18, 101152, .v (.slc 3 (.int .i64))), (20, 101280, .v (.int .i64))] (.q .o (.q .o (.q (.b (.q .o (.e [] [9, 10]))) .o)))))) .o))))
theorem spec_dyState_wash_run (k : Nat) (p0 : ((List Int) × (List Int) × Unit)) (p1 : (Int × (Int × Int))) (p2 : Int) : funX Tryz.prog (callT [spec_dyState_basket_c k]) k Tryz.f132 spec_dyState_wash_a [.box true [.pin 3 (.int .i64), .pin 3 (.int .i64)], .v (.pr (.int .i64) (.pr (.int .i64) (.int .i64))), .v (.int .i64)] [.v (.slc 3 (.int .i64))] (p0, p1, p2, ()) = spec_dyState_wash_f k p0 p1 p2 := by kernel_rfl
noncomputable def spec_dyState_wash_c (k : Nat) : Con := ⟨132, [.box true [.pin 3 (.int .i64), .pin 3 (.int .i64)], .v (.pr (.int .i64) (.pr (.int .i64) (.int .i64))), .v (.int .i64)], [.v (.slc 3 (.int .i64))], fun x => spec_dyState_wash_f k x.1 x.2.1 x.2.2.1⟩
theorem spec_dyState_wash_ok (k : Nat) : (spec_dyState_wash_c k).Sound Tryz.prog GL := con_ok (k := k) (fn := Tryz.f132) (A := spec_dyState_wash_a) (C := callT [spec_dyState_basket_c k]) Tryz.func132 (by kernel_rfl) (show Tryz.f132.body = some (bodyX Tryz.f132) by rfl) (fun X hX => callT_at (TableOk.cons (spec_dyState_basket_ok k) TableOk.nil) X hX) (Nat.le_of_ble_eq_true (by kernel_rfl)) (fun ⟨p0, p1, p2, _⟩ y h => by rw [← h]; exact spec_dyState_wash_run k p0 p1 p2)
noncomputable def spec_dyList_l1_b (k : Nat) (p1 : Int) (rec : (Int × Int × Int × Unit) → (List Int) → ((List Int) × (List Int) × Unit) → Int → Option (((List Int) × Unit) ⊕ (((List Int) × Unit) × Unit))) (x2 : (Int × Int × Int × Unit)) (x5 : (List Int)) (x6 : ((List Int) × (List Int) × Unit)) (x7 : Int) : Option (((List Int) × Unit) ⊕ (((List Int) × Unit) × Unit)) :=
  (cond (decide (x7 < p1)) (Option.bind (spec_dyState_wear_f k (x6.1, x6.2.1, ()) x7) (fun y18 => (chk (decide (List.length x5 + List.length [y18.1.1] ≤ 15637498706147)) (Option.bind (spec_dyState_wash_f k (y18.2.1.1, y18.2.1.2.1, ()) (x2.1, (x2.2.1, x2.2.2.1)) x7) (fun y24 => (rec (x2.1, x2.2.1, x2.2.2.1, ()) (x5 ++ [y18.1.1]) (y24.2.1.1, y24.2.1.2.1, ()) (iw (x7 + 1)))))))) (some (.inl (x5, ()))))
noncomputable def spec_dyList_l1 (k : Nat) (p1 : Int) (x2 : (Int × Int × Int × Unit)) (x5 : (List Int)) (x6 : ((List Int) × (List Int) × Unit)) (x7 : Int) : Option (((List Int) × Unit) ⊕ (((List Int) × Unit) × Unit)) := iter k (fun (rec : ((Int × Int × Int × Unit) × (List Int) × ((List Int) × (List Int) × Unit) × Int × Unit) → Option (((List Int) × Unit) ⊕ (((List Int) × Unit) × Unit))) (x : ((Int × Int × Int × Unit) × (List Int) × ((List Int) × (List Int) × Unit) × Int × Unit)) => spec_dyList_l1_b k p1 (fun x2 x5 x6 x7 => rec (x2, x5, x6, x7, ())) x.1 x.2.1 x.2.2.1 x.2.2.2.1) (x2, x5, x6, x7, ())
noncomputable def spec_dyList_f (k : Nat) (p0 : (Int × (Int × Int))) (p1 : Int) : Option (((List Int) × Unit) × Unit) :=
  (Option.bind (spec_dyStart_f k p0) (fun y9 => (met (spec_dyList_l1 k p1 (p0.1, p0.2.1, p0.2.2, ()) [] (y9.1.1.1, y9.1.1.2.1, ()) 0) (fun j2 => (some ((j2.1, ()), ()))))))
noncomputable def spec_dyList_a : Ann := (.q .o (.q .o (.q .o (.q (.q .o (.m [(5, 100320, .own false 3 (.int .i64))] (.l [(2, 100128, .box false [.v (.int .i64), .v (.int .i64), .v (.int .i64)]), (5, 100320, .own false 3 (.int .i64)), (6, 100384, .box false [.own 3 (.int .i64), .own 3 (.int .i64)]), (7, 100448, .v (.int .i64))] .o))) .o))))
theorem spec_dyList_run (k : Nat) (p0 : (Int × (Int × Int))) (p1 : Int) : funX Tryz.prog (callT [spec_dyStart_c k, spec_dyState_wear_c k, spec_dyState_wash_c k]) k Tryz.f76 spec_dyList_a [.v (.pr (.int .i64) (.pr (.int .i64) (.int .i64))), .v (.int .i64)] [.own false 3 (.int .i64)] (p0, p1, ()) = spec_dyList_f k p0 p1 := by kernel_rfl
noncomputable def spec_dyList_c (k : Nat) : Con := ⟨76, [.v (.pr (.int .i64) (.pr (.int .i64) (.int .i64))), .v (.int .i64)], [.own false 3 (.int .i64)], fun x => spec_dyList_f k x.1 x.2.1⟩
theorem spec_dyList_ok (k : Nat) : (spec_dyList_c k).Sound Tryz.prog GL := con_ok (k := k) (fn := Tryz.f76) (A := spec_dyList_a) (C := callT [spec_dyStart_c k, spec_dyState_wear_c k, spec_dyState_wash_c k]) Tryz.func76 (by kernel_rfl) (show Tryz.f76.body = some (bodyX Tryz.f76) by rfl) (fun X hX => callT_at (TableOk.cons (spec_dyStart_ok k) (TableOk.cons (spec_dyState_wear_ok k) (TableOk.cons (spec_dyState_wash_ok k) TableOk.nil))) X hX) (Nat.le_of_ble_eq_true (by kernel_rfl)) (fun ⟨p0, p1, _⟩ y h => by rw [← h]; exact spec_dyList_run k p0 p1)
noncomputable def spec_FirstBare_l1_b (k : Nat) (y10 : (((List Int) × Unit) × Unit)) (rec : (List Int) → Int → Option (Unit ⊕ ((Int × Bool × Unit) × Unit))) (x10 : (List Int)) (x12 : Int) : Option (Unit ⊕ ((Int × Bool × Unit) × Unit)) :=
  (cond (decide (x12 < ((List.length y10.1.1 : Nat) : Int))) (ixk x12 (List.length x10) (cond (decide ((rd x10 x12) < 0)) (some (.inr ((x12, true, ()), ()))) (rec x10 (iw (x12 + 1))))) (some (.inl ())))
noncomputable def spec_FirstBare_l1 (k : Nat) (y10 : (((List Int) × Unit) × Unit)) (x10 : (List Int)) (x12 : Int) : Option (Unit ⊕ ((Int × Bool × Unit) × Unit)) := iter k (fun (rec : ((List Int) × Int × Unit) → Option (Unit ⊕ ((Int × Bool × Unit) × Unit))) (x : ((List Int) × Int × Unit)) => spec_FirstBare_l1_b k y10 (fun x10 x12 => rec (x10, x12, ())) x.1 x.2.1) (x10, x12, ())
noncomputable def spec_FirstBare_f (k : Nat) (p0 : (Int × (Int × Int))) : Option ((Int × Bool × Unit) × Unit) :=
  (Option.bind (spec_dyGood_f k p0) (fun y7 => (cond (!y7.1.1) (some ((0, false, ()), ())) (Option.bind (spec_dyList_f k p0 501) (fun y10 => (met (spec_FirstBare_l1 k y10 y10.1.1 0) (fun j2 => (some ((0, false, ()), ())))))))))
noncomputable def spec_FirstBare_a : Ann := (.q .o (.q .o (.q (.q .o (.m [] (.l [(10, 100640, .v (.slc 3 (.int .i64))), (12, 100768, .v (.int .i64))] .o))) .o)))
theorem spec_FirstBare_run (k : Nat) (p0 : (Int × (Int × Int))) : funX Tryz.prog (callT [spec_dyGood_c k, spec_dyList_c k]) k Tryz.f17 spec_FirstBare_a [.v (.pr (.int .i64) (.pr (.int .i64) (.int .i64)))] [.v (.int .i64), .v .bool] (p0, ()) = spec_FirstBare_f k p0 := by kernel_rfl
noncomputable def spec_FirstBare_c (k : Nat) : Con := ⟨17, [.v (.pr (.int .i64) (.pr (.int .i64) (.int .i64)))], [.v (.int .i64), .v .bool], fun x => spec_FirstBare_f k x.1⟩
theorem spec_FirstBare_ok (k : Nat) : (spec_FirstBare_c k).Sound Tryz.prog GL := con_ok (k := k) (fn := Tryz.f17) (A := spec_FirstBare_a) (C := callT [spec_dyGood_c k, spec_dyList_c k]) Tryz.func17 (by kernel_rfl) (show Tryz.f17.body = some (bodyX Tryz.f17) by rfl) (fun X hX => callT_at (TableOk.cons (spec_dyGood_ok k) (TableOk.cons (spec_dyList_ok k) TableOk.nil)) X hX) (Nat.le_of_ble_eq_true (by kernel_rfl)) (fun ⟨p0, _⟩ y h => by rw [← h]; exact spec_FirstBare_run k p0)
noncomputable def spec_DrawLastsUntil_f (k : Nat) (p0 : (List Int)) : Option (((Int × (Int × Int)) × Int × Unit) × Unit) :=
  (Option.bind (spec_l1Cur_washing_f k (p0, 0, 0, ())) (fun y9 => (Option.bind (spec_l1Cur_among_f k (y9.2.1.1, y9.2.1.2.1, y9.2.1.2.2.1, ()) [1, 1, 2, 3, 5, 10, 50, 100, 101, 0]) (fun y12 => (some ((y9.1.1, y12.1.1, ()), ()))))))
noncomputable def spec_DrawLastsUntil_a : Ann := .o
theorem spec_DrawLastsUntil_run (k : Nat) (p0 : (List Int)) : funX Tryz.prog (callT [spec_l1Cur_washing_c k, spec_l1Cur_among_c k]) k Tryz.f18 spec_DrawLastsUntil_a [.v (.slc 5 (.int .u8))] [.v (.pr (.int .i64) (.pr (.int .i64) (.int .i64))), .v (.int .i64)] (p0, ()) = spec_DrawLastsUntil_f k p0 := by kernel_rfl
noncomputable def spec_DrawLastsUntil_c (k : Nat) : Con := ⟨18, [.v (.slc 5 (.int .u8))], [.v (.pr (.int .i64) (.pr (.int .i64) (.int .i64))), .v (.int .i64)], fun x => spec_DrawLastsUntil_f k x.1⟩
theorem spec_DrawLastsUntil_ok (k : Nat) : (spec_DrawLastsUntil_c k).Sound Tryz.prog GL := con_ok (k := k) (fn := Tryz.f18) (A := spec_DrawLastsUntil_a) (C := callT [spec_l1Cur_washing_c k, spec_l1Cur_among_c k]) Tryz.func18 (by kernel_rfl) (show Tryz.f18.body = some (bodyX Tryz.f18) by rfl) (fun X hX => callT_at (TableOk.cons (spec_l1Cur_washing_ok k) (TableOk.cons (spec_l1Cur_among_ok k) TableOk.nil)) X hX) (Nat.le_of_ble_eq_true (by kernel_rfl)) (fun ⟨p0, _⟩ y h => by rw [← h]; exact spec_DrawLastsUntil_run k p0)
noncomputable def impl_LastsUntil_l2_b (k : Nat) (p1 : Int) (y21 : (((List (Int × ((List Int) × ((List Int) × (List Int))))) × Unit) × Unit)) (rec : (List Int) → (List (Int × ((List Int) × ((List Int) × (List Int))))) → Int → Option (Unit ⊕ ((Int × Bool × Unit) × Unit))) (x6 : (List Int)) (x21 : (List (Int × ((List Int) × ((List Int) × (List Int)))))) (x23 : Int) : Option (Unit ⊕ ((Int × Bool × Unit) × Unit)) :=
  (cond (decide (x23 < ((List.length y21.1.1 : Nat) : Int))) (met (ixk x23 (List.length x21) (Option.bind (impl_day_isBare_f k ((rdG (0, ([], ([], []))) x21 x23).1, ((rdG (0, ([], ([], []))) x21 x23).2.1, ((rdG (0, ([], ([], []))) x21 x23).2.2.1, (rdG (0, ([], ([], []))) x21 x23).2.2.2)))) (fun y29 => (cond y29.1.1 (some (.inl (x6, ()))) (ixk ((rdG (0, ([], ([], []))) x21 x23).1) (List.length x6) (ixk ((rdG (0, ([], ([], []))) x21 x23).1) (List.length x6) (ixk ((rdG (0, ([], ([], []))) x21 x23).1) (List.length (setI x6 ((rdG (0, ([], ([], []))) x21 x23).1) (iw ((rd x6 ((rdG (0, ([], ([], []))) x21 x23).1)) + 1)))) (cond ((rd (setI x6 ((rdG (0, ([], ([], []))) x21 x23).1) (iw ((rd x6 ((rdG (0, ([], ([], []))) x21 x23).1)) + 1))) ((rdG (0, ([], ([], []))) x21 x23).1)) == p1) (some (.inr (.inr ((x23, true, ()), ())))) (some (.inl ((setI x6 ((rdG (0, ([], ([], []))) x21 x23).1) (iw ((rd x6 ((rdG (0, ([], ([], []))) x21 x23).1)) + 1))), ()))))))))))) (fun j3 => (rec j3.1 x21 (iw (x23 + 1))))) (some (.inl ())))
noncomputable def impl_LastsUntil_l2 (k : Nat) (p1 : Int) (y21 : (((List (Int × ((List Int) × ((List Int) × (List Int))))) × Unit) × Unit)) (x6 : (List Int)) (x21 : (List (Int × ((List Int) × ((List Int) × (List Int)))))) (x23 : Int) : Option (Unit ⊕ ((Int × Bool × Unit) × Unit)) := iter k (fun (rec : ((List Int) × (List (Int × ((List Int) × ((List Int) × (List Int))))) × Int × Unit) → Option (Unit ⊕ ((Int × Bool × Unit) × Unit))) (x : ((List Int) × (List (Int × ((List Int) × ((List Int) × (List Int))))) × Int × Unit)) => impl_LastsUntil_l2_b k p1 y21 (fun x6 x21 x23 => rec (x6, x21, x23, ())) x.1 x.2.1 x.2.2.1) (x6, x21, x23, ())
noncomputable def impl_LastsUntil_f (k : Nat) (p0 : (Int × (Int × Int))) (p1 : Int) : Option ((Int × Bool × Unit) × Unit) :=
  (met (Option.bind (impl_IsWash_f k p0) (fun y10 => (cond (!y10.1.1) (some (.inl ((p0.1, p0.2.1, p0.2.2, ()), true, ()))) (Option.bind (impl_within_f k p1 1 100) (fun y14 => (some (.inl ((p0.1, p0.2.1, p0.2.2, ()), (!y14.1.1), ())))))))) (fun j1 => (cond j1.2.1 (some ((0, false, ()), ())) (chk (decide ((0 : Int) ≤ j1.1.1)) (chk (decide (j1.1.1 ≤ ((15637498706147 : Nat) : Int))) (Option.bind (impl_Wash_days_f k (j1.1.1, (j1.1.2.1, j1.1.2.2.1)) 501) (fun y21 => (met (impl_LastsUntil_l2 k p1 y21 (List.replicate (Int.toNat j1.1.1) (0 : Int)) y21.1.1 0) (fun j4 => (some ((0, false, ()), ())))))))))))
noncomputable def impl_LastsUntil_a : Ann := (.q .o (.q (.q (.r [(2, 100128, .box false [.v (.int .i64), .v (.int .i64), .v (.int .i64)]), (16, 101024, .v .bool)]) .o) (.q .o (.q (.q .o (.m [] (.l [(6, 100384, .own false 3 (.int .i64)), (21, 101344, .v (.slc 72 (.pr (.int .i64) (.pr (.slc 3 (.int .i64)) (.pr (.slc 3 (.int .i64)) (.slc 3 (.int .i64))))))), (23, 101472, .v (.int .i64))] (.q .o (.q .o (.q (.m [(6, 100384, .own false 3 (.int .i64))] .o) .o)))))) .o))))
theorem impl_LastsUntil_run (k : Nat) (p0 : (Int × (Int × Int))) (p1 : Int) : funX Tryz.prog (callT [impl_IsWash_c k, impl_within_c k, impl_Wash_days_c k, impl_day_isBare_c k]) k Tryz.f19 impl_LastsUntil_a [.v (.pr (.int .i64) (.pr (.int .i64) (.int .i64))), .v (.int .i64)] [.v (.int .i64), .v .bool] (p0, p1, ()) = impl_LastsUntil_f k p0 p1 := by kernel_rfl
noncomputable def impl_LastsUntil_c (k : Nat) : Con := ⟨19, [.v (.pr (.int .i64) (.pr (.int .i64) (.int .i64))), .v (.int .i64)], [.v (.int .i64), .v .bool], fun x => impl_LastsUntil_f k x.1 x.2.1⟩
theorem impl_LastsUntil_ok (k : Nat) : (impl_LastsUntil_c k).Sound Tryz.prog GL := con_ok (k := k) (fn := Tryz.f19) (A := impl_LastsUntil_a) (C := callT [impl_IsWash_c k, impl_within_c k, impl_Wash_days_c k, impl_day_isBare_c k]) Tryz.func19 (by kernel_rfl) (show Tryz.f19.body = some (bodyX Tryz.f19) by rfl) (fun X hX => callT_at (TableOk.cons (impl_IsWash_ok k) (TableOk.cons (impl_within_ok k) (TableOk.cons (impl_Wash_days_ok k) (TableOk.cons (impl_day_isBare_ok k) TableOk.nil)))) X hX) (Nat.le_of_ble_eq_true (by kernel_rfl)) (fun ⟨p0, p1, _⟩ y h => by rw [← h]; exact impl_LastsUntil_run k p0 p1)
noncomputable def spec_LastsUntil_l2_b (k : Nat) (p1 : Int) (y21 : (((List Int) × Unit) × Unit)) (rec : (List Int) → (List Int) → Int → Option (Unit ⊕ ((Int × Bool × Unit) × Unit))) (x6 : (List Int)) (x21 : (List Int)) (x23 : Int) : Option (Unit ⊕ ((Int × Bool × Unit) × Unit)) :=
  (cond (decide (x23 < ((List.length y21.1.1 : Nat) : Int))) (met (ixk x23 (List.length x21) (cond (decide ((rd x21 x23) < 0)) (some (.inl (x6, ()))) (ixk (rd x21 x23) (List.length x6) (ixk (rd x21 x23) (List.length x6) (ixk (rd x21 x23) (List.length (setI x6 (rd x21 x23) (iw ((rd x6 (rd x21 x23)) + 1)))) (cond ((rd (setI x6 (rd x21 x23) (iw ((rd x6 (rd x21 x23)) + 1))) (rd x21 x23)) == p1) (some (.inr (.inr ((x23, true, ()), ())))) (some (.inl ((setI x6 (rd x21 x23) (iw ((rd x6 (rd x21 x23)) + 1))), ()))))))))) (fun j3 => (rec j3.1 x21 (iw (x23 + 1))))) (some (.inl ())))
noncomputable def spec_LastsUntil_l2 (k : Nat) (p1 : Int) (y21 : (((List Int) × Unit) × Unit)) (x6 : (List Int)) (x21 : (List Int)) (x23 : Int) : Option (Unit ⊕ ((Int × Bool × Unit) × Unit)) := iter k (fun (rec : ((List Int) × (List Int) × Int × Unit) → Option (Unit ⊕ ((Int × Bool × Unit) × Unit))) (x : ((List Int) × (List Int) × Int × Unit)) => spec_LastsUntil_l2_b k p1 y21 (fun x6 x21 x23 => rec (x6, x21, x23, ())) x.1 x.2.1 x.2.2.1) (x6, x21, x23, ())
noncomputable def spec_LastsUntil_f (k : Nat) (p0 : (Int × (Int × Int))) (p1 : Int) : Option ((Int × Bool × Unit) × Unit) :=
  (met (Option.bind (spec_dyGood_f k p0) (fun y10 => (cond (!y10.1.1) (some (.inl ((p0.1, p0.2.1, p0.2.2, ()), true, ()))) (Option.bind (spec_l1In_f k p1 1 100) (fun y14 => (some (.inl ((p0.1, p0.2.1, p0.2.2, ()), (!y14.1.1), ())))))))) (fun j1 => (cond j1.2.1 (some ((0, false, ()), ())) (chk (decide ((0 : Int) ≤ j1.1.1)) (chk (decide (j1.1.1 ≤ ((15637498706147 : Nat) : Int))) (Option.bind (spec_dyList_f k (j1.1.1, (j1.1.2.1, j1.1.2.2.1)) 501) (fun y21 => (met (spec_LastsUntil_l2 k p1 y21 (List.replicate (Int.toNat j1.1.1) (0 : Int)) y21.1.1 0) (fun j4 => (some ((0, false, ()), ())))))))))))
noncomputable def spec_LastsUntil_a : Ann := (.q .o (.q (.q (.r [(2, 100128, .box false [.v (.int .i64), .v (.int .i64), .v (.int .i64)]), (16, 101024, .v .bool)]) .o) (.q .o (.q (.q .o (.m [] (.l [(6, 100384, .own false 3 (.int .i64)), (21, 101344, .v (.slc 3 (.int .i64))), (23, 101472, .v (.int .i64))] (.q .o (.q .o (.q (.m [(6, 100384, .own false 3 (.int .i64))] .o) .o)))))) .o))))
theorem spec_LastsUntil_run (k : Nat) (p0 : (Int × (Int × Int))) (p1 : Int) : funX Tryz.prog (callT [spec_dyGood_c k, spec_l1In_c k, spec_dyList_c k]) k Tryz.f20 spec_LastsUntil_a [.v (.pr (.int .i64) (.pr (.int .i64) (.int .i64))), .v (.int .i64)] [.v (.int .i64), .v .bool] (p0, p1, ()) = spec_LastsUntil_f k p0 p1 := by kernel_rfl
noncomputable def spec_LastsUntil_c (k : Nat) : Con := ⟨20, [.v (.pr (.int .i64) (.pr (.int .i64) (.int .i64))), .v (.int .i64)], [.v (.int .i64), .v .bool], fun x => spec_LastsUntil_f k x.1 x.2.1⟩
theorem spec_LastsUntil_ok (k : Nat) : (spec_LastsUntil_c k).Sound Tryz.prog GL := con_ok (k := k) (fn := Tryz.f20) (A := spec_LastsUntil_a) (C := callT [spec_dyGood_c k, spec_l1In_c k, spec_dyList_c k]) Tryz.func20 (by kernel_rfl) (show Tryz.f20.body = some (bodyX Tryz.f20) by rfl) (fun X hX => callT_at (TableOk.cons (spec_dyGood_ok k) (TableOk.cons (spec_l1In_ok k) (TableOk.cons (spec_dyList_ok k) TableOk.nil))) X hX) (Nat.le_of_ble_eq_true (by kernel_rfl)) (fun ⟨p0, p1, _⟩ y h => by rw [← h]; exact spec_LastsUntil_run k p0 p1)
noncomputable def strconv_Itoa_f (k : Nat) (p0 : Int) : Option ((ByteArray × Unit) × Unit) := (itoaL p0).map fun y => (y, ())
noncomputable def strconv_Itoa_c (k : Nat) : Con := ⟨133, [.v (.int .i64)], [.v .str], fun x => (itoaL x.1).map fun y => (y, ())⟩
theorem strconv_Itoa_ok (k : Nat) : (strconv_Itoa_c k).Sound Tryz.prog GL := itoa_leaf ⟨Tryz.f133, Tryz.func133, by kernel_rfl, by rfl⟩ (fun i hi w => lay_strconv_Itoa_small i hi w)
noncomputable def impl_Wash_text_f (k : Nat) (p0 : (Int × (Int × Int))) : Option ((ByteArray × Unit) × Unit) :=
  (Option.bind (strconv_Itoa_f k p0.1) (fun y5 => (chk (decide (y5.1.1.size + (lit [119]).size ≤ 9223372036854775807)) (Option.bind (strconv_Itoa_f k p0.2.1) (fun y9 => (chk (decide ((y5.1.1 ++ (lit [119])).size + y9.1.1.size ≤ 9223372036854775807)) (chk (decide (((y5.1.1 ++ (lit [119])) ++ y9.1.1).size + (lit [100]).size ≤ 9223372036854775807)) (Option.bind (strconv_Itoa_f k p0.2.2) (fun y14 => (chk (decide ((((y5.1.1 ++ (lit [119])) ++ y9.1.1) ++ (lit [100])).size + y14.1.1.size ≤ 9223372036854775807)) (some ((((((y5.1.1 ++ (lit [119])) ++ y9.1.1) ++ (lit [100])) ++ y14.1.1), ()), ()))))))))))))
noncomputable def impl_Wash_text_a : Ann := (.q .o (.q (.e [] [13]) .o))
theorem impl_Wash_text_run (k : Nat) (p0 : (Int × (Int × Int))) : funX Tryz.prog (callT [strconv_Itoa_c k]) k Tryz.f79 impl_Wash_text_a [.v (.pr (.int .i64) (.pr (.int .i64) (.int .i64)))] [.v .str] (p0, ()) = impl_Wash_text_f k p0 := by kernel_rfl
noncomputable def impl_Wash_text_c (k : Nat) : Con := ⟨79, [.v (.pr (.int .i64) (.pr (.int .i64) (.int .i64)))], [.v .str], fun x => impl_Wash_text_f k x.1⟩
theorem impl_Wash_text_ok (k : Nat) : (impl_Wash_text_c k).Sound Tryz.prog GL := con_ok (k := k) (fn := Tryz.f79) (A := impl_Wash_text_a) (C := callT [strconv_Itoa_c k]) Tryz.func79 (by kernel_rfl) (show Tryz.f79.body = some (bodyX Tryz.f79) by rfl) (fun X hX => callT_at (TableOk.cons (strconv_Itoa_ok k) TableOk.nil) X hX) (Nat.le_of_ble_eq_true (by kernel_rfl)) (fun ⟨p0, _⟩ y h => by rw [← h]; exact impl_Wash_text_run k p0)
noncomputable def impl_WashText_f (k : Nat) (p0 : (Int × (Int × Int))) : Option ((ByteArray × Bool × Unit) × Unit) :=
  (Option.bind (impl_IsWash_f k p0) (fun y5 => (cond (!y5.1.1) (some ((ByteArray.empty, false, ()), ())) (Option.bind (impl_Wash_text_f k p0) (fun y8 => (some ((y8.1.1, true, ()), ())))))))
noncomputable def impl_WashText_a : Ann := .o
theorem impl_WashText_run (k : Nat) (p0 : (Int × (Int × Int))) : funX Tryz.prog (callT [impl_IsWash_c k, impl_Wash_text_c k]) k Tryz.f21 impl_WashText_a [.v (.pr (.int .i64) (.pr (.int .i64) (.int .i64)))] [.v .str, .v .bool] (p0, ()) = impl_WashText_f k p0 := by kernel_rfl
noncomputable def impl_WashText_c (k : Nat) : Con := ⟨21, [.v (.pr (.int .i64) (.pr (.int .i64) (.int .i64)))], [.v .str, .v .bool], fun x => impl_WashText_f k x.1⟩
theorem impl_WashText_ok (k : Nat) : (impl_WashText_c k).Sound Tryz.prog GL := con_ok (k := k) (fn := Tryz.f21) (A := impl_WashText_a) (C := callT [impl_IsWash_c k, impl_Wash_text_c k]) Tryz.func21 (by kernel_rfl) (show Tryz.f21.body = some (bodyX Tryz.f21) by rfl) (fun X hX => callT_at (TableOk.cons (impl_IsWash_ok k) (TableOk.cons (impl_Wash_text_ok k) TableOk.nil)) X hX) (Nat.le_of_ble_eq_true (by kernel_rfl)) (fun ⟨p0, _⟩ y h => by rw [← h]; exact impl_WashText_run k p0)
noncomputable def spec_l1Num_s (k : Nat) (me : Int → Option ((ByteArray × Unit) × Unit)) (p0 : Int) : Option ((ByteArray × Unit) × Unit) :=
  (cond (decide (p0 < 10)) (some (((strOfNums [(IntKind.wrap .u8 ((iw (48 + p0))))]), ()), ())) (met (andX (Option.bind (me (iw (Int.tdiv p0 10))) (fun y12 => (chk (decide (y12.1.1.size + (strOfNums [(IntKind.wrap .u8 ((iw (48 + (Int.tmod p0 10)))))]).size ≤ 9223372036854775807)) (some (.inl ((y12.1.1 ++ (strOfNums [(IntKind.wrap .u8 ((iw (48 + (Int.tmod p0 10)))))])), ())))))) ((fun q => andX q q) (Option.bind (me (iw (Int.tdiv p0 10))) (fun y12_1 => (chk (decide (y12_1.1.1.size + (strOfNums [(IntKind.wrap .u8 ((iw (48 + (Int.tmod p0 10)))))]).size ≤ 9223372036854775807)) (some (.inl ((y12_1.1.1 ++ (strOfNums [(IntKind.wrap .u8 ((iw (48 + (Int.tmod p0 10)))))])), ())))))))) (fun j1 => (some ((j1.1, ()), ())))))
noncomputable def spec_l1Num_r (k : Nat) : Nat → Int → Option ((ByteArray × Unit) × Unit)
  | 0 => fun _ => none
  | n + 1 => spec_l1Num_s k (spec_l1Num_r k n)
noncomputable def spec_l1Num_f (k : Nat) : Int → Option ((ByteArray × Unit) × Unit) := spec_l1Num_r k k
noncomputable def spec_l1Num_a : Ann := (.q .o (.q .o (.q (.d [] [10] [(2, 100128, .v .str)]) .o)))
noncomputable def spec_l1Num_d (k n : Nat) : Con := ⟨134, [.v (.int .i64)], [.v .str], fun x => spec_l1Num_r k n x.1⟩
theorem spec_l1Num_run (k n : Nat) (p0 : Int) : funX Tryz.prog (callT [spec_l1Num_d k n]) k Tryz.f134 spec_l1Num_a [.v (.int .i64)] [.v .str] (p0, ()) = spec_l1Num_r k (n + 1) p0 := by kernel_rfl
theorem spec_l1Num_rec (k : Nat) : ∀ n : Nat, (spec_l1Num_d k n).Sound Tryz.prog GL
  | 0 => con_none Tryz.func134 (by kernel_rfl) (show Tryz.f134.body = some (bodyX Tryz.f134) by rfl) (fun _ => rfl)
  | n + 1 => con_ok (k := k) (fn := Tryz.f134) (A := spec_l1Num_a) (C := callT [spec_l1Num_d k n]) Tryz.func134 (by kernel_rfl) (show Tryz.f134.body = some (bodyX Tryz.f134) by rfl) (fun X hX => callT_at (TableOk.cons (spec_l1Num_rec k n) TableOk.nil) X hX) (Nat.le_of_ble_eq_true (by kernel_rfl)) (fun ⟨p0, _⟩ y h => by rw [← h]; exact spec_l1Num_run k n p0)
noncomputable def spec_l1Num_c (k : Nat) : Con := ⟨134, [.v (.int .i64)], [.v .str], fun x => spec_l1Num_f k x.1⟩
theorem spec_l1Num_ok (k : Nat) : (spec_l1Num_c k).Sound Tryz.prog GL := spec_l1Num_rec k k
noncomputable def spec_dyText_f (k : Nat) (p0 : (Int × (Int × Int))) : Option ((ByteArray × Unit) × Unit) :=
  (Option.bind (spec_l1Num_f k p0.1) (fun y5 => (chk (decide (y5.1.1.size + (lit [119]).size ≤ 9223372036854775807)) (Option.bind (spec_l1Num_f k p0.2.1) (fun y9 => (chk (decide ((y5.1.1 ++ (lit [119])).size + y9.1.1.size ≤ 9223372036854775807)) (chk (decide (((y5.1.1 ++ (lit [119])) ++ y9.1.1).size + (lit [100]).size ≤ 9223372036854775807)) (Option.bind (spec_l1Num_f k p0.2.2) (fun y14 => (chk (decide ((((y5.1.1 ++ (lit [119])) ++ y9.1.1) ++ (lit [100])).size + y14.1.1.size ≤ 9223372036854775807)) (some ((((((y5.1.1 ++ (lit [119])) ++ y9.1.1) ++ (lit [100])) ++ y14.1.1), ()), ()))))))))))))
noncomputable def spec_dyText_a : Ann := (.q .o (.q (.e [] [13]) .o))
theorem spec_dyText_run (k : Nat) (p0 : (Int × (Int × Int))) : funX Tryz.prog (callT [spec_l1Num_c k]) k Tryz.f80 spec_dyText_a [.v (.pr (.int .i64) (.pr (.int .i64) (.int .i64)))] [.v .str] (p0, ()) = spec_dyText_f k p0 := by kernel_rfl
noncomputable def spec_dyText_c (k : Nat) : Con := ⟨80, [.v (.pr (.int .i64) (.pr (.int .i64) (.int .i64)))], [.v .str], fun x => spec_dyText_f k x.1⟩
theorem spec_dyText_ok (k : Nat) : (spec_dyText_c k).Sound Tryz.prog GL := con_ok (k := k) (fn := Tryz.f80) (A := spec_dyText_a) (C := callT [spec_l1Num_c k]) Tryz.func80 (by kernel_rfl) (show Tryz.f80.body = some (bodyX Tryz.f80) by rfl) (fun X hX => callT_at (TableOk.cons (spec_l1Num_ok k) TableOk.nil) X hX) (Nat.le_of_ble_eq_true (by kernel_rfl)) (fun ⟨p0, _⟩ y h => by rw [← h]; exact spec_dyText_run k p0)
noncomputable def spec_WashText_f (k : Nat) (p0 : (Int × (Int × Int))) : Option ((ByteArray × Bool × Unit) × Unit) :=
  (Option.bind (spec_dyGood_f k p0) (fun y5 => (cond (!y5.1.1) (some ((ByteArray.empty, false, ()), ())) (Option.bind (spec_dyText_f k p0) (fun y8 => (some ((y8.1.1, true, ()), ())))))))
noncomputable def spec_WashText_a : Ann := .o
theorem spec_WashText_run (k : Nat) (p0 : (Int × (Int × Int))) : funX Tryz.prog (callT [spec_dyGood_c k, spec_dyText_c k]) k Tryz.f22 spec_WashText_a [.v (.pr (.int .i64) (.pr (.int .i64) (.int .i64)))] [.v .str, .v .bool] (p0, ()) = spec_WashText_f k p0 := by kernel_rfl
noncomputable def spec_WashText_c (k : Nat) : Con := ⟨22, [.v (.pr (.int .i64) (.pr (.int .i64) (.int .i64)))], [.v .str, .v .bool], fun x => spec_WashText_f k x.1⟩
theorem spec_WashText_ok (k : Nat) : (spec_WashText_c k).Sound Tryz.prog GL := con_ok (k := k) (fn := Tryz.f22) (A := spec_WashText_a) (C := callT [spec_dyGood_c k, spec_dyText_c k]) Tryz.func22 (by kernel_rfl) (show Tryz.f22.body = some (bodyX Tryz.f22) by rfl) (fun X hX => callT_at (TableOk.cons (spec_dyGood_ok k) (TableOk.cons (spec_dyText_ok k) TableOk.nil)) X hX) (Nat.le_of_ble_eq_true (by kernel_rfl)) (fun ⟨p0, _⟩ y h => by rw [← h]; exact spec_WashText_run k p0)
noncomputable def spec_l1Cur_spoilt_l1_b (k : Nat) (p2 : ByteArray) (rec : ((List Int) × Int × Int × Unit) → ByteArray → Int → Option ((((List Int) × Int × Int × Unit) × ByteArray × Unit) ⊕ ((ByteArray × Unit) × (((List Int) × Int × Int × Unit) × Unit)))) (x0 : ((List Int) × Int × Int × Unit)) (x1 : ByteArray) (x7 : Int) : Option ((((List Int) × Int × Int × Unit) × ByteArray × Unit) ⊕ ((ByteArray × Unit) × (((List Int) × Int × Int × Unit) × Unit))) :=
  (met (cond (decide (x7 > 0)) (some (.inl ((x0.1, x0.2.1, x0.2.2.1, ()), (decide (((ByteArray.size x1 : Nat) : Int) > 0)), ()))) (some (.inl ((x0.1, x0.2.1, x0.2.2.1, ()), false, ())))) (fun j2 => (cond j2.2.1 (met (Option.bind (spec_l1Cur_pick_f k (j2.1.1, j2.1.2.1, j2.1.2.2.1, ()) ((ByteArray.size x1 : Nat) : Int)) (fun y25 => (Option.bind (spec_l1Cur_pick_f k (y25.2.1.1, y25.2.1.2.1, y25.2.1.2.2.1, ()) ((ByteArray.size p2 : Nat) : Int)) (fun y30 => (ixk y30.1.1 (ByteArray.size p2) (Option.bind (spec_l1Cur_pick_f k (y30.2.1.1, y30.2.1.2.1, y30.2.1.2.2.1, ()) 3) (fun y35 => (met (met (cond (y35.1.1 == 0) (chk (decide (0 ≤ y25.1.1)) (chk (decide (y25.1.1 ≤ ((ByteArray.size x1 : Nat) : Int))) (chk (decide ((ByteArray.extract x1 0 (Int.toNat y25.1.1)).size + (strOfNums [(byteAt p2 y30.1.1)]).size ≤ 9223372036854775807)) (chk (decide (0 ≤ y25.1.1)) (chk (decide (y25.1.1 ≤ ((ByteArray.size x1 : Nat) : Int))) (chk (decide (((ByteArray.extract x1 0 (Int.toNat y25.1.1)) ++ (strOfNums [(byteAt p2 y30.1.1)])).size + (ByteArray.extract x1 (Int.toNat y25.1.1) (ByteArray.size x1)).size ≤ 9223372036854775807)) (some (.inl ((y35.2.1.1, y35.2.1.2.1, y35.2.1.2.2.1, ()), (((ByteArray.extract x1 0 (Int.toNat y25.1.1)) ++ (strOfNums [(byteAt p2 y30.1.1)])) ++ (ByteArray.extract x1 (Int.toNat y25.1.1) (ByteArray.size x1))), ()))))))))) (met (cond (y35.1.1 == 1) (chk (decide (0 ≤ y25.1.1)) (chk (decide (y25.1.1 ≤ ((ByteArray.size x1 : Nat) : Int))) (chk (decide ((ByteArray.extract x1 0 (Int.toNat y25.1.1)).size + (strOfNums [(byteAt p2 y30.1.1)]).size ≤ 9223372036854775807)) (chk (decide (0 ≤ (iw (y25.1.1 + 1)))) (chk (decide ((iw (y25.1.1 + 1)) ≤ ((ByteArray.size x1 : Nat) : Int))) (chk (decide (((ByteArray.extract x1 0 (Int.toNat y25.1.1)) ++ (strOfNums [(byteAt p2 y30.1.1)])).size + (ByteArray.extract x1 (Int.toNat (iw (y25.1.1 + 1))) (ByteArray.size x1)).size ≤ 9223372036854775807)) (some (.inl ((y35.2.1.1, y35.2.1.2.1, y35.2.1.2.2.1, ()), (((ByteArray.extract x1 0 (Int.toNat y25.1.1)) ++ (strOfNums [(byteAt p2 y30.1.1)])) ++ (ByteArray.extract x1 (Int.toNat (iw (y25.1.1 + 1))) (ByteArray.size x1))), ()))))))))) (chk (decide (0 ≤ y25.1.1)) (chk (decide (y25.1.1 ≤ ((ByteArray.size x1 : Nat) : Int))) (chk (decide (0 ≤ (iw (y25.1.1 + 1)))) (chk (decide ((iw (y25.1.1 + 1)) ≤ ((ByteArray.size x1 : Nat) : Int))) (chk (decide ((ByteArray.extract x1 0 (Int.toNat y25.1.1)).size + (ByteArray.extract x1 (Int.toNat (iw (y25.1.1 + 1))) (ByteArray.size x1)).size ≤ 9223372036854775807)) (some (.inl ((y35.2.1.1, y35.2.1.2.1, y35.2.1.2.2.1, ()), ((ByteArray.extract x1 0 (Int.toNat y25.1.1)) ++ (ByteArray.extract x1 (Int.toNat (iw (y25.1.1 + 1))) (ByteArray.size x1))), ()))))))))) (fun j3 => (some (.inl ((j3.1.1, j3.1.2.1, j3.1.2.2.1, ()), j3.2.1, ())))))) (fun j4 => (some (.inl ((j4.1.1, j4.1.2.1, j4.1.2.2.1, ()), j4.2.1, ()))))) (fun j5 => (some (.inl ((j5.1.1, j5.1.2.1, j5.1.2.2.1, ()), j5.2.1, ())))))))))))) (fun j6 => (rec (j6.1.1, j6.1.2.1, j6.1.2.2.1, ()) j6.2.1 (iw (x7 - 1))))) (some (.inl ((j2.1.1, j2.1.2.1, j2.1.2.2.1, ()), x1, ()))))))
noncomputable def spec_l1Cur_spoilt_l1 (k : Nat) (p2 : ByteArray) (x0 : ((List Int) × Int × Int × Unit)) (x1 : ByteArray) (x7 : Int) : Option ((((List Int) × Int × Int × Unit) × ByteArray × Unit) ⊕ ((ByteArray × Unit) × (((List Int) × Int × Int × Unit) × Unit))) := iter k (fun (rec : (((List Int) × Int × Int × Unit) × ByteArray × Int × Unit) → Option ((((List Int) × Int × Int × Unit) × ByteArray × Unit) ⊕ ((ByteArray × Unit) × (((List Int) × Int × Int × Unit) × Unit)))) (x : (((List Int) × Int × Int × Unit) × ByteArray × Int × Unit)) => spec_l1Cur_spoilt_l1_b k p2 (fun x0 x1 x7 => rec (x0, x1, x7, ())) x.1 x.2.1 x.2.2.1) (x0, x1, x7, ())
noncomputable def spec_l1Cur_spoilt_f (k : Nat) (p0 : ((List Int) × Int × Int × Unit)) (p1 : ByteArray) (p2 : ByteArray) : Option ((ByteArray × Unit) × (((List Int) × Int × Int × Unit) × Unit)) :=
  (Option.bind (spec_l1Cur_pick_f k (p0.1, p0.2.1, p0.2.2.1, ()) 2) (fun y11 => (met (spec_l1Cur_spoilt_l1 k p2 (y11.2.1.1, y11.2.1.2.1, y11.2.1.2.2.1, ()) p1 (iw (1 + y11.1.1))) (fun j7 => (some ((j7.2.1, ()), ((j7.1.1, j7.1.2.1, j7.1.2.2.1, ()), ())))))))
noncomputable def spec_l1Cur_spoilt_a : Ann := (.q .o (.q (.q .o (.m [(0, 3000000, .box true [.v (.slc 5 (.int .u8)), .v (.int .i64), .v (.int .u64)]), (1, 100064, .v .str)] (.l [(0, 3000000, .box true [.v (.slc 5 (.int .u8)), .v (.int .i64), .v (.int .u64)]), (1, 100064, .v .str), (7, 100448, .v (.int .i64))] (.q (.q (.r [(0, 3000000, .box true [.v (.slc 5 (.int .u8)), .v (.int .i64), .v (.int .u64)]), (19, 101216, .v .bool)]) .o) (.q (.m [(0, 3000000, .box true [.v (.slc 5 (.int .u8)), .v (.int .i64), .v (.int .u64)]), (1, 100064, .v .str)] (.q .o (.q .o (.q .o (.m [(0, 3000000, .box true [.v (.slc 5 (.int .u8)), .v (.int .i64), .v (.int .u64)]), (1, 100064, .v .str)] (.q .o (.j [(0, 3000000, .box true [.v (.slc 5 (.int .u8)), .v (.int .i64), .v (.int .u64)]), (1, 100064, .v .str)] (.e [] [9]) (.q .o (.j [(0, 3000000, .box true [.v (.slc 5 (.int .u8)), .v (.int .i64), .v (.int .u64)]), (1, 100064, .v .str)] (.e [] [10]) (.e [] [8])))))))))) .o))))) .o))
theorem spec_l1Cur_spoilt_run (k : Nat) (p0 : ((List Int) × Int × Int × Unit)) (p1 : ByteArray) (p2 : ByteArray) : funX Tryz.prog (callT [spec_l1Cur_pick_c k]) k Tryz.f82 spec_l1Cur_spoilt_a [.box true [.v (.slc 5 (.int .u8)), .v (.int .i64), .v (.int .u64)], .v .str, .v .str] [.v .str] (p0, p1, p2, ()) = spec_l1Cur_spoilt_f k p0 p1 p2 := by kernel_rfl
noncomputable def spec_l1Cur_spoilt_c (k : Nat) : Con := ⟨82, [.box true [.v (.slc 5 (.int .u8)), .v (.int .i64), .v (.int .u64)], .v .str, .v .str], [.v .str], fun x => spec_l1Cur_spoilt_f k x.1 x.2.1 x.2.2.1⟩
theorem spec_l1Cur_spoilt_ok (k : Nat) : (spec_l1Cur_spoilt_c k).Sound Tryz.prog GL := con_ok (k := k) (fn := Tryz.f82) (A := spec_l1Cur_spoilt_a) (C := callT [spec_l1Cur_pick_c k]) Tryz.func82 (by kernel_rfl) (show Tryz.f82.body = some (bodyX Tryz.f82) by rfl) (fun X hX => callT_at (TableOk.cons (spec_l1Cur_pick_ok k) TableOk.nil) X hX) (Nat.le_of_ble_eq_true (by kernel_rfl)) (fun ⟨p0, p1, p2, _⟩ y h => by rw [← h]; exact spec_l1Cur_spoilt_run k p0 p1 p2)
noncomputable def spec_DrawParseWash_f (k : Nat) (p0 : (List Int)) : Option ((ByteArray × Unit) × Unit) :=
  (Option.bind (spec_l1Cur_sureWash_f k (p0, 0, 0, ())) (fun y9 => (Option.bind (spec_dyText_f k y9.1.1) (fun y10 => (Option.bind (spec_l1Cur_one_f k (y9.2.1.1, y9.2.1.2.1, y9.2.1.2.2.1, ()) 3) (fun y12 => (met (cond y12.1.1 (Option.bind (spec_l1Cur_spoilt_f k (y12.2.1.1, y12.2.1.2.1, y12.2.1.2.2.1, ()) y10.1.1 (lit [48, 49, 50, 51, 119, 100, 120])) (fun y15 => (some (.inl (y15.1.1, ()))))) (some (.inl (y10.1.1, ())))) (fun j1 => (some ((j1.1, ()), ()))))))))))
noncomputable def spec_DrawParseWash_a : Ann := (.q .o (.q .o (.q .o (.q (.q .o (.j [(4, 100256, .v .str)] .o .o)) .o))))
theorem spec_DrawParseWash_run (k : Nat) (p0 : (List Int)) : funX Tryz.prog (callT [spec_l1Cur_sureWash_c k, spec_dyText_c k, spec_l1Cur_one_c k, spec_l1Cur_spoilt_c k]) k Tryz.f23 spec_DrawParseWash_a [.v (.slc 5 (.int .u8))] [.v .str] (p0, ()) = spec_DrawParseWash_f k p0 := by kernel_rfl
noncomputable def spec_DrawParseWash_c (k : Nat) : Con := ⟨23, [.v (.slc 5 (.int .u8))], [.v .str], fun x => spec_DrawParseWash_f k x.1⟩
theorem spec_DrawParseWash_ok (k : Nat) : (spec_DrawParseWash_c k).Sound Tryz.prog GL := con_ok (k := k) (fn := Tryz.f23) (A := spec_DrawParseWash_a) (C := callT [spec_l1Cur_sureWash_c k, spec_dyText_c k, spec_l1Cur_one_c k, spec_l1Cur_spoilt_c k]) Tryz.func23 (by kernel_rfl) (show Tryz.f23.body = some (bodyX Tryz.f23) by rfl) (fun X hX => callT_at (TableOk.cons (spec_l1Cur_sureWash_ok k) (TableOk.cons (spec_dyText_ok k) (TableOk.cons (spec_l1Cur_one_ok k) (TableOk.cons (spec_l1Cur_spoilt_ok k) TableOk.nil)))) X hX) (Nat.le_of_ble_eq_true (by kernel_rfl)) (fun ⟨p0, _⟩ y h => by rw [← h]; exact spec_DrawParseWash_run k p0)
noncomputable def strings_Cut_f (k : Nat) (p0 : ByteArray) (p1 : ByteArray) : Option ((ByteArray × ByteArray × Bool × Unit) × Unit) := (cutL p0 p1).map fun y => (y, ())
noncomputable def strings_Cut_c (k : Nat) : Con := ⟨83, [.v .str, .v .str], [.v .str, .v .str, .v .bool], fun x => (cutL x.1 x.2.1).map fun y => (y, ())⟩
theorem strings_Cut_ok (k : Nat) : (strings_Cut_c k).Sound Tryz.prog GL := cut_leaf (k := 0) (by decide) ⟨Tryz.f83, Tryz.func83, by kernel_rfl, by rfl⟩ (fun s sep m w h1 h2 => lay_strings_Cut s sep m w h1 h2)
noncomputable def strings_Trim_f (k : Nat) (p0 : ByteArray) (p1 : ByteArray) : Option ((ByteArray × Unit) × Unit) := (trimL p0 p1).map fun y => (y, ())
noncomputable def strings_Trim_c (k : Nat) : Con := ⟨136, [.v .str, .v .str], [.v .str], fun x => (trimL x.1 x.2.1).map fun y => (y, ())⟩
theorem strings_Trim_ok (k : Nat) : (strings_Trim_c k).Sound Tryz.prog GL := trim_leaf ⟨Tryz.f136, Tryz.func136, by kernel_rfl, by rfl⟩ (fun s c w h1 h2 h3 => lay_strings_Trim_laid s c w h1 h2 h3)
noncomputable def strconv_Atoi_f (k : Nat) (p0 : ByteArray) : Option ((Int × Unit × Unit) × Unit) := (atoiL p0).map fun y => (y, ())
noncomputable def strconv_Atoi_c (k : Nat) : Con := ⟨137, [.v .str], [.v (.int .i64), .nilI], fun x => (atoiL x.1).map fun y => (y, ())⟩
theorem strconv_Atoi_ok (k : Nat) : (strconv_Atoi_c k).Sound Tryz.prog GL := atoi_leaf (t := 5) ⟨Tryz.f137, Tryz.func137, by kernel_rfl, by rfl⟩ (fun s h1 v h2 w => lay_strconv_Atoi_ok s h1 v h2 w)
noncomputable def impl_number_f (k : Nat) (p0 : ByteArray) (p1 : Int) : Option ((Int × Bool × Unit) × Unit) :=
  (met (Option.bind (impl_within_f k ((ByteArray.size p0 : Nat) : Int) 1 p1) (fun y11 => (cond (!y11.1.1) (some (.inl (true, ()))) (Option.bind (strings_Trim_f k p0 (lit [48, 49, 50, 51, 52, 53, 54, 55, 56, 57])) (fun y15 => (cond (!(y15.1.1.toList == ByteArray.empty.toList)) (some (.inl (true, ()))) (chk (decide ((0 : Int) < ((ByteArray.size p0 : Nat) : Int))) (cond ((byteAt p0 0) == 48) (some (.inl ((decide (((ByteArray.size p0 : Nat) : Int) > 1)), ()))) (some (.inl (false, ()))))))))))) (fun j1 => (cond j1.1 (some ((0, false, ()), ())) (Option.bind (strconv_Atoi_f k p0) (fun y30 => (some ((y30.1.1, true, ()), ())))))))
noncomputable def impl_number_a : Ann := (.q .o (.q (.q (.r [(27, 101728, .v .bool)]) .o) (.q .o (.q (.e [] [4]) .o))))
theorem impl_number_run (k : Nat) (p0 : ByteArray) (p1 : Int) : funX Tryz.prog (callT [impl_within_c k, strings_Trim_c k, strconv_Atoi_c k]) k Tryz.f84 impl_number_a [.v .str, .v (.int .i64)] [.v (.int .i64), .v .bool] (p0, p1, ()) = impl_number_f k p0 p1 := by kernel_rfl
noncomputable def impl_number_c (k : Nat) : Con := ⟨84, [.v .str, .v (.int .i64)], [.v (.int .i64), .v .bool], fun x => impl_number_f k x.1 x.2.1⟩
theorem impl_number_ok (k : Nat) : (impl_number_c k).Sound Tryz.prog GL := con_ok (k := k) (fn := Tryz.f84) (A := impl_number_a) (C := callT [impl_within_c k, strings_Trim_c k, strconv_Atoi_c k]) Tryz.func84 (by kernel_rfl) (show Tryz.f84.body = some (bodyX Tryz.f84) by rfl) (fun X hX => callT_at (TableOk.cons (impl_within_ok k) (TableOk.cons (strings_Trim_ok k) (TableOk.cons (strconv_Atoi_ok k) TableOk.nil))) X hX) (Nat.le_of_ble_eq_true (by kernel_rfl)) (fun ⟨p0, p1, _⟩ y h => by rw [← h]; exact impl_number_run k p0 p1)
noncomputable def impl_ParseWash_f (k : Nat) (p0 : ByteArray) : Option (((Int × (Int × Int)) × Bool × Unit) × Unit) :=
  (cond (decide (((ByteArray.size p0 : Nat) : Int) > 10)) (some (((0, (0, 0)), false, ()), ())) (Option.bind (strings_Cut_f k p0 (lit [119])) (fun y23 => (Option.bind (strings_Cut_f k y23.1.2.1 (lit [100])) (fun y29 => (Option.bind (impl_number_f k y23.1.1 2) (fun y35 => (Option.bind (impl_number_f k y29.1.1 2) (fun y40 => (Option.bind (impl_number_f k y29.1.2.1 2) (fun y45 => (met (cond (!y35.1.2.1) (some (.inl (((0 : Int), (0 : Int), (0 : Int), ()), (y35.1.1, y40.1.1, y45.1.1, ()), true, ()))) (cond (!y40.1.2.1) (some (.inl (((0 : Int), (0 : Int), (0 : Int), ()), (y35.1.1, y40.1.1, y45.1.1, ()), true, ()))) (cond (!y45.1.2.1) (some (.inl (((0 : Int), (0 : Int), (0 : Int), ()), (y35.1.1, y40.1.1, y45.1.1, ()), true, ()))) (Option.bind (impl_IsWash_f k (y35.1.1, (y40.1.1, y45.1.1))) (fun y64 => (cond (!y64.1.1) (some (.inl (((0 : Int), (0 : Int), (0 : Int), ()), (y35.1.1, y40.1.1, y45.1.1, ()), true, ()))) (Option.bind (impl_Wash_text_f k (y35.1.1, (y40.1.1, y45.1.1))) (fun y69 => (some (.inl (((0 : Int), (0 : Int), (0 : Int), ()), (y35.1.1, y40.1.1, y45.1.1, ()), (!(y69.1.1.toList == p0.toList)), ()))))))))))) (fun j1 => (cond j1.2.2.1 (some (((0, (0, 0)), false, ()), ())) (some (((j1.2.1.1, (j1.2.1.2.1, j1.2.1.2.2.1)), true, ()), ()))))))))))))))))
noncomputable def impl_ParseWash_a : Ann := (.q .o (.q .o (.q .o (.q .o (.q .o (.q .o (.q .o (.q .o (.q (.q (.r [(2, 100128, .box false [.v (.int .i64), .v (.int .i64), .v (.int .i64)]), (16, 101024, .box false [.v (.int .i64), .v (.int .i64), .v (.int .i64)]), (72, 104608, .v .bool)]) .o) .o)))))))))
theorem impl_ParseWash_run (k : Nat) (p0 : ByteArray) : funX Tryz.prog (callT [strings_Cut_c k, impl_number_c k, impl_IsWash_c k, impl_Wash_text_c k]) k Tryz.f24 impl_ParseWash_a [.v .str] [.v (.pr (.int .i64) (.pr (.int .i64) (.int .i64))), .v .bool] (p0, ()) = impl_ParseWash_f k p0 := by kernel_rfl
noncomputable def impl_ParseWash_c (k : Nat) : Con := ⟨24, [.v .str], [.v (.pr (.int .i64) (.pr (.int .i64) (.int .i64))), .v .bool], fun x => impl_ParseWash_f k x.1⟩
theorem impl_ParseWash_ok (k : Nat) : (impl_ParseWash_c k).Sound Tryz.prog GL := con_ok (k := k) (fn := Tryz.f24) (A := impl_ParseWash_a) (C := callT [strings_Cut_c k, impl_number_c k, impl_IsWash_c k, impl_Wash_text_c k]) Tryz.func24 (by kernel_rfl) (show Tryz.f24.body = some (bodyX Tryz.f24) by rfl) (fun X hX => callT_at (TableOk.cons (strings_Cut_ok k) (TableOk.cons (impl_number_ok k) (TableOk.cons (impl_IsWash_ok k) (TableOk.cons (impl_Wash_text_ok k) TableOk.nil)))) X hX) (Nat.le_of_ble_eq_true (by kernel_rfl)) (fun ⟨p0, _⟩ y h => by rw [← h]; exact impl_ParseWash_run k p0)
noncomputable def spec_l1Split_l1_b (k : Nat) (p0 : ByteArray) (p1 : Int) (rec : (List ByteArray) → Int → Int → Option (((List ByteArray) × Int × Unit) ⊕ (((List ByteArray) × Unit) × Unit))) (x5 : (List ByteArray)) (x6 : Int) (x7 : Int) : Option (((List ByteArray) × Int × Unit) ⊕ (((List ByteArray) × Unit) × Unit)) :=
  (cond (decide (x7 < ((ByteArray.size p0 : Nat) : Int))) (met (ixk x7 (ByteArray.size p0) (met (cond ((byteAt p0 x7) == p1) (chk (decide (0 ≤ x7)) (chk (decide (x7 ≤ ((ByteArray.size p0 : Nat) : Int))) (chk (decide (0 ≤ x6)) (chk (decide (x6 ≤ x7)) (chk (decide (List.length x5 + List.length [(ByteArray.extract p0 (Int.toNat x6) (Int.toNat x7))] ≤ 8278675785607)) (some (.inl ((x5 ++ [(ByteArray.extract p0 (Int.toNat x6) (Int.toNat x7))]), (iw (x7 + 1)), ())))))))) (some (.inl (x5, x6, ())))) (fun j2 => (some (.inl (j2.1, j2.2.1, ())))))) (fun j3 => (rec j3.1 j3.2.1 (iw (x7 + 1))))) (some (.inl (x5, x6, ()))))
noncomputable def spec_l1Split_l1 (k : Nat) (p0 : ByteArray) (p1 : Int) (x5 : (List ByteArray)) (x6 : Int) (x7 : Int) : Option (((List ByteArray) × Int × Unit) ⊕ (((List ByteArray) × Unit) × Unit)) := iter k (fun (rec : ((List ByteArray) × Int × Int × Unit) → Option (((List ByteArray) × Int × Unit) ⊕ (((List ByteArray) × Unit) × Unit))) (x : ((List ByteArray) × Int × Int × Unit)) => spec_l1Split_l1_b k p0 p1 (fun x5 x6 x7 => rec (x5, x6, x7, ())) x.1 x.2.1 x.2.2.1) (x5, x6, x7, ())
noncomputable def spec_l1Split_f (k : Nat) (p0 : ByteArray) (p1 : Int) : Option (((List ByteArray) × Unit) × Unit) :=
  (met (spec_l1Split_l1 k p0 p1 [] 0 0) (fun j4 => (chk (decide (0 ≤ j4.2.1)) (chk (decide (j4.2.1 ≤ ((ByteArray.size p0 : Nat) : Int))) (chk (decide (List.length j4.1 + List.length [(ByteArray.extract p0 (Int.toNat j4.2.1) (ByteArray.size p0))] ≤ 8278675785607)) (some (((j4.1 ++ [(ByteArray.extract p0 (Int.toNat j4.2.1) (ByteArray.size p0))]), ()), ())))))))
noncomputable def spec_l1Split_a : Ann := (.q .o (.q .o (.q .o (.q (.q .o (.m [(5, 100320, .own false 9 .str), (6, 100384, .v (.int .i64))] (.l [(5, 100320, .own false 9 .str), (6, 100384, .v (.int .i64)), (7, 100448, .v (.int .i64))] (.q .o (.q (.m [(5, 100320, .own false 9 .str), (6, 100384, .v (.int .i64))] (.q .o (.j [(5, 100320, .own false 9 .str), (6, 100384, .v (.int .i64))] .o .o))) .o))))) .o))))
theorem spec_l1Split_run (k : Nat) (p0 : ByteArray) (p1 : Int) : funX Tryz.prog (callT []) k Tryz.f120 spec_l1Split_a [.v .str, .v (.int .u8)] [.own false 9 .str] (p0, p1, ()) = spec_l1Split_f k p0 p1 := by kernel_rfl
noncomputable def spec_l1Split_c (k : Nat) : Con := ⟨120, [.v .str, .v (.int .u8)], [.own false 9 .str], fun x => spec_l1Split_f k x.1 x.2.1⟩
theorem spec_l1Split_ok (k : Nat) : (spec_l1Split_c k).Sound Tryz.prog GL := con_ok (k := k) (fn := Tryz.f120) (A := spec_l1Split_a) (C := callT []) Tryz.func120 (by kernel_rfl) (show Tryz.f120.body = some (bodyX Tryz.f120) by rfl) (fun X hX => callT_at TableOk.nil X hX) (Nat.le_of_ble_eq_true (by kernel_rfl)) (fun ⟨p0, p1, _⟩ y h => by rw [← h]; exact spec_l1Split_run k p0 p1)
noncomputable def spec_l1Read_l2_b (k : Nat) (p0 : ByteArray) (rec : Int → Int → Option ((Int × Unit) ⊕ ((Int × Unit) × Unit))) (x3 : Int) (x4 : Int) : Option ((Int × Unit) ⊕ ((Int × Unit) × Unit)) :=
  (cond (decide (x4 < ((ByteArray.size p0 : Nat) : Int))) (met (ixk x4 (ByteArray.size p0) (cond (decide ((byteAt p0 x4) < 48)) (some (.inl (true, ()))) (ixk x4 (ByteArray.size p0) (some (.inl ((decide ((byteAt p0 x4) > 57)), ())))))) (fun j3 => (cond j3.1 (some (.inr (((-1), ()), ()))) (ixk x4 (ByteArray.size p0) (rec (iw ((iw (10 * x3)) + (iw ((IntKind.wrap .u8 ((byteAt p0 x4) - 48)))))) (iw (x4 + 1))))))) (some (.inl (x3, ()))))
noncomputable def spec_l1Read_l2 (k : Nat) (p0 : ByteArray) (x3 : Int) (x4 : Int) : Option ((Int × Unit) ⊕ ((Int × Unit) × Unit)) := iter k (fun (rec : (Int × Int × Unit) → Option ((Int × Unit) ⊕ ((Int × Unit) × Unit))) (x : (Int × Int × Unit)) => spec_l1Read_l2_b k p0 (fun x3 x4 => rec (x3, x4, ())) x.1 x.2.1) (x3, x4, ())
noncomputable def spec_l1Read_f (k : Nat) (p0 : ByteArray) : Option ((Int × Unit) × Unit) :=
  (met (Option.bind (spec_l1In_f k ((ByteArray.size p0 : Nat) : Int) 1 6) (fun y7 => (cond (!y7.1.1) (some (.inl (true, ()))) (chk (decide ((0 : Int) < ((ByteArray.size p0 : Nat) : Int))) (cond ((byteAt p0 0) == 48) (some (.inl ((decide (((ByteArray.size p0 : Nat) : Int) > 1)), ()))) (some (.inl (false, ())))))))) (fun j1 => (cond j1.1 (some (((-1), ()), ())) (met (spec_l1Read_l2 k p0 0 0) (fun j4 => (some ((j4.1, ()), ())))))))
noncomputable def spec_l1Read_a : Ann := (.q .o (.q (.q (.r [(18, 101152, .v .bool)]) .o) (.q .o (.q (.q .o (.m [(3, 100192, .v (.int .i64))] (.l [(3, 100192, .v (.int .i64)), (4, 100256, .v (.int .i64))] (.q .o (.q (.b (.q (.q (.r [(34, 102176, .v .bool)]) .o) .o)) .o))))) .o))))
theorem spec_l1Read_run (k : Nat) (p0 : ByteArray) : funX Tryz.prog (callT [spec_l1In_c k]) k Tryz.f121 spec_l1Read_a [.v .str] [.v (.int .i64)] (p0, ()) = spec_l1Read_f k p0 := by kernel_rfl
noncomputable def spec_l1Read_c (k : Nat) : Con := ⟨121, [.v .str], [.v (.int .i64)], fun x => spec_l1Read_f k x.1⟩
theorem spec_l1Read_ok (k : Nat) : (spec_l1Read_c k).Sound Tryz.prog GL := con_ok (k := k) (fn := Tryz.f121) (A := spec_l1Read_a) (C := callT [spec_l1In_c k]) Tryz.func121 (by kernel_rfl) (show Tryz.f121.body = some (bodyX Tryz.f121) by rfl) (fun X hX => callT_at (TableOk.cons (spec_l1In_ok k) TableOk.nil) X hX) (Nat.le_of_ble_eq_true (by kernel_rfl)) (fun ⟨p0, _⟩ y h => by rw [← h]; exact spec_l1Read_run k p0)
noncomputable def spec_dyParse_f (k : Nat) (p0 : ByteArray) : Option (((Int × (Int × Int)) × Bool × Unit) × Unit) :=
  (Option.bind (spec_l1Split_f k p0 119) (fun y8 => (met (cond (decide (((ByteArray.size p0 : Nat) : Int) > 8)) (some (.inl (((0 : Int), (0 : Int), (0 : Int), ()), y8.1.1, true, ()))) (some (.inl (((0 : Int), (0 : Int), (0 : Int), ()), y8.1.1, (((List.length y8.1.1 : Nat) : Int) != 2), ())))) (fun j1 => (cond j1.2.2.1 (some (((0, (0, 0)), false, ()), ())) (chk (decide (1 < ((List.length j1.2.1 : Nat) : Int))) (Option.bind (spec_l1Split_f k (rdG ByteArray.empty j1.2.1 1) 100) (fun y21 => (cond (((List.length y21.1.1 : Nat) : Int) != 2) (some (((0, (0, 0)), false, ()), ())) (met (chk (decide ((0 : Int) < ((List.length j1.2.1 : Nat) : Int))) (chk (decide ((0 : Int) < ((List.length y21.1.1 : Nat) : Int))) (chk (decide (1 < ((List.length y21.1.1 : Nat) : Int))) (andX (Option.bind (spec_l1Read_f k (rdG ByteArray.empty j1.2.1 0)) (fun y29 => (andX (andX (Option.bind (spec_l1Read_f k (rdG ByteArray.empty y21.1.1 0)) (fun y33 => (andX ((fun q => andX q q) (Option.bind (spec_l1Read_f k (rdG ByteArray.empty y21.1.1 1)) (fun y37 => (some (.inl ((j1.1.1, j1.1.2.1, j1.1.2.2.1, ()), (y29.1.1, y33.1.1, y37.1.1, ()), ())))))) (Option.bind (spec_l1Read_f k (rdG ByteArray.empty y21.1.1 1)) (fun y37_2 => (some (.inl ((j1.1.1, j1.1.2.1, j1.1.2.2.1, ()), (y29.1.1, y33.1.1, y37_2.1.1, ()), ())))))))) (andX (andX (Option.bind (spec_l1Read_f k (rdG ByteArray.empty y21.1.1 0)) (fun y33_1 => ((fun q => andX q q) (Option.bind (spec_l1Read_f k (rdG ByteArray.empty y21.1.1 1)) (fun y37_3 => (some (.inl ((j1.1.1, j1.1.2.1, j1.1.2.2.1, ()), (y29.1.1, y33_1.1.1, y37_3.1.1, ()), ())))))))) (Option.bind (spec_l1Read_f k (rdG ByteArray.empty y21.1.1 0)) (fun y33_2 => (Option.bind (spec_l1Read_f k (rdG ByteArray.empty y21.1.1 1)) (fun y37_5 => (some (.inl ((j1.1.1, j1.1.2.1, j1.1.2.2.1, ()), (y29.1.1, y33_2.1.1, y37_5.1.1, ()), ())))))))) ((fun q => andX q q) (Option.bind (spec_l1Read_f k (rdG ByteArray.empty y21.1.1 0)) (fun y33_3 => (Option.bind (spec_l1Read_f k (rdG ByteArray.empty y21.1.1 1)) (fun y37_6 => (some (.inl ((j1.1.1, j1.1.2.1, j1.1.2.2.1, ()), (y29.1.1, y33_3.1.1, y37_6.1.1, ()), ())))))))))) (andX (andX (andX (Option.bind (spec_l1Read_f k (rdG ByteArray.empty y21.1.1 0)) (fun y33_5 => ((fun q => andX q q) (Option.bind (spec_l1Read_f k (rdG ByteArray.empty y21.1.1 1)) (fun y37_8 => (some (.inl ((j1.1.1, j1.1.2.1, j1.1.2.2.1, ()), (y29.1.1, y33_5.1.1, y37_8.1.1, ()), ())))))))) (Option.bind (spec_l1Read_f k (rdG ByteArray.empty y21.1.1 0)) (fun y33_6 => (Option.bind (spec_l1Read_f k (rdG ByteArray.empty y21.1.1 1)) (fun y37_10 => (some (.inl ((j1.1.1, j1.1.2.1, j1.1.2.2.1, ()), (y29.1.1, y33_6.1.1, y37_10.1.1, ()), ())))))))) (Option.bind (spec_l1Read_f k (rdG ByteArray.empty y21.1.1 0)) (fun y33_7 => (Option.bind (spec_l1Read_f k (rdG ByteArray.empty y21.1.1 1)) (fun y37_11 => (some (.inl ((j1.1.1, j1.1.2.1, j1.1.2.2.1, ()), (y29.1.1, y33_7.1.1, y37_11.1.1, ()), ())))))))) (andX ((fun q => andX q q) (Option.bind (spec_l1Read_f k (rdG ByteArray.empty y21.1.1 0)) (fun y33_8 => (Option.bind (spec_l1Read_f k (rdG ByteArray.empty y21.1.1 1)) (fun y37_12 => (some (.inl ((j1.1.1, j1.1.2.1, j1.1.2.2.1, ()), (y29.1.1, y33_8.1.1, y37_12.1.1, ()), ())))))))) (Option.bind (spec_l1Read_f k (rdG ByteArray.empty y21.1.1 0)) (fun y33_10 => (Option.bind (spec_l1Read_f k (rdG ByteArray.empty y21.1.1 1)) (fun y37_14 => (some (.inl ((j1.1.1, j1.1.2.1, j1.1.2.2.1, ()), (y29.1.1, y33_10.1.1, y37_14.1.1, ()), ())))))))))))) (andX (andX (Option.bind (spec_l1Read_f k (rdG ByteArray.empty j1.2.1 0)) (fun y29_1 => (andX (Option.bind (spec_l1Read_f k (rdG ByteArray.empty y21.1.1 0)) (fun y33_11 => (andX ((fun q => andX q q) (Option.bind (spec_l1Read_f k (rdG ByteArray.empty y21.1.1 1)) (fun y37_15 => (some (.inl ((j1.1.1, j1.1.2.1, j1.1.2.2.1, ()), (y29_1.1.1, y33_11.1.1, y37_15.1.1, ()), ())))))) (Option.bind (spec_l1Read_f k (rdG ByteArray.empty y21.1.1 1)) (fun y37_17 => (some (.inl ((j1.1.1, j1.1.2.1, j1.1.2.2.1, ()), (y29_1.1.1, y33_11.1.1, y37_17.1.1, ()), ())))))))) (andX (andX (Option.bind (spec_l1Read_f k (rdG ByteArray.empty y21.1.1 0)) (fun y33_12 => ((fun q => andX q q) (Option.bind (spec_l1Read_f k (rdG ByteArray.empty y21.1.1 1)) (fun y37_18 => (some (.inl ((j1.1.1, j1.1.2.1, j1.1.2.2.1, ()), (y29_1.1.1, y33_12.1.1, y37_18.1.1, ()), ())))))))) (Option.bind (spec_l1Read_f k (rdG ByteArray.empty y21.1.1 0)) (fun y33_13 => (Option.bind (spec_l1Read_f k (rdG ByteArray.empty y21.1.1 1)) (fun y37_20 => (some (.inl ((j1.1.1, j1.1.2.1, j1.1.2.2.1, ()), (y29_1.1.1, y33_13.1.1, y37_20.1.1, ()), ())))))))) ((fun q => andX q q) (Option.bind (spec_l1Read_f k (rdG ByteArray.empty y21.1.1 0)) (fun y33_14 => (Option.bind (spec_l1Read_f k (rdG ByteArray.empty y21.1.1 1)) (fun y37_21 => (some (.inl ((j1.1.1, j1.1.2.1, j1.1.2.2.1, ()), (y29_1.1.1, y33_14.1.1, y37_21.1.1, ()), ())))))))))))) (andX (andX (Option.bind (spec_l1Read_f k (rdG ByteArray.empty j1.2.1 0)) (fun y29_2 => (andX (Option.bind (spec_l1Read_f k (rdG ByteArray.empty y21.1.1 0)) (fun y33_16 => ((fun q => andX q q) (Option.bind (spec_l1Read_f k (rdG ByteArray.empty y21.1.1 1)) (fun y37_23 => (some (.inl ((j1.1.1, j1.1.2.1, j1.1.2.2.1, ()), (y29_2.1.1, y33_16.1.1, y37_23.1.1, ()), ())))))))) (Option.bind (spec_l1Read_f k (rdG ByteArray.empty y21.1.1 0)) (fun y33_17 => (Option.bind (spec_l1Read_f k (rdG ByteArray.empty y21.1.1 1)) (fun y37_25 => (some (.inl ((j1.1.1, j1.1.2.1, j1.1.2.2.1, ()), (y29_2.1.1, y33_17.1.1, y37_25.1.1, ()), ())))))))))) (Option.bind (spec_l1Read_f k (rdG ByteArray.empty j1.2.1 0)) (fun y29_3 => (Option.bind (spec_l1Read_f k (rdG ByteArray.empty y21.1.1 0)) (fun y33_18 => (Option.bind (spec_l1Read_f k (rdG ByteArray.empty y21.1.1 1)) (fun y37_26 => (some (.inl ((j1.1.1, j1.1.2.1, j1.1.2.2.1, ()), (y29_3.1.1, y33_18.1.1, y37_26.1.1, ()), ())))))))))) (andX (Option.bind (spec_l1Read_f k (rdG ByteArray.empty j1.2.1 0)) (fun y29_4 => ((fun q => andX q q) (Option.bind (spec_l1Read_f k (rdG ByteArray.empty y21.1.1 0)) (fun y33_19 => (Option.bind (spec_l1Read_f k (rdG ByteArray.empty y21.1.1 1)) (fun y37_27 => (some (.inl ((j1.1.1, j1.1.2.1, j1.1.2.2.1, ()), (y29_4.1.1, y33_19.1.1, y37_27.1.1, ()), ())))))))))) (Option.bind (spec_l1Read_f k (rdG ByteArray.empty j1.2.1 0)) (fun y29_5 => (Option.bind (spec_l1Read_f k (rdG ByteArray.empty y21.1.1 0)) (fun y33_21 => (Option.bind (spec_l1Read_f k (rdG ByteArray.empty y21.1.1 1)) (fun y37_29 => (some (.inl ((j1.1.1, j1.1.2.1, j1.1.2.2.1, ()), (y29_5.1.1, y33_21.1.1, y37_29.1.1, ()), ())))))))))))) (andX (andX (Option.bind (spec_l1Read_f k (rdG ByteArray.empty j1.2.1 0)) (fun y29_6 => (andX (andX (Option.bind (spec_l1Read_f k (rdG ByteArray.empty y21.1.1 0)) (fun y33_22 => ((fun q => andX q q) (Option.bind (spec_l1Read_f k (rdG ByteArray.empty y21.1.1 1)) (fun y37_30 => (some (.inl ((j1.1.1, j1.1.2.1, j1.1.2.2.1, ()), (y29_6.1.1, y33_22.1.1, y37_30.1.1, ()), ())))))))) (Option.bind (spec_l1Read_f k (rdG ByteArray.empty y21.1.1 0)) (fun y33_23 => (Option.bind (spec_l1Read_f k (rdG ByteArray.empty y21.1.1 1)) (fun y37_32 => (some (.inl ((j1.1.1, j1.1.2.1, j1.1.2.2.1, ()), (y29_6.1.1, y33_23.1.1, y37_32.1.1, ()), ())))))))) (Option.bind (spec_l1Read_f k (rdG ByteArray.empty y21.1.1 0)) (fun y33_24 => (Option.bind (spec_l1Read_f k (rdG ByteArray.empty y21.1.1 1)) (fun y37_33 => (some (.inl ((j1.1.1, j1.1.2.1, j1.1.2.2.1, ()), (y29_6.1.1, y33_24.1.1, y37_33.1.1, ()), ())))))))))) (andX (andX (Option.bind (spec_l1Read_f k (rdG ByteArray.empty j1.2.1 0)) (fun y29_7 => (andX (Option.bind (spec_l1Read_f k (rdG ByteArray.empty y21.1.1 0)) (fun y33_25 => ((fun q => andX q q) (Option.bind (spec_l1Read_f k (rdG ByteArray.empty y21.1.1 1)) (fun y37_34 => (some (.inl ((j1.1.1, j1.1.2.1, j1.1.2.2.1, ()), (y29_7.1.1, y33_25.1.1, y37_34.1.1, ()), ())))))))) (Option.bind (spec_l1Read_f k (rdG ByteArray.empty y21.1.1 0)) (fun y33_26 => (Option.bind (spec_l1Read_f k (rdG ByteArray.empty y21.1.1 1)) (fun y37_36 => (some (.inl ((j1.1.1, j1.1.2.1, j1.1.2.2.1, ()), (y29_7.1.1, y33_26.1.1, y37_36.1.1, ()), ())))))))))) (Option.bind (spec_l1Read_f k (rdG ByteArray.empty j1.2.1 0)) (fun y29_8 => (Option.bind (spec_l1Read_f k (rdG ByteArray.empty y21.1.1 0)) (fun y33_27 => (Option.bind (spec_l1Read_f k (rdG ByteArray.empty y21.1.1 1)) (fun y37_37 => (some (.inl ((j1.1.1, j1.1.2.1, j1.1.2.2.1, ()), (y29_8.1.1, y33_27.1.1, y37_37.1.1, ()), ())))))))))) ((fun q => andX q q) (Option.bind (spec_l1Read_f k (rdG ByteArray.empty j1.2.1 0)) (fun y29_9 => (Option.bind (spec_l1Read_f k (rdG ByteArray.empty y21.1.1 0)) (fun y33_28 => (Option.bind (spec_l1Read_f k (rdG ByteArray.empty y21.1.1 1)) (fun y37_38 => (some (.inl ((j1.1.1, j1.1.2.1, j1.1.2.2.1, ()), (y29_9.1.1, y33_28.1.1, y37_38.1.1, ()), ())))))))))))) (andX (Option.bind (spec_l1Read_f k (rdG ByteArray.empty j1.2.1 0)) (fun y29_11 => (andX ((fun q => andX q q) (Option.bind (spec_l1Read_f k (rdG ByteArray.empty y21.1.1 0)) (fun y33_30 => (Option.bind (spec_l1Read_f k (rdG ByteArray.empty y21.1.1 1)) (fun y37_40 => (some (.inl ((j1.1.1, j1.1.2.1, j1.1.2.2.1, ()), (y29_11.1.1, y33_30.1.1, y37_40.1.1, ()), ())))))))) (Option.bind (spec_l1Read_f k (rdG ByteArray.empty y21.1.1 0)) (fun y33_32 => (Option.bind (spec_l1Read_f k (rdG ByteArray.empty y21.1.1 1)) (fun y37_42 => (some (.inl ((j1.1.1, j1.1.2.1, j1.1.2.2.1, ()), (y29_11.1.1, y33_32.1.1, y37_42.1.1, ()), ())))))))))) (andX (andX (Option.bind (spec_l1Read_f k (rdG ByteArray.empty j1.2.1 0)) (fun y29_12 => ((fun q => andX q q) (Option.bind (spec_l1Read_f k (rdG ByteArray.empty y21.1.1 0)) (fun y33_33 => (Option.bind (spec_l1Read_f k (rdG ByteArray.empty y21.1.1 1)) (fun y37_43 => (some (.inl ((j1.1.1, j1.1.2.1, j1.1.2.2.1, ()), (y29_12.1.1, y33_33.1.1, y37_43.1.1, ()), ())))))))))) (Option.bind (spec_l1Read_f k (rdG ByteArray.empty j1.2.1 0)) (fun y29_13 => (Option.bind (spec_l1Read_f k (rdG ByteArray.empty y21.1.1 0)) (fun y33_35 => (Option.bind (spec_l1Read_f k (rdG ByteArray.empty y21.1.1 1)) (fun y37_45 => (some (.inl ((j1.1.1, j1.1.2.1, j1.1.2.2.1, ()), (y29_13.1.1, y33_35.1.1, y37_45.1.1, ()), ())))))))))) ((fun q => andX q q) (Option.bind (spec_l1Read_f k (rdG ByteArray.empty j1.2.1 0)) (fun y29_14 => (Option.bind (spec_l1Read_f k (rdG ByteArray.empty y21.1.1 0)) (fun y33_36 => (Option.bind (spec_l1Read_f k (rdG ByteArray.empty y21.1.1 1)) (fun y37_46 => (some (.inl ((j1.1.1, j1.1.2.1, j1.1.2.2.1, ()), (y29_14.1.1, y33_36.1.1, y37_46.1.1, ()), ())))))))))))))))))) (fun j2 => (met (Option.bind (spec_dyGood_f k (j2.2.1.1, (j2.2.1.2.1, j2.2.1.2.2.1))) (fun y41 => (cond y41.1.1 (Option.bind (spec_dyText_f k (j2.2.1.1, (j2.2.1.2.1, j2.2.1.2.2.1))) (fun y44 => (some (.inl ((j2.2.1.1, j2.2.1.2.1, j2.2.1.2.2.1, ()), (y44.1.1.toList == p0.toList), ()))))) (some (.inl ((j2.2.1.1, j2.2.1.2.1, j2.2.1.2.2.1, ()), false, ())))))) (fun j3 => (some (((j3.1.1, (j3.1.2.1, j3.1.2.2.1)), j3.2.1, ()), ())))))))))))))))
noncomputable def spec_dyParse_a : Ann := (.q .o (.q .o (.q (.q (.r [(2, 100128, .box false [.v (.int .i64), .v (.int .i64), .v (.int .i64)]), (4, 100256, .v (.slc 9 .str)), (16, 101024, .v .bool)]) .o) (.q .o (.q .o (.q (.d [] [14] [(2, 100128, .box false [.v (.int .i64), .v (.int .i64), .v (.int .i64)]), (6, 100384, .box false [.v (.int .i64), .v (.int .i64), .v (.int .i64)])]) (.q (.d [100128] [10] [(2, 100128, .box false [.v (.int .i64), .v (.int .i64), .v (.int .i64)]), (3, 100192, .v .bool)]) .o)))))))
theorem spec_dyParse_run (k : Nat) (p0 : ByteArray) : funX Tryz.prog (callT [spec_l1Split_c k, spec_l1Read_c k, spec_dyGood_c k, spec_dyText_c k]) k Tryz.f85 spec_dyParse_a [.v .str] [.v (.pr (.int .i64) (.pr (.int .i64) (.int .i64))), .v .bool] (p0, ()) = spec_dyParse_f k p0 := by kernel_rfl
noncomputable def spec_dyParse_c (k : Nat) : Con := ⟨85, [.v .str], [.v (.pr (.int .i64) (.pr (.int .i64) (.int .i64))), .v .bool], fun x => spec_dyParse_f k x.1⟩
theorem spec_dyParse_ok (k : Nat) : (spec_dyParse_c k).Sound Tryz.prog GL := con_ok (k := k) (fn := Tryz.f85) (A := spec_dyParse_a) (C := callT [spec_l1Split_c k, spec_l1Read_c k, spec_dyGood_c k, spec_dyText_c k]) Tryz.func85 (by kernel_rfl) (show Tryz.f85.body = some (bodyX Tryz.f85) by rfl) (fun X hX => callT_at (TableOk.cons (spec_l1Split_ok k) (TableOk.cons (spec_l1Read_ok k) (TableOk.cons (spec_dyGood_ok k) (TableOk.cons (spec_dyText_ok k) TableOk.nil)))) X hX) (Nat.le_of_ble_eq_true (by kernel_rfl)) (fun ⟨p0, _⟩ y h => by rw [← h]; exact spec_dyParse_run k p0)
noncomputable def spec_ParseWash_f (k : Nat) (p0 : ByteArray) : Option (((Int × (Int × Int)) × Bool × Unit) × Unit) :=
  (Option.bind (spec_dyParse_f k p0) (fun y8 => (cond (!y8.1.2.1) (some (((0, (0, 0)), false, ()), ())) (some ((y8.1.1, true, ()), ())))))
noncomputable def spec_ParseWash_a : Ann := .o
theorem spec_ParseWash_run (k : Nat) (p0 : ByteArray) : funX Tryz.prog (callT [spec_dyParse_c k]) k Tryz.f25 spec_ParseWash_a [.v .str] [.v (.pr (.int .i64) (.pr (.int .i64) (.int .i64))), .v .bool] (p0, ()) = spec_ParseWash_f k p0 := by kernel_rfl
noncomputable def spec_ParseWash_c (k : Nat) : Con := ⟨25, [.v .str], [.v (.pr (.int .i64) (.pr (.int .i64) (.int .i64))), .v .bool], fun x => spec_ParseWash_f k x.1⟩
theorem spec_ParseWash_ok (k : Nat) : (spec_ParseWash_c k).Sound Tryz.prog GL := con_ok (k := k) (fn := Tryz.f25) (A := spec_ParseWash_a) (C := callT [spec_dyParse_c k]) Tryz.func25 (by kernel_rfl) (show Tryz.f25.body = some (bodyX Tryz.f25) by rfl) (fun X hX => callT_at (TableOk.cons (spec_dyParse_ok k) TableOk.nil) X hX) (Nat.le_of_ble_eq_true (by kernel_rfl)) (fun ⟨p0, _⟩ y h => by rw [← h]; exact spec_ParseWash_run k p0)
noncomputable def impl_isDay_f (k : Nat) (p0 : (Int × (Int × Int))) (p1 : Int) : Option ((Bool × Unit) × Unit) :=
  (met (Option.bind (impl_IsWash_f k p0) (fun y6 => (cond y6.1.1 (Option.bind (impl_within_f k p1 0 500) (fun y9 => (some (.inl (y9.1.1, ()))))) (some (.inl (false, ())))))) (fun j1 => (some ((j1.1, ()), ()))))
noncomputable def impl_isDay_a : Ann := (.q .o (.q (.r [(4, 100256, .v .bool)]) .o))
theorem impl_isDay_run (k : Nat) (p0 : (Int × (Int × Int))) (p1 : Int) : funX Tryz.prog (callT [impl_IsWash_c k, impl_within_c k]) k Tryz.f138 impl_isDay_a [.v (.pr (.int .i64) (.pr (.int .i64) (.int .i64))), .v (.int .i64)] [.v .bool] (p0, p1, ()) = impl_isDay_f k p0 p1 := by kernel_rfl
noncomputable def impl_isDay_c (k : Nat) : Con := ⟨138, [.v (.pr (.int .i64) (.pr (.int .i64) (.int .i64))), .v (.int .i64)], [.v .bool], fun x => impl_isDay_f k x.1 x.2.1⟩
theorem impl_isDay_ok (k : Nat) : (impl_isDay_c k).Sound Tryz.prog GL := con_ok (k := k) (fn := Tryz.f138) (A := impl_isDay_a) (C := callT [impl_IsWash_c k, impl_within_c k]) Tryz.func138 (by kernel_rfl) (show Tryz.f138.body = some (bodyX Tryz.f138) by rfl) (fun X hX => callT_at (TableOk.cons (impl_IsWash_ok k) (TableOk.cons (impl_within_ok k) TableOk.nil)) X hX) (Nat.le_of_ble_eq_true (by kernel_rfl)) (fun ⟨p0, p1, _⟩ y h => by rw [← h]; exact impl_isDay_run k p0 p1)
noncomputable def impl_on_f (k : Nat) (p0 : (Int × (Int × Int))) (p1 : Int) : Option (((Int × (List Int) × (List Int) × (List Int) × Unit) × Bool × Unit) × Unit) :=
  (Option.bind (impl_isDay_f k p0 p1) (fun y8 => (cond (!y8.1.1) (some (((0, [], [], [], ()), false, ()), ())) (Option.bind (impl_Wash_days_f k p0 (iw (p1 + 1))) (fun y14 => (ixk p1 (List.length y14.1.1) (some ((((rdG (0, ([], ([], []))) y14.1.1 p1).1, (rdG (0, ([], ([], []))) y14.1.1 p1).2.1, (rdG (0, ([], ([], []))) y14.1.1 p1).2.2.1, (rdG (0, ([], ([], []))) y14.1.1 p1).2.2.2, ()), true, ()), ()))))))))
noncomputable def impl_on_a : Ann := .o
theorem impl_on_run (k : Nat) (p0 : (Int × (Int × Int))) (p1 : Int) : funX Tryz.prog (callT [impl_isDay_c k, impl_Wash_days_c k]) k Tryz.f86 impl_on_a [.v (.pr (.int .i64) (.pr (.int .i64) (.int .i64))), .v (.int .i64)] [.agg [.v (.int .i64), .v (.slc 3 (.int .i64)), .v (.slc 3 (.int .i64)), .v (.slc 3 (.int .i64))], .v .bool] (p0, p1, ()) = impl_on_f k p0 p1 := by kernel_rfl
noncomputable def impl_on_c (k : Nat) : Con := ⟨86, [.v (.pr (.int .i64) (.pr (.int .i64) (.int .i64))), .v (.int .i64)], [.agg [.v (.int .i64), .v (.slc 3 (.int .i64)), .v (.slc 3 (.int .i64)), .v (.slc 3 (.int .i64))], .v .bool], fun x => impl_on_f k x.1 x.2.1⟩
theorem impl_on_ok (k : Nat) : (impl_on_c k).Sound Tryz.prog GL := con_ok (k := k) (fn := Tryz.f86) (A := impl_on_a) (C := callT [impl_isDay_c k, impl_Wash_days_c k]) Tryz.func86 (by kernel_rfl) (show Tryz.f86.body = some (bodyX Tryz.f86) by rfl) (fun X hX => callT_at (TableOk.cons (impl_isDay_ok k) (TableOk.cons (impl_Wash_days_ok k) TableOk.nil)) X hX) (Nat.le_of_ble_eq_true (by kernel_rfl)) (fun ⟨p0, p1, _⟩ y h => by rw [← h]; exact impl_on_run k p0 p1)
noncomputable def impl_WornOn_f (k : Nat) (p0 : (Int × (Int × Int))) (p1 : Int) : Option ((Int × Bool × Unit) × Unit) :=
  (Option.bind (impl_on_f k p0 p1) (fun y11 => (met (cond (!y11.1.2.1) (some (.inl ((y11.1.1.1, y11.1.1.2.1, y11.1.1.2.2.1, y11.1.1.2.2.2.1, ()), true, ()))) (some (.inl ((y11.1.1.1, y11.1.1.2.1, y11.1.1.2.2.1, y11.1.1.2.2.2.1, ()), (decide (y11.1.1.1 < 0)), ())))) (fun j1 => (cond j1.2.1 (some ((0, false, ()), ())) (some ((j1.1.1, true, ()), ())))))))
noncomputable def impl_WornOn_a : Ann := (.q .o (.q .o (.q (.q (.r [(6, 100384, .box false [.v (.int .i64), .v (.slc 3 (.int .i64)), .v (.slc 3 (.int .i64)), .v (.slc 3 (.int .i64))]), (20, 101280, .v .bool)]) .o) .o)))
theorem impl_WornOn_run (k : Nat) (p0 : (Int × (Int × Int))) (p1 : Int) : funX Tryz.prog (callT [impl_on_c k]) k Tryz.f27 impl_WornOn_a [.v (.pr (.int .i64) (.pr (.int .i64) (.int .i64))), .v (.int .i64)] [.v (.int .i64), .v .bool] (p0, p1, ()) = impl_WornOn_f k p0 p1 := by kernel_rfl
noncomputable def impl_WornOn_c (k : Nat) : Con := ⟨27, [.v (.pr (.int .i64) (.pr (.int .i64) (.int .i64))), .v (.int .i64)], [.v (.int .i64), .v .bool], fun x => impl_WornOn_f k x.1 x.2.1⟩
theorem impl_WornOn_ok (k : Nat) : (impl_WornOn_c k).Sound Tryz.prog GL := con_ok (k := k) (fn := Tryz.f27) (A := impl_WornOn_a) (C := callT [impl_on_c k]) Tryz.func27 (by kernel_rfl) (show Tryz.f27.body = some (bodyX Tryz.f27) by rfl) (fun X hX => callT_at (TableOk.cons (impl_on_ok k) TableOk.nil) X hX) (Nat.le_of_ble_eq_true (by kernel_rfl)) (fun ⟨p0, p1, _⟩ y h => by rw [← h]; exact impl_WornOn_run k p0 p1)
noncomputable def impl_some__impl_day_isBare_l1_b (k : Nat) (y18 : (((List (Int × ((List Int) × ((List Int) × (List Int))))) × Unit) × Unit)) (rec : (List Int) → (List (Int × ((List Int) × ((List Int) × (List Int))))) → Int → Option (((List Int) × Unit) ⊕ (((List Int) × Bool × Unit) × Unit))) (x8 : (List Int)) (x18 : (List (Int × ((List Int) × ((List Int) × (List Int)))))) (x20 : Int) : Option (((List Int) × Unit) ⊕ (((List Int) × Bool × Unit) × Unit)) :=
  (cond (decide (x20 < ((List.length y18.1.1 : Nat) : Int))) (met (ixk x20 (List.length x18) (Option.bind (impl_day_isBare_f k ((rdG (0, ([], ([], []))) x18 x20).1, ((rdG (0, ([], ([], []))) x18 x20).2.1, ((rdG (0, ([], ([], []))) x18 x20).2.2.1, (rdG (0, ([], ([], []))) x18 x20).2.2.2)))) (fun y27 => (met (cond y27.1.1 (chk (decide (List.length x8 + List.length [x20] ≤ 15637498706147)) (some (.inl ((x8 ++ [x20]), ())))) (some (.inl (x8, ())))) (fun j2 => (some (.inl (j2.1, ())))))))) (fun j3 => (rec j3.1 x18 (iw (x20 + 1))))) (some (.inl (x8, ()))))
noncomputable def impl_some__impl_day_isBare_l1 (k : Nat) (y18 : (((List (Int × ((List Int) × ((List Int) × (List Int))))) × Unit) × Unit)) (x8 : (List Int)) (x18 : (List (Int × ((List Int) × ((List Int) × (List Int)))))) (x20 : Int) : Option (((List Int) × Unit) ⊕ (((List Int) × Bool × Unit) × Unit)) := iter k (fun (rec : ((List Int) × (List (Int × ((List Int) × ((List Int) × (List Int))))) × Int × Unit) → Option (((List Int) × Unit) ⊕ (((List Int) × Bool × Unit) × Unit))) (x : ((List Int) × (List (Int × ((List Int) × ((List Int) × (List Int))))) × Int × Unit)) => impl_some__impl_day_isBare_l1_b k y18 (fun x8 x18 x20 => rec (x8, x18, x20, ())) x.1 x.2.1 x.2.2.1) (x8, x18, x20, ())
noncomputable def impl_some__impl_day_isBare_f (k : Nat) (p0 : (Int × (Int × Int))) (p1 : Int) (p2 : Unit) : Option (((List Int) × Bool × Unit) × Unit) :=
  (Option.bind (impl_isDay_f k p0 p1) (fun y13 => (cond (!y13.1.1) (some (([], false, ()), ())) (Option.bind (impl_Wash_days_f k p0 p1) (fun y18 => (met (impl_some__impl_day_isBare_l1 k y18 [] y18.1.1 0) (fun j4 => (some ((j4.1, true, ()), ())))))))))
noncomputable def impl_some__impl_day_isBare_a : Ann := (.q .o (.q .o (.q .o (.q (.q .o (.m [(8, 100512, .own false 3 (.int .i64))] (.l [(8, 100512, .own false 3 (.int .i64)), (18, 101152, .v (.slc 72 (.pr (.int .i64) (.pr (.slc 3 (.int .i64)) (.pr (.slc 3 (.int .i64)) (.slc 3 (.int .i64))))))), (20, 101280, .v (.int .i64))] (.q .o (.q .o (.q (.m [(8, 100512, .own false 3 (.int .i64))] (.q .o (.q .o (.j [(8, 100512, .own false 3 (.int .i64))] .o .o)))) .o)))))) .o))))
theorem impl_some__impl_day_isBare_run (k : Nat) (p0 : (Int × (Int × Int))) (p1 : Int) (p2 : Unit) : funX Tryz.prog (callT [impl_isDay_c k, impl_Wash_days_c k, impl_day_isBare_c k]) k Tryz.f87 impl_some__impl_day_isBare_a [.v (.pr (.int .i64) (.pr (.int .i64) (.int .i64))), .v (.int .i64), .fn 72 []] [.own false 3 (.int .i64), .v .bool] (p0, p1, p2, ()) = impl_some__impl_day_isBare_f k p0 p1 p2 := by kernel_rfl
noncomputable def impl_some__impl_day_isBare_c (k : Nat) : Con := ⟨87, [.v (.pr (.int .i64) (.pr (.int .i64) (.int .i64))), .v (.int .i64), .fn 72 []], [.own false 3 (.int .i64), .v .bool], fun x => impl_some__impl_day_isBare_f k x.1 x.2.1 x.2.2.1⟩
theorem impl_some__impl_day_isBare_ok (k : Nat) : (impl_some__impl_day_isBare_c k).Sound Tryz.prog GL := con_ok (k := k) (fn := Tryz.f87) (A := impl_some__impl_day_isBare_a) (C := callT [impl_isDay_c k, impl_Wash_days_c k, impl_day_isBare_c k]) Tryz.func87 (by kernel_rfl) (show Tryz.f87.body = some (bodyX Tryz.f87) by rfl) (fun X hX => callT_at (TableOk.cons (impl_isDay_ok k) (TableOk.cons (impl_Wash_days_ok k) (TableOk.cons (impl_day_isBare_ok k) TableOk.nil))) X hX) (Nat.le_of_ble_eq_true (by kernel_rfl)) (fun ⟨p0, p1, p2, _⟩ y h => by rw [← h]; exact impl_some__impl_day_isBare_run k p0 p1 p2)
noncomputable def impl_BareDays_f (k : Nat) (p0 : (Int × (Int × Int))) (p1 : Int) : Option (((List Int) × Bool × Unit) × Unit) :=
  (Option.bind (impl_some__impl_day_isBare_f k p0 p1 ()) (fun y8 => (some ((y8.1.1, y8.1.2.1, ()), ()))))
noncomputable def impl_BareDays_a : Ann := .o
theorem impl_BareDays_run (k : Nat) (p0 : (Int × (Int × Int))) (p1 : Int) : funX Tryz.prog (callT [impl_some__impl_day_isBare_c k]) k Tryz.f28 impl_BareDays_a [.v (.pr (.int .i64) (.pr (.int .i64) (.int .i64))), .v (.int .i64)] [.own false 3 (.int .i64), .v .bool] (p0, p1, ()) = impl_BareDays_f k p0 p1 := by kernel_rfl
noncomputable def impl_BareDays_c (k : Nat) : Con := ⟨28, [.v (.pr (.int .i64) (.pr (.int .i64) (.int .i64))), .v (.int .i64)], [.own false 3 (.int .i64), .v .bool], fun x => impl_BareDays_f k x.1 x.2.1⟩
theorem impl_BareDays_ok (k : Nat) : (impl_BareDays_c k).Sound Tryz.prog GL := con_ok (k := k) (fn := Tryz.f28) (A := impl_BareDays_a) (C := callT [impl_some__impl_day_isBare_c k]) Tryz.func28 (by kernel_rfl) (show Tryz.f28.body = some (bodyX Tryz.f28) by rfl) (fun X hX => callT_at (TableOk.cons (impl_some__impl_day_isBare_ok k) TableOk.nil) X hX) (Nat.le_of_ble_eq_true (by kernel_rfl)) (fun ⟨p0, p1, _⟩ y h => by rw [← h]; exact impl_BareDays_run k p0 p1)
noncomputable def impl_WornList_l1_b (k : Nat) (y16 : (((List (Int × ((List Int) × ((List Int) × (List Int))))) × Unit) × Unit)) (rec : (List Int) → (List (Int × ((List Int) × ((List Int) × (List Int))))) → Int → Option (((List Int) × Unit) ⊕ (((List Int) × Bool × Unit) × Unit))) (x6 : (List Int)) (x16 : (List (Int × ((List Int) × ((List Int) × (List Int)))))) (x18 : Int) : Option (((List Int) × Unit) ⊕ (((List Int) × Bool × Unit) × Unit)) :=
  (cond (decide (x18 < ((List.length y16.1.1 : Nat) : Int))) (ixk x18 (List.length x16) (chk (decide (List.length x6 + List.length [(rdG (0, ([], ([], []))) x16 x18).1] ≤ 15637498706147)) (rec (x6 ++ [(rdG (0, ([], ([], []))) x16 x18).1]) x16 (iw (x18 + 1))))) (some (.inl (x6, ()))))
noncomputable def impl_WornList_l1 (k : Nat) (y16 : (((List (Int × ((List Int) × ((List Int) × (List Int))))) × Unit) × Unit)) (x6 : (List Int)) (x16 : (List (Int × ((List Int) × ((List Int) × (List Int)))))) (x18 : Int) : Option (((List Int) × Unit) ⊕ (((List Int) × Bool × Unit) × Unit)) := iter k (fun (rec : ((List Int) × (List (Int × ((List Int) × ((List Int) × (List Int))))) × Int × Unit) → Option (((List Int) × Unit) ⊕ (((List Int) × Bool × Unit) × Unit))) (x : ((List Int) × (List (Int × ((List Int) × ((List Int) × (List Int))))) × Int × Unit)) => impl_WornList_l1_b k y16 (fun x6 x16 x18 => rec (x6, x16, x18, ())) x.1 x.2.1 x.2.2.1) (x6, x16, x18, ())
noncomputable def impl_WornList_f (k : Nat) (p0 : (Int × (Int × Int))) (p1 : Int) : Option (((List Int) × Bool × Unit) × Unit) :=
  (Option.bind (impl_isDay_f k p0 p1) (fun y11 => (cond (!y11.1.1) (some (([], false, ()), ())) (Option.bind (impl_Wash_days_f k p0 p1) (fun y16 => (met (impl_WornList_l1 k y16 [] y16.1.1 0) (fun j2 => (some ((j2.1, true, ()), ())))))))))
noncomputable def impl_WornList_a : Ann := (.q .o (.q .o (.q .o (.q (.q .o (.m [(6, 100384, .own false 3 (.int .i64))] (.l [(6, 100384, .own false 3 (.int .i64)), (16, 101024, .v (.slc 72 (.pr (.int .i64) (.pr (.slc 3 (.int .i64)) (.pr (.slc 3 (.int .i64)) (.slc 3 (.int .i64))))))), (18, 101152, .v (.int .i64))] .o))) .o))))
theorem impl_WornList_run (k : Nat) (p0 : (Int × (Int × Int))) (p1 : Int) : funX Tryz.prog (callT [impl_isDay_c k, impl_Wash_days_c k]) k Tryz.f88 impl_WornList_a [.v (.pr (.int .i64) (.pr (.int .i64) (.int .i64))), .v (.int .i64)] [.own false 3 (.int .i64), .v .bool] (p0, p1, ()) = impl_WornList_f k p0 p1 := by kernel_rfl
noncomputable def impl_WornList_c (k : Nat) : Con := ⟨88, [.v (.pr (.int .i64) (.pr (.int .i64) (.int .i64))), .v (.int .i64)], [.own false 3 (.int .i64), .v .bool], fun x => impl_WornList_f k x.1 x.2.1⟩
theorem impl_WornList_ok (k : Nat) : (impl_WornList_c k).Sound Tryz.prog GL := con_ok (k := k) (fn := Tryz.f88) (A := impl_WornList_a) (C := callT [impl_isDay_c k, impl_Wash_days_c k]) Tryz.func88 (by kernel_rfl) (show Tryz.f88.body = some (bodyX Tryz.f88) by rfl) (fun X hX => callT_at (TableOk.cons (impl_isDay_ok k) (TableOk.cons (impl_Wash_days_ok k) TableOk.nil)) X hX) (Nat.le_of_ble_eq_true (by kernel_rfl)) (fun ⟨p0, p1, _⟩ y h => by rw [← h]; exact impl_WornList_run k p0 p1)
noncomputable def impl_TimesWorn_l1_b (k : Nat) (y14 : (((List Int) × Bool × Unit) × Unit)) (rec : (List Int) → (List Int) → Int → Option (((List Int) × Unit) ⊕ (((List Int) × Bool × Unit) × Unit))) (x8 : (List Int)) (x22 : (List Int)) (x24 : Int) : Option (((List Int) × Unit) ⊕ (((List Int) × Bool × Unit) × Unit)) :=
  (cond (decide (x24 < ((List.length y14.1.1 : Nat) : Int))) (met (ixk x24 (List.length x22) (met (cond (decide ((rd x22 x24) ≥ 0)) (ixk (rd x22 x24) (List.length x8) (ixk (rd x22 x24) (List.length x8) (some (.inl ((setI x8 (rd x22 x24) (iw ((rd x8 (rd x22 x24)) + 1))), ()))))) (some (.inl (x8, ())))) (fun j2 => (some (.inl (j2.1, ())))))) (fun j3 => (rec j3.1 x22 (iw (x24 + 1))))) (some (.inl (x8, ()))))
noncomputable def impl_TimesWorn_l1 (k : Nat) (y14 : (((List Int) × Bool × Unit) × Unit)) (x8 : (List Int)) (x22 : (List Int)) (x24 : Int) : Option (((List Int) × Unit) ⊕ (((List Int) × Bool × Unit) × Unit)) := iter k (fun (rec : ((List Int) × (List Int) × Int × Unit) → Option (((List Int) × Unit) ⊕ (((List Int) × Bool × Unit) × Unit))) (x : ((List Int) × (List Int) × Int × Unit)) => impl_TimesWorn_l1_b k y14 (fun x8 x22 x24 => rec (x8, x22, x24, ())) x.1 x.2.1 x.2.2.1) (x8, x22, x24, ())
noncomputable def impl_TimesWorn_f (k : Nat) (p0 : (Int × (Int × Int))) (p1 : Int) : Option (((List Int) × Bool × Unit) × Unit) :=
  (Option.bind (impl_WornList_f k p0 p1) (fun y14 => (cond (!y14.1.2.1) (some (([], false, ()), ())) (chk (decide ((0 : Int) ≤ p0.1)) (chk (decide (p0.1 ≤ ((15637498706147 : Nat) : Int))) (met (impl_TimesWorn_l1 k y14 (List.replicate (Int.toNat p0.1) (0 : Int)) y14.1.1 0) (fun j4 => (some ((j4.1, true, ()), ())))))))))
noncomputable def impl_TimesWorn_a : Ann := (.q .o (.q .o (.q .o (.q .o (.q (.q .o (.m [(8, 100512, .own false 3 (.int .i64))] (.l [(8, 100512, .own false 3 (.int .i64)), (22, 101408, .v (.slc 3 (.int .i64))), (24, 101536, .v (.int .i64))] (.q .o (.q .o (.q (.m [(8, 100512, .own false 3 (.int .i64))] (.q .o (.q .o (.j [(8, 100512, .own false 3 (.int .i64))] .o .o)))) .o)))))) .o)))))
theorem impl_TimesWorn_run (k : Nat) (p0 : (Int × (Int × Int))) (p1 : Int) : funX Tryz.prog (callT [impl_WornList_c k]) k Tryz.f29 impl_TimesWorn_a [.v (.pr (.int .i64) (.pr (.int .i64) (.int .i64))), .v (.int .i64)] [.own false 3 (.int .i64), .v .bool] (p0, p1, ()) = impl_TimesWorn_f k p0 p1 := by kernel_rfl
noncomputable def impl_TimesWorn_c (k : Nat) : Con := ⟨29, [.v (.pr (.int .i64) (.pr (.int .i64) (.int .i64))), .v (.int .i64)], [.own false 3 (.int .i64), .v .bool], fun x => impl_TimesWorn_f k x.1 x.2.1⟩
theorem impl_TimesWorn_ok (k : Nat) : (impl_TimesWorn_c k).Sound Tryz.prog GL := con_ok (k := k) (fn := Tryz.f29) (A := impl_TimesWorn_a) (C := callT [impl_WornList_c k]) Tryz.func29 (by kernel_rfl) (show Tryz.f29.body = some (bodyX Tryz.f29) by rfl) (fun X hX => callT_at (TableOk.cons (impl_WornList_ok k) TableOk.nil) X hX) (Nat.le_of_ble_eq_true (by kernel_rfl)) (fun ⟨p0, p1, _⟩ y h => by rw [← h]; exact impl_TimesWorn_run k p0 p1)
noncomputable def laws_FnDaysLeast_l20_b (k : Nat) (y204 : (((Int × (Int × Int)) × Int × Unit) × Unit)) (j19 : ((Int × Int × Int × Unit) × (List Int) × Bool × Unit)) (rec : (Int × Int × Int × Unit) → Int → Option (((Int × Int × Int × Unit) × Unit) ⊕ (((Int × Int × Int × Unit) × Unit) ⊕ ((Bool × Unit) × Unit)))) (x43 : (Int × Int × Int × Unit)) (x450 : Int) : Option (((Int × Int × Int × Unit) × Unit) ⊕ (((Int × Int × Int × Unit) × Unit) ⊕ ((Bool × Unit) × Unit))) :=
  (cond (decide (x450 < ((List.length j19.2.1 : Nat) : Int))) (ixk x450 (List.length j19.2.1) (cond (decide ((rd j19.2.1 x450) ≥ y204.1.2.1)) (some (.inr (.inr ((false, ()), ())))) (rec (x43.1, x43.2.1, x43.2.2.1, ()) (iw (x450 + 1))))) (some (.inl ((x43.1, x43.2.1, x43.2.2.1, ()), ()))))
noncomputable def laws_FnDaysLeast_l20 (k : Nat) (y204 : (((Int × (Int × Int)) × Int × Unit) × Unit)) (j19 : ((Int × Int × Int × Unit) × (List Int) × Bool × Unit)) (x43 : (Int × Int × Int × Unit)) (x450 : Int) : Option (((Int × Int × Int × Unit) × Unit) ⊕ (((Int × Int × Int × Unit) × Unit) ⊕ ((Bool × Unit) × Unit))) := iter k (fun (rec : ((Int × Int × Int × Unit) × Int × Unit) → Option (((Int × Int × Int × Unit) × Unit) ⊕ (((Int × Int × Int × Unit) × Unit) ⊕ ((Bool × Unit) × Unit)))) (x : ((Int × Int × Int × Unit) × Int × Unit)) => laws_FnDaysLeast_l20_b k y204 j19 (fun x43 x450 => rec (x43, x450, ())) x.1 x.2.1) (x43, x450, ())
noncomputable def laws_FnDaysLeast_f (k : Nat) (p0 : (List Int)) (p1 : (List Int)) : Option ((Bool × Unit) × Unit) :=
  (Option.bind (laws_big_f k p0 p1) (fun y71 => (cond y71.1.1 (some ((true, ()), ())) (Option.bind (spec_DrawLeastPairs_f k p0) (fun y74 => (Option.bind (impl_LeastPairs_f k y74.1.1 y74.1.2.1) (fun y80 => (Option.bind (spec_LeastPairs_f k y74.1.1 y74.1.2.1) (fun y86 => (met (cond (!(y80.1.2.1 == y86.1.2.1)) (some (.inl (true, ()))) (some (.inl ((y80.1.1 != y86.1.1), ())))) (fun j1 => (cond j1.1 (some ((false, ()), ())) (met (cond y80.1.2.1 (met (cond (decide (y80.1.1 < y74.1.1)) (some (.inl (true, ()))) (cond (decide (y80.1.1 < y74.1.2.1)) (some (.inl (true, ()))) (cond (decide (y80.1.1 < 1)) (some (.inl (true, ()))) (cond (y74.1.2.1 == 1) (cond (y80.1.1 != y74.1.1) (some (.inl (true, ()))) (cond (y74.1.1 == 1) (some (.inl ((y80.1.1 != y74.1.2.1), ()))) (some (.inl (false, ()))))) (cond (y74.1.1 == 1) (some (.inl ((y80.1.1 != y74.1.2.1), ()))) (some (.inl (false, ())))))))) (fun j2 => (cond j2.1 (some (.inr ((false, ()), ()))) (met (cond (decide (y80.1.1 ≤ 30)) (Option.bind (impl_FirstBare_f k (y80.1.1, (y74.1.1, y74.1.2.1))) (fun y135 => (cond y135.1.2.1 (some (.inr (.inr ((false, ()), ())))) (some (.inl ()))))) (some (.inl ()))) (fun j3 => (met (cond (decide (y80.1.1 > 1)) (some (.inl ((decide (y80.1.1 ≤ 31)), ()))) (some (.inl (false, ())))) (fun j4 => (met (cond j4.1 (Option.bind (impl_FirstBare_f k ((iw (y80.1.1 - 1)), (y74.1.1, y74.1.2.1))) (fun y151 => (cond (!y151.1.2.1) (some (.inr (.inr ((false, ()), ())))) (some (.inl ()))))) (some (.inl ()))) (fun j5 => (some (.inl ()))))))))))) (some (.inl ()))) (fun j6 => (Option.bind (spec_DrawGreatestEvery_f k p1) (fun y158 => (Option.bind (impl_GreatestEvery_f k y158.1.1 y158.1.2.1) (fun y164 => (Option.bind (spec_GreatestEvery_f k y158.1.1 y158.1.2.1) (fun y170 => (Option.bind (spec_DrawGreatestDry_f k p1) (fun y175 => (Option.bind (impl_GreatestDry_f k y175.1.1 y175.1.2.1) (fun y181 => (Option.bind (spec_GreatestDry_f k y175.1.1 y175.1.2.1) (fun y187 => (Option.bind (spec_DrawFirstBare_f k p1) (fun y191 => (Option.bind (impl_FirstBare_f k y191.1.1) (fun y194 => (Option.bind (spec_FirstBare_f k y191.1.1) (fun y199 => (Option.bind (spec_DrawLastsUntil_f k p1) (fun y204 => (Option.bind (impl_LastsUntil_f k y204.1.1 y204.1.2.1) (fun y210 => (Option.bind (spec_LastsUntil_f k y204.1.1 y204.1.2.1) (fun y216 => (Option.bind (impl_WashText_f k y191.1.1) (fun y221 => (Option.bind (spec_WashText_f k y191.1.1) (fun y226 => (Option.bind (spec_DrawParseWash_f k p1) (fun y230 => (Option.bind (impl_ParseWash_f k y230.1.1) (fun y233 => (Option.bind (spec_ParseWash_f k y230.1.1) (fun y238 => (met (cond (!(y164.1.2.1 == y170.1.2.1)) (some (.inl ((y191.1.1.1, y191.1.1.2.1, y191.1.1.2.2, ()), (y204.1.1.1, y204.1.1.2.1, y204.1.1.2.2, ()), (y233.1.1.1, y233.1.1.2.1, y233.1.1.2.2, ()), true, ()))) (cond (y164.1.1 != y170.1.1) (some (.inl ((y191.1.1.1, y191.1.1.2.1, y191.1.1.2.2, ()), (y204.1.1.1, y204.1.1.2.1, y204.1.1.2.2, ()), (y233.1.1.1, y233.1.1.2.1, y233.1.1.2.2, ()), true, ()))) (cond (!(y181.1.2.1 == y187.1.2.1)) (some (.inl ((y191.1.1.1, y191.1.1.2.1, y191.1.1.2.2, ()), (y204.1.1.1, y204.1.1.2.1, y204.1.1.2.2, ()), (y233.1.1.1, y233.1.1.2.1, y233.1.1.2.2, ()), true, ()))) (cond (y181.1.1 != y187.1.1) (some (.inl ((y191.1.1.1, y191.1.1.2.1, y191.1.1.2.2, ()), (y204.1.1.1, y204.1.1.2.1, y204.1.1.2.2, ()), (y233.1.1.1, y233.1.1.2.1, y233.1.1.2.2, ()), true, ()))) (cond (!(y194.1.2.1 == y199.1.2.1)) (some (.inl ((y191.1.1.1, y191.1.1.2.1, y191.1.1.2.2, ()), (y204.1.1.1, y204.1.1.2.1, y204.1.1.2.2, ()), (y233.1.1.1, y233.1.1.2.1, y233.1.1.2.2, ()), true, ()))) (cond (y194.1.1 != y199.1.1) (some (.inl ((y191.1.1.1, y191.1.1.2.1, y191.1.1.2.2, ()), (y204.1.1.1, y204.1.1.2.1, y204.1.1.2.2, ()), (y233.1.1.1, y233.1.1.2.1, y233.1.1.2.2, ()), true, ()))) (cond (!(y210.1.2.1 == y216.1.2.1)) (some (.inl ((y191.1.1.1, y191.1.1.2.1, y191.1.1.2.2, ()), (y204.1.1.1, y204.1.1.2.1, y204.1.1.2.2, ()), (y233.1.1.1, y233.1.1.2.1, y233.1.1.2.2, ()), true, ()))) (cond (y210.1.1 != y216.1.1) (some (.inl ((y191.1.1.1, y191.1.1.2.1, y191.1.1.2.2, ()), (y204.1.1.1, y204.1.1.2.1, y204.1.1.2.2, ()), (y233.1.1.1, y233.1.1.2.1, y233.1.1.2.2, ()), true, ()))) (cond (!(y221.1.2.1 == y226.1.2.1)) (some (.inl ((y191.1.1.1, y191.1.1.2.1, y191.1.1.2.2, ()), (y204.1.1.1, y204.1.1.2.1, y204.1.1.2.2, ()), (y233.1.1.1, y233.1.1.2.1, y233.1.1.2.2, ()), true, ()))) (cond (!(y221.1.1.toList == y226.1.1.toList)) (some (.inl ((y191.1.1.1, y191.1.1.2.1, y191.1.1.2.2, ()), (y204.1.1.1, y204.1.1.2.1, y204.1.1.2.2, ()), (y233.1.1.1, y233.1.1.2.1, y233.1.1.2.2, ()), true, ()))) (cond (!(y233.1.2.1 == y238.1.2.1)) (some (.inl ((y191.1.1.1, y191.1.1.2.1, y191.1.1.2.2, ()), (y204.1.1.1, y204.1.1.2.1, y204.1.1.2.2, ()), (y233.1.1.1, y233.1.1.2.1, y233.1.1.2.2, ()), true, ()))) (cond (!((y233.1.1.1 == y238.1.1.1) && ((y233.1.1.2.1 == y238.1.1.2.1) && ((y233.1.1.2.2 == y238.1.1.2.2) && true)))) (some (.inl ((y191.1.1.1, y191.1.1.2.1, y191.1.1.2.2, ()), (y204.1.1.1, y204.1.1.2.1, y204.1.1.2.2, ()), (y233.1.1.1, y233.1.1.2.1, y233.1.1.2.2, ()), true, ()))) (Option.bind (impl_IsWash_f k y191.1.1) (fun y302 => (cond (!(y221.1.2.1 == y302.1.1)) (some (.inl ((y191.1.1.1, y191.1.1.2.1, y191.1.1.2.2, ()), (y204.1.1.1, y204.1.1.2.1, y204.1.1.2.2, ()), (y233.1.1.1, y233.1.1.2.1, y233.1.1.2.2, ()), true, ()))) (cond y194.1.2.1 (some (.inl ((y191.1.1.1, y191.1.1.2.1, y191.1.1.2.2, ()), (y204.1.1.1, y204.1.1.2.1, y204.1.1.2.2, ()), (y233.1.1.1, y233.1.1.2.1, y233.1.1.2.2, ()), (!y221.1.2.1), ()))) (some (.inl ((y191.1.1.1, y191.1.1.2.1, y191.1.1.2.2, ()), (y204.1.1.1, y204.1.1.2.1, y204.1.1.2.2, ()), (y233.1.1.1, y233.1.1.2.1, y233.1.1.2.2, ()), false, ()))))))))))))))))))) (fun j7 => (cond j7.2.2.2.1 (some ((false, ()), ())) (met (cond y164.1.2.1 (Option.bind (impl_LeastPairs_f k y164.1.1 y158.1.2.1) (fun y316 => (met (cond (!y316.1.2.1) (some (.inl ((j7.1.1, j7.1.2.1, j7.1.2.2.1, ()), (j7.2.1.1, j7.2.1.2.1, j7.2.1.2.2.1, ()), (j7.2.2.1.1, j7.2.2.1.2.1, j7.2.2.1.2.2.1, ()), true, ()))) (some (.inl ((j7.1.1, j7.1.2.1, j7.1.2.2.1, ()), (j7.2.1.1, j7.2.1.2.1, j7.2.1.2.2.1, ()), (j7.2.2.1.1, j7.2.2.1.2.1, j7.2.2.1.2.2.1, ()), (decide (y316.1.1 > y158.1.1)), ())))) (fun j8 => (cond j8.2.2.2.1 (some (.inr ((false, ()), ()))) (met (cond (decide (y164.1.1 < 30)) (Option.bind (impl_LeastPairs_f k (iw (y164.1.1 + 1)) y158.1.2.1) (fun y332 => (met (cond (!y332.1.2.1) (some (.inl ((j8.1.1, j8.1.2.1, j8.1.2.2.1, ()), (j8.2.1.1, j8.2.1.2.1, j8.2.1.2.2.1, ()), (j8.2.2.1.1, j8.2.2.1.2.1, j8.2.2.1.2.2.1, ()), true, ()))) (some (.inl ((j8.1.1, j8.1.2.1, j8.1.2.2.1, ()), (j8.2.1.1, j8.2.1.2.1, j8.2.1.2.2.1, ()), (j8.2.2.1.1, j8.2.2.1.2.1, j8.2.2.1.2.2.1, ()), (decide (y332.1.1 ≤ y158.1.1)), ())))) (fun j9 => (cond j9.2.2.2.1 (some (.inr (.inr ((false, ()), ())))) (some (.inl ((j9.1.1, j9.1.2.1, j9.1.2.2.1, ()), (j9.2.1.1, j9.2.1.2.1, j9.2.1.2.2.1, ()), (j9.2.2.1.1, j9.2.2.1.2.1, j9.2.2.1.2.2.1, ()), ())))))))) (some (.inl ((j8.1.1, j8.1.2.1, j8.1.2.2.1, ()), (j8.2.1.1, j8.2.1.2.1, j8.2.1.2.2.1, ()), (j8.2.2.1.1, j8.2.2.1.2.1, j8.2.2.1.2.2.1, ()), ())))) (fun j10 => (some (.inl ((j10.1.1, j10.1.2.1, j10.1.2.2.1, ()), (j10.2.1.1, j10.2.1.2.1, j10.2.1.2.2.1, ()), (j10.2.2.1.1, j10.2.2.1.2.1, j10.2.2.1.2.2.1, ()), ())))))))))) (some (.inl ((j7.1.1, j7.1.2.1, j7.1.2.2.1, ()), (j7.2.1.1, j7.2.1.2.1, j7.2.1.2.2.1, ()), (j7.2.2.1.1, j7.2.2.1.2.1, j7.2.2.1.2.2.1, ()), ())))) (fun j11 => (met (cond y181.1.2.1 (Option.bind (impl_LeastPairs_f k y175.1.2.1 y181.1.1) (fun y346 => (met (cond (!y346.1.2.1) (some (.inl ((j11.1.1, j11.1.2.1, j11.1.2.2.1, ()), (j11.2.1.1, j11.2.1.2.1, j11.2.1.2.2.1, ()), (j11.2.2.1.1, j11.2.2.1.2.1, j11.2.2.1.2.2.1, ()), true, ()))) (some (.inl ((j11.1.1, j11.1.2.1, j11.1.2.2.1, ()), (j11.2.1.1, j11.2.1.2.1, j11.2.1.2.2.1, ()), (j11.2.2.1.1, j11.2.2.1.2.1, j11.2.2.1.2.2.1, ()), (decide (y346.1.1 > y175.1.1)), ())))) (fun j12 => (cond j12.2.2.2.1 (some (.inr ((false, ()), ()))) (some (.inl ((j12.1.1, j12.1.2.1, j12.1.2.2.1, ()), (j12.2.1.1, j12.2.1.2.1, j12.2.1.2.2.1, ()), (j12.2.2.1.1, j12.2.2.1.2.1, j12.2.2.1.2.2.1, ()), ())))))))) (some (.inl ((j11.1.1, j11.1.2.1, j11.1.2.2.1, ()), (j11.2.1.1, j11.2.1.2.1, j11.2.1.2.2.1, ()), (j11.2.2.1.1, j11.2.2.1.2.1, j11.2.2.1.2.2.1, ()), ())))) (fun j13 => (met (cond y221.1.2.1 (Option.bind (impl_LeastPairs_f k j13.1.2.1 j13.1.2.2.1) (fun y362 => (Option.bind (impl_ParseWash_f k y221.1.1) (fun y367 => (met (cond (!y362.1.2.1) (some (.inl ((j13.1.1, j13.1.2.1, j13.1.2.2.1, ()), (j13.2.1.1, j13.2.1.2.1, j13.2.1.2.2.1, ()), (j13.2.2.1.1, j13.2.2.1.2.1, j13.2.2.1.2.2.1, ()), true, ()))) (cond (!(y194.1.2.1 == (decide (j13.1.1 < y362.1.1)))) (some (.inl ((j13.1.1, j13.1.2.1, j13.1.2.2.1, ()), (j13.2.1.1, j13.2.1.2.1, j13.2.1.2.2.1, ()), (j13.2.2.1.1, j13.2.2.1.2.1, j13.2.2.1.2.2.1, ()), true, ()))) (cond (!y367.1.2.1) (some (.inl ((j13.1.1, j13.1.2.1, j13.1.2.2.1, ()), (j13.2.1.1, j13.2.1.2.1, j13.2.1.2.2.1, ()), (j13.2.2.1.1, j13.2.2.1.2.1, j13.2.2.1.2.2.1, ()), true, ()))) (some (.inl ((j13.1.1, j13.1.2.1, j13.1.2.2.1, ()), (j13.2.1.1, j13.2.1.2.1, j13.2.1.2.2.1, ()), (j13.2.2.1.1, j13.2.2.1.2.1, j13.2.2.1.2.2.1, ()), (!((y367.1.1.1 == j13.1.1) && ((y367.1.1.2.1 == j13.1.2.1) && ((y367.1.1.2.2 == j13.1.2.2.1) && true)))), ())))))) (fun j14 => (cond j14.2.2.2.1 (some (.inr ((false, ()), ()))) (met (cond y194.1.2.1 (Option.bind (impl_WornOn_f k (j14.1.1, (j14.1.2.1, j14.1.2.2.1)) y194.1.1) (fun y393 => (Option.bind (impl_BareDays_f k (j14.1.1, (j14.1.2.1, j14.1.2.2.1)) y194.1.1) (fun y399 => (met (cond y393.1.2.1 (some (.inl ((j14.2.1.1, j14.2.1.2.1, j14.2.1.2.2.1, ()), (j14.2.2.1.1, j14.2.2.1.2.1, j14.2.2.1.2.2.1, ()), true, ()))) (cond (!y399.1.2.1) (some (.inl ((j14.2.1.1, j14.2.1.2.1, j14.2.1.2.2.1, ()), (j14.2.2.1.1, j14.2.2.1.2.1, j14.2.2.1.2.2.1, ()), true, ()))) (cond (((List.length y399.1.1 : Nat) : Int) != 0) (some (.inl ((j14.2.1.1, j14.2.1.2.1, j14.2.1.2.2.1, ()), (j14.2.2.1.1, j14.2.2.1.2.1, j14.2.2.1.2.2.1, ()), true, ()))) (some (.inl ((j14.2.1.1, j14.2.1.2.1, j14.2.1.2.2.1, ()), (j14.2.2.1.1, j14.2.2.1.2.1, j14.2.2.1.2.2.1, ()), (decide (y194.1.1 < 1)), ())))))) (fun j15 => (cond j15.2.2.1 (some (.inr (.inr ((false, ()), ())))) (some (.inl ((j15.1.1, j15.1.2.1, j15.1.2.2.1, ()), (j15.2.1.1, j15.2.1.2.1, j15.2.1.2.2.1, ()), ())))))))))) (some (.inl ((j14.2.1.1, j14.2.1.2.1, j14.2.1.2.2.1, ()), (j14.2.2.1.1, j14.2.2.1.2.1, j14.2.2.1.2.2.1, ()), ())))) (fun j16 => (some (.inl ((j16.1.1, j16.1.2.1, j16.1.2.2.1, ()), (j16.2.1.1, j16.2.1.2.1, j16.2.1.2.2.1, ()), ())))))))))))) (some (.inl ((j13.2.1.1, j13.2.1.2.1, j13.2.1.2.2.1, ()), (j13.2.2.1.1, j13.2.2.1.2.1, j13.2.2.1.2.2.1, ()), ())))) (fun j17 => (met (cond y210.1.2.1 (Option.bind (impl_WornOn_f k (j17.1.1, (j17.1.2.1, j17.1.2.2.1)) y210.1.1) (fun y420 => (met (cond (decide (y210.1.1 < (iw (y204.1.2.1 - 1)))) (some (.inl ((j17.1.1, j17.1.2.1, j17.1.2.2.1, ()), (j17.2.1.1, j17.2.1.2.1, j17.2.1.2.2.1, ()), true, ()))) (some (.inl ((j17.1.1, j17.1.2.1, j17.1.2.2.1, ()), (j17.2.1.1, j17.2.1.2.1, j17.2.1.2.2.1, ()), (!y420.1.2.1), ())))) (fun j18 => (cond j18.2.2.1 (some (.inr ((false, ()), ()))) (Option.bind (impl_TimesWorn_f k (j18.1.1, (j18.1.2.1, j18.1.2.2.1)) y210.1.1) (fun y434 => (met (cond (!y434.1.2.1) (some (.inl ((j18.2.1.1, j18.2.1.2.1, j18.2.1.2.2.1, ()), y434.1.1, true, ()))) (ixk y420.1.1 (List.length y434.1.1) (some (.inl ((j18.2.1.1, j18.2.1.2.1, j18.2.1.2.2.1, ()), y434.1.1, ((rd y434.1.1 y420.1.1) != (iw (y204.1.2.1 - 1))), ()))))) (fun j19 => (cond j19.2.2.1 (some (.inr ((false, ()), ()))) (met (laws_FnDaysLeast_l20 k y204 j19 (j19.1.1, j19.1.2.1, j19.1.2.2.1, ()) 0) (fun j21 => (some (.inl ((j21.1.1, j21.1.2.1, j21.1.2.2.1, ()), ()))))))))))))))) (some (.inl ((j17.2.1.1, j17.2.1.2.1, j17.2.1.2.2.1, ()), ())))) (fun j22 => (cond y233.1.2.1 (Option.bind (impl_WashText_f k (j22.1.1, (j22.1.2.1, j22.1.2.2.1))) (fun y461 => (met (cond y461.1.2.1 (some (.inl ((y461.1.1.toList == y230.1.1.toList), ()))) (some (.inl (false, ())))) (fun j23 => (some ((j23.1, ()), ())))))) (some ((true, ()), ()))))))))))))))))))))))))))))))))))))))))))))))))))))))))))))))
noncomputable def laws_FnDaysLeast_a : Ann := (.q .o (.q .o (.q .o (.q .o (.q .o (.q (.q (.r [(96, 106144, .v .bool)]) .o) (.q (.q .o (.j [] (.q (.q (.r [(127, 108128, .v .bool)]) .o) (.q (.q .o (.j [] .o .o)) (.q (.r [(144, 109216, .v .bool)]) (.j [] .o .o)))) .o)) (.q .o (.q .o (.q .o (.q .o (.q .o (.q .o (.q .o (.q .o (.q .o (.q .o (.q .o (.q .o (.q .o (.q .o (.q .o (.q .o (.q .o (.q (.q (.r [(27, 101728, .box false [.v (.int .i64), .v (.int .i64), .v (.int .i64)]), (32, 102048, .box false [.v (.int .i64), .v (.int .i64), .v (.int .i64)]), (43, 102752, .box false [.v (.int .i64), .v (.int .i64), .v (.int .i64)]), (311, 119904, .v .bool)]) .o) (.q (.q .o (.j [(27, 101728, .box false [.v (.int .i64), .v (.int .i64), .v (.int .i64)]), (32, 102048, .box false [.v (.int .i64), .v (.int .i64), .v (.int .i64)]), (43, 102752, .box false [.v (.int .i64), .v (.int .i64), .v (.int .i64)])] (.q .o (.q (.q (.r [(27, 101728, .box false [.v (.int .i64), .v (.int .i64), .v (.int .i64)]), (32, 102048, .box false [.v (.int .i64), .v (.int .i64), .v (.int .i64)]), (43, 102752, .box false [.v (.int .i64), .v (.int .i64), .v (.int .i64)]), (325, 120800, .v .bool)]) .o) (.q .o (.j [(27, 101728, .box false [.v (.int .i64), .v (.int .i64), .v (.int .i64)]), (32, 102048, .box false [.v (.int .i64), .v (.int .i64), .v (.int .i64)]), (43, 102752, .box false [.v (.int .i64), .v (.int .i64), .v (.int .i64)])] (.q .o (.q (.r [(27, 101728, .box false [.v (.int .i64), .v (.int .i64), .v (.int .i64)]), (32, 102048, .box false [.v (.int .i64), .v (.int .i64), .v (.int .i64)]), (43, 102752, .box false [.v (.int .i64), .v (.int .i64), .v (.int .i64)]), (341, 121824, .v .bool)]) .o)) .o)))) .o)) (.q (.q .o (.j [(27, 101728, .box false [.v (.int .i64), .v (.int .i64), .v (.int .i64)]), (32, 102048, .box false [.v (.int .i64), .v (.int .i64), .v (.int .i64)]), (43, 102752, .box false [.v (.int .i64), .v (.int .i64), .v (.int .i64)])] (.q .o (.q (.r [(27, 101728, .box false [.v (.int .i64), .v (.int .i64), .v (.int .i64)]), (32, 102048, .box false [.v (.int .i64), .v (.int .i64), .v (.int .i64)]), (43, 102752, .box false [.v (.int .i64), .v (.int .i64), .v (.int .i64)]), (355, 122720, .v .bool)]) .o)) .o)) (.q (.q .o (.j [(32, 102048, .box false [.v (.int .i64), .v (.int .i64), .v (.int .i64)]), (43, 102752, .box false [.v (.int .i64), .v (.int .i64), .v (.int .i64)])] (.q .o (.q .o (.q (.q (.r [(27, 101728, .box false [.v (.int .i64), .v (.int .i64), .v (.int .i64)]), (32, 102048, .box false [.v (.int .i64), .v (.int .i64), .v (.int .i64)]), (43, 102752, .box false [.v (.int .i64), .v (.int .i64), .v (.int .i64)]), (388, 124832, .v .bool)]) .o) (.q .o (.j [(32, 102048, .box false [.v (.int .i64), .v (.int .i64), .v (.int .i64)]), (43, 102752, .box false [.v (.int .i64), .v (.int .i64), .v (.int .i64)])] (.q .o (.q .o (.q (.r [(32, 102048, .box false [.v (.int .i64), .v (.int .i64), .v (.int .i64)]), (43, 102752, .box false [.v (.int .i64), .v (.int .i64), .v (.int .i64)]), (415, 126560, .v .bool)]) .o))) .o))))) .o)) (.q (.q .o (.j [(43, 102752, .box false [.v (.int .i64), .v (.int .i64), .v (.int .i64)])] (.q .o (.q (.q (.r [(32, 102048, .box false [.v (.int .i64), .v (.int .i64), .v (.int .i64)]), (43, 102752, .box false [.v (.int .i64), .v (.int .i64), .v (.int .i64)]), (430, 127520, .v .bool)]) .o) (.q .o (.q (.q (.r [(43, 102752, .box false [.v (.int .i64), .v (.int .i64), .v (.int .i64)]), (63, 104032, .v (.slc 3 (.int .i64))), (447, 128608, .v .bool)]) .o) (.q .o (.m [(43, 102752, .box false [.v (.int .i64), .v (.int .i64), .v (.int .i64)])] (.l [(43, 102752, .box false [.v (.int .i64), .v (.int .i64), .v (.int .i64)]), (450, 128800, .v (.int .i64))] .o))))))) .o)) (.q (.q .o (.c (.q .o (.q (.r [(4, 100256, .v .bool)]) .o)) .o)) .o))))))))))))))))))))))))))))))
theorem laws_FnDaysLeast_run (k : Nat) (p0 : (List Int)) (p1 : (List Int)) : funX Tryz.prog (callT [laws_big_c k, spec_DrawLeastPairs_c k, impl_LeastPairs_c k, spec_LeastPairs_c k, impl_FirstBare_c k, spec_DrawGreatestEvery_c k, impl_GreatestEvery_c k, spec_GreatestEvery_c k, spec_DrawGreatestDry_c k, impl_GreatestDry_c k, spec_GreatestDry_c k, spec_DrawFirstBare_c k, spec_FirstBare_c k, spec_DrawLastsUntil_c k, impl_LastsUntil_c k, spec_LastsUntil_c k, impl_WashText_c k, spec_WashText_c k, spec_DrawParseWash_c k, impl_ParseWash_c k, spec_ParseWash_c k, impl_IsWash_c k, impl_WornOn_c k, impl_BareDays_c k, impl_TimesWorn_c k]) k Tryz.f3 laws_FnDaysLeast_a [.v (.slc 5 (.int .u8)), .v (.slc 5 (.int .u8))] [.v .bool] (p0, p1, ()) = laws_FnDaysLeast_f k p0 p1 := by kernel_rfl
noncomputable def laws_FnDaysLeast_c (k : Nat) : Con := ⟨3, [.v (.slc 5 (.int .u8)), .v (.slc 5 (.int .u8))], [.v .bool], fun x => laws_FnDaysLeast_f k x.1 x.2.1⟩
theorem laws_FnDaysLeast_ok (k : Nat) : (laws_FnDaysLeast_c k).Sound Tryz.prog GL := con_ok (k := k) (fn := Tryz.f3) (A := laws_FnDaysLeast_a) (C := callT [laws_big_c k, spec_DrawLeastPairs_c k, impl_LeastPairs_c k, spec_LeastPairs_c k, impl_FirstBare_c k, spec_DrawGreatestEvery_c k, impl_GreatestEvery_c k, spec_GreatestEvery_c k, spec_DrawGreatestDry_c k, impl_GreatestDry_c k, spec_GreatestDry_c k, spec_DrawFirstBare_c k, spec_FirstBare_c k, spec_DrawLastsUntil_c k, impl_LastsUntil_c k, spec_LastsUntil_c k, impl_WashText_c k, spec_WashText_c k, spec_DrawParseWash_c k, impl_ParseWash_c k, spec_ParseWash_c k, impl_IsWash_c k, impl_WornOn_c k, impl_BareDays_c k, impl_TimesWorn_c k]) Tryz.func3 (by kernel_rfl) (show Tryz.f3.body = some (bodyX Tryz.f3) by rfl) (fun X hX => callT_at (TableOk.cons (laws_big_ok k) (TableOk.cons (spec_DrawLeastPairs_ok k) (TableOk.cons (impl_LeastPairs_ok k) (TableOk.cons (spec_LeastPairs_ok k) (TableOk.cons (impl_FirstBare_ok k) (TableOk.cons (spec_DrawGreatestEvery_ok k) (TableOk.cons (impl_GreatestEvery_ok k) (TableOk.cons (spec_GreatestEvery_ok k) (TableOk.cons (spec_DrawGreatestDry_ok k) (TableOk.cons (impl_GreatestDry_ok k) (TableOk.cons (spec_GreatestDry_ok k) (TableOk.cons (spec_DrawFirstBare_ok k) (TableOk.cons (spec_FirstBare_ok k) (TableOk.cons (spec_DrawLastsUntil_ok k) (TableOk.cons (impl_LastsUntil_ok k) (TableOk.cons (spec_LastsUntil_ok k) (TableOk.cons (impl_WashText_ok k) (TableOk.cons (spec_WashText_ok k) (TableOk.cons (spec_DrawParseWash_ok k) (TableOk.cons (impl_ParseWash_ok k) (TableOk.cons (spec_ParseWash_ok k) (TableOk.cons (impl_IsWash_ok k) (TableOk.cons (impl_WornOn_ok k) (TableOk.cons (impl_BareDays_ok k) (TableOk.cons (impl_TimesWorn_ok k) TableOk.nil))))))))))))))))))))))))) X hX) (Nat.le_of_ble_eq_true (by kernel_rfl)) (fun ⟨p0, p1, _⟩ y h => by rw [← h]; exact laws_FnDaysLeast_run k p0 p1)
end Go.Proofs.YtmogbnhgelihlaaGreatDoorV.Law
