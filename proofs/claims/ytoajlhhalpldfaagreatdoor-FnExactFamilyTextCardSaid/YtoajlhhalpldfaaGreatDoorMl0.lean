/- The library's contracts that this program leans on, at its own numbers, and a way from a contract of the kit's to one of ours. -/
import Derived.Test.YtoajlhhalpldfaaGreatDoorTypes
import Derived.Test.YtoajlhhalpldfaaGreatDoorMb0
import Derived.WalkKit
import Derived.Shelf.Strings.SlTrimAscii
import Derived.Shelf.Small.Strs
namespace Go.Am.YtoajlhhalpldfaaGreatDoor
open Go Go.Am Go.Shelf Go.Proofs Go.RowKit

def ren160 : Ren := ⟨fun | 160 => 118 | 232 => 123 | 231 => 122 | 227 => 124 | 234 => 126 | 233 => 125 | 236 => 128 | 235 => 127 | 228 => 134 | 271 => 137 | 151 => 136 | 197 => 135 | 120 => 146 | 152 => 145 | 260 => 144 | 137 => 120 | 119 => 149 | 224 => 150 | 225 => 151 | 217 => 133 | 266 => 143 | n => n, fun | 9 => 9 | 4 => 4 | 3 => 3 | 5 => 5 | 117 => 119 | 116 => 118 | 0 => 0 | 124 => 122 | 21 => 21 | 105 => 129 | 46 => 136 | 119 => 140 | 139 => 143 | 138 => 142 | n => n, fun | 3 => 2 | 4 => 3 | n => n⟩
theorem lays160 : Lays.n160 Go.Proofs.Tryz.prog ren160 where
 mixed := by kernel_rfl
 f119 := Go.Proofs.Tryz.func149.trans (congrArg some (by kernel_rfl))
 f120 := Go.Proofs.Tryz.func146.trans (congrArg some (by kernel_rfl))
 f137 := Go.Proofs.Tryz.func120.trans (congrArg some (by kernel_rfl))
 f151 := Go.Proofs.Tryz.func136.trans (congrArg some (by kernel_rfl))
 f152 := Go.Proofs.Tryz.func145.trans (congrArg some (by kernel_rfl))
 f160 := Go.Proofs.Tryz.func118.trans (congrArg some (by kernel_rfl))
 f197 := Go.Proofs.Tryz.func135.trans (congrArg some (by kernel_rfl))
 f217 := Go.Proofs.Tryz.func133.trans (congrArg some (by kernel_rfl))
 f224 := Go.Proofs.Tryz.func150.trans (congrArg some (by kernel_rfl))
 f225 := Go.Proofs.Tryz.func151.trans (congrArg some (by kernel_rfl))
 f227 := Go.Proofs.Tryz.func124.trans (congrArg some (by kernel_rfl))
 f228 := Go.Proofs.Tryz.func134.trans (congrArg some (by kernel_rfl))
 f231 := Go.Proofs.Tryz.func122.trans (congrArg some (by kernel_rfl))
 f232 := Go.Proofs.Tryz.func123.trans (congrArg some (by kernel_rfl))
 f233 := Go.Proofs.Tryz.func125.trans (congrArg some (by kernel_rfl))
 f234 := Go.Proofs.Tryz.func126.trans (congrArg some (by kernel_rfl))
 f235 := Go.Proofs.Tryz.func127.trans (congrArg some (by kernel_rfl))
 f236 := Go.Proofs.Tryz.func128.trans (congrArg some (by kernel_rfl))
 f260 := Go.Proofs.Tryz.func144.trans (congrArg some (by kernel_rfl))
 f266 := Go.Proofs.Tryz.func143.trans (congrArg some (by kernel_rfl))
 f271 := Go.Proofs.Tryz.func137.trans (congrArg some (by kernel_rfl))
 t0 := Go.Proofs.Tryz.underlying0
 a0 := Go.Proofs.Tryz.isAgg0
 z0 := Go.Proofs.Tryz.sizeOf0
 v0 := Go.Proofs.Tryz.zeroValue0
 t3 := Go.Proofs.Tryz.underlying3
 a3 := Go.Proofs.Tryz.isAgg3
 z3 := Go.Proofs.Tryz.sizeOf3
 v3 := Go.Proofs.Tryz.zeroValue3
 t4 := Go.Proofs.Tryz.underlying4
 a4 := Go.Proofs.Tryz.isAgg4
 z4 := Go.Proofs.Tryz.sizeOf4
 v4 := Go.Proofs.Tryz.zeroValue4
 t5 := Go.Proofs.Tryz.underlying5
 a5 := Go.Proofs.Tryz.isAgg5
 z5 := Go.Proofs.Tryz.sizeOf5
 v5 := Go.Proofs.Tryz.zeroValue5
 t9 := Go.Proofs.Tryz.underlying9
 a9 := Go.Proofs.Tryz.isAgg9
 z9 := Go.Proofs.Tryz.sizeOf9
 v9 := Go.Proofs.Tryz.zeroValue9
 t21 := Go.Proofs.Tryz.underlying21
 a21 := Go.Proofs.Tryz.isAgg21
 z21 := Go.Proofs.Tryz.sizeOf21
 v21 := Go.Proofs.Tryz.zeroValue21
 t46 := Go.Proofs.Tryz.underlying136
 a46 := Go.Proofs.Tryz.isAgg136
 z46 := Go.Proofs.Tryz.sizeOf136
 v46 := Go.Proofs.Tryz.zeroValue136
 t105 := Go.Proofs.Tryz.underlying129
 a105 := Go.Proofs.Tryz.isAgg129
 z105 := Go.Proofs.Tryz.sizeOf129
 v105 := Go.Proofs.Tryz.zeroValue129
 t116 := Go.Proofs.Tryz.underlying118
 a116 := Go.Proofs.Tryz.isAgg118
 z116 := Go.Proofs.Tryz.sizeOf118
 t117 := Go.Proofs.Tryz.underlying119
 a117 := Go.Proofs.Tryz.isAgg119
 z117 := Go.Proofs.Tryz.sizeOf119
 v117 := Go.Proofs.Tryz.zeroValue119
 t119 := Go.Proofs.Tryz.underlying140
 a119 := Go.Proofs.Tryz.isAgg140
 z119 := Go.Proofs.Tryz.sizeOf140
 t124 := Go.Proofs.Tryz.underlying122
 a124 := Go.Proofs.Tryz.isAgg122
 z124 := Go.Proofs.Tryz.sizeOf122
 v124 := Go.Proofs.Tryz.zeroValue122
 t138 := Go.Proofs.Tryz.underlying142
 a138 := Go.Proofs.Tryz.isAgg142
 z138 := Go.Proofs.Tryz.sizeOf142
 v138 := Go.Proofs.Tryz.zeroValue142
 t139 := Go.Proofs.Tryz.underlying143
 a139 := Go.Proofs.Tryz.isAgg143
 z139 := Go.Proofs.Tryz.sizeOf143
 v139 := Go.Proofs.Tryz.zeroValue143
 g3 := by kernel_rfl
 g4 := by kernel_rfl


def ren137 : Ren := ⟨fun | 137 => 120 | 217 => 133 | 266 => 143 | n => n, fun | 9 => 9 | 5 => 5 | 3 => 3 | n => n, fun n => n⟩
theorem lays137 : Lays.n137 Go.Proofs.Tryz.prog ren137 where
 mixed := by kernel_rfl
 f137 := Go.Proofs.Tryz.func120.trans (congrArg some (by kernel_rfl))
 f217 := Go.Proofs.Tryz.func133.trans (congrArg some (by kernel_rfl))
 f266 := Go.Proofs.Tryz.func143.trans (congrArg some (by kernel_rfl))
 t3 := Go.Proofs.Tryz.underlying3
 a3 := Go.Proofs.Tryz.isAgg3
 z3 := Go.Proofs.Tryz.sizeOf3
 v3 := Go.Proofs.Tryz.zeroValue3
 t5 := Go.Proofs.Tryz.underlying5
 a5 := Go.Proofs.Tryz.isAgg5
 z5 := Go.Proofs.Tryz.sizeOf5
 v5 := Go.Proofs.Tryz.zeroValue5
 t9 := Go.Proofs.Tryz.underlying9
 a9 := Go.Proofs.Tryz.isAgg9
 z9 := Go.Proofs.Tryz.sizeOf9
 v9 := Go.Proofs.Tryz.zeroValue9


theorem trimC (s cut : ByteArray) (w : World) (hs : s.size ≤ 9223372036854775807) (hc : cut.size < 4294967281) (ha : cut.data.toList.all (fun b => decide (b.toNat < 128)) = true) :
  Calls Go.Proofs.Tryz.prog 118 #[.string s, .string cut] w fun e w' => e = .returned (.string ⟨(Lib.trimS s.data.toList cut.data.toList).toArray⟩) ∧ Below w.heap.size w w' :=
 Any.strings_Trim_laid lays160 (by kernel_rfl) s cut w hs hc (ascii_of_all ha)
theorem indexC (s : ByteArray) (c : Int) (w : World) :
  Calls Go.Proofs.Tryz.prog 120 #[.string s, .int .u8 c] w fun e w' => e = .returned (.int .i64 (Lib.indexByte s.data.toList c.toNat.toUInt8)) ∧ w' = w :=
 Any.strings_IndexByte lays137 s c w

def g_Trim (s cut : ByteArray) : Option ByteArray :=
 if s.size ≤ 9223372036854775807 ∧ cut.size < 4294967281 ∧ cut.data.toList.all (fun b => decide (b.toNat < 128)) = true then some ⟨(Lib.trimS s.data.toList cut.data.toList).toArray⟩ else none
theorem g_Trim_ok (s cut : ByteArray) {r : ByteArray} (hM : g_Trim s cut = some r) (O : Heap) (tk : Nat) : ACalls Go.Proofs.Tryz.prog 118 [.str s, .str cut] O tk (RetX O tk (fun v _ => v = .str r)) := by
 unfold g_Trim at hM
 split at hM
 ·rename_i h
  cases hM
  refine (acalls_below (O := O) (tk := tk) (v := .str _) ⟨_, _, Go.Proofs.Tryz.func118, rfl, rfl⟩ (fun S us h1 h2 => us_str_str h1 h2) (fun _ => .str _) fun w => trimC s cut w h.1 h.2.1 h.2.2).mono fun out O' tk' q => ?_
  obtain ⟨a, b, c⟩ := q
  exact ⟨a, by omega, _, b, rfl⟩
 cases hM
def g_IndexByte (s : ByteArray) (c : Int) : Option Int := some (Lib.indexByte s.data.toList c.toNat.toUInt8)
theorem g_IndexByte_ok (s : ByteArray) (c : Int) {r : Int} (hM : g_IndexByte s c = some r) (O : Heap) (tk : Nat) : ACalls Go.Proofs.Tryz.prog 120 [.str s, .int .u8 c] O tk (RetX O tk (fun v _ => v = .int .i64 r)) := by
 cases hM
 refine (acalls_below (O := O) (tk := tk) (v := .int .i64 _) ⟨_, _, Go.Proofs.Tryz.func120, rfl, rfl⟩ (fun S us h1 h2 => us_str_int h1 h2) (fun _ => .int _ _) fun w => (indexC s c w).mono fun e w' ⟨h1, h2⟩ => ⟨h1, h2 ▸ Below.refl _ _⟩).mono fun out O' tk' q => ?_
 obtain ⟨a, b, c⟩ := q
 exact ⟨a, by omega, _, b, rfl⟩

end Go.Am.YtoajlhhalpldfaaGreatDoor
