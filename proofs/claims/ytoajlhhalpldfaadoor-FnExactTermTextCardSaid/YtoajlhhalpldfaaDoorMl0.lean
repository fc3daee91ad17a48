/- The library's contracts that this program leans on, at its own numbers, and a way from a contract of the kit's to one of ours. -/
import Derived.Test.YtoajlhhalpldfaaDoorTypes
import Derived.Test.YtoajlhhalpldfaaDoorMb0
import Derived.WalkKit
import Derived.Shelf.Strings.SlTrimAscii
import Derived.Shelf.Small.Strs
namespace Go.Am.YtoajlhhalpldfaaDoor
open Go Go.Am Go.Shelf Go.Proofs Go.RowKit

def ren160 : Ren := ⟨fun | 160 => 51 | 232 => 56 | 231 => 55 | 227 => 57 | 234 => 59 | 233 => 58 | 236 => 61 | 235 => 60 | 228 => 67 | 271 => 70 | 151 => 69 | 197 => 68 | 120 => 79 | 152 => 78 | 260 => 77 | 137 => 53 | 119 => 82 | 224 => 83 | 225 => 84 | 217 => 66 | 266 => 76 | n => n, fun | 9 => 9 | 4 => 4 | 3 => 3 | 5 => 5 | 117 => 72 | 116 => 71 | 0 => 0 | 124 => 75 | 21 => 21 | 105 => 82 | 46 => 90 | 119 => 94 | 139 => 97 | 138 => 96 | n => n, fun | 3 => 2 | 4 => 3 | n => n⟩
theorem lays160 : Lays.n160 Go.Proofs.Tryd.prog ren160 where
 mixed := by kernel_rfl
 f119 := Go.Proofs.Tryd.func82.trans (congrArg some (by kernel_rfl))
 f120 := Go.Proofs.Tryd.func79.trans (congrArg some (by kernel_rfl))
 f137 := Go.Proofs.Tryd.func53.trans (congrArg some (by kernel_rfl))
 f151 := Go.Proofs.Tryd.func69.trans (congrArg some (by kernel_rfl))
 f152 := Go.Proofs.Tryd.func78.trans (congrArg some (by kernel_rfl))
 f160 := Go.Proofs.Tryd.func51.trans (congrArg some (by kernel_rfl))
 f197 := Go.Proofs.Tryd.func68.trans (congrArg some (by kernel_rfl))
 f217 := Go.Proofs.Tryd.func66.trans (congrArg some (by kernel_rfl))
 f224 := Go.Proofs.Tryd.func83.trans (congrArg some (by kernel_rfl))
 f225 := Go.Proofs.Tryd.func84.trans (congrArg some (by kernel_rfl))
 f227 := Go.Proofs.Tryd.func57.trans (congrArg some (by kernel_rfl))
 f228 := Go.Proofs.Tryd.func67.trans (congrArg some (by kernel_rfl))
 f231 := Go.Proofs.Tryd.func55.trans (congrArg some (by kernel_rfl))
 f232 := Go.Proofs.Tryd.func56.trans (congrArg some (by kernel_rfl))
 f233 := Go.Proofs.Tryd.func58.trans (congrArg some (by kernel_rfl))
 f234 := Go.Proofs.Tryd.func59.trans (congrArg some (by kernel_rfl))
 f235 := Go.Proofs.Tryd.func60.trans (congrArg some (by kernel_rfl))
 f236 := Go.Proofs.Tryd.func61.trans (congrArg some (by kernel_rfl))
 f260 := Go.Proofs.Tryd.func77.trans (congrArg some (by kernel_rfl))
 f266 := Go.Proofs.Tryd.func76.trans (congrArg some (by kernel_rfl))
 f271 := Go.Proofs.Tryd.func70.trans (congrArg some (by kernel_rfl))
 t0 := Go.Proofs.Tryd.underlying0
 a0 := Go.Proofs.Tryd.isAgg0
 z0 := Go.Proofs.Tryd.sizeOf0
 v0 := Go.Proofs.Tryd.zeroValue0
 t3 := Go.Proofs.Tryd.underlying3
 a3 := Go.Proofs.Tryd.isAgg3
 z3 := Go.Proofs.Tryd.sizeOf3
 v3 := Go.Proofs.Tryd.zeroValue3
 t4 := Go.Proofs.Tryd.underlying4
 a4 := Go.Proofs.Tryd.isAgg4
 z4 := Go.Proofs.Tryd.sizeOf4
 v4 := Go.Proofs.Tryd.zeroValue4
 t5 := Go.Proofs.Tryd.underlying5
 a5 := Go.Proofs.Tryd.isAgg5
 z5 := Go.Proofs.Tryd.sizeOf5
 v5 := Go.Proofs.Tryd.zeroValue5
 t9 := Go.Proofs.Tryd.underlying9
 a9 := Go.Proofs.Tryd.isAgg9
 z9 := Go.Proofs.Tryd.sizeOf9
 v9 := Go.Proofs.Tryd.zeroValue9
 t21 := Go.Proofs.Tryd.underlying21
 a21 := Go.Proofs.Tryd.isAgg21
 z21 := Go.Proofs.Tryd.sizeOf21
 v21 := Go.Proofs.Tryd.zeroValue21
 t46 := Go.Proofs.Tryd.underlying90
 a46 := Go.Proofs.Tryd.isAgg90
 z46 := Go.Proofs.Tryd.sizeOf90
 v46 := Go.Proofs.Tryd.zeroValue90
 t105 := Go.Proofs.Tryd.underlying82
 a105 := Go.Proofs.Tryd.isAgg82
 z105 := Go.Proofs.Tryd.sizeOf82
 v105 := Go.Proofs.Tryd.zeroValue82
 t116 := Go.Proofs.Tryd.underlying71
 a116 := Go.Proofs.Tryd.isAgg71
 z116 := Go.Proofs.Tryd.sizeOf71
 t117 := Go.Proofs.Tryd.underlying72
 a117 := Go.Proofs.Tryd.isAgg72
 z117 := Go.Proofs.Tryd.sizeOf72
 v117 := Go.Proofs.Tryd.zeroValue72
 t119 := Go.Proofs.Tryd.underlying94
 a119 := Go.Proofs.Tryd.isAgg94
 z119 := Go.Proofs.Tryd.sizeOf94
 t124 := Go.Proofs.Tryd.underlying75
 a124 := Go.Proofs.Tryd.isAgg75
 z124 := Go.Proofs.Tryd.sizeOf75
 v124 := Go.Proofs.Tryd.zeroValue75
 t138 := Go.Proofs.Tryd.underlying96
 a138 := Go.Proofs.Tryd.isAgg96
 z138 := Go.Proofs.Tryd.sizeOf96
 v138 := Go.Proofs.Tryd.zeroValue96
 t139 := Go.Proofs.Tryd.underlying97
 a139 := Go.Proofs.Tryd.isAgg97
 z139 := Go.Proofs.Tryd.sizeOf97
 v139 := Go.Proofs.Tryd.zeroValue97
 g3 := by kernel_rfl
 g4 := by kernel_rfl


def ren137 : Ren := ⟨fun | 137 => 53 | 217 => 66 | 266 => 76 | n => n, fun | 9 => 9 | 5 => 5 | 3 => 3 | n => n, fun n => n⟩
theorem lays137 : Lays.n137 Go.Proofs.Tryd.prog ren137 where
 mixed := by kernel_rfl
 f137 := Go.Proofs.Tryd.func53.trans (congrArg some (by kernel_rfl))
 f217 := Go.Proofs.Tryd.func66.trans (congrArg some (by kernel_rfl))
 f266 := Go.Proofs.Tryd.func76.trans (congrArg some (by kernel_rfl))
 t3 := Go.Proofs.Tryd.underlying3
 a3 := Go.Proofs.Tryd.isAgg3
 z3 := Go.Proofs.Tryd.sizeOf3
 v3 := Go.Proofs.Tryd.zeroValue3
 t5 := Go.Proofs.Tryd.underlying5
 a5 := Go.Proofs.Tryd.isAgg5
 z5 := Go.Proofs.Tryd.sizeOf5
 v5 := Go.Proofs.Tryd.zeroValue5
 t9 := Go.Proofs.Tryd.underlying9
 a9 := Go.Proofs.Tryd.isAgg9
 z9 := Go.Proofs.Tryd.sizeOf9
 v9 := Go.Proofs.Tryd.zeroValue9


theorem trimC (s cut : ByteArray) (w : World) (hs : s.size ≤ 9223372036854775807) (hc : cut.size < 4294967281) (ha : cut.data.toList.all (fun b => decide (b.toNat < 128)) = true) :
  Calls Go.Proofs.Tryd.prog 51 #[.string s, .string cut] w fun e w' => e = .returned (.string ⟨(Lib.trimS s.data.toList cut.data.toList).toArray⟩) ∧ Below w.heap.size w w' :=
 Any.strings_Trim_laid lays160 (by kernel_rfl) s cut w hs hc (ascii_of_all ha)
theorem indexC (s : ByteArray) (c : Int) (w : World) :
  Calls Go.Proofs.Tryd.prog 53 #[.string s, .int .u8 c] w fun e w' => e = .returned (.int .i64 (Lib.indexByte s.data.toList c.toNat.toUInt8)) ∧ w' = w :=
 Any.strings_IndexByte lays137 s c w

def g_Trim (s cut : ByteArray) : Option ByteArray :=
 if s.size ≤ 9223372036854775807 ∧ cut.size < 4294967281 ∧ cut.data.toList.all (fun b => decide (b.toNat < 128)) = true then some ⟨(Lib.trimS s.data.toList cut.data.toList).toArray⟩ else none
theorem g_Trim_ok (s cut : ByteArray) {r : ByteArray} (hM : g_Trim s cut = some r) (O : Heap) (tk : Nat) : ACalls Go.Proofs.Tryd.prog 51 [.str s, .str cut] O tk (RetX O tk (fun v _ => v = .str r)) := by
 unfold g_Trim at hM
 split at hM
 ·rename_i h
  cases hM
  refine (acalls_below (O := O) (tk := tk) (v := .str _) ⟨_, _, Go.Proofs.Tryd.func51, rfl, rfl⟩ (fun S us h1 h2 => us_str_str h1 h2) (fun _ => .str _) fun w => trimC s cut w h.1 h.2.1 h.2.2).mono fun out O' tk' q => ?_
  obtain ⟨a, b, c⟩ := q
  exact ⟨a, by omega, _, b, rfl⟩
 cases hM
def g_IndexByte (s : ByteArray) (c : Int) : Option Int := some (Lib.indexByte s.data.toList c.toNat.toUInt8)
theorem g_IndexByte_ok (s : ByteArray) (c : Int) {r : Int} (hM : g_IndexByte s c = some r) (O : Heap) (tk : Nat) : ACalls Go.Proofs.Tryd.prog 53 [.str s, .int .u8 c] O tk (RetX O tk (fun v _ => v = .int .i64 r)) := by
 cases hM
 refine (acalls_below (O := O) (tk := tk) (v := .int .i64 _) ⟨_, _, Go.Proofs.Tryd.func53, rfl, rfl⟩ (fun S us h1 h2 => us_str_int h1 h2) (fun _ => .int _ _) fun w => (indexC s c w).mono fun e w' ⟨h1, h2⟩ => ⟨h1, h2 ▸ Below.refl _ _⟩).mono fun out O' tk' q => ?_
 obtain ⟨a, b, c⟩ := q
 exact ⟨a, by omega, _, b, rfl⟩

end Go.Am.YtoajlhhalpldfaaDoor
