/- The library's contracts that this program leans on, at its own numbers, and a way from a contract of the kit's to one of ours. -/
import Derived.Test.YtiobknkpdkkikabDoorTypes
import Derived.Test.YtiobknkpdkkikabDoorMb0
import Derived.WalkKit
import Derived.Shelf.Strings.SlTrimAscii
import Derived.Shelf.Small.Strs
namespace Go.Am.YtiobknkpdkkikabDoor
open Go Go.Am Go.Shelf Go.Proofs Go.RowKit

def ren160 : Ren := ⟨fun | 160 => 91 | 232 => 95 | 231 => 94 | 227 => 96 | 234 => 98 | 233 => 97 | 236 => 100 | 235 => 99 | 228 => 102 | 271 => 105 | 151 => 104 | 197 => 103 | 120 => 109 | 152 => 108 | 260 => 107 | 137 => 92 | 119 => 110 | 224 => 111 | 225 => 112 | 217 => 101 | 266 => 106 | n => n, fun | 9 => 9 | 4 => 4 | 3 => 3 | 5 => 5 | 117 => 95 | 116 => 94 | 0 => 0 | 124 => 98 | 21 => 21 | 105 => 99 | 46 => 104 | 119 => 103 | 139 => 107 | 138 => 106 | n => n, fun | 3 => 1 | 4 => 2 | n => n⟩
theorem lays160 : Lays.n160 Go.Proofs.Tryd.prog ren160 where
  mixed := by kernel_rfl
  f119 := Go.Proofs.Tryd.func110.trans (congrArg some (by kernel_rfl))
  f120 := Go.Proofs.Tryd.func109.trans (congrArg some (by kernel_rfl))
  f137 := Go.Proofs.Tryd.func92.trans (congrArg some (by kernel_rfl))
  f151 := Go.Proofs.Tryd.func104.trans (congrArg some (by kernel_rfl))
  f152 := Go.Proofs.Tryd.func108.trans (congrArg some (by kernel_rfl))
  f160 := Go.Proofs.Tryd.func91.trans (congrArg some (by kernel_rfl))
  f197 := Go.Proofs.Tryd.func103.trans (congrArg some (by kernel_rfl))
  f217 := Go.Proofs.Tryd.func101.trans (congrArg some (by kernel_rfl))
  f224 := Go.Proofs.Tryd.func111.trans (congrArg some (by kernel_rfl))
  f225 := Go.Proofs.Tryd.func112.trans (congrArg some (by kernel_rfl))
  f227 := Go.Proofs.Tryd.func96.trans (congrArg some (by kernel_rfl))
  f228 := Go.Proofs.Tryd.func102.trans (congrArg some (by kernel_rfl))
  f231 := Go.Proofs.Tryd.func94.trans (congrArg some (by kernel_rfl))
  f232 := Go.Proofs.Tryd.func95.trans (congrArg some (by kernel_rfl))
  f233 := Go.Proofs.Tryd.func97.trans (congrArg some (by kernel_rfl))
  f234 := Go.Proofs.Tryd.func98.trans (congrArg some (by kernel_rfl))
  f235 := Go.Proofs.Tryd.func99.trans (congrArg some (by kernel_rfl))
  f236 := Go.Proofs.Tryd.func100.trans (congrArg some (by kernel_rfl))
  f260 := Go.Proofs.Tryd.func107.trans (congrArg some (by kernel_rfl))
  f266 := Go.Proofs.Tryd.func106.trans (congrArg some (by kernel_rfl))
  f271 := Go.Proofs.Tryd.func105.trans (congrArg some (by kernel_rfl))
  t0 := Go.Proofs.Tryd.underlying0
  a0 := Go.Proofs.Tryd.isAgg0
  z0 := Go.Proofs.Tryd.sizeOf0
  v0 := Go.Proofs.Tryd.zeroValue0
  t3 := Go.Proofs.Tryd.underlying3
  a3 := Go.Proofs.Tryd.isAgg3
  z3 := Go.Proofs.Tryd.sizeOf3
  v3 := Go.Proofs.Tryd.zeroValue3
  t4 := Go.Proofs.Tryd.underlying4
  a4 := Go.Proofs.Tryd.isAgg4
  z4 := Go.Proofs.Tryd.sizeOf4
  v4 := Go.Proofs.Tryd.zeroValue4
  t5 := Go.Proofs.Tryd.underlying5
  a5 := Go.Proofs.Tryd.isAgg5
  z5 := Go.Proofs.Tryd.sizeOf5
  v5 := Go.Proofs.Tryd.zeroValue5
  t9 := Go.Proofs.Tryd.underlying9
  a9 := Go.Proofs.Tryd.isAgg9
  z9 := Go.Proofs.Tryd.sizeOf9
  v9 := Go.Proofs.Tryd.zeroValue9
  t21 := Go.Proofs.Tryd.underlying21
  a21 := Go.Proofs.Tryd.isAgg21
  z21 := Go.Proofs.Tryd.sizeOf21
  v21 := Go.Proofs.Tryd.zeroValue21
  t46 := Go.Proofs.Tryd.underlying104
  a46 := Go.Proofs.Tryd.isAgg104
  z46 := Go.Proofs.Tryd.sizeOf104
  v46 := Go.Proofs.Tryd.zeroValue104
  t105 := Go.Proofs.Tryd.underlying99
  a105 := Go.Proofs.Tryd.isAgg99
  z105 := Go.Proofs.Tryd.sizeOf99
  v105 := Go.Proofs.Tryd.zeroValue99
  t116 := Go.Proofs.Tryd.underlying94
  a116 := Go.Proofs.Tryd.isAgg94
  z116 := Go.Proofs.Tryd.sizeOf94
  t117 := Go.Proofs.Tryd.underlying95
  a117 := Go.Proofs.Tryd.isAgg95
  z117 := Go.Proofs.Tryd.sizeOf95
  v117 := Go.Proofs.Tryd.zeroValue95
  t119 := Go.Proofs.Tryd.underlying103
  a119 := Go.Proofs.Tryd.isAgg103
  z119 := Go.Proofs.Tryd.sizeOf103
  t124 := Go.Proofs.Tryd.underlying98
  a124 := Go.Proofs.Tryd.isAgg98
  z124 := Go.Proofs.Tryd.sizeOf98
  v124 := Go.Proofs.Tryd.zeroValue98
  t138 := Go.Proofs.Tryd.underlying106
  a138 := Go.Proofs.Tryd.isAgg106
  z138 := Go.Proofs.Tryd.sizeOf106
  v138 := Go.Proofs.Tryd.zeroValue106
  t139 := Go.Proofs.Tryd.underlying107
  a139 := Go.Proofs.Tryd.isAgg107
  z139 := Go.Proofs.Tryd.sizeOf107
  v139 := Go.Proofs.Tryd.zeroValue107
  g3 := by kernel_rfl
  g4 := by kernel_rfl


def ren137 : Ren := ⟨fun | 137 => 92 | 217 => 101 | 266 => 106 | n => n, fun | 9 => 9 | 5 => 5 | 3 => 3 | n => n, fun n => n⟩
theorem lays137 : Lays.n137 Go.Proofs.Tryd.prog ren137 where
  mixed := by kernel_rfl
  f137 := Go.Proofs.Tryd.func92.trans (congrArg some (by kernel_rfl))
  f217 := Go.Proofs.Tryd.func101.trans (congrArg some (by kernel_rfl))
  f266 := Go.Proofs.Tryd.func106.trans (congrArg some (by kernel_rfl))
  t3 := Go.Proofs.Tryd.underlying3
  a3 := Go.Proofs.Tryd.isAgg3
  z3 := Go.Proofs.Tryd.sizeOf3
  v3 := Go.Proofs.Tryd.zeroValue3
  t5 := Go.Proofs.Tryd.underlying5
  a5 := Go.Proofs.Tryd.isAgg5
  z5 := Go.Proofs.Tryd.sizeOf5
  v5 := Go.Proofs.Tryd.zeroValue5
  t9 := Go.Proofs.Tryd.underlying9
  a9 := Go.Proofs.Tryd.isAgg9
  z9 := Go.Proofs.Tryd.sizeOf9
  v9 := Go.Proofs.Tryd.zeroValue9


theorem trimC (s cut : ByteArray) (w : World) (hs : s.size ≤ 9223372036854775807) (hc : cut.size < 4294967281) (ha : cut.data.toList.all (fun b => decide (b.toNat < 128)) = true) :
    Calls Go.Proofs.Tryd.prog 91 #[.string s, .string cut] w fun e w' => e = .returned (.string ⟨(Lib.trimS s.data.toList cut.data.toList).toArray⟩) ∧ Below w.heap.size w w' :=
  Any.strings_Trim_laid lays160 (by kernel_rfl) s cut w hs hc (ascii_of_all ha)
theorem indexC (s : ByteArray) (c : Int) (w : World) :
    Calls Go.Proofs.Tryd.prog 92 #[.string s, .int .u8 c] w fun e w' => e = .returned (.int .i64 (Lib.indexByte s.data.toList c.toNat.toUInt8)) ∧ w' = w :=
  Any.strings_IndexByte lays137 s c w

/-- strings.Trim: what it answers. -/
def g_Trim (s cut : ByteArray) : Option ByteArray :=
  if s.size ≤ 9223372036854775807 ∧ cut.size < 4294967281 ∧ cut.data.toList.all (fun b => decide (b.toNat < 128)) = true then some ⟨(Lib.trimS s.data.toList cut.data.toList).toArray⟩ else none
theorem g_Trim_ok (s cut : ByteArray) {r : ByteArray} (hM : g_Trim s cut = some r) (O : Heap) (tk : Nat) : ACalls Go.Proofs.Tryd.prog 91 [.str s, .str cut] O tk (RetX O tk (fun v _ => v = .str r)) := by
  unfold g_Trim at hM
  split at hM
  · rename_i h
    cases hM
    refine (acalls_below (O := O) (tk := tk) (v := .str _) ⟨_, _, Go.Proofs.Tryd.func91, rfl, rfl⟩ (fun S us h1 h2 => us_str_str h1 h2) (fun _ => .str _) fun w => trimC s cut w h.1 h.2.1 h.2.2).mono fun out O' tk' q => ?_
    obtain ⟨a, b, c⟩ := q
    exact ⟨a, by omega, _, b, rfl⟩
  · cases hM
/-- strings.IndexByte: what it answers. -/
def g_IndexByte (s : ByteArray) (c : Int) : Option Int := some (Lib.indexByte s.data.toList c.toNat.toUInt8)
theorem g_IndexByte_ok (s : ByteArray) (c : Int) {r : Int} (hM : g_IndexByte s c = some r) (O : Heap) (tk : Nat) : ACalls Go.Proofs.Tryd.prog 92 [.str s, .int .u8 c] O tk (RetX O tk (fun v _ => v = .int .i64 r)) := by
  cases hM
  refine (acalls_below (O := O) (tk := tk) (v := .int .i64 _) ⟨_, _, Go.Proofs.Tryd.func92, rfl, rfl⟩ (fun S us h1 h2 => us_str_int h1 h2) (fun _ => .int _ _) fun w => (indexC s c w).mono fun e w' ⟨h1, h2⟩ => ⟨h1, h2 ▸ Below.refl _ _⟩).mono fun out O' tk' q => ?_
  obtain ⟨a, b, c⟩ := q
  exact ⟨a, by omega, _, b, rfl⟩

end Go.Am.YtiobknkpdkkikabDoor
