/- The library's contracts that this program leans on, at its own numbers, and a way from a contract of the kit's to one of ours. -/
import Derived.Test.YtaedacibojpfkaaDoorTypes
import Derived.Test.YtaedacibojpfkaaDoorMb0
import Derived.WalkKit
import Derived.Shelf.Strings.SlTrimAscii
import Derived.Shelf.Small.Strs
namespace Go.Am.YtaedacibojpfkaaDoor
open Go Go.Am Go.Shelf Go.Proofs Go.RowKit

def ren160 : Ren := ⟨fun | 160 => 160 | 232 => 165 | 231 => 164 | 227 => 166 | 234 => 168 | 233 => 167 | 236 => 170 | 235 => 169 | 228 => 176 | 271 => 179 | 151 => 178 | 197 => 177 | 120 => 188 | 152 => 187 | 260 => 186 | 137 => 162 | 119 => 191 | 224 => 192 | 225 => 193 | 217 => 175 | 266 => 185 | n => n, fun | 9 => 9 | 4 => 4 | 3 => 3 | 5 => 5 | 117 => 154 | 116 => 153 | 0 => 0 | 124 => 157 | 21 => 21 | 105 => 164 | 46 => 171 | 119 => 175 | 139 => 178 | 138 => 177 | n => n, fun | 3 => 2 | 4 => 3 | n => n⟩
theorem lays160 : Lays.n160 Go.Proofs.Tryd.prog ren160 where
  mixed := by kernel_rfl
  f119 := Go.Proofs.Tryd.func191.trans (congrArg some (by kernel_rfl))
  f120 := Go.Proofs.Tryd.func188.trans (congrArg some (by kernel_rfl))
  f137 := Go.Proofs.Tryd.func162.trans (congrArg some (by kernel_rfl))
  f151 := Go.Proofs.Tryd.func178.trans (congrArg some (by kernel_rfl))
  f152 := Go.Proofs.Tryd.func187.trans (congrArg some (by kernel_rfl))
  f160 := Go.Proofs.Tryd.func160.trans (congrArg some (by kernel_rfl))
  f197 := Go.Proofs.Tryd.func177.trans (congrArg some (by kernel_rfl))
  f217 := Go.Proofs.Tryd.func175.trans (congrArg some (by kernel_rfl))
  f224 := Go.Proofs.Tryd.func192.trans (congrArg some (by kernel_rfl))
  f225 := Go.Proofs.Tryd.func193.trans (congrArg some (by kernel_rfl))
  f227 := Go.Proofs.Tryd.func166.trans (congrArg some (by kernel_rfl))
  f228 := Go.Proofs.Tryd.func176.trans (congrArg some (by kernel_rfl))
  f231 := Go.Proofs.Tryd.func164.trans (congrArg some (by kernel_rfl))
  f232 := Go.Proofs.Tryd.func165.trans (congrArg some (by kernel_rfl))
  f233 := Go.Proofs.Tryd.func167.trans (congrArg some (by kernel_rfl))
  f234 := Go.Proofs.Tryd.func168.trans (congrArg some (by kernel_rfl))
  f235 := Go.Proofs.Tryd.func169.trans (congrArg some (by kernel_rfl))
  f236 := Go.Proofs.Tryd.func170.trans (congrArg some (by kernel_rfl))
  f260 := Go.Proofs.Tryd.func186.trans (congrArg some (by kernel_rfl))
  f266 := Go.Proofs.Tryd.func185.trans (congrArg some (by kernel_rfl))
  f271 := Go.Proofs.Tryd.func179.trans (congrArg some (by kernel_rfl))
  t0 := Go.Proofs.Tryd.underlying0
  a0 := Go.Proofs.Tryd.isAgg0
  z0 := Go.Proofs.Tryd.sizeOf0
  v0 := Go.Proofs.Tryd.zeroValue0
  t3 := Go.Proofs.Tryd.underlying3
  a3 := Go.Proofs.Tryd.isAgg3
  z3 := Go.Proofs.Tryd.sizeOf3
  v3 := Go.Proofs.Tryd.zeroValue3
  t4 := Go.Proofs.Tryd.underlying4
  a4 := Go.Proofs.Tryd.isAgg4
  z4 := Go.Proofs.Tryd.sizeOf4
  v4 := Go.Proofs.Tryd.zeroValue4
  t5 := Go.Proofs.Tryd.underlying5
  a5 := Go.Proofs.Tryd.isAgg5
  z5 := Go.Proofs.Tryd.sizeOf5
  v5 := Go.Proofs.Tryd.zeroValue5
  t9 := Go.Proofs.Tryd.underlying9
  a9 := Go.Proofs.Tryd.isAgg9
  z9 := Go.Proofs.Tryd.sizeOf9
  v9 := Go.Proofs.Tryd.zeroValue9
  t21 := Go.Proofs.Tryd.underlying21
  a21 := Go.Proofs.Tryd.isAgg21
  z21 := Go.Proofs.Tryd.sizeOf21
  v21 := Go.Proofs.Tryd.zeroValue21
  t46 := Go.Proofs.Tryd.underlying171
  a46 := Go.Proofs.Tryd.isAgg171
  z46 := Go.Proofs.Tryd.sizeOf171
  v46 := Go.Proofs.Tryd.zeroValue171
  t105 := Go.Proofs.Tryd.underlying164
  a105 := Go.Proofs.Tryd.isAgg164
  z105 := Go.Proofs.Tryd.sizeOf164
  v105 := Go.Proofs.Tryd.zeroValue164
  t116 := Go.Proofs.Tryd.underlying153
  a116 := Go.Proofs.Tryd.isAgg153
  z116 := Go.Proofs.Tryd.sizeOf153
  t117 := Go.Proofs.Tryd.underlying154
  a117 := Go.Proofs.Tryd.isAgg154
  z117 := Go.Proofs.Tryd.sizeOf154
  v117 := Go.Proofs.Tryd.zeroValue154
  t119 := Go.Proofs.Tryd.underlying175
  a119 := Go.Proofs.Tryd.isAgg175
  z119 := Go.Proofs.Tryd.sizeOf175
  t124 := Go.Proofs.Tryd.underlying157
  a124 := Go.Proofs.Tryd.isAgg157
  z124 := Go.Proofs.Tryd.sizeOf157
  v124 := Go.Proofs.Tryd.zeroValue157
  t138 := Go.Proofs.Tryd.underlying177
  a138 := Go.Proofs.Tryd.isAgg177
  z138 := Go.Proofs.Tryd.sizeOf177
  v138 := Go.Proofs.Tryd.zeroValue177
  t139 := Go.Proofs.Tryd.underlying178
  a139 := Go.Proofs.Tryd.isAgg178
  z139 := Go.Proofs.Tryd.sizeOf178
  v139 := Go.Proofs.Tryd.zeroValue178
  g3 := by kernel_rfl
  g4 := by kernel_rfl


def ren137 : Ren := ⟨fun | 137 => 162 | 217 => 175 | 266 => 185 | n => n, fun | 9 => 9 | 5 => 5 | 3 => 3 | n => n, fun n => n⟩
theorem lays137 : Lays.n137 Go.Proofs.Tryd.prog ren137 where
  mixed := by kernel_rfl
  f137 := Go.Proofs.Tryd.func162.trans (congrArg some (by kernel_rfl))
  f217 := Go.Proofs.Tryd.func175.trans (congrArg some (by kernel_rfl))
  f266 := Go.Proofs.Tryd.func185.trans (congrArg some (by kernel_rfl))
  t3 := Go.Proofs.Tryd.underlying3
  a3 := Go.Proofs.Tryd.isAgg3
  z3 := Go.Proofs.Tryd.sizeOf3
  v3 := Go.Proofs.Tryd.zeroValue3
  t5 := Go.Proofs.Tryd.underlying5
  a5 := Go.Proofs.Tryd.isAgg5
  z5 := Go.Proofs.Tryd.sizeOf5
  v5 := Go.Proofs.Tryd.zeroValue5
  t9 := Go.Proofs.Tryd.underlying9
  a9 := Go.Proofs.Tryd.isAgg9
  z9 := Go.Proofs.Tryd.sizeOf9
  v9 := Go.Proofs.Tryd.zeroValue9


theorem trimC (s cut : ByteArray) (w : World) (hs : s.size ≤ 9223372036854775807) (hc : cut.size < 4294967281) (ha : cut.data.toList.all (fun b => decide (b.toNat < 128)) = true) :
    Calls Go.Proofs.Tryd.prog 160 #[.string s, .string cut] w fun e w' => e = .returned (.string ⟨(Lib.trimS s.data.toList cut.data.toList).toArray⟩) ∧ Below w.heap.size w w' :=
  Any.strings_Trim_laid lays160 (by kernel_rfl) s cut w hs hc (ascii_of_all ha)
theorem indexC (s : ByteArray) (c : Int) (w : World) :
    Calls Go.Proofs.Tryd.prog 162 #[.string s, .int .u8 c] w fun e w' => e = .returned (.int .i64 (Lib.indexByte s.data.toList c.toNat.toUInt8)) ∧ w' = w :=
  Any.strings_IndexByte lays137 s c w

/-- strings.Trim: what it answers. -/
def g_Trim (s cut : ByteArray) : Option ByteArray :=
  if s.size ≤ 9223372036854775807 ∧ cut.size < 4294967281 ∧ cut.data.toList.all (fun b => decide (b.toNat < 128)) = true then some ⟨(Lib.trimS s.data.toList cut.data.toList).toArray⟩ else none
theorem g_Trim_ok (s cut : ByteArray) {r : ByteArray} (hM : g_Trim s cut = some r) (O : Heap) (tk : Nat) : ACalls Go.Proofs.Tryd.prog 160 [.str s, .str cut] O tk (RetX O tk (fun v _ => v = .str r)) := by
  unfold g_Trim at hM
  split at hM
  · rename_i h
    cases hM
    refine (acalls_below (O := O) (tk := tk) (v := .str _) ⟨_, _, Go.Proofs.Tryd.func160, rfl, rfl⟩ (fun S us h1 h2 => us_str_str h1 h2) (fun _ => .str _) fun w => trimC s cut w h.1 h.2.1 h.2.2).mono fun out O' tk' q => ?_
    obtain ⟨a, b, c⟩ := q
    exact ⟨a, by omega, _, b, rfl⟩
  · cases hM
/-- strings.IndexByte: what it answers. -/
def g_IndexByte (s : ByteArray) (c : Int) : Option Int := some (Lib.indexByte s.data.toList c.toNat.toUInt8)
theorem g_IndexByte_ok (s : ByteArray) (c : Int) {r : Int} (hM : g_IndexByte s c = some r) (O : Heap) (tk : Nat) : ACalls Go.Proofs.Tryd.prog 162 [.str s, .int .u8 c] O tk (RetX O tk (fun v _ => v = .int .i64 r)) := by
  cases hM
  refine (acalls_below (O := O) (tk := tk) (v := .int .i64 _) ⟨_, _, Go.Proofs.Tryd.func162, rfl, rfl⟩ (fun S us h1 h2 => us_str_int h1 h2) (fun _ => .int _ _) fun w => (indexC s c w).mono fun e w' ⟨h1, h2⟩ => ⟨h1, h2 ▸ Below.refl _ _⟩).mono fun out O' tk' q => ?_
  obtain ⟨a, b, c⟩ := q
  exact ⟨a, by omega, _, b, rfl⟩

end Go.Am.YtaedacibojpfkaaDoor
