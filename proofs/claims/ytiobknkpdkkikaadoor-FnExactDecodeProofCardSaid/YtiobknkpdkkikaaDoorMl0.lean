/- The library's contracts that this program leans on, at its own numbers, and a way from a contract of the kit's to one of ours. -/
import Derived.Test.YtiobknkpdkkikaaDoorTypes
import Derived.Test.YtiobknkpdkkikaaDoorMb0
import Derived.WalkKit
import Derived.Shelf.Strings.SlTrimAscii
import Derived.Shelf.Small.Strs
namespace Go.Am.YtiobknkpdkkikaaDoor
open Go Go.Am Go.Shelf Go.Proofs Go.RowKit

def ren160 : Ren := ⟨fun | 160 => 162 | 232 => 168 | 231 => 167 | 227 => 169 | 234 => 171 | 233 => 170 | 236 => 173 | 235 => 172 | 228 => 179 | 271 => 182 | 151 => 181 | 197 => 180 | 120 => 191 | 152 => 190 | 260 => 189 | 137 => 165 | 119 => 194 | 224 => 195 | 225 => 196 | 217 => 178 | 266 => 188 | n => n, fun | 9 => 9 | 4 => 4 | 3 => 3 | 5 => 5 | 117 => 160 | 116 => 159 | 0 => 0 | 124 => 163 | 21 => 21 | 105 => 170 | 46 => 177 | 119 => 181 | 139 => 184 | 138 => 183 | n => n, fun | 3 => 2 | 4 => 3 | n => n⟩
theorem lays160 : Lays.n160 Go.Proofs.Tryd.prog ren160 where
  mixed := by kernel_rfl
  f119 := Go.Proofs.Tryd.func194.trans (congrArg some (by kernel_rfl))
  f120 := Go.Proofs.Tryd.func191.trans (congrArg some (by kernel_rfl))
  f137 := Go.Proofs.Tryd.func165.trans (congrArg some (by kernel_rfl))
  f151 := Go.Proofs.Tryd.func181.trans (congrArg some (by kernel_rfl))
  f152 := Go.Proofs.Tryd.func190.trans (congrArg some (by kernel_rfl))
  f160 := Go.Proofs.Tryd.func162.trans (congrArg some (by kernel_rfl))
  f197 := Go.Proofs.Tryd.func180.trans (congrArg some (by kernel_rfl))
  f217 := Go.Proofs.Tryd.func178.trans (congrArg some (by kernel_rfl))
  f224 := Go.Proofs.Tryd.func195.trans (congrArg some (by kernel_rfl))
  f225 := Go.Proofs.Tryd.func196.trans (congrArg some (by kernel_rfl))
  f227 := Go.Proofs.Tryd.func169.trans (congrArg some (by kernel_rfl))
  f228 := Go.Proofs.Tryd.func179.trans (congrArg some (by kernel_rfl))
  f231 := Go.Proofs.Tryd.func167.trans (congrArg some (by kernel_rfl))
  f232 := Go.Proofs.Tryd.func168.trans (congrArg some (by kernel_rfl))
  f233 := Go.Proofs.Tryd.func170.trans (congrArg some (by kernel_rfl))
  f234 := Go.Proofs.Tryd.func171.trans (congrArg some (by kernel_rfl))
  f235 := Go.Proofs.Tryd.func172.trans (congrArg some (by kernel_rfl))
  f236 := Go.Proofs.Tryd.func173.trans (congrArg some (by kernel_rfl))
  f260 := Go.Proofs.Tryd.func189.trans (congrArg some (by kernel_rfl))
  f266 := Go.Proofs.Tryd.func188.trans (congrArg some (by kernel_rfl))
  f271 := Go.Proofs.Tryd.func182.trans (congrArg some (by kernel_rfl))
  t0 := Go.Proofs.Tryd.underlying0
  a0 := Go.Proofs.Tryd.isAgg0
  z0 := Go.Proofs.Tryd.sizeOf0
  v0 := Go.Proofs.Tryd.zeroValue0
  t3 := Go.Proofs.Tryd.underlying3
  a3 := Go.Proofs.Tryd.isAgg3
  z3 := Go.Proofs.Tryd.sizeOf3
  v3 := Go.Proofs.Tryd.zeroValue3
  t4 := Go.Proofs.Tryd.underlying4
  a4 := Go.Proofs.Tryd.isAgg4
  z4 := Go.Proofs.Tryd.sizeOf4
  v4 := Go.Proofs.Tryd.zeroValue4
  t5 := Go.Proofs.Tryd.underlying5
  a5 := Go.Proofs.Tryd.isAgg5
  z5 := Go.Proofs.Tryd.sizeOf5
  v5 := Go.Proofs.Tryd.zeroValue5
  t9 := Go.Proofs.Tryd.underlying9
  a9 := Go.Proofs.Tryd.isAgg9
  z9 := Go.Proofs.Tryd.sizeOf9
  v9 := Go.Proofs.Tryd.zeroValue9
  t21 := Go.Proofs.Tryd.underlying21
  a21 := Go.Proofs.Tryd.isAgg21
  z21 := Go.Proofs.Tryd.sizeOf21
  v21 := Go.Proofs.Tryd.zeroValue21
  t46 := Go.Proofs.Tryd.underlying177
  a46 := Go.Proofs.Tryd.isAgg177
  z46 := Go.Proofs.Tryd.sizeOf177
  v46 := Go.Proofs.Tryd.zeroValue177
  t105 := Go.Proofs.Tryd.underlying170
  a105 := Go.Proofs.Tryd.isAgg170
  z105 := Go.Proofs.Tryd.sizeOf170
  v105 := Go.Proofs.Tryd.zeroValue170
  t116 := Go.Proofs.Tryd.underlying159
  a116 := Go.Proofs.Tryd.isAgg159
  z116 := Go.Proofs.Tryd.sizeOf159
  t117 := Go.Proofs.Tryd.underlying160
  a117 := Go.Proofs.Tryd.isAgg160
  z117 := Go.Proofs.Tryd.sizeOf160
  v117 := Go.Proofs.Tryd.zeroValue160
  t119 := Go.Proofs.Tryd.underlying181
  a119 := Go.Proofs.Tryd.isAgg181
  z119 := Go.Proofs.Tryd.sizeOf181
  t124 := Go.Proofs.Tryd.underlying163
  a124 := Go.Proofs.Tryd.isAgg163
  z124 := Go.Proofs.Tryd.sizeOf163
  v124 := Go.Proofs.Tryd.zeroValue163
  t138 := Go.Proofs.Tryd.underlying183
  a138 := Go.Proofs.Tryd.isAgg183
  z138 := Go.Proofs.Tryd.sizeOf183
  v138 := Go.Proofs.Tryd.zeroValue183
  t139 := Go.Proofs.Tryd.underlying184
  a139 := Go.Proofs.Tryd.isAgg184
  z139 := Go.Proofs.Tryd.sizeOf184
  v139 := Go.Proofs.Tryd.zeroValue184
  g3 := by kernel_rfl
  g4 := by kernel_rfl


def ren137 : Ren := ⟨fun | 137 => 165 | 217 => 178 | 266 => 188 | n => n, fun | 9 => 9 | 5 => 5 | 3 => 3 | n => n, fun n => n⟩
theorem lays137 : Lays.n137 Go.Proofs.Tryd.prog ren137 where
  mixed := by kernel_rfl
  f137 := Go.Proofs.Tryd.func165.trans (congrArg some (by kernel_rfl))
  f217 := Go.Proofs.Tryd.func178.trans (congrArg some (by kernel_rfl))
  f266 := Go.Proofs.Tryd.func188.trans (congrArg some (by kernel_rfl))
  t3 := Go.Proofs.Tryd.underlying3
  a3 := Go.Proofs.Tryd.isAgg3
  z3 := Go.Proofs.Tryd.sizeOf3
  v3 := Go.Proofs.Tryd.zeroValue3
  t5 := Go.Proofs.Tryd.underlying5
  a5 := Go.Proofs.Tryd.isAgg5
  z5 := Go.Proofs.Tryd.sizeOf5
  v5 := Go.Proofs.Tryd.zeroValue5
  t9 := Go.Proofs.Tryd.underlying9
  a9 := Go.Proofs.Tryd.isAgg9
  z9 := Go.Proofs.Tryd.sizeOf9
  v9 := Go.Proofs.Tryd.zeroValue9


theorem trimC (s cut : ByteArray) (w : World) (hs : s.size ≤ 9223372036854775807) (hc : cut.size < 4294967281) (ha : cut.data.toList.all (fun b => decide (b.toNat < 128)) = true) :
    Calls Go.Proofs.Tryd.prog 162 #[.string s, .string cut] w fun e w' => e = .returned (.string ⟨(Lib.trimS s.data.toList cut.data.toList).toArray⟩) ∧ Below w.heap.size w w' :=
  Any.strings_Trim_laid lays160 (by kernel_rfl) s cut w hs hc (ascii_of_all ha)
theorem indexC (s : ByteArray) (c : Int) (w : World) :
    Calls Go.Proofs.Tryd.prog 165 #[.string s, .int .u8 c] w fun e w' => e = .returned (.int .i64 (Lib.indexByte s.data.toList c.toNat.toUInt8)) ∧ w' = w :=
  Any.strings_IndexByte lays137 s c w

/-- strings.Trim: what it answers. -/
def g_Trim (s cut : ByteArray) : Option ByteArray :=
  if s.size ≤ 9223372036854775807 ∧ cut.size < 4294967281 ∧ cut.data.toList.all (fun b => decide (b.toNat < 128)) = true then some ⟨(Lib.trimS s.data.toList cut.data.toList).toArray⟩ else none
theorem g_Trim_ok (s cut : ByteArray) {r : ByteArray} (hM : g_Trim s cut = some r) (O : Heap) (tk : Nat) : ACalls Go.Proofs.Tryd.prog 162 [.str s, .str cut] O tk (RetX O tk (fun v _ => v = .str r)) := by
  unfold g_Trim at hM
  split at hM
  · rename_i h
    cases hM
    refine (acalls_below (O := O) (tk := tk) (v := .str _) ⟨_, _, Go.Proofs.Tryd.func162, rfl, rfl⟩ (fun S us h1 h2 => us_str_str h1 h2) (fun _ => .str _) fun w => trimC s cut w h.1 h.2.1 h.2.2).mono fun out O' tk' q => ?_
    obtain ⟨a, b, c⟩ := q
    exact ⟨a, by omega, _, b, rfl⟩
  · cases hM
/-- strings.IndexByte: what it answers. -/
def g_IndexByte (s : ByteArray) (c : Int) : Option Int := some (Lib.indexByte s.data.toList c.toNat.toUInt8)
theorem g_IndexByte_ok (s : ByteArray) (c : Int) {r : Int} (hM : g_IndexByte s c = some r) (O : Heap) (tk : Nat) : ACalls Go.Proofs.Tryd.prog 165 [.str s, .int .u8 c] O tk (RetX O tk (fun v _ => v = .int .i64 r)) := by
  cases hM
  refine (acalls_below (O := O) (tk := tk) (v := .int .i64 _) ⟨_, _, Go.Proofs.Tryd.func165, rfl, rfl⟩ (fun S us h1 h2 => us_str_int h1 h2) (fun _ => .int _ _) fun w => (indexC s c w).mono fun e w' ⟨h1, h2⟩ => ⟨h1, h2 ▸ Below.refl _ _⟩).mono fun out O' tk' q => ?_
  obtain ⟨a, b, c⟩ := q
  exact ⟨a, by omega, _, b, rfl⟩

end Go.Am.YtiobknkpdkkikaaDoor
