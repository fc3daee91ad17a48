/- strings.Split of this program, at one byte. -/
import Derived.Test.YtlbofhoehollfaaDoorTypes
import Derived.Test.YtlbofhoehollfaaDoorMb2
import Derived.WalkKit
namespace Go.Am.YtlbofhoehollfaaDoor
open Go Go.Am Go.Shelf Go.Proofs Go.RowKit

def ren146 : Ren := ⟨fun | 146 => 85 | 221 => 111 | 268 => 119 | 138 => 120 | 143 => 121 | 195 => 126 | 197 => 116 | 218 => 127 | 219 => 128 | 260 => 123 | 217 => 114 | 225 => 131 | 224 => 130 | 267 => 132 | 266 => 122 | 314 => 133 | n => n, fun | 9 => 9 | 31 => 50 | 3 => 3 | 4 => 4 | 0 => 0 | 105 => 92 | 21 => 21 | 5 => 5 | 46 => 99 | 119 => 98 | 139 => 102 | 138 => 101 | 146 => 105 | 51 => 104 | n => n, fun | 1 => 0 | 3 => 1 | 4 => 2 | n => n⟩
theorem lays146 : Lays.n146 Go.Proofs.Tryd.prog ren146 where
  mixed := by kernel_rfl
  f138 := Go.Proofs.Tryd.func120.trans (congrArg some (by kernel_rfl))
  f143 := Go.Proofs.Tryd.func121.trans (congrArg some (by kernel_rfl))
  f146 := Go.Proofs.Tryd.func85.trans (congrArg some (by kernel_rfl))
  f195 := Go.Proofs.Tryd.func126.trans (congrArg some (by kernel_rfl))
  f197 := Go.Proofs.Tryd.func116.trans (congrArg some (by kernel_rfl))
  f217 := Go.Proofs.Tryd.func114.trans (congrArg some (by kernel_rfl))
  f218 := Go.Proofs.Tryd.func127.trans (congrArg some (by kernel_rfl))
  f219 := Go.Proofs.Tryd.func128.trans (congrArg some (by kernel_rfl))
  f221 := Go.Proofs.Tryd.func111.trans (congrArg some (by kernel_rfl))
  f224 := Go.Proofs.Tryd.func130.trans (congrArg some (by kernel_rfl))
  f225 := Go.Proofs.Tryd.func131.trans (congrArg some (by kernel_rfl))
  f260 := Go.Proofs.Tryd.func123.trans (congrArg some (by kernel_rfl))
  f266 := Go.Proofs.Tryd.func122.trans (congrArg some (by kernel_rfl))
  f267 := Go.Proofs.Tryd.func132.trans (congrArg some (by kernel_rfl))
  f268 := Go.Proofs.Tryd.func119.trans (congrArg some (by kernel_rfl))
  f314 := Go.Proofs.Tryd.func133.trans (congrArg some (by kernel_rfl))
  t0 := Go.Proofs.Tryd.underlying0
  a0 := Go.Proofs.Tryd.isAgg0
  z0 := Go.Proofs.Tryd.sizeOf0
  v0 := Go.Proofs.Tryd.zeroValue0
  t3 := Go.Proofs.Tryd.underlying3
  a3 := Go.Proofs.Tryd.isAgg3
  z3 := Go.Proofs.Tryd.sizeOf3
  v3 := Go.Proofs.Tryd.zeroValue3
  t4 := Go.Proofs.Tryd.underlying4
  a4 := Go.Proofs.Tryd.isAgg4
  z4 := Go.Proofs.Tryd.sizeOf4
  v4 := Go.Proofs.Tryd.zeroValue4
  t5 := Go.Proofs.Tryd.underlying5
  a5 := Go.Proofs.Tryd.isAgg5
  z5 := Go.Proofs.Tryd.sizeOf5
  v5 := Go.Proofs.Tryd.zeroValue5
  t9 := Go.Proofs.Tryd.underlying9
  a9 := Go.Proofs.Tryd.isAgg9
  z9 := Go.Proofs.Tryd.sizeOf9
  v9 := Go.Proofs.Tryd.zeroValue9
  t21 := Go.Proofs.Tryd.underlying21
  a21 := Go.Proofs.Tryd.isAgg21
  z21 := Go.Proofs.Tryd.sizeOf21
  v21 := Go.Proofs.Tryd.zeroValue21
  t31 := Go.Proofs.Tryd.underlying50
  a31 := Go.Proofs.Tryd.isAgg50
  z31 := Go.Proofs.Tryd.sizeOf50
  v31 := Go.Proofs.Tryd.zeroValue50
  t46 := Go.Proofs.Tryd.underlying99
  a46 := Go.Proofs.Tryd.isAgg99
  z46 := Go.Proofs.Tryd.sizeOf99
  v46 := Go.Proofs.Tryd.zeroValue99
  t51 := Go.Proofs.Tryd.underlying104
  a51 := Go.Proofs.Tryd.isAgg104
  z51 := Go.Proofs.Tryd.sizeOf104
  v51 := Go.Proofs.Tryd.zeroValue104
  t105 := Go.Proofs.Tryd.underlying92
  a105 := Go.Proofs.Tryd.isAgg92
  z105 := Go.Proofs.Tryd.sizeOf92
  v105 := Go.Proofs.Tryd.zeroValue92
  t119 := Go.Proofs.Tryd.underlying98
  a119 := Go.Proofs.Tryd.isAgg98
  z119 := Go.Proofs.Tryd.sizeOf98
  t138 := Go.Proofs.Tryd.underlying101
  a138 := Go.Proofs.Tryd.isAgg101
  z138 := Go.Proofs.Tryd.sizeOf101
  v138 := Go.Proofs.Tryd.zeroValue101
  t139 := Go.Proofs.Tryd.underlying102
  a139 := Go.Proofs.Tryd.isAgg102
  z139 := Go.Proofs.Tryd.sizeOf102
  v139 := Go.Proofs.Tryd.zeroValue102
  t146 := Go.Proofs.Tryd.underlying105
  a146 := Go.Proofs.Tryd.isAgg105
  z146 := Go.Proofs.Tryd.sizeOf105
  v146 := Go.Proofs.Tryd.zeroValue105
  g1 := by kernel_rfl
  g3 := by kernel_rfl
  g4 := by kernel_rfl

theorem splitC (s : ByteArray) (b : UInt8) (w : World) (hs : s.size < 4294967281) :
    Calls Go.Proofs.Tryd.prog 85 #[.string s, .string ⟨#[b]⟩] w fun e w' =>
      e = .returned (.slice (some ⟨w.heap.size, 0, none⟩) (Lib.countB s ⟨#[b]⟩ + 1) (Lib.countB s ⟨#[b]⟩ + 1)) ∧ w' = w.alloc (.cells ((Lib.splitB ⟨#[b]⟩ 0 (Lib.countB s ⟨#[b]⟩) s).map Value.string).toArray 9) :=
  split_one lays146 (by kernel_rfl) s b w hs

/-- strings.Split at one byte: what it answers. -/
def g_Split (s sep : ByteArray) : Option (List ByteArray) := match sep.data.toList with
  | [b] => if s.size < 4294967281 then some (Lib.splitB ⟨#[b]⟩ 0 (Lib.countB s ⟨#[b]⟩) s) else none
  | _ => none
theorem g_Split_ok (s sep : ByteArray) {r : List ByteArray} (hM : g_Split s sep = some r) (O : Heap) (tk : Nat) : ACalls Go.Proofs.Tryd.prog 85 [.str s, .str sep] O tk (RetX O tk (fun v _ => VSs r v)) := by
  obtain ⟨⟨l⟩⟩ := sep
  unfold g_Split at hM
  split at hM
  · rename_i b hl
    have hl : l = [b] := hl
    subst hl
    split at hM
    · rename_i h
      cases hM
      have h1 : 1 ≤ (⟨#[b]⟩ : ByteArray).size := Nat.le_refl 1
      have hlen := Lib.splitB_all (⟨#[b]⟩ : ByteArray) h1 0 _ s rfl
      have hle := Lib.countB_le (⟨#[b]⟩ : ByteArray) h1 s.size s (Nat.le_refl _)
      refine (acalls_texts (O := O) (tk := tk) (ls := Lib.splitB ⟨#[b]⟩ 0 (Lib.countB s ⟨#[b]⟩) s) (T := 9) (fun q => by rw [q] at hlen; simp at hlen) (by rw [hlen]; show _ ≤ 9223372036854775807; omega)
        ⟨_, _, Go.Proofs.Tryd.func85, rfl, rfl⟩ (fun S us h1 h2 => us_str_str h1 h2) fun w => ?_).mono fun out O' tk' q => ?_
      · rw [hlen]; exact splitC s b w h
      · obtain ⟨a, b', c⟩ := q
        exact ⟨a, by omega, _, b', 1, false, rfl⟩
    · cases hM
  · cases hM

end Go.Am.YtlbofhoehollfaaDoor
