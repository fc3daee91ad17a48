/- strconv.Itoa of this program. -/
import Derived.Test.YtoajlhhalpldfaaGreatDoorTypes
import Derived.Test.YtoajlhhalpldfaaGreatDoorMb0
import Derived.WalkKit
import Derived.Lib.AppendIntMem
import Derived.Shelf.Strconv.Itoa3
namespace Go.Am.YtoajlhhalpldfaaGreatDoor
open Go Go.Am Go.Shelf Go.Proofs Go.RowKit

def ren171 : Ren := ⟨fun | 171 => 109 | 243 => 115 | 246 => 119 | 283 => 129 | 284 => 130 | 285 => 131 | 286 => 132 | 129 => 139 | 317 => 138 | 318 => 140 | 319 => 141 | 320 => 142 | 337 => 147 | 338 => 148 | n => n, fun | 3 => 3 | 9 => 9 | 2 => 2 | 4 => 4 | 171 => 123 | 0 => 0 | 53 => 124 | 37 => 22 | 5 => 5 | 173 => 127 | 212 => 133 | 51 => 134 | 20 => 20 | 213 => 135 | 46 => 136 | 232 => 146 | 233 => 147 | n => n, fun | 17 => 0 | 18 => 4 | 19 => 5 | n => n⟩
theorem lays171b : Lays.n171 Go.Proofs.Tryz.prog ren171 where
 mixed := by kernel_rfl
 f129 := Go.Proofs.Tryz.func139.trans (congrArg some (by kernel_rfl))
 f171 := Go.Proofs.Tryz.func109.trans (congrArg some (by kernel_rfl))
 f243 := Go.Proofs.Tryz.func115.trans (congrArg some (by kernel_rfl))
 f246 := Go.Proofs.Tryz.func119.trans (congrArg some (by kernel_rfl))
 f283 := Go.Proofs.Tryz.func129.trans (congrArg some (by kernel_rfl))
 f284 := Go.Proofs.Tryz.func130.trans (congrArg some (by kernel_rfl))
 f285 := Go.Proofs.Tryz.func131.trans (congrArg some (by kernel_rfl))
 f286 := Go.Proofs.Tryz.func132.trans (congrArg some (by kernel_rfl))
 f317 := Go.Proofs.Tryz.func138.trans (congrArg some (by kernel_rfl))
 f318 := Go.Proofs.Tryz.func140.trans (congrArg some (by kernel_rfl))
 f319 := Go.Proofs.Tryz.func141.trans (congrArg some (by kernel_rfl))
 f320 := Go.Proofs.Tryz.func142.trans (congrArg some (by kernel_rfl))
 f337 := Go.Proofs.Tryz.func147.trans (congrArg some (by kernel_rfl))
 f338 := Go.Proofs.Tryz.func148.trans (congrArg some (by kernel_rfl))
 t0 := Go.Proofs.Tryz.underlying0
 a0 := Go.Proofs.Tryz.isAgg0
 z0 := Go.Proofs.Tryz.sizeOf0
 v0 := Go.Proofs.Tryz.zeroValue0
 t2 := Go.Proofs.Tryz.underlying2
 a2 := Go.Proofs.Tryz.isAgg2
 z2 := Go.Proofs.Tryz.sizeOf2
 v2 := Go.Proofs.Tryz.zeroValue2
 t3 := Go.Proofs.Tryz.underlying3
 a3 := Go.Proofs.Tryz.isAgg3
 z3 := Go.Proofs.Tryz.sizeOf3
 v3 := Go.Proofs.Tryz.zeroValue3
 t4 := Go.Proofs.Tryz.underlying4
 a4 := Go.Proofs.Tryz.isAgg4
 z4 := Go.Proofs.Tryz.sizeOf4
 v4 := Go.Proofs.Tryz.zeroValue4
 t5 := Go.Proofs.Tryz.underlying5
 a5 := Go.Proofs.Tryz.isAgg5
 z5 := Go.Proofs.Tryz.sizeOf5
 v5 := Go.Proofs.Tryz.zeroValue5
 t9 := Go.Proofs.Tryz.underlying9
 a9 := Go.Proofs.Tryz.isAgg9
 z9 := Go.Proofs.Tryz.sizeOf9
 v9 := Go.Proofs.Tryz.zeroValue9
 t20 := Go.Proofs.Tryz.underlying20
 a20 := Go.Proofs.Tryz.isAgg20
 z20 := Go.Proofs.Tryz.sizeOf20
 v20 := Go.Proofs.Tryz.zeroValue20
 t37 := Go.Proofs.Tryz.underlying22
 a37 := Go.Proofs.Tryz.isAgg22
 z37 := Go.Proofs.Tryz.sizeOf22
 v37 := Go.Proofs.Tryz.zeroValue22
 t46 := Go.Proofs.Tryz.underlying136
 a46 := Go.Proofs.Tryz.isAgg136
 z46 := Go.Proofs.Tryz.sizeOf136
 v46 := Go.Proofs.Tryz.zeroValue136
 t51 := Go.Proofs.Tryz.underlying134
 a51 := Go.Proofs.Tryz.isAgg134
 z51 := Go.Proofs.Tryz.sizeOf134
 v51 := Go.Proofs.Tryz.zeroValue134
 t53 := Go.Proofs.Tryz.underlying124
 a53 := Go.Proofs.Tryz.isAgg124
 z53 := Go.Proofs.Tryz.sizeOf124
 v53 := Go.Proofs.Tryz.zeroValue124
 t171 := Go.Proofs.Tryz.underlying123
 a171 := Go.Proofs.Tryz.isAgg123
 z171 := Go.Proofs.Tryz.sizeOf123
 v171 := Go.Proofs.Tryz.zeroValue123
 t173 := Go.Proofs.Tryz.underlying127
 a173 := Go.Proofs.Tryz.isAgg127
 z173 := Go.Proofs.Tryz.sizeOf127
 v173 := Go.Proofs.Tryz.zeroValue127
 t212 := Go.Proofs.Tryz.underlying133
 a212 := Go.Proofs.Tryz.isAgg133
 z212 := Go.Proofs.Tryz.sizeOf133
 v212 := Go.Proofs.Tryz.zeroValue133
 t213 := Go.Proofs.Tryz.underlying135
 a213 := Go.Proofs.Tryz.isAgg135
 z213 := Go.Proofs.Tryz.sizeOf135
 t232 := Go.Proofs.Tryz.underlying146
 a232 := Go.Proofs.Tryz.isAgg146
 z232 := Go.Proofs.Tryz.sizeOf146
 v232 := Go.Proofs.Tryz.zeroValue146
 t233 := Go.Proofs.Tryz.underlying147
 a233 := Go.Proofs.Tryz.isAgg147
 z233 := Go.Proofs.Tryz.sizeOf147
 v233 := Go.Proofs.Tryz.zeroValue147
 g17 := by kernel_rfl
 g18 := by kernel_rfl
 g19 := by kernel_rfl
theorem lays171 : LaysM.n171 Go.Proofs.Tryz.prog ren171 where
 ton171 := lays171b
 i0 := by kernel_rfl
 i2 := by kernel_rfl
 i3 := by kernel_rfl
 i4 := by kernel_rfl
 i5 := by kernel_rfl
 i9 := by kernel_rfl
 i20 := by kernel_rfl
 i37 := by kernel_rfl
 i46 := by kernel_rfl
 i51 := by kernel_rfl
 i53 := by kernel_rfl
 i171 := by kernel_rfl
 i173 := by kernel_rfl
 i212 := by kernel_rfl
 i232 := by kernel_rfl
 i233 := by kernel_rfl
 m17 := by kernel_rfl
 m18 := by kernel_rfl
 m19 := by kernel_rfl


theorem itoaC (n : Int) (h0 : -9223372036854775808 ≤ n) (h1 : n ≤ 9223372036854775807) (w : World) (hi : Lib.TabIs Go.Proofs.Tryz.prog w "internal/strconv.uint64pow10" .u64 Lib.pow10Tab) :
  Calls Go.Proofs.Tryz.prog 109 #[.int .i64 n] w fun e w' => e = .returned (.string ⟨(Lib.itoa n).toArray⟩) ∧ Below w.heap.size w w' :=
 (Any.strconv_Itoa lays171 n h0 h1 w hi).mono fun e w' ⟨h, k, os, hw⟩ => ⟨h, hw ▸ Lib.below_grow _ _ (Nat.le_refl _) _ _⟩

theorem acalls_belowI {P : Program} {f : FuncId} {args : List AV} {O : Heap} {tk : Nat} {v : AV} {us0 : Array Value} {u : Value}
  (hb : ∃ fn c, P.funcs[f]? = some fn ∧ (fn.name == "runtime.NumGoroutine") = false ∧ fn.body = some c)
  (ha : ∀ (S : Sit) (us : Array Value), us.size = args.length → (∀ j v, args[j]? = some v → Arg S v (us.getD j undef)) → us = us0) (hv : ∀ S, RepC S v u)
  (h : ∀ (B : Nat) (w : World), Inv B w → Calls P f us0 w fun e w' => e = .returned u ∧ Below w.heap.size w w') : ACalls P f args O tk (RetN O v tk) := by
 refine ⟨hb, fun S us h1 h2 h3 hI _ h4 h5 => ?_⟩
 rw [ha S us h4 h5]
 refine (h S.B0 S.w hI).mono fun e w' ⟨q1, q2⟩ => ?_
 obtain ⟨k1, k2⟩ := below_ext h3 q2
 exact ⟨.ret v, { S with w := w' }, rfl, k1, k2, ⟨u, q1, hv _⟩, h1, rfl, h2⟩

theorem us_one {a : Value} {us : Array Value} (h : us.size = 1) (h0 : us.getD 0 undef = a) : us = #[a] := by
 obtain ⟨l⟩ := us
 match l, h with
 | [x], _ => simp at h0; rw [h0]

def g_Itoa (n : Int) : Option ByteArray := if -9223372036854775808 ≤ n ∧ n ≤ 9223372036854775807 then some ⟨(Lib.itoa n).toArray⟩ else none
theorem g_Itoa_ok (n : Int) {r : ByteArray} (hM : g_Itoa n = some r) (O : Heap) (tk : Nat) : ACalls Go.Proofs.Tryz.prog 109 [.int .i64 n] O tk (RetX O tk (fun v _ => v = .str r)) := by
 unfold g_Itoa at hM
 split at hM
 ·rename_i h
  cases hM
  refine (acalls_belowI (O := O) (tk := tk) (v := .str _) ⟨_, _, Go.Proofs.Tryz.func109, rfl, rfl⟩ (us0 := #[.int .i64 n]) (args := [.int .i64 n]) (fun S us h1 h2 => us_one h1 (arg_int (h2 0 _ rfl))) (fun _ => .str _) fun B w hi => itoaC n h.1 h.2 w hi.here).mono fun out O' tk' q => ?_
  obtain ⟨a, b, c⟩ := q
  exact ⟨a, by omega, _, b, rfl⟩
 cases hM
end Go.Am.YtoajlhhalpldfaaGreatDoor
