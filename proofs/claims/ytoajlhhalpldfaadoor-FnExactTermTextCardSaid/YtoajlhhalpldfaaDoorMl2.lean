/- strconv.Itoa of this program. -/
import Derived.Test.YtoajlhhalpldfaaDoorTypes
import Derived.Test.YtoajlhhalpldfaaDoorMb0
import Derived.WalkKit
import Derived.Lib.AppendIntMem
import Derived.Shelf.Strconv.Itoa3
namespace Go.Am.YtoajlhhalpldfaaDoor
open Go Go.Am Go.Shelf Go.Proofs Go.RowKit

def ren171 : Ren := ⟨fun | 171 => 42 | 243 => 48 | 246 => 52 | 283 => 62 | 284 => 63 | 285 => 64 | 286 => 65 | 129 => 72 | 317 => 71 | 318 => 73 | 319 => 74 | 320 => 75 | 337 => 80 | 338 => 81 | n => n, fun | 3 => 3 | 9 => 9 | 2 => 2 | 4 => 4 | 171 => 76 | 0 => 0 | 53 => 77 | 37 => 58 | 5 => 5 | 173 => 80 | 212 => 87 | 51 => 88 | 20 => 20 | 213 => 89 | 46 => 90 | 232 => 100 | 233 => 101 | n => n, fun | 17 => 0 | 18 => 4 | 19 => 5 | n => n⟩
theorem lays171b : Lays.n171 Go.Proofs.Tryd.prog ren171 where
 mixed := by kernel_rfl
 f129 := Go.Proofs.Tryd.func72.trans (congrArg some (by kernel_rfl))
 f171 := Go.Proofs.Tryd.func42.trans (congrArg some (by kernel_rfl))
 f243 := Go.Proofs.Tryd.func48.trans (congrArg some (by kernel_rfl))
 f246 := Go.Proofs.Tryd.func52.trans (congrArg some (by kernel_rfl))
 f283 := Go.Proofs.Tryd.func62.trans (congrArg some (by kernel_rfl))
 f284 := Go.Proofs.Tryd.func63.trans (congrArg some (by kernel_rfl))
 f285 := Go.Proofs.Tryd.func64.trans (congrArg some (by kernel_rfl))
 f286 := Go.Proofs.Tryd.func65.trans (congrArg some (by kernel_rfl))
 f317 := Go.Proofs.Tryd.func71.trans (congrArg some (by kernel_rfl))
 f318 := Go.Proofs.Tryd.func73.trans (congrArg some (by kernel_rfl))
 f319 := Go.Proofs.Tryd.func74.trans (congrArg some (by kernel_rfl))
 f320 := Go.Proofs.Tryd.func75.trans (congrArg some (by kernel_rfl))
 f337 := Go.Proofs.Tryd.func80.trans (congrArg some (by kernel_rfl))
 f338 := Go.Proofs.Tryd.func81.trans (congrArg some (by kernel_rfl))
 t0 := Go.Proofs.Tryd.underlying0
 a0 := Go.Proofs.Tryd.isAgg0
 z0 := Go.Proofs.Tryd.sizeOf0
 v0 := Go.Proofs.Tryd.zeroValue0
 t2 := Go.Proofs.Tryd.underlying2
 a2 := Go.Proofs.Tryd.isAgg2
 z2 := Go.Proofs.Tryd.sizeOf2
 v2 := Go.Proofs.Tryd.zeroValue2
 t3 := Go.Proofs.Tryd.underlying3
 a3 := Go.Proofs.Tryd.isAgg3
 z3 := Go.Proofs.Tryd.sizeOf3
 v3 := Go.Proofs.Tryd.zeroValue3
 t4 := Go.Proofs.Tryd.underlying4
 a4 := Go.Proofs.Tryd.isAgg4
 z4 := Go.Proofs.Tryd.sizeOf4
 v4 := Go.Proofs.Tryd.zeroValue4
 t5 := Go.Proofs.Tryd.underlying5
 a5 := Go.Proofs.Tryd.isAgg5
 z5 := Go.Proofs.Tryd.sizeOf5
 v5 := Go.Proofs.Tryd.zeroValue5
 t9 := Go.Proofs.Tryd.underlying9
 a9 := Go.Proofs.Tryd.isAgg9
 z9 := Go.Proofs.Tryd.sizeOf9
 v9 := Go.Proofs.Tryd.zeroValue9
 t20 := Go.Proofs.Tryd.underlying20
 a20 := Go.Proofs.Tryd.isAgg20
 z20 := Go.Proofs.Tryd.sizeOf20
 v20 := Go.Proofs.Tryd.zeroValue20
 t37 := Go.Proofs.Tryd.underlying58
 a37 := Go.Proofs.Tryd.isAgg58
 z37 := Go.Proofs.Tryd.sizeOf58
 v37 := Go.Proofs.Tryd.zeroValue58
 t46 := Go.Proofs.Tryd.underlying90
 a46 := Go.Proofs.Tryd.isAgg90
 z46 := Go.Proofs.Tryd.sizeOf90
 v46 := Go.Proofs.Tryd.zeroValue90
 t51 := Go.Proofs.Tryd.underlying88
 a51 := Go.Proofs.Tryd.isAgg88
 z51 := Go.Proofs.Tryd.sizeOf88
 v51 := Go.Proofs.Tryd.zeroValue88
 t53 := Go.Proofs.Tryd.underlying77
 a53 := Go.Proofs.Tryd.isAgg77
 z53 := Go.Proofs.Tryd.sizeOf77
 v53 := Go.Proofs.Tryd.zeroValue77
 t171 := Go.Proofs.Tryd.underlying76
 a171 := Go.Proofs.Tryd.isAgg76
 z171 := Go.Proofs.Tryd.sizeOf76
 v171 := Go.Proofs.Tryd.zeroValue76
 t173 := Go.Proofs.Tryd.underlying80
 a173 := Go.Proofs.Tryd.isAgg80
 z173 := Go.Proofs.Tryd.sizeOf80
 v173 := Go.Proofs.Tryd.zeroValue80
 t212 := Go.Proofs.Tryd.underlying87
 a212 := Go.Proofs.Tryd.isAgg87
 z212 := Go.Proofs.Tryd.sizeOf87
 v212 := Go.Proofs.Tryd.zeroValue87
 t213 := Go.Proofs.Tryd.underlying89
 a213 := Go.Proofs.Tryd.isAgg89
 z213 := Go.Proofs.Tryd.sizeOf89
 t232 := Go.Proofs.Tryd.underlying100
 a232 := Go.Proofs.Tryd.isAgg100
 z232 := Go.Proofs.Tryd.sizeOf100
 v232 := Go.Proofs.Tryd.zeroValue100
 t233 := Go.Proofs.Tryd.underlying101
 a233 := Go.Proofs.Tryd.isAgg101
 z233 := Go.Proofs.Tryd.sizeOf101
 v233 := Go.Proofs.Tryd.zeroValue101
 g17 := by kernel_rfl
 g18 := by kernel_rfl
 g19 := by kernel_rfl
theorem lays171 : LaysM.n171 Go.Proofs.Tryd.prog ren171 where
 ton171 := lays171b
 i0 := by kernel_rfl
 i2 := by kernel_rfl
 i3 := by kernel_rfl
 i4 := by kernel_rfl
 i5 := by kernel_rfl
 i9 := by kernel_rfl
 i20 := by kernel_rfl
 i37 := by kernel_rfl
 i46 := by kernel_rfl
 i51 := by kernel_rfl
 i53 := by kernel_rfl
 i171 := by kernel_rfl
 i173 := by kernel_rfl
 i212 := by kernel_rfl
 i232 := by kernel_rfl
 i233 := by kernel_rfl
 m17 := by kernel_rfl
 m18 := by kernel_rfl
 m19 := by kernel_rfl

theorem itoaC (n : Int) (h0 : -9223372036854775808 ≤ n) (h1 : n ≤ 9223372036854775807) (w : World) (hi : Lib.TabIs Go.Proofs.Tryd.prog w "internal/strconv.uint64pow10" .u64 Lib.pow10Tab) :
  Calls Go.Proofs.Tryd.prog 42 #[.int .i64 n] w fun e w' => e = .returned (.string ⟨(Lib.itoa n).toArray⟩) ∧ Below w.heap.size w w' :=
 (Any.strconv_Itoa lays171 n h0 h1 w hi).mono fun e w' ⟨h, k, os, hw⟩ => ⟨h, hw ▸ Lib.below_grow _ _ (Nat.le_refl _) _ _⟩

theorem acalls_belowI {P : Program} {f : FuncId} {args : List AV} {O : Heap} {tk : Nat} {v : AV} {us0 : Array Value} {u : Value}
  (hb : ∃ fn c, P.funcs[f]? = some fn ∧ (fn.name == "runtime.NumGoroutine") = false ∧ fn.body = some c)
  (ha : ∀ (S : Sit) (us : Array Value), us.size = args.length → (∀ j v, args[j]? = some v → Arg S v (us.getD j undef)) → us = us0) (hv : ∀ S, RepC S v u)
  (h : ∀ (B : Nat) (w : World), Inv B w → Calls P f us0 w fun e w' => e = .returned u ∧ Below w.heap.size w w') : ACalls P f args O tk (RetN O v tk) := by
 refine ⟨hb, fun S us h1 h2 h3 hI _ h4 h5 => ?_⟩
 rw [ha S us h4 h5]
 refine (h S.B0 S.w hI).mono fun e w' ⟨q1, q2⟩ => ?_
 obtain ⟨k1, k2⟩ := below_ext h3 q2
 exact ⟨.ret v, { S with w := w' }, rfl, k1, k2, ⟨u, q1, hv _⟩, h1, rfl, h2⟩

theorem us_one {a : Value} {us : Array Value} (h : us.size = 1) (h0 : us.getD 0 undef = a) : us = #[a] := by
 obtain ⟨l⟩ := us
 match l, h with
 | [x], _ => simp at h0; rw [h0]

def g_Itoa (n : Int) : Option ByteArray := if -9223372036854775808 ≤ n ∧ n ≤ 9223372036854775807 then some ⟨(Lib.itoa n).toArray⟩ else none
theorem g_Itoa_ok (n : Int) {r : ByteArray} (hM : g_Itoa n = some r) (O : Heap) (tk : Nat) : ACalls Go.Proofs.Tryd.prog 42 [.int .i64 n] O tk (RetX O tk (fun v _ => v = .str r)) := by
 unfold g_Itoa at hM
 split at hM
 ·rename_i h
  cases hM
  refine (acalls_belowI (O := O) (tk := tk) (v := .str _) ⟨_, _, Go.Proofs.Tryd.func42, rfl, rfl⟩ (us0 := #[.int .i64 n]) (args := [.int .i64 n]) (fun S us h1 h2 => us_one h1 (arg_int (h2 0 _ rfl))) (fun _ => .str _) fun B w hi => itoaC n h.1 h.2 w hi.here).mono fun out O' tk' q => ?_
  obtain ⟨a, b, c⟩ := q
  exact ⟨a, by omega, _, b, rfl⟩
 cases hM
end Go.Am.YtoajlhhalpldfaaDoor
