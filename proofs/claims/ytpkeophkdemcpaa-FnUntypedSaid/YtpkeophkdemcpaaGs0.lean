/- Where draws begin: a source over given bytes. -/
import Derived.Test.YtpkeophkdemcpaaTypes
import Derived.Test.YtpkeophkdemcpaaMt
import Derived.WalkKit
import Derived.ProofKit
namespace Go.Proofs.Ytpkeophkdemcpaa.Src
open Go.RowKit
theorem calls (w : World) (ad : Option Addr) (n c : Nat) :
  Calls Try.prog 49 #[.slice ad n c] w fun e w' => e = .returned (.pointer (some ⟨w.heap.size, 0, none⟩)) ∧ w' = w.alloc (.cells #[.slice ad n c, .int .i64 0, .int .i64 (Int.tmod n 1000)] 156) := by
 go_enter Try.func49, Try.ntmps49
 go_wp2
 go_ret
 exact ⟨rfl, rfl⟩
end Go.Proofs.Ytpkeophkdemcpaa.Src
namespace Go.Am.Ytpkeophkdemcpaa
open Go Go.Am
theorem s_l00Source_box (q : Nat) (f : Bool) (xs : List Int) (O : Heap) (tk : Nat) : ACalls Go.Proofs.Try.prog 49 [.imm q 1 f ((xs : List Int).map fun n => [AV.int .u8 n])] O tk
  (fun out _ _ => out = .box ⟨156, 3, true, [[.imm q 1 f ((xs : List Int).map fun n => [AV.int .u8 n]), .int .i64 0, .int .i64 (Int.tmod ((xs).length : Int) 1000)]]⟩) := by
 have h := acalls_box3 (P := Go.Proofs.Try.prog) (f := 49) (O := O) (tk := tk) (T := 156) (q := q) (fl := f) (es := (xs : List Int).map fun n => [AV.int .u8 n]) (a := 0) (b := Int.tmod ((xs).length : Int) 1000)
  ⟨_, _, Go.Proofs.Try.func49, rfl, rfl⟩ (fun w ad c => by
   have := Go.Proofs.Ytpkeophkdemcpaa.Src.calls w ad xs.length c
   rw [List.length_map]
   exact this)
 exact h
end Go.Am.Ytpkeophkdemcpaa
