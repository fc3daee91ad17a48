/- Printed by a program of ours: Lean functions that do what the Go functions do, and the contracts. -/
import Derived.Test.YtlbofhoehollfaaDoorMl0
import Derived.Test.YtlbofhoehollfaaDoorMl1
import Derived.Test.YtlbofhoehollfaaDoorTypes
import Derived.Test.YtlbofhoehollfaaDoorDkCode
-- packed
namespace Go.Am.YtlbofhoehollfaaDoor
open Go Go.Am

def w_FnExactCodeOf (n : Nat) (t1 : ByteArray) : Option Bool :=
 if (t1.size : Int) > 1048576 then
  some true
 else
  (s_CodeOf n t1).bind fun r3 =>
  (i_CodeOf n t1).bind fun r10 =>
  if (r10 != r3) = true then
   some false
  else
   some true

set_option maxRecDepth 100000 in
theorem w_FnExactCodeOf_ok (n : Nat) : ∀ (t1 : ByteArray) {r : Bool}, w_FnExactCodeOf n t1 = some r → ∀ (O : Heap) (tk : Nat), ACalls Go.Proofs.Tryd.prog 5 [.str t1] O tk (RetX O tk (fun v tk' => v = .bool r)) := by
 intro t1 r hM O tk
 unfold w_FnExactCodeOf at hM
 refine acalls_of_run Go.Proofs.Tryd.func5 rfl rfl [] [] (Bor.nil _) [(0, .str t1)] (.cons (entS rfl) (.nil _)) (leb rfl) (fun _ h => by cases h) (fun S0 hO htk hfz => ?_)
 refine run_sr ?_
 refine mvR rfl rfl rfl rfl (ltb rfl) ?_
 refine run_ops_nil ?_
 refine run_seq ?_
 refine run_sr ?_
 refine mvL rfl rfl rfl rfl (ltb rfl) ?_
 refine run_pu rfl (len_step hG rfl rfl rfl rfl) rfl (ltb rfl) ?_
 refine run_bin rfl rfl rfl rfl rfl rfl rfl (ltb rfl) ?_
 refine run_ops_nil ?_
 refine run_ifd rfl rfl (fun hb2 => ?_) (fun hb2 => ?_)
 ·replace hM := ite_t hb2 hM
  refine run_sr ?_
  refine mvR rfl rfl rfl rfl (ltb rfl) ?_
  refine run_ops_nil ?_
  refine run_ret_to ?_
  obtain rfl := some_t hM
  refine fin_x hG rfl rfl rfl (v' := .bool true) (by rfl) ⟨rfl, (show tk ≤ tk by omega), _, rfl, rfl⟩
 ·replace hM := ite_f hb2 hM
  refine run_skip ?_
  refine run_sr ?_
  refine mvL rfl rfl rfl rfl (ltb rfl) ?_
  obtain ⟨r3, hg4, hM⟩ := bind_t hM
  refine run_call rfl rfl rfl (ltb rfl) rfl rfl rfl (fun _ h => absurd h List.not_mem_nil) (s_CodeOf_ok n t1 hg4 _ _) (callK_retX (fun v tk5 (hle6 : tk ≤ tk5) h7 => ?_))
  subst h7
  refine mvR rfl rfl rfl rfl (ltb rfl) ?_
  refine run_ops_nil ?_
  refine run_sr ?_
  refine mvL rfl rfl rfl rfl (ltb rfl) ?_
  obtain ⟨r10, hg11, hM⟩ := bind_t hM
  refine run_call rfl rfl rfl (ltb rfl) rfl rfl rfl (fun _ h => absurd h List.not_mem_nil) (i_CodeOf_ok n t1 hg11 _ _) (callK_retX (fun v tk12 (hle13 : tk5 ≤ tk12) h14 => ?_))
  subst h14
  refine mvR rfl rfl rfl rfl (ltb rfl) ?_
  refine run_ops_nil ?_
  refine run_seq ?_
  refine run_sr ?_
  refine mvL rfl rfl rfl rfl (ltb rfl) ?_
  refine mvL rfl rfl rfl rfl (ltb rfl) ?_
  refine run_bin rfl rfl rfl rfl rfl rfl rfl (ltb rfl) ?_
  refine run_ops_nil ?_
  refine run_ifb rfl rfl (fun hb17 => ?_) (fun hb17 => ?_)
  ·replace hM := ite_t hb17 hM
   refine run_sr ?_
   refine mvR rfl rfl rfl rfl (ltb rfl) ?_
   refine run_ops_nil ?_
   refine run_ret_to ?_
   obtain rfl := some_t hM
   refine fin_x hG rfl rfl rfl (v' := .bool false) (by rfl) ⟨rfl, (show tk ≤ tk12 by omega), _, rfl, rfl⟩
  ·replace hM := ite_f hb17 hM
   refine run_skip ?_
   refine run_sr ?_
   refine mvR rfl rfl rfl rfl (ltb rfl) ?_
   refine run_ops_nil ?_
   refine run_ret_to ?_
   obtain rfl := some_t hM
   refine fin_x hG rfl rfl rfl (v' := .bool true) (by rfl) ⟨rfl, (show tk ≤ tk12 by omega), _, rfl, rfl⟩

end Go.Am.YtlbofhoehollfaaDoor
