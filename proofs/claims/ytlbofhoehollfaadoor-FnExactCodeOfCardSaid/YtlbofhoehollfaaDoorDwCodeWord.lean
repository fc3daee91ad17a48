/- Printed by a program of ours: Lean functions that do what the Go functions do, and the contracts. -/
import Derived.Test.YtlbofhoehollfaaDoorMl0
import Derived.Test.YtlbofhoehollfaaDoorMl1
import Derived.Test.YtlbofhoehollfaaDoorTypes
import Derived.Test.YtlbofhoehollfaaDoorDkCode
-- packed
namespace Go.Am.YtlbofhoehollfaaDoor
open Go Go.Am

def w_FnExactCodeWord (i1 : Int) : Option Bool :=
 (s_CodeWord i1).bind fun r2 =>
 (i_CodeWord i1).bind fun r9 =>
 if (!(r9.toList == r2.toList)) = true then
  some false
 else
  some true

set_option maxRecDepth 100000 in
theorem w_FnExactCodeWord_ok : ∀ (i1 : Int) {r : Bool}, w_FnExactCodeWord i1 = some r → ∀ (O : Heap) (tk : Nat), ACalls Go.Proofs.Tryd.prog 4 [.int .i64 i1] O tk (RetX O tk (fun v tk' => v = .bool r)) := by
 intro i1 r hM O tk
 unfold w_FnExactCodeWord at hM
 refine acalls_of_run Go.Proofs.Tryd.func4 rfl rfl [] [] (Bor.nil _) [(0, .int .i64 i1)] (.cons (entS rfl) (.nil _)) (leb rfl) (fun _ h => by cases h) (fun S0 hO htk hfz => ?_)
 refine run_sr ?_
 refine mvR rfl rfl rfl rfl (ltb rfl) ?_
 refine run_ops_nil ?_
 refine run_sr ?_
 refine mvL rfl rfl rfl rfl (ltb rfl) ?_
 obtain ⟨r2, hg3, hM⟩ := bind_t hM
 refine run_call rfl rfl rfl (ltb rfl) rfl rfl rfl (fun _ h => absurd h List.not_mem_nil) (s_CodeWord_ok i1 hg3 _ _) (callK_retX (fun v tk4 (hle5 : tk ≤ tk4) h6 => ?_))
 subst h6
 refine mvR rfl rfl rfl rfl (ltb rfl) ?_
 refine run_ops_nil ?_
 refine run_sr ?_
 refine mvL rfl rfl rfl rfl (ltb rfl) ?_
 obtain ⟨r9, hg10, hM⟩ := bind_t hM
 refine run_call rfl rfl rfl (ltb rfl) rfl rfl rfl (fun _ h => absurd h List.not_mem_nil) (i_CodeWord_ok i1 hg10 _ _) (callK_retX (fun v tk11 (hle12 : tk4 ≤ tk11) h13 => ?_))
 subst h13
 refine mvR rfl rfl rfl rfl (ltb rfl) ?_
 refine run_ops_nil ?_
 refine run_seq ?_
 refine run_sr ?_
 refine mvL rfl rfl rfl rfl (ltb rfl) ?_
 refine mvL rfl rfl rfl rfl (ltb rfl) ?_
 refine run_bin rfl rfl rfl rfl rfl rfl rfl (ltb rfl) ?_
 refine run_ops_nil ?_
 refine run_ifb rfl rfl (fun hb16 => ?_) (fun hb16 => ?_)
 ·replace hM := ite_t hb16 hM
  refine run_sr ?_
  refine mvR rfl rfl rfl rfl (ltb rfl) ?_
  refine run_ops_nil ?_
  refine run_ret_to ?_
  obtain rfl := some_t hM
  refine fin_x hG rfl rfl rfl (v' := .bool false) (by rfl) ⟨rfl, (show tk ≤ tk11 by omega), _, rfl, rfl⟩
 ·replace hM := ite_f hb16 hM
  refine run_skip ?_
  refine run_sr ?_
  refine mvR rfl rfl rfl rfl (ltb rfl) ?_
  refine run_ops_nil ?_
  refine run_ret_to ?_
  obtain rfl := some_t hM
  refine fin_x hG rfl rfl rfl (v' := .bool true) (by rfl) ⟨rfl, (show tk ≤ tk11 by omega), _, rfl, rfl⟩

end Go.Am.YtlbofhoehollfaaDoor
