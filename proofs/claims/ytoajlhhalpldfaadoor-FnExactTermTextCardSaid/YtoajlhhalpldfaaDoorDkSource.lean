/- Printed by a program of ours: Lean functions that do what the Go functions do, and the contracts. -/
import Derived.Test.YtoajlhhalpldfaaDoorMl0
import Derived.Test.YtoajlhhalpldfaaDoorTypes
import Derived.Test.YtoajlhhalpldfaaDoorDkTerm
-- packed
namespace Go.Am.YtoajlhhalpldfaaDoor
open Go Go.Am

def i_sourceTerm (n : Nat) (x1 : T) : Option Bool :=
 (i_looker_term n (150, true) x1).bind fun r2 =>
 some r2.1

set_option maxRecDepth 100000 in
theorem i_sourceTerm_ok (n : Nat) : ∀ (k1 : Int) (n1 : Int) (s1 : ByteArray) (q1 : Nat) (f1 : Bool) (ks1 : List LT) {r : Bool}, i_sourceTerm n (T.mk k1 n1 s1 (ers ks1)) = some r → ∀ (O : Heap) (tk : Nat), ACalls Go.Proofs.Tryd.prog 16 [.agg [.int .i64 k1, .int .i64 n1, .str s1, .imm q1 4 f1 (cellss ks1)]] O tk (RetX O tk (fun v tk' => v = .bool r)) := by
 intro k1 n1 s1 q1 f1 ks1 r hM O tk
 unfold i_sourceTerm at hM
 refine acalls_of_run Go.Proofs.Tryd.func16 rfl rfl [] [] (Bor.nil _) [(0, .agg [.int .i64 k1, .int .i64 n1, .str s1, .imm q1 4 f1 (cellss ks1)])] (.cons (.agg _) (.nil _)) (leb rfl) (fun _ h => by cases h) (fun S0 hO htk hfz => ?_)
 refine run_sr ?_
 refine run_op rfl (box_step (d := 1) rfl rfl rfl rfl rfl) rfl (ltb rfl) ?_
 refine mvR rfl rfl rfl rfl (ltb rfl) ?_
 refine run_ops_nil ?_
 refine run_sr ?_
 refine run_pu rfl (build_step hG rfl (by rfl) rfl (fun h => by cases h) (by rfl)) rfl (ltb rfl) ?_
 refine run_op rfl (box_step (d := 4) rfl rfl rfl rfl rfl) rfl (ltb rfl) ?_
 refine run_ld hG rfl rfl rfl rfl rfl (ltb rfl) ?_
 obtain ⟨r2, hg3, hM⟩ := bind_t hM
 refine run_call rfl rfl rfl (ltb rfl) rfl rfl rfl (fun _ h => absurd h List.not_mem_nil) (i_looker_term_ok n (.loc 4) 150 true k1 n1 s1 q1 f1 ks1 hg3 _ _ rfl) (callK_retV_loc (k := 4) rfl (fun v o'12 tk4 (hle5 : tk ≤ tk4) h6 => ?_))
 obtain ⟨ra11, c9, c10, rfl, rfl, rfl⟩ := h6
 refine mvR rfl rfl rfl rfl (ltb rfl) ?_
 refine run_ops_nil ?_
 refine run_ret_to ?_
 replace hM := some_t hM
 subst hM
 refine fin_x hG rfl rfl rfl (v' := .bool ra11) (by rfl) ⟨rfl, (show tk ≤ tk4 by omega), _, rfl, rfl⟩

end Go.Am.YtoajlhhalpldfaaDoor
