/- Printed by a program of ours: Lean functions that do what the Go functions do, and the contracts. -/
import Derived.Test.YtiobknkpdkkikaaDoorMl0
import Derived.Test.YtiobknkpdkkikaaDoorMb1
import Derived.Test.YtiobknkpdkkikaaDoorMb3
import Derived.Test.YtiobknkpdkkikaaDoorTypes
import Derived.Test.YtiobknkpdkkikaaDoorMi4
import Derived.Test.YtiobknkpdkkikaaDoorMc1
import Derived.Test.YtiobknkpdkkikaaDoorPuA
import Derived.Test.YtiobknkpdkkikaaDoorEkDForm
-- packed
namespace Go.Am.YtiobknkpdkkikaaDoor
open Go Go.Am

set_option maxRecDepth 100000 in
theorem i_ruleOf_ex0 (i1 : Int) (h0' : i1 = 2) (O : Heap) (tk : Nat) : ACalls Go.Proofs.Tryd.prog 92 [.int .i64 i1] O tk (RetN O (.tup [.agg [.int .i64 2, .int .i64 2, .str ⟨#[97, 110, 100, 73]⟩, .fn (.func 129) [] [], .fn (.func 130) [] []], .bool true]) tk) := by
 refine acalls_of_run Go.Proofs.Tryd.func92 rfl rfl [] [] (Bor.nil _) [(0, .int .i64 i1)] (.cons (entS rfl) (.nil _)) (leb rfl) (fun _ h => by cases h) (fun S0 hO htk hfz => ?_)
 refine run_sr ?_
 refine run_op rfl (alloc_step (d := 2) hG rfl rfl rfl) rfl (ltb rfl) ?_
 refine mvR rfl rfl rfl rfl (ltb rfl) ?_
 refine run_ops_nil ?_
 refine run_sr ?_
 refine mvR rfl rfl rfl rfl (ltb rfl) ?_
 refine run_ops_nil ?_
 refine run_sr ?_
 refine mvR rfl rfl rfl rfl (ltb rfl) ?_
 refine run_ops_nil ?_
 refine run_sr ?_
 refine mvR rfl rfl rfl rfl (ltb rfl) ?_
 refine run_ops_nil ?_
 refine run_seq ?_
 refine run_sr ?_
 refine mvL rfl rfl rfl rfl (ltb rfl) ?_
 refine run_ops_nil ?_
 refine run_block ?_
 refine run_sr ?_
 refine run_bin rfl rfl rfl rfl rfl rfl rfl (ltb rfl) ?_
 refine mvR rfl rfl rfl rfl (ltb rfl) ?_
 refine run_ops_nil ?_
 refine run_ifd rfl rfl (fun _ => ?_) (fun h => absurd h0' h)
 refine run_sr ?_
 refine run_pu rfl (build_step hG rfl (by rfl) rfl (fun h => by cases h) (by rfl)) rfl (ltb rfl) ?_
 refine run_op0 rfl (store_step hG rfl rfl rfl rfl rfl rfl rfl rfl) rfl ?_
 refine mvR rfl rfl rfl rfl (ltb rfl) ?_
 refine run_ops_nil ?_
 refine run_ret_to ?_
 refine fin_x hG rfl rfl rfl (v' := .tup [.agg [.int .i64 2, .int .i64 2, .str ⟨#[97, 110, 100, 73]⟩, .fn (.func 129) [] [], .fn (.func 130) [] []], .bool true]) (by rfl) ⟨rfl, rfl, rfl⟩

set_option maxRecDepth 100000 in
theorem i_ruleOf_ex1 (i1 : Int) (h0' : ¬ (i1 = 2)) (h1' : i1 = 3) (O : Heap) (tk : Nat) : ACalls Go.Proofs.Tryd.prog 92 [.int .i64 i1] O tk (RetN O (.tup [.agg [.int .i64 2, .int .i64 1, .str ⟨#[102, 115, 116]⟩, .fn (.func 126) [] [], .fn (.func 127) [] []], .bool true]) tk) := by
 refine acalls_of_run Go.Proofs.Tryd.func92 rfl rfl [] [] (Bor.nil _) [(0, .int .i64 i1)] (.cons (entS rfl) (.nil _)) (leb rfl) (fun _ h => by cases h) (fun S0 hO htk hfz => ?_)
 refine run_sr ?_
 refine run_op rfl (alloc_step (d := 2) hG rfl rfl rfl) rfl (ltb rfl) ?_
 refine mvR rfl rfl rfl rfl (ltb rfl) ?_
 refine run_ops_nil ?_
 refine run_sr ?_
 refine mvR rfl rfl rfl rfl (ltb rfl) ?_
 refine run_ops_nil ?_
 refine run_sr ?_
 refine mvR rfl rfl rfl rfl (ltb rfl) ?_
 refine run_ops_nil ?_
 refine run_sr ?_
 refine mvR rfl rfl rfl rfl (ltb rfl) ?_
 refine run_ops_nil ?_
 refine run_seq ?_
 refine run_sr ?_
 refine mvL rfl rfl rfl rfl (ltb rfl) ?_
 refine run_ops_nil ?_
 refine run_block ?_
 refine run_sr ?_
 refine run_bin rfl rfl rfl rfl rfl rfl rfl (ltb rfl) ?_
 refine mvR rfl rfl rfl rfl (ltb rfl) ?_
 refine run_ops_nil ?_
 refine run_ifd rfl rfl (fun h => absurd h h0') (fun _ => ?_)
 refine run_sr ?_
 refine run_bin rfl rfl rfl rfl rfl rfl rfl (ltb rfl) ?_
 refine mvR rfl rfl rfl rfl (ltb rfl) ?_
 refine run_ops_nil ?_
 refine run_ifd rfl rfl (fun _ => ?_) (fun h => absurd h1' h)
 refine run_sr ?_
 refine mvL rfl rfl rfl rfl (ltb rfl) ?_
 refine mvL rfl rfl rfl rfl (ltb rfl) ?_
 refine run_pu rfl (build_step hG rfl (by rfl) rfl (fun h => by cases h) (by rfl)) rfl (ltb rfl) ?_
 refine run_op0 rfl (store_step hG rfl rfl rfl rfl rfl rfl rfl rfl) rfl ?_
 refine mvR rfl rfl rfl rfl (ltb rfl) ?_
 refine run_ops_nil ?_
 refine run_ret_to ?_
 refine fin_x hG rfl rfl rfl (v' := .tup [.agg [.int .i64 2, .int .i64 1, .str ⟨#[102, 115, 116]⟩, .fn (.func 126) [] [], .fn (.func 127) [] []], .bool true]) (by rfl) ⟨rfl, rfl, rfl⟩

set_option maxRecDepth 100000 in
theorem i_ruleOf_ex2 (i1 : Int) (h0' : ¬ (i1 = 2)) (h1' : ¬ (i1 = 3)) (h2' : i1 = 4) (O : Heap) (tk : Nat) : ACalls Go.Proofs.Tryd.prog 92 [.int .i64 i1] O tk (RetN O (.tup [.agg [.int .i64 2, .int .i64 1, .str ⟨#[115, 110, 100]⟩, .fn (.func 126) [] [], .fn (.func 128) [] []], .bool true]) tk) := by
 refine acalls_of_run Go.Proofs.Tryd.func92 rfl rfl [] [] (Bor.nil _) [(0, .int .i64 i1)] (.cons (entS rfl) (.nil _)) (leb rfl) (fun _ h => by cases h) (fun S0 hO htk hfz => ?_)
 refine run_sr ?_
 refine run_op rfl (alloc_step (d := 2) hG rfl rfl rfl) rfl (ltb rfl) ?_
 refine mvR rfl rfl rfl rfl (ltb rfl) ?_
 refine run_ops_nil ?_
 refine run_sr ?_
 refine mvR rfl rfl rfl rfl (ltb rfl) ?_
 refine run_ops_nil ?_
 refine run_sr ?_
 refine mvR rfl rfl rfl rfl (ltb rfl) ?_
 refine run_ops_nil ?_
 refine run_sr ?_
 refine mvR rfl rfl rfl rfl (ltb rfl) ?_
 refine run_ops_nil ?_
 refine run_seq ?_
 refine run_sr ?_
 refine mvL rfl rfl rfl rfl (ltb rfl) ?_
 refine run_ops_nil ?_
 refine run_block ?_
 refine run_sr ?_
 refine run_bin rfl rfl rfl rfl rfl rfl rfl (ltb rfl) ?_
 refine mvR rfl rfl rfl rfl (ltb rfl) ?_
 refine run_ops_nil ?_
 refine run_ifd rfl rfl (fun h => absurd h h0') (fun _ => ?_)
 refine run_sr ?_
 refine run_bin rfl rfl rfl rfl rfl rfl rfl (ltb rfl) ?_
 refine mvR rfl rfl rfl rfl (ltb rfl) ?_
 refine run_ops_nil ?_
 refine run_ifd rfl rfl (fun h => absurd h h1') (fun _ => ?_)
 refine run_sr ?_
 refine run_bin rfl rfl rfl rfl rfl rfl rfl (ltb rfl) ?_
 refine mvR rfl rfl rfl rfl (ltb rfl) ?_
 refine run_ops_nil ?_
 refine run_ifd rfl rfl (fun _ => ?_) (fun h => absurd h2' h)
 refine run_sr ?_
 refine mvL rfl rfl rfl rfl (ltb rfl) ?_
 refine mvL rfl rfl rfl rfl (ltb rfl) ?_
 refine run_pu rfl (build_step hG rfl (by rfl) rfl (fun h => by cases h) (by rfl)) rfl (ltb rfl) ?_
 refine run_op0 rfl (store_step hG rfl rfl rfl rfl rfl rfl rfl rfl) rfl ?_
 refine mvR rfl rfl rfl rfl (ltb rfl) ?_
 refine run_ops_nil ?_
 refine run_ret_to ?_
 refine fin_x hG rfl rfl rfl (v' := .tup [.agg [.int .i64 2, .int .i64 1, .str ⟨#[115, 110, 100]⟩, .fn (.func 126) [] [], .fn (.func 128) [] []], .bool true]) (by rfl) ⟨rfl, rfl, rfl⟩

set_option maxRecDepth 100000 in
theorem i_ruleOf_ex3 (i1 : Int) (h0' : ¬ (i1 = 2)) (h1' : ¬ (i1 = 3)) (h2' : ¬ (i1 = 4)) (h3' : i1 = 5) (O : Heap) (tk : Nat) : ACalls Go.Proofs.Tryd.prog 92 [.int .i64 i1] O tk (RetN O (.tup [.agg [.int .i64 2, .int .i64 1, .str ⟨#[102, 117, 110, 73]⟩, .fn (.func 131) [] [], .fn (.func 132) [] []], .bool true]) tk) := by
 refine acalls_of_run Go.Proofs.Tryd.func92 rfl rfl [] [] (Bor.nil _) [(0, .int .i64 i1)] (.cons (entS rfl) (.nil _)) (leb rfl) (fun _ h => by cases h) (fun S0 hO htk hfz => ?_)
 refine run_sr ?_
 refine run_op rfl (alloc_step (d := 2) hG rfl rfl rfl) rfl (ltb rfl) ?_
 refine mvR rfl rfl rfl rfl (ltb rfl) ?_
 refine run_ops_nil ?_
 refine run_sr ?_
 refine mvR rfl rfl rfl rfl (ltb rfl) ?_
 refine run_ops_nil ?_
 refine run_sr ?_
 refine mvR rfl rfl rfl rfl (ltb rfl) ?_
 refine run_ops_nil ?_
 refine run_sr ?_
 refine mvR rfl rfl rfl rfl (ltb rfl) ?_
 refine run_ops_nil ?_
 refine run_seq ?_
 refine run_sr ?_
 refine mvL rfl rfl rfl rfl (ltb rfl) ?_
 refine run_ops_nil ?_
 refine run_block ?_
 refine run_sr ?_
 refine run_bin rfl rfl rfl rfl rfl rfl rfl (ltb rfl) ?_
 refine mvR rfl rfl rfl rfl (ltb rfl) ?_
 refine run_ops_nil ?_
 refine run_ifd rfl rfl (fun h => absurd h h0') (fun _ => ?_)
 refine run_sr ?_
 refine run_bin rfl rfl rfl rfl rfl rfl rfl (ltb rfl) ?_
 refine mvR rfl rfl rfl rfl (ltb rfl) ?_
 refine run_ops_nil ?_
 refine run_ifd rfl rfl (fun h => absurd h h1') (fun _ => ?_)
 refine run_sr ?_
 refine run_bin rfl rfl rfl rfl rfl rfl rfl (ltb rfl) ?_
 refine mvR rfl rfl rfl rfl (ltb rfl) ?_
 refine run_ops_nil ?_
 refine run_ifd rfl rfl (fun h => absurd h h2') (fun _ => ?_)
 refine run_sr ?_
 refine run_bin rfl rfl rfl rfl rfl rfl rfl (ltb rfl) ?_
 refine mvR rfl rfl rfl rfl (ltb rfl) ?_
 refine run_ops_nil ?_
 refine run_ifd rfl rfl (fun _ => ?_) (fun h => absurd h3' h)
 refine run_sr ?_
 refine run_pu rfl (build_step hG rfl (by rfl) rfl (fun h => by cases h) (by rfl)) rfl (ltb rfl) ?_
 refine run_op0 rfl (store_step hG rfl rfl rfl rfl rfl rfl rfl rfl) rfl ?_
 refine mvR rfl rfl rfl rfl (ltb rfl) ?_
 refine run_ops_nil ?_
 refine run_ret_to ?_
 refine fin_x hG rfl rfl rfl (v' := .tup [.agg [.int .i64 2, .int .i64 1, .str ⟨#[102, 117, 110, 73]⟩, .fn (.func 131) [] [], .fn (.func 132) [] []], .bool true]) (by rfl) ⟨rfl, rfl, rfl⟩

set_option maxRecDepth 100000 in
theorem i_ruleOf_ex4 (i1 : Int) (h0' : ¬ (i1 = 2)) (h1' : ¬ (i1 = 3)) (h2' : ¬ (i1 = 4)) (h3' : ¬ (i1 = 5)) (h4' : i1 = 6) (O : Heap) (tk : Nat) : ACalls Go.Proofs.Tryd.prog 92 [.int .i64 i1] O tk (RetN O (.tup [.agg [.int .i64 2, .int .i64 2, .str ⟨#[117, 115, 101]⟩, .fn (.func 133) [] [], .fn (.func 128) [] []], .bool true]) tk) := by
 refine acalls_of_run Go.Proofs.Tryd.func92 rfl rfl [] [] (Bor.nil _) [(0, .int .i64 i1)] (.cons (entS rfl) (.nil _)) (leb rfl) (fun _ h => by cases h) (fun S0 hO htk hfz => ?_)
 refine run_sr ?_
 refine run_op rfl (alloc_step (d := 2) hG rfl rfl rfl) rfl (ltb rfl) ?_
 refine mvR rfl rfl rfl rfl (ltb rfl) ?_
 refine run_ops_nil ?_
 refine run_sr ?_
 refine mvR rfl rfl rfl rfl (ltb rfl) ?_
 refine run_ops_nil ?_
 refine run_sr ?_
 refine mvR rfl rfl rfl rfl (ltb rfl) ?_
 refine run_ops_nil ?_
 refine run_sr ?_
 refine mvR rfl rfl rfl rfl (ltb rfl) ?_
 refine run_ops_nil ?_
 refine run_seq ?_
 refine run_sr ?_
 refine mvL rfl rfl rfl rfl (ltb rfl) ?_
 refine run_ops_nil ?_
 refine run_block ?_
 refine run_sr ?_
 refine run_bin rfl rfl rfl rfl rfl rfl rfl (ltb rfl) ?_
 refine mvR rfl rfl rfl rfl (ltb rfl) ?_
 refine run_ops_nil ?_
 refine run_ifd rfl rfl (fun h => absurd h h0') (fun _ => ?_)
 refine run_sr ?_
 refine run_bin rfl rfl rfl rfl rfl rfl rfl (ltb rfl) ?_
 refine mvR rfl rfl rfl rfl (ltb rfl) ?_
 refine run_ops_nil ?_
 refine run_ifd rfl rfl (fun h => absurd h h1') (fun _ => ?_)
 refine run_sr ?_
 refine run_bin rfl rfl rfl rfl rfl rfl rfl (ltb rfl) ?_
 refine mvR rfl rfl rfl rfl (ltb rfl) ?_
 refine run_ops_nil ?_
 refine run_ifd rfl rfl (fun h => absurd h h2') (fun _ => ?_)
 refine run_sr ?_
 refine run_bin rfl rfl rfl rfl rfl rfl rfl (ltb rfl) ?_
 refine mvR rfl rfl rfl rfl (ltb rfl) ?_
 refine run_ops_nil ?_
 refine run_ifd rfl rfl (fun h => absurd h h3') (fun _ => ?_)
 refine run_sr ?_
 refine run_bin rfl rfl rfl rfl rfl rfl rfl (ltb rfl) ?_
 refine mvR rfl rfl rfl rfl (ltb rfl) ?_
 refine run_ops_nil ?_
 refine run_ifd rfl rfl (fun _ => ?_) (fun h => absurd h4' h)
 refine run_sr ?_
 refine mvL rfl rfl rfl rfl (ltb rfl) ?_
 refine run_pu rfl (build_step hG rfl (by rfl) rfl (fun h => by cases h) (by rfl)) rfl (ltb rfl) ?_
 refine run_op0 rfl (store_step hG rfl rfl rfl rfl rfl rfl rfl rfl) rfl ?_
 refine mvR rfl rfl rfl rfl (ltb rfl) ?_
 refine run_ops_nil ?_
 refine run_ret_to ?_
 refine fin_x hG rfl rfl rfl (v' := .tup [.agg [.int .i64 2, .int .i64 2, .str ⟨#[117, 115, 101]⟩, .fn (.func 133) [] [], .fn (.func 128) [] []], .bool true]) (by rfl) ⟨rfl, rfl, rfl⟩

set_option maxRecDepth 100000 in
theorem i_ruleOf_ex5 (i1 : Int) (h0' : ¬ (i1 = 2)) (h1' : ¬ (i1 = 3)) (h2' : ¬ (i1 = 4)) (h3' : ¬ (i1 = 5)) (h4' : ¬ (i1 = 6)) (h5' : i1 = 7) (O : Heap) (tk : Nat) : ACalls Go.Proofs.Tryd.prog 92 [.int .i64 i1] O tk (RetN O (.tup [.agg [.int .i64 1, .int .i64 1, .str ⟨#[98, 111, 116, 69]⟩, .fn (.func 134) [] [], .fn (.func 127) [] []], .bool true]) tk) := by
 refine acalls_of_run Go.Proofs.Tryd.func92 rfl rfl [] [] (Bor.nil _) [(0, .int .i64 i1)] (.cons (entS rfl) (.nil _)) (leb rfl) (fun _ h => by cases h) (fun S0 hO htk hfz => ?_)
 refine run_sr ?_
 refine run_op rfl (alloc_step (d := 2) hG rfl rfl rfl) rfl (ltb rfl) ?_
 refine mvR rfl rfl rfl rfl (ltb rfl) ?_
 refine run_ops_nil ?_
 refine run_sr ?_
 refine mvR rfl rfl rfl rfl (ltb rfl) ?_
 refine run_ops_nil ?_
 refine run_sr ?_
 refine mvR rfl rfl rfl rfl (ltb rfl) ?_
 refine run_ops_nil ?_
 refine run_sr ?_
 refine mvR rfl rfl rfl rfl (ltb rfl) ?_
 refine run_ops_nil ?_
 refine run_seq ?_
 refine run_sr ?_
 refine mvL rfl rfl rfl rfl (ltb rfl) ?_
 refine run_ops_nil ?_
 refine run_block ?_
 refine run_sr ?_
 refine run_bin rfl rfl rfl rfl rfl rfl rfl (ltb rfl) ?_
 refine mvR rfl rfl rfl rfl (ltb rfl) ?_
 refine run_ops_nil ?_
 refine run_ifd rfl rfl (fun h => absurd h h0') (fun _ => ?_)
 refine run_sr ?_
 refine run_bin rfl rfl rfl rfl rfl rfl rfl (ltb rfl) ?_
 refine mvR rfl rfl rfl rfl (ltb rfl) ?_
 refine run_ops_nil ?_
 refine run_ifd rfl rfl (fun h => absurd h h1') (fun _ => ?_)
 refine run_sr ?_
 refine run_bin rfl rfl rfl rfl rfl rfl rfl (ltb rfl) ?_
 refine mvR rfl rfl rfl rfl (ltb rfl) ?_
 refine run_ops_nil ?_
 refine run_ifd rfl rfl (fun h => absurd h h2') (fun _ => ?_)
 refine run_sr ?_
 refine run_bin rfl rfl rfl rfl rfl rfl rfl (ltb rfl) ?_
 refine mvR rfl rfl rfl rfl (ltb rfl) ?_
 refine run_ops_nil ?_
 refine run_ifd rfl rfl (fun h => absurd h h3') (fun _ => ?_)
 refine run_sr ?_
 refine run_bin rfl rfl rfl rfl rfl rfl rfl (ltb rfl) ?_
 refine mvR rfl rfl rfl rfl (ltb rfl) ?_
 refine run_ops_nil ?_
 refine run_ifd rfl rfl (fun h => absurd h h4') (fun _ => ?_)
 refine run_sr ?_
 refine run_bin rfl rfl rfl rfl rfl rfl rfl (ltb rfl) ?_
 refine mvR rfl rfl rfl rfl (ltb rfl) ?_
 refine run_ops_nil ?_
 refine run_ifd rfl rfl (fun _ => ?_) (fun h => absurd h5' h)
 refine run_sr ?_
 refine mvL rfl rfl rfl rfl (ltb rfl) ?_
 refine run_pu rfl (build_step hG rfl (by rfl) rfl (fun h => by cases h) (by rfl)) rfl (ltb rfl) ?_
 refine run_op0 rfl (store_step hG rfl rfl rfl rfl rfl rfl rfl rfl) rfl ?_
 refine mvR rfl rfl rfl rfl (ltb rfl) ?_
 refine run_ops_nil ?_
 refine run_ret_to ?_
 refine fin_x hG rfl rfl rfl (v' := .tup [.agg [.int .i64 1, .int .i64 1, .str ⟨#[98, 111, 116, 69]⟩, .fn (.func 134) [] [], .fn (.func 127) [] []], .bool true]) (by rfl) ⟨rfl, rfl, rfl⟩

set_option maxRecDepth 100000 in
theorem i_ruleOf_ex6 (i1 : Int) (h0' : ¬ (i1 = 2)) (h1' : ¬ (i1 = 3)) (h2' : ¬ (i1 = 4)) (h3' : ¬ (i1 = 5)) (h4' : ¬ (i1 = 6)) (h5' : ¬ (i1 = 7)) (O : Heap) (tk : Nat) : ACalls Go.Proofs.Tryd.prog 92 [.int .i64 i1] O tk (RetN O (.tup [.agg [.int .i64 0, .int .i64 0, .str ⟨#[]⟩, .nilfn, .nilfn], .bool false]) tk) := by
 refine acalls_of_run Go.Proofs.Tryd.func92 rfl rfl [] [] (Bor.nil _) [(0, .int .i64 i1)] (.cons (entS rfl) (.nil _)) (leb rfl) (fun _ h => by cases h) (fun S0 hO htk hfz => ?_)
 refine run_sr ?_
 refine run_op rfl (alloc_step (d := 2) hG rfl rfl rfl) rfl (ltb rfl) ?_
 refine mvR rfl rfl rfl rfl (ltb rfl) ?_
 refine run_ops_nil ?_
 refine run_sr ?_
 refine mvR rfl rfl rfl rfl (ltb rfl) ?_
 refine run_ops_nil ?_
 refine run_sr ?_
 refine mvR rfl rfl rfl rfl (ltb rfl) ?_
 refine run_ops_nil ?_
 refine run_sr ?_
 refine mvR rfl rfl rfl rfl (ltb rfl) ?_
 refine run_ops_nil ?_
 refine run_seq ?_
 refine run_sr ?_
 refine mvL rfl rfl rfl rfl (ltb rfl) ?_
 refine run_ops_nil ?_
 refine run_block ?_
 refine run_sr ?_
 refine run_bin rfl rfl rfl rfl rfl rfl rfl (ltb rfl) ?_
 refine mvR rfl rfl rfl rfl (ltb rfl) ?_
 refine run_ops_nil ?_
 refine run_ifd rfl rfl (fun h => absurd h h0') (fun _ => ?_)
 refine run_sr ?_
 refine run_bin rfl rfl rfl rfl rfl rfl rfl (ltb rfl) ?_
 refine mvR rfl rfl rfl rfl (ltb rfl) ?_
 refine run_ops_nil ?_
 refine run_ifd rfl rfl (fun h => absurd h h1') (fun _ => ?_)
 refine run_sr ?_
 refine run_bin rfl rfl rfl rfl rfl rfl rfl (ltb rfl) ?_
 refine mvR rfl rfl rfl rfl (ltb rfl) ?_
 refine run_ops_nil ?_
 refine run_ifd rfl rfl (fun h => absurd h h2') (fun _ => ?_)
 refine run_sr ?_
 refine run_bin rfl rfl rfl rfl rfl rfl rfl (ltb rfl) ?_
 refine mvR rfl rfl rfl rfl (ltb rfl) ?_
 refine run_ops_nil ?_
 refine run_ifd rfl rfl (fun h => absurd h h3') (fun _ => ?_)
 refine run_sr ?_
 refine run_bin rfl rfl rfl rfl rfl rfl rfl (ltb rfl) ?_
 refine mvR rfl rfl rfl rfl (ltb rfl) ?_
 refine run_ops_nil ?_
 refine run_ifd rfl rfl (fun h => absurd h h4') (fun _ => ?_)
 refine run_sr ?_
 refine run_bin rfl rfl rfl rfl rfl rfl rfl (ltb rfl) ?_
 refine mvR rfl rfl rfl rfl (ltb rfl) ?_
 refine run_ops_nil ?_
 refine run_ifd rfl rfl (fun h => absurd h h5') (fun _ => ?_)
 refine run_skip ?_
 refine run_blk ?_
 refine run_sr ?_
 refine run_pu rfl (build_step hG rfl (by rfl) rfl (fun h => by cases h) (by rfl)) rfl (ltb rfl) ?_
 refine run_op0 rfl (store_step hG rfl rfl rfl rfl rfl rfl rfl rfl) rfl ?_
 refine mvR rfl rfl rfl rfl (ltb rfl) ?_
 refine run_ops_nil ?_
 refine run_ret_to ?_
 refine fin_x hG rfl rfl rfl (v' := .tup [.agg [.int .i64 0, .int .i64 0, .str ⟨#[]⟩, .nilfn, .nilfn], .bool false]) (by rfl) ⟨rfl, rfl, rfl⟩

def i_readProof_L4 (rec_i_readKid : Int → T → Int → Option (Rz Pf)) (x1 : T) (i2 : Int) (i7 : Int) (i10 : Int) : Nat → Int → List Pf → Option (Rz Pf)
 | 0, _, _ => none
 | m + 1, i138, l139 =>
  if i138 < (((lsub x1.kids i10 ((x1.kids).length : Int))).length : Int) then
   (idx (lsub x1.kids i10 ((x1.kids).length : Int)) i138).bind fun y141 =>
   zb (rec_i_readKid i7 y141 i2) fun r146 =>
   chk ((l139).length + ([r146]).length ≤ 1099511627776) <|
   i_readProof_L4 rec_i_readKid x1 i2 i7 i10 m (IntKind.i64.wrap (i138 + 1)) (l139 ++ [r146])
  else
   some (.ok (Pf.mk i7 0 [] l139))

def i_readProof_L3 (rec_i_readKid : Int → T → Int → Option (Rz Pf)) (x1 : T) (i2 : Int) (i7 : Int) (i10 : Int) (l24 : List F) : Nat → Int → List Pf → Option (Rz Pf)
 | 0, _, _ => none
 | m + 1, i53, l54 =>
  if i53 < (((lsub x1.kids i10 ((x1.kids).length : Int))).length : Int) then
   (idx (lsub x1.kids i10 ((x1.kids).length : Int)) i53).bind fun y56 =>
   zb (rec_i_readKid i7 y56 i2) fun r61 =>
   chk ((l54).length + ([r61]).length ≤ 1099511627776) <|
   i_readProof_L3 rec_i_readKid x1 i2 i7 i10 l24 m (IntKind.i64.wrap (i53 + 1)) (l54 ++ [r61])
  else
   some (.ok (Pf.mk i7 0 l24 l54))

def i_readProof_L2 (rec_i_readKid : Int → T → Int → Option (Rz Pf)) (n : Nat) (x1 : T) (i2 : Int) (i7 : Int) (i10 : Int) : Nat → Int → List F → Option (Rz Pf)
 | 0, _, _ => none
 | m + 1, i23, l24 =>
  if i23 < (((lsub x1.kids 0 i10)).length : Int) then
   (idx (lsub x1.kids 0 i10) i23).bind fun y26 =>
   zb (i_readForm n y26) fun r31 =>
   chk ((l24).length + ([r31]).length ≤ 1099511627776) <|
   i_readProof_L2 rec_i_readKid n x1 i2 i7 i10 m (IntKind.i64.wrap (i23 + 1)) (l24 ++ [r31])
  else
   chk ((0 : Int) ≤ i10 ∧ i10 ≤ ((x1.kids).length : Int) ∧ ((x1.kids).length : Int) ≤ ((x1.kids).length : Int)) <|
   if 0 < (((lsub x1.kids i10 ((x1.kids).length : Int))).length : Int) then
    (idx (lsub x1.kids i10 ((x1.kids).length : Int)) 0).bind fun y83 =>
    zb (rec_i_readKid i7 y83 i2) fun r88 =>
    chk ((([] : List Pf)).length + ([r88]).length ≤ 1099511627776) <|
    i_readProof_L3 rec_i_readKid x1 i2 i7 i10 l24 n (IntKind.i64.wrap (0 + 1)) (([] : List Pf) ++ [r88])
   else
    some (.ok (Pf.mk i7 0 l24 []))

def i_readProof_L1 (rec_i_readKid : Int → T → Int → Option (Rz Pf)) (n : Nat) (x1 : T) (i2 : Int) : Nat → Int → Option (Rz Pf)
 | 0, _ => none
 | m + 1, i7 =>
  if i7 ≤ 7 then
   jn (fun (i10 : Int) (i11 : Int) (t12 : ByteArray) =>
    if (x1.kind != 6) = true then
     i_readProof_L1 rec_i_readKid n x1 i2 m (IntKind.i64.wrap (i7 + 1))
    else
     if (!(x1.name.toList == t12.toList)) = true then
      i_readProof_L1 rec_i_readKid n x1 i2 m (IntKind.i64.wrap (i7 + 1))
     else
      if (((x1.kids).length : Int) != (IntKind.i64.wrap (i10 + i11))) = true then
       i_readProof_L1 rec_i_readKid n x1 i2 m (IntKind.i64.wrap (i7 + 1))
      else
       chk ((0 : Int) ≤ 0 ∧ 0 ≤ i10 ∧ i10 ≤ ((x1.kids).length : Int)) <|
       if 0 < (((lsub x1.kids 0 i10)).length : Int) then
        (idx (lsub x1.kids 0 i10) 0).bind fun y111 =>
        zb (i_readForm n y111) fun r116 =>
        chk ((([] : List F)).length + ([r116]).length ≤ 1099511627776) <|
        i_readProof_L2 rec_i_readKid n x1 i2 i7 i10 n (IntKind.i64.wrap (0 + 1)) (([] : List F) ++ [r116])
       else
        chk ((0 : Int) ≤ i10 ∧ i10 ≤ ((x1.kids).length : Int) ∧ ((x1.kids).length : Int) ≤ ((x1.kids).length : Int)) <|
        if 0 < (((lsub x1.kids i10 ((x1.kids).length : Int))).length : Int) then
         (idx (lsub x1.kids i10 ((x1.kids).length : Int)) 0).bind fun y168 =>
         zb (rec_i_readKid i7 y168 i2) fun r173 =>
         chk ((([] : List Pf)).length + ([r173]).length ≤ 1099511627776) <|
         i_readProof_L4 rec_i_readKid x1 i2 i7 i10 n (IntKind.i64.wrap (0 + 1)) (([] : List Pf) ++ [r173])
        else
         some (.ok (Pf.mk i7 0 [] []))) fun j9 =>
   if i7 = 2 then
    j9 2 2 (⟨#[97, 110, 100, 73]⟩)
   else
    if i7 = 3 then
     j9 2 1 (⟨#[102, 115, 116]⟩)
    else
     if i7 = 4 then
      j9 2 1 (⟨#[115, 110, 100]⟩)
     else
      if i7 = 5 then
       j9 2 1 (⟨#[102, 117, 110, 73]⟩)
      else
       if i7 = 6 then
        j9 2 2 (⟨#[117, 115, 101]⟩)
       else
        if i7 = 7 then
         j9 1 1 (⟨#[98, 111, 116, 69]⟩)
        else
         j9 0 0 (⟨#[]⟩)
  else
   some (.stop 3 0)

mutual

def i_readProof : Nat → T → Int → Option (Rz Pf)
 | 0, _, _ => none
 | n + 1, x1, i2 =>
  jn (
   i_readProof_L1 (i_readKid n) n x1 i2 n 2) fun j3 =>
  if x1.kind = 5 then
   if ((x1.kids).length : Int) = 0 then
    if x1.n < i2 then
     some (.ok (Pf.mk 1 x1.n [] []))
    else
     j3
   else
    j3
  else
   j3

def i_readKid : Nat → Int → T → Int → Option (Rz Pf)
 | 0, _, _, _ => none
 | n + 1, i1, x2, i3 =>
  if (i1 != 5) = true then
   zb (i_readProof n x2 i3) fun r5 =>
   some (.ok r5)
  else
   if (x2.kind != 4) = true then
    some (.stop 3 0)
   else
    (idx x2.kids 0).bind fun y15 =>
    zb (i_readProof n y15 (IntKind.i64.wrap (i3 + 1))) fun r20 =>
    some (.ok r20)

end

set_option maxHeartbeats 2000000 in
set_option maxRecDepth 100000 in
theorem i_readProof_st (n : Nat) (ih_i_readKid : ∀ (i1 : Int) (k2 : Int) (n2 : Int) (s2 : ByteArray) (q2 : Nat) (f2 : Bool) (ks2 : List LT) (i3 : Int) {r : (Rz Pf)}, i_readKid n i1 (T.mk k2 n2 s2 (ers ks2)) i3 = some r → ∀ (O : Heap) (tk : Nat), ACalls Go.Proofs.Tryd.prog 93 [.int .i64 i1, .agg [.int .i64 k2, .int .i64 n2, .str s2, .imm q2 4 f2 (cellss ks2)], .int .i64 i3] O tk (RetZ HT O tk r (fun r v tk' => VP true tk tk' r v))) : ∀ (k1 : Int) (n1 : Int) (s1 : ByteArray) (q1 : Nat) (f1 : Bool) (ks1 : List LT) (i2 : Int) {r : (Rz Pf)}, i_readProof (n + 1) (T.mk k1 n1 s1 (ers ks1)) i2 = some r → ∀ (O : Heap) (tk : Nat), ACalls Go.Proofs.Tryd.prog 46 [.agg [.int .i64 k1, .int .i64 n1, .str s1, .imm q1 4 f1 (cellss ks1)], .int .i64 i2] O tk (RetZ HT O tk r (fun r v tk' => VP true tk tk' r v)) := by
 intro k1 n1 s1 q1 f1 ks1 i2 r hM O tk
 rw [i_readProof] at hM
 refine acalls_of_run Go.Proofs.Tryd.func46 rfl rfl [] [] (Bor.nil _) [(0, .agg [.int .i64 k1, .int .i64 n1, .str s1, .imm q1 4 f1 (cellss ks1)]), (1, .int .i64 i2)] (.cons (.agg _) (.cons (entS rfl) (.nil _))) (leb rfl) (fun _ h => by cases h) (fun S0 hO htk hfz => ?_)
 refine run_sr ?_
 refine run_op rfl (box_step (d := 2) rfl rfl rfl rfl rfl) rfl (ltb rfl) ?_
 refine run_op rfl (alloc_step (d := 4) hG rfl rfl rfl) rfl (ltb rfl) ?_
 refine run_ops_nil ?_
 refine run_seq ?_
 refine run_seq ?_
 obtain ⟨j3, hj200, hM⟩ := jn_t hM
 refine run_cutL [.code _, .code _] (fun σ' => ∃ (tkj3 : Nat), tk ≤ tkj3 ∧ j3 = some r ∧ Sub ⟨Go.Proofs.Tryd.prog, S0, Go.Proofs.Tryd.f46.ntmps, [], fun _ => False, []⟩ σ' ⟨[(1, .int .i64 i2), (2, .optr (.loc 2) 0 0), (4, .optr (.loc 4) 0 0)], [(4, ⟨29, 4, true, [[.int .i64 0, .int .i64 0, .imm 0 3 true [], .imm 0 4 true []]]⟩), (2, ⟨34, 4, true, [[.int .i64 k1, .int .i64 n1, .str s1, .imm q1 4 f1 (cellss ks1)]]⟩)], [], O, tkj3⟩) rfl ?_ ?_
 ·refine run_region ?_
  refine run_pu rfl (fieldAddr_step hG rfl rfl rfl rfl rfl) rfl (ltb rfl) ?_
  refine run_ld hG rfl rfl rfl rfl rfl (ltb rfl) ?_
  refine run_bin rfl rfl rfl rfl rfl rfl rfl (ltb rfl) ?_
  refine mvL rfl rfl rfl rfl (ltb rfl) ?_
  refine run_splitd (i := 16) rfl (fun hb4 => ?_) (fun hb4 => ?_)
  ·replace hM := ite_t hb4 hM
   refine run_puG (on_of rfl rfl rfl rfl) (fieldAddr_step hG rfl rfl rfl rfl rfl) rfl (ltb rfl) ?_
   refine run_rdG (on_of rfl rfl rfl rfl) (aload_rd hG rfl rfl rfl (by first | (simp [ldok]; done) | exact List.not_mem_nil | trivial)) rfl (ltb rfl) ?_
   refine run_puG (on_of rfl rfl rfl rfl) (lenImm_step hG rfl rfl rfl rfl (tlen _)) rfl (ltb rfl) ?_
   refine run_puG (on_of rfl rfl rfl rfl) (abin_step rfl rfl rfl rfl (fun _ h => by cases h)) rfl (ltb rfl) ?_
   refine run_pu rfl (pick_step rfl rfl rfl) rfl (ltb rfl) ?_
   refine mvL rfl rfl rfl rfl (ltb rfl) ?_
   refine run_splitd (i := 22) rfl (fun hb5 => ?_) (fun hb5 => ?_)
   ·replace hM := ite_t hb5 hM
    refine run_puG (on_of rfl rfl rfl rfl) (fieldAddr_step hG rfl rfl rfl rfl rfl) rfl (ltb rfl) ?_
    refine run_rdG (on_of rfl rfl rfl rfl) (aload_rd hG rfl rfl rfl (by first | (simp [ldok]; done) | exact List.not_mem_nil | trivial)) rfl (ltb rfl) ?_
    refine run_puG (on_of rfl rfl rfl rfl) (move_step (.inl rfl) rfl) rfl (ltb rfl) ?_
    refine run_puG (on_of rfl rfl rfl rfl) (abin_step rfl rfl rfl rfl (fun _ h => by cases h)) rfl (ltb rfl) ?_
    refine run_pu rfl (pick_step rfl rfl rfl) rfl (ltb rfl) ?_
    refine run_ops_nil ?_
    refine run_sub_code (σ' := ⟨[(1, .int .i64 i2), (2, .optr (.loc 2) 0 0), (4, .optr (.loc 4) 0 0), (27, .bool (decide (n1 < i2)))], [(4, ⟨29, 4, true, [[.int .i64 0, .int .i64 0, .imm 0 3 true [], .imm 0 4 true []]]⟩), (2, ⟨34, 4, true, [[.int .i64 k1, .int .i64 n1, .str s1, .imm q1 4 f1 (cellss ks1)]]⟩)], [], O, tk⟩) (Sub.env _ ⟨rfl, rfl, rfl, rfl, trivial⟩) ?_
    refine run_ifd rfl rfl (fun hb6 => ?_) (fun hb6 => ?_)
    ·replace hM := ite_t hb6 hM
     refine run_sr ?_
     refine run_pu rfl (fieldAddr_step hG rfl rfl rfl rfl rfl) rfl (ltb rfl) ?_
     refine run_ld hG rfl rfl rfl rfl rfl (ltb rfl) ?_
     refine run_pu rfl (build_step hG rfl (by rfl) rfl (fun h => by cases h) (by rfl)) rfl (ltb rfl) ?_
     refine run_op0 rfl (store_step hG rfl rfl rfl rfl rfl rfl rfl rfl) rfl ?_
     refine run_ops_nil ?_
     refine run_ret_to ?_
     refine cut_ret ?_
     obtain rfl := some_t hM
     refine fin_x hG rfl rfl rfl (v' := .agg [.int .i64 1, .int .i64 n1, .imm 0 3 true (fcellss []), .imm 0 4 true (pcellss [])]) (by rfl) ⟨rfl, (show tk ≤ tk by omega), _, rfl, ⟨1, n1, 0, true, [], 0, true, [], rfl, rfl, fun _ => Fr.nil _ _⟩⟩
    ·replace hM := ite_f hb6 hM
     refine run_skip ?_
     exact ⟨tk, (show tk ≤ tk by omega), hM, Sub.env [(1, .int .i64 i2), (2, .optr (.loc 2) 0 0), (4, .optr (.loc 4) 0 0)] ⟨rfl, rfl, rfl, trivial⟩⟩
   ·replace hM := ite_f hb5 hM
    refine run_off (on_of rfl rfl rfl rfl) rfl (ltb rfl) ?_
    refine run_off (on_of rfl rfl rfl rfl) rfl (ltb rfl) ?_
    refine run_off (on_of rfl rfl rfl rfl) rfl (ltb rfl) ?_
    refine run_off (on_of rfl rfl rfl rfl) rfl (ltb rfl) ?_
    refine run_pu rfl (pick_step rfl rfl rfl) rfl (ltb rfl) ?_
    refine run_ops_nil ?_
    refine run_if rfl rfl (fun h => by cases h) (fun _ => ?_)
    refine run_skip ?_
    exact ⟨tk, (show tk ≤ tk by omega), hM, Sub.env [(1, .int .i64 i2), (2, .optr (.loc 2) 0 0), (4, .optr (.loc 4) 0 0)] ⟨rfl, rfl, rfl, trivial⟩⟩
  ·replace hM := ite_f hb4 hM
   refine run_off (on_of rfl rfl rfl rfl) rfl (ltb rfl) ?_
   refine run_off (on_of rfl rfl rfl rfl) rfl (ltb rfl) ?_
   refine run_off (on_of rfl rfl rfl rfl) rfl (ltb rfl) ?_
   refine run_off (on_of rfl rfl rfl rfl) rfl (ltb rfl) ?_
   refine run_pu rfl (pick_step rfl rfl rfl) rfl (ltb rfl) ?_
   refine mvL rfl rfl rfl rfl (ltb rfl) ?_
   refine run_off (on_of rfl rfl rfl rfl) rfl (ltb rfl) ?_
   refine run_off (on_of rfl rfl rfl rfl) rfl (ltb rfl) ?_
   refine run_off (on_of rfl rfl rfl rfl) rfl (ltb rfl) ?_
   refine run_off (on_of rfl rfl rfl rfl) rfl (ltb rfl) ?_
   refine run_pu rfl (pick_step rfl rfl rfl) rfl (ltb rfl) ?_
   refine run_ops_nil ?_
   refine run_if rfl rfl (fun h => by cases h) (fun _ => ?_)
   refine run_skip ?_
   exact ⟨tk, (show tk ≤ tk by omega), hM, Sub.env [(1, .int .i64 i2), (2, .optr (.loc 2) 0 0), (4, .optr (.loc 4) 0 0)] ⟨rfl, rfl, rfl, trivial⟩⟩
 ·clear hM
  rintro σ' ⟨tkj3, hle199, hM, hsub⟩
  rw [hj200] at hM
  clear hj200
  refine run_sub_code hsub ?_
  refine run_seq ?_
  refine run_sr ?_
  refine mvR rfl rfl rfl rfl (ltb rfl) ?_
  refine run_ops_nil ?_
  refine run_block ?_
  refine run_rounds (fun m σ => ∃ (i7 : Int) (tki_readProof_L1 : Nat), tkj3 ≤ tki_readProof_L1 ∧ i_readProof_L1 (i_readKid n) n (T.mk k1 n1 s1 (ers ks1)) i2 m i7 = some r ∧ σ = ⟨[(1, .int .i64 i2), (2, .optr (.loc 2) 0 0), (4, .optr (.loc 4) 0 0), (5, .int .i64 i7)], [(4, ⟨29, 4, true, [[.int .i64 0, .int .i64 0, .imm 0 3 true [], .imm 0 4 true []]]⟩), (2, ⟨34, 4, true, [[.int .i64 k1, .int .i64 n1, .str s1, .imm q1 4 f1 (cellss ks1)]]⟩)], [], O, tki_readProof_L1⟩) n (Sub.env [(1, .int .i64 i2), (2, .optr (.loc 2) 0 0), (4, .optr (.loc 4) 0 0), (5, .int .i64 2)] ⟨rfl, rfl, rfl, rfl, trivial⟩) ⟨2, tkj3, Nat.le_refl _, hM, rfl⟩ (fun m σ hI => ?_)
  clear hM
  obtain ⟨i7, tki_readProof_L1, hle198, hM, rfl⟩ := hI
  obtain _ | m := m
  ·exact absurd hM (by rw [i_readProof_L1]; exact fun h => by cases h)
  rw [i_readProof_L1] at hM
  try rw [tkids] at hM
  repeat rw [ers_sub] at hM
  refine run_seq ?_
  refine run_sr ?_
  refine mvL rfl rfl rfl rfl (ltb rfl) ?_
  refine run_bin rfl rfl rfl rfl rfl rfl rfl (ltb rfl) ?_
  refine run_ops_nil ?_
  refine run_ifd rfl rfl (fun hb8 => ?_) (fun hb8 => ?_)
  ·replace hM := ite_t hb8 hM
   refine run_skip ?_
   refine run_seq ?_
   refine run_block ?_
   refine run_seq ?_
   obtain ⟨j9, hj197, hM⟩ := jn_t hM
   refine run_cutL [.code _] (fun σ' => ∃ (i10 : Int) (i11 : Int) (t12 : ByteArray) (tkj9 : Nat), tki_readProof_L1 ≤ tkj9 ∧ j9 i10 i11 t12 = some r ∧ Sub ⟨Go.Proofs.Tryd.prog, S0, Go.Proofs.Tryd.f46.ntmps, [], fun _ => False, []⟩ σ' ⟨[(1, .int .i64 i2), (2, .optr (.loc 2) 0 0), (4, .optr (.loc 4) 0 0), (5, .int .i64 i7), (6, .optr (.loc 6) 0 0)], [(6, ⟨114, 5, true, [[.int .i64 i10, .int .i64 i11, .str t12, .jnk, .jnk]]⟩), (4, ⟨29, 4, true, [[.int .i64 0, .int .i64 0, .imm 0 3 true [], .imm 0 4 true []]]⟩), (2, ⟨34, 4, true, [[.int .i64 k1, .int .i64 n1, .str s1, .imm q1 4 f1 (cellss ks1)]]⟩)], [], O, tkj9⟩) rfl ?_ ?_
   ·refine run_region ?_
    refine mvL rfl rfl rfl rfl (ltb rfl) ?_
    by_cases hb13 : i7 = 2
    ·replace hM := ite_t hb13 hM
     refine run_call rfl rfl rfl (ltb rfl) rfl rfl rfl (fun _ h => absurd h List.not_mem_nil) (i_ruleOf_ex0 i7 hb13 _ _) (callK_retN ?_)
     refine mvL rfl rfl rfl rfl (ltb rfl) ?_
     refine run_pu rfl (extract_step rfl rfl rfl) rfl (ltb rfl) ?_
     refine run_pu rfl (extract_step rfl rfl rfl) rfl (ltb rfl) ?_
     refine run_op rfl (alloc_step (d := 6) hG rfl rfl rfl) rfl (ltb rfl) ?_
     refine run_op0 rfl (store_step hG rfl rfl rfl rfl rfl rfl rfl rfl) rfl ?_
     refine mvR rfl rfl rfl rfl (ltb rfl) ?_
     refine run_ops_nil ?_
     exact ⟨2, 2, ⟨#[97, 110, 100, 73]⟩, tki_readProof_L1, (show tki_readProof_L1 ≤ tki_readProof_L1 by omega), hM, Sub.trans (Sub.jnk (k := 6) rfl (.keep (.keep (.keep (.jnk (.jnk .nil)))))) (Sub.env [(1, .int .i64 i2), (2, .optr (.loc 2) 0 0), (4, .optr (.loc 4) 0 0), (5, .int .i64 i7), (6, .optr (.loc 6) 0 0)] ⟨rfl, rfl, rfl, rfl, rfl, trivial⟩)⟩
    ·replace hM := ite_f hb13 hM
     by_cases hb14 : i7 = 3
     ·replace hM := ite_t hb14 hM
      refine run_call rfl rfl rfl (ltb rfl) rfl rfl rfl (fun _ h => absurd h List.not_mem_nil) (i_ruleOf_ex1 i7 hb13 hb14 _ _) (callK_retN ?_)
      refine mvL rfl rfl rfl rfl (ltb rfl) ?_
      refine run_pu rfl (extract_step rfl rfl rfl) rfl (ltb rfl) ?_
      refine run_pu rfl (extract_step rfl rfl rfl) rfl (ltb rfl) ?_
      refine run_op rfl (alloc_step (d := 6) hG rfl rfl rfl) rfl (ltb rfl) ?_
      refine run_op0 rfl (store_step hG rfl rfl rfl rfl rfl rfl rfl rfl) rfl ?_
      refine mvR rfl rfl rfl rfl (ltb rfl) ?_
      refine run_ops_nil ?_
      exact ⟨2, 1, ⟨#[102, 115, 116]⟩, tki_readProof_L1, (show tki_readProof_L1 ≤ tki_readProof_L1 by omega), hM, Sub.trans (Sub.jnk (k := 6) rfl (.keep (.keep (.keep (.jnk (.jnk .nil)))))) (Sub.env [(1, .int .i64 i2), (2, .optr (.loc 2) 0 0), (4, .optr (.loc 4) 0 0), (5, .int .i64 i7), (6, .optr (.loc 6) 0 0)] ⟨rfl, rfl, rfl, rfl, rfl, trivial⟩)⟩
     ·replace hM := ite_f hb14 hM
      by_cases hb15 : i7 = 4
      ·replace hM := ite_t hb15 hM
       refine run_call rfl rfl rfl (ltb rfl) rfl rfl rfl (fun _ h => absurd h List.not_mem_nil) (i_ruleOf_ex2 i7 hb13 hb14 hb15 _ _) (callK_retN ?_)
       refine mvL rfl rfl rfl rfl (ltb rfl) ?_
       refine run_pu rfl (extract_step rfl rfl rfl) rfl (ltb rfl) ?_
       refine run_pu rfl (extract_step rfl rfl rfl) rfl (ltb rfl) ?_
       refine run_op rfl (alloc_step (d := 6) hG rfl rfl rfl) rfl (ltb rfl) ?_
       refine run_op0 rfl (store_step hG rfl rfl rfl rfl rfl rfl rfl rfl) rfl ?_
       refine mvR rfl rfl rfl rfl (ltb rfl) ?_
       refine run_ops_nil ?_
       exact ⟨2, 1, ⟨#[115, 110, 100]⟩, tki_readProof_L1, (show tki_readProof_L1 ≤ tki_readProof_L1 by omega), hM, Sub.trans (Sub.jnk (k := 6) rfl (.keep (.keep (.keep (.jnk (.jnk .nil)))))) (Sub.env [(1, .int .i64 i2), (2, .optr (.loc 2) 0 0), (4, .optr (.loc 4) 0 0), (5, .int .i64 i7), (6, .optr (.loc 6) 0 0)] ⟨rfl, rfl, rfl, rfl, rfl, trivial⟩)⟩
      ·replace hM := ite_f hb15 hM
       by_cases hb16 : i7 = 5
       ·replace hM := ite_t hb16 hM
        refine run_call rfl rfl rfl (ltb rfl) rfl rfl rfl (fun _ h => absurd h List.not_mem_nil) (i_ruleOf_ex3 i7 hb13 hb14 hb15 hb16 _ _) (callK_retN ?_)
        refine mvL rfl rfl rfl rfl (ltb rfl) ?_
        refine run_pu rfl (extract_step rfl rfl rfl) rfl (ltb rfl) ?_
        refine run_pu rfl (extract_step rfl rfl rfl) rfl (ltb rfl) ?_
        refine run_op rfl (alloc_step (d := 6) hG rfl rfl rfl) rfl (ltb rfl) ?_
        refine run_op0 rfl (store_step hG rfl rfl rfl rfl rfl rfl rfl rfl) rfl ?_
        refine mvR rfl rfl rfl rfl (ltb rfl) ?_
        refine run_ops_nil ?_
        exact ⟨2, 1, ⟨#[102, 117, 110, 73]⟩, tki_readProof_L1, (show tki_readProof_L1 ≤ tki_readProof_L1 by omega), hM, Sub.trans (Sub.jnk (k := 6) rfl (.keep (.keep (.keep (.jnk (.jnk .nil)))))) (Sub.env [(1, .int .i64 i2), (2, .optr (.loc 2) 0 0), (4, .optr (.loc 4) 0 0), (5, .int .i64 i7), (6, .optr (.loc 6) 0 0)] ⟨rfl, rfl, rfl, rfl, rfl, trivial⟩)⟩
       ·replace hM := ite_f hb16 hM
        by_cases hb17 : i7 = 6
        ·replace hM := ite_t hb17 hM
         refine run_call rfl rfl rfl (ltb rfl) rfl rfl rfl (fun _ h => absurd h List.not_mem_nil) (i_ruleOf_ex4 i7 hb13 hb14 hb15 hb16 hb17 _ _) (callK_retN ?_)
         refine mvL rfl rfl rfl rfl (ltb rfl) ?_
         refine run_pu rfl (extract_step rfl rfl rfl) rfl (ltb rfl) ?_
         refine run_pu rfl (extract_step rfl rfl rfl) rfl (ltb rfl) ?_
         refine run_op rfl (alloc_step (d := 6) hG rfl rfl rfl) rfl (ltb rfl) ?_
         refine run_op0 rfl (store_step hG rfl rfl rfl rfl rfl rfl rfl rfl) rfl ?_
         refine mvR rfl rfl rfl rfl (ltb rfl) ?_
         refine run_ops_nil ?_
         exact ⟨2, 2, ⟨#[117, 115, 101]⟩, tki_readProof_L1, (show tki_readProof_L1 ≤ tki_readProof_L1 by omega), hM, Sub.trans (Sub.jnk (k := 6) rfl (.keep (.keep (.keep (.jnk (.jnk .nil)))))) (Sub.env [(1, .int .i64 i2), (2, .optr (.loc 2) 0 0), (4, .optr (.loc 4) 0 0), (5, .int .i64 i7), (6, .optr (.loc 6) 0 0)] ⟨rfl, rfl, rfl, rfl, rfl, trivial⟩)⟩
        ·replace hM := ite_f hb17 hM
         by_cases hb18 : i7 = 7
         ·replace hM := ite_t hb18 hM
          refine run_call rfl rfl rfl (ltb rfl) rfl rfl rfl (fun _ h => absurd h List.not_mem_nil) (i_ruleOf_ex5 i7 hb13 hb14 hb15 hb16 hb17 hb18 _ _) (callK_retN ?_)
          refine mvL rfl rfl rfl rfl (ltb rfl) ?_
          refine run_pu rfl (extract_step rfl rfl rfl) rfl (ltb rfl) ?_
          refine run_pu rfl (extract_step rfl rfl rfl) rfl (ltb rfl) ?_
          refine run_op rfl (alloc_step (d := 6) hG rfl rfl rfl) rfl (ltb rfl) ?_
          refine run_op0 rfl (store_step hG rfl rfl rfl rfl rfl rfl rfl rfl) rfl ?_
          refine mvR rfl rfl rfl rfl (ltb rfl) ?_
          refine run_ops_nil ?_
          exact ⟨1, 1, ⟨#[98, 111, 116, 69]⟩, tki_readProof_L1, (show tki_readProof_L1 ≤ tki_readProof_L1 by omega), hM, Sub.trans (Sub.jnk (k := 6) rfl (.keep (.keep (.keep (.jnk (.jnk .nil)))))) (Sub.env [(1, .int .i64 i2), (2, .optr (.loc 2) 0 0), (4, .optr (.loc 4) 0 0), (5, .int .i64 i7), (6, .optr (.loc 6) 0 0)] ⟨rfl, rfl, rfl, rfl, rfl, trivial⟩)⟩
         ·replace hM := ite_f hb18 hM
          refine run_call rfl rfl rfl (ltb rfl) rfl rfl rfl (fun _ h => absurd h List.not_mem_nil) (i_ruleOf_ex6 i7 hb13 hb14 hb15 hb16 hb17 hb18 _ _) (callK_retN ?_)
          refine mvL rfl rfl rfl rfl (ltb rfl) ?_
          refine run_pu rfl (extract_step rfl rfl rfl) rfl (ltb rfl) ?_
          refine run_pu rfl (extract_step rfl rfl rfl) rfl (ltb rfl) ?_
          refine run_op rfl (alloc_step (d := 6) hG rfl rfl rfl) rfl (ltb rfl) ?_
          refine run_op0 rfl (store_step hG rfl rfl rfl rfl rfl rfl rfl rfl) rfl ?_
          refine mvR rfl rfl rfl rfl (ltb rfl) ?_
          refine run_ops_nil ?_
          exact ⟨0, 0, ⟨#[]⟩, tki_readProof_L1, (show tki_readProof_L1 ≤ tki_readProof_L1 by omega), hM, Sub.trans (Sub.jnk (k := 6) rfl (.keep (.keep (.keep (.jnk (.jnk .nil)))))) (Sub.env [(1, .int .i64 i2), (2, .optr (.loc 2) 0 0), (4, .optr (.loc 4) 0 0), (5, .int .i64 i7), (6, .optr (.loc 6) 0 0)] ⟨rfl, rfl, rfl, rfl, rfl, trivial⟩)⟩
   ·clear hM
    rintro σ' ⟨i10, i11, t12, tkj9, hle196, hM, hsub⟩
    rw [hj197] at hM
    clear hj197
    refine run_sub_code hsub ?_
    refine run_seq ?_
    refine run_sr ?_
    refine run_pu rfl (fieldAddr_step hG rfl rfl rfl rfl rfl) rfl (ltb rfl) ?_
    refine run_ld hG rfl rfl rfl rfl rfl (ltb rfl) ?_
    refine run_bin rfl rfl rfl rfl rfl rfl rfl (ltb rfl) ?_
    refine mvL rfl rfl rfl rfl (ltb rfl) ?_
    refine run_splitb (i := 43) rfl (fun hb19 => ?_) (fun hb19 => ?_)
    ·replace hM := ite_t hb19 hM
     refine run_off (on_of rfl rfl rfl rfl) rfl (ltb rfl) ?_
     refine run_off (on_of rfl rfl rfl rfl) rfl (ltb rfl) ?_
     refine run_off (on_of rfl rfl rfl rfl) rfl (ltb rfl) ?_
     refine run_off (on_of rfl rfl rfl rfl) rfl (ltb rfl) ?_
     refine run_off (on_of rfl rfl rfl rfl) rfl (ltb rfl) ?_
     refine run_pu rfl (pick_step rfl rfl rfl) rfl (ltb rfl) ?_
     refine mvL rfl rfl rfl rfl (ltb rfl) ?_
     refine run_off (on_of rfl rfl rfl rfl) rfl (ltb rfl) ?_
     refine run_off (on_of rfl rfl rfl rfl) rfl (ltb rfl) ?_
     refine run_off (on_of rfl rfl rfl rfl) rfl (ltb rfl) ?_
     refine run_off (on_of rfl rfl rfl rfl) rfl (ltb rfl) ?_
     refine run_off (on_of rfl rfl rfl rfl) rfl (ltb rfl) ?_
     refine run_off (on_of rfl rfl rfl rfl) rfl (ltb rfl) ?_
     refine run_off (on_of rfl rfl rfl rfl) rfl (ltb rfl) ?_
     refine run_off (on_of rfl rfl rfl rfl) rfl (ltb rfl) ?_
     refine run_off (on_of rfl rfl rfl rfl) rfl (ltb rfl) ?_
     refine run_pu rfl (pick_step rfl rfl rfl) rfl (ltb rfl) ?_
     refine run_ops_nil ?_
     refine run_if rfl rfl (fun _ => ?_) (fun h => by cases h)
     refine run_exit_to rfl ?_
     refine run_region ?_
     refine mvL rfl rfl rfl rfl (ltb rfl) ?_
     refine run_bin rfl rfl rfl rfl rfl rfl rfl (ltb rfl) ?_
     refine mvR rfl rfl rfl rfl (ltb rfl) ?_
     refine run_ops_nil ?_
     exact run_loop_end ⟨m, _, Nat.lt_succ_self _, ⟨(IntKind.i64.wrap (i7 + 1)), tkj9, (show tkj3 ≤ tkj9 by omega), hM, rfl⟩, Sub.trans (Sub.drop (k := 6) rfl) (Sub.env [(1, .int .i64 i2), (2, .optr (.loc 2) 0 0), (4, .optr (.loc 4) 0 0), (5, .int .i64 (IntKind.i64.wrap (i7 + 1)))] ⟨rfl, rfl, rfl, rfl, trivial⟩)⟩
    ·replace hM := ite_f hb19 hM
     refine run_puG (on_of rfl rfl rfl rfl) (fieldAddr_step hG rfl rfl rfl rfl rfl) rfl (ltb rfl) ?_
     refine run_rdG (on_of rfl rfl rfl rfl) (aload_rd hG rfl rfl rfl (by first | (simp [ldok]; done) | exact List.not_mem_nil | trivial)) rfl (ltb rfl) ?_
     refine run_puG (on_of rfl rfl rfl rfl) (fieldAddr_step hG rfl rfl rfl rfl rfl) rfl (ltb rfl) ?_
     refine run_rdG (on_of rfl rfl rfl rfl) (aload_rd hG rfl rfl rfl (by first | (simp [ldok]; done) | exact List.not_mem_nil | trivial)) rfl (ltb rfl) ?_
     refine run_puG (on_of rfl rfl rfl rfl) (abin_step rfl rfl rfl rfl (fun _ h => by cases h)) rfl (ltb rfl) ?_
     refine run_pu rfl (pick_step rfl rfl rfl) rfl (ltb rfl) ?_
     refine mvL rfl rfl rfl rfl (ltb rfl) ?_
     refine run_splitb (i := 50) rfl (fun hb20 => ?_) (fun hb20 => ?_)
     ·replace hM := ite_t hb20 hM
      refine run_off (on_of rfl rfl rfl rfl) rfl (ltb rfl) ?_
      refine run_off (on_of rfl rfl rfl rfl) rfl (ltb rfl) ?_
      refine run_off (on_of rfl rfl rfl rfl) rfl (ltb rfl) ?_
      refine run_off (on_of rfl rfl rfl rfl) rfl (ltb rfl) ?_
      refine run_off (on_of rfl rfl rfl rfl) rfl (ltb rfl) ?_
      refine run_off (on_of rfl rfl rfl rfl) rfl (ltb rfl) ?_
      refine run_off (on_of rfl rfl rfl rfl) rfl (ltb rfl) ?_
      refine run_off (on_of rfl rfl rfl rfl) rfl (ltb rfl) ?_
      refine run_off (on_of rfl rfl rfl rfl) rfl (ltb rfl) ?_
      refine run_pu rfl (pick_step rfl rfl rfl) rfl (ltb rfl) ?_
      refine run_ops_nil ?_
      refine run_if rfl rfl (fun _ => ?_) (fun h => by cases h)
      refine run_exit_to rfl ?_
      refine run_region ?_
      refine mvL rfl rfl rfl rfl (ltb rfl) ?_
      refine run_bin rfl rfl rfl rfl rfl rfl rfl (ltb rfl) ?_
      refine mvR rfl rfl rfl rfl (ltb rfl) ?_
      refine run_ops_nil ?_
      exact run_loop_end ⟨m, _, Nat.lt_succ_self _, ⟨(IntKind.i64.wrap (i7 + 1)), tkj9, (show tkj3 ≤ tkj9 by omega), hM, rfl⟩, Sub.trans (Sub.drop (k := 6) rfl) (Sub.env [(1, .int .i64 i2), (2, .optr (.loc 2) 0 0), (4, .optr (.loc 4) 0 0), (5, .int .i64 (IntKind.i64.wrap (i7 + 1)))] ⟨rfl, rfl, rfl, rfl, trivial⟩)⟩
     ·replace hM := ite_f hb20 hM
      refine run_puG (on_of rfl rfl rfl rfl) (fieldAddr_step hG rfl rfl rfl rfl rfl) rfl (ltb rfl) ?_
      refine run_rdG (on_of rfl rfl rfl rfl) (aload_rd hG rfl rfl rfl (by first | (simp [ldok]; done) | exact List.not_mem_nil | trivial)) rfl (ltb rfl) ?_
      refine run_puG (on_of rfl rfl rfl rfl) (lenImm_step hG rfl rfl rfl rfl (tlen _)) rfl (ltb rfl) ?_
      refine run_puG (on_of rfl rfl rfl rfl) (fieldAddr_step hG rfl rfl rfl rfl rfl) rfl (ltb rfl) ?_
      refine run_rdG (on_of rfl rfl rfl rfl) (aload_rd hG rfl rfl rfl (by first | (simp [ldok]; done) | exact List.not_mem_nil | trivial)) rfl (ltb rfl) ?_
      refine run_puG (on_of rfl rfl rfl rfl) (fieldAddr_step hG rfl rfl rfl rfl rfl) rfl (ltb rfl) ?_
      refine run_rdG (on_of rfl rfl rfl rfl) (aload_rd hG rfl rfl rfl (by first | (simp [ldok]; done) | exact List.not_mem_nil | trivial)) rfl (ltb rfl) ?_
      refine run_puG (on_of rfl rfl rfl rfl) (abin_step rfl rfl rfl rfl (fun _ h => by cases h)) rfl (ltb rfl) ?_
      refine run_puG (on_of rfl rfl rfl rfl) (abin_step rfl rfl rfl rfl (fun _ h => by cases h)) rfl (ltb rfl) ?_
      refine run_pu rfl (pick_step rfl rfl rfl) rfl (ltb rfl) ?_
      refine run_ops_nil ?_
      refine run_sub_code (σ' := ⟨[(1, .int .i64 i2), (2, .optr (.loc 2) 0 0), (4, .optr (.loc 4) 0 0), (5, .int .i64 i7), (6, .optr (.loc 6) 0 0), (60, .bool ((((ers ks1)).length : Int) != (IntKind.i64.wrap (i10 + i11))))], [(6, ⟨114, 5, true, [[.int .i64 i10, .int .i64 i11, .str t12, .jnk, .jnk]]⟩), (4, ⟨29, 4, true, [[.int .i64 0, .int .i64 0, .imm 0 3 true [], .imm 0 4 true []]]⟩), (2, ⟨34, 4, true, [[.int .i64 k1, .int .i64 n1, .str s1, .imm q1 4 f1 (cellss ks1)]]⟩)], [], O, tkj9⟩) (Sub.env _ ⟨rfl, rfl, rfl, rfl, rfl, rfl, trivial⟩) ?_
      refine run_ifb rfl rfl (fun hb21 => ?_) (fun hb21 => ?_)
      ·replace hM := ite_t hb21 hM
       refine run_exit_to rfl ?_
       refine run_region ?_
       refine mvL rfl rfl rfl rfl (ltb rfl) ?_
       refine run_bin rfl rfl rfl rfl rfl rfl rfl (ltb rfl) ?_
       refine mvR rfl rfl rfl rfl (ltb rfl) ?_
       refine run_ops_nil ?_
       exact run_loop_end ⟨m, _, Nat.lt_succ_self _, ⟨(IntKind.i64.wrap (i7 + 1)), tkj9, (show tkj3 ≤ tkj9 by omega), hM, rfl⟩, Sub.trans (Sub.drop (k := 6) rfl) (Sub.env [(1, .int .i64 i2), (2, .optr (.loc 2) 0 0), (4, .optr (.loc 4) 0 0), (5, .int .i64 (IntKind.i64.wrap (i7 + 1)))] ⟨rfl, rfl, rfl, rfl, trivial⟩)⟩
      ·replace hM := ite_f hb21 hM
       refine run_skip ?_
       refine run_sr ?_
       refine mvL rfl rfl rfl rfl (ltb rfl) ?_
       refine run_pu rfl (build_step hG rfl (by rfl) rfl (fun h => by cases h) (by rfl)) rfl (ltb rfl) ?_
       refine run_op rfl (alloc_step (d := 8) hG rfl rfl rfl) rfl (ltb rfl) ?_
       refine run_op0 rfl (store_step hG rfl rfl rfl rfl rfl rfl rfl rfl) rfl ?_
       refine run_ops_nil ?_
       refine run_seq ?_
       refine run_sr ?_
       refine run_pu rfl (fieldAddr_step hG rfl rfl rfl rfl rfl) rfl (ltb rfl) ?_
       refine run_ld hG rfl rfl rfl rfl rfl (ltb rfl) ?_
       refine run_pu rfl (fieldAddr_step hG rfl rfl rfl rfl rfl) rfl (ltb rfl) ?_
       refine run_ld hG rfl rfl rfl rfl rfl (ltb rfl) ?_
       obtain ⟨hc22, hM⟩ := chk_t hM
       try rw [tkids] at hM
       repeat rw [ers_sub] at hM
       try rw [show (lsub (ers ks1) 0 i10 : List T) = (ers (lsub ks1 0 i10)) from ers_sub _ _ _] at hM
       refine run_pu rfl (subImm_step hG rfl rfl rfl rfl rfl rfl (tlen _) bnd_none (bnd_some rfl) hc22 (cellss_sub _ _ _)) rfl (ltb rfl) ?_
       refine run_pu rfl (lenImm_step hG rfl rfl rfl rfl (tlen _)) rfl (ltb rfl) ?_
       refine mvL rfl rfl rfl rfl (ltb rfl) ?_
       refine run_ops_nil ?_
       refine run_block ?_
       refine run_peel (fun m σ => ∃ (i23 : Int) (ks24 : List LF) (tki_readProof_L2 : Nat), tkj9 ≤ tki_readProof_L2 ∧ Fr tkj9 tki_readProof_L2 (ftoks ks24) ∧ i_readProof_L2 (i_readKid n) n (T.mk k1 n1 s1 (ers ks1)) i2 i7 i10 m i23 (fers ks24) = some r ∧ σ = ⟨[(1, .int .i64 i2), (2, .optr (.loc 2) 0 0), (4, .optr (.loc 4) 0 0), (5, .int .i64 i7), (6, .optr (.loc 6) 0 0), (8, .optr (.loc 8) 0 0), (67, .imm 1 4 false (cellss (lsub ks1 0 i10))), (68, .int .i64 (((ers (lsub ks1 0 i10))).length : Int)), (69, .int .i64 i23)], [(78, ⟨50, 3, false, fcellss ks24⟩), (8, ⟨29, 4, true, [[.int .i64 i7, .int .i64 0, .osl (.loc 78), .imm 0 4 true []]]⟩), (6, ⟨114, 5, true, [[.int .i64 i10, .int .i64 i11, .str t12, .jnk, .jnk]]⟩), (4, ⟨29, 4, true, [[.int .i64 0, .int .i64 0, .imm 0 3 true [], .imm 0 4 true []]]⟩), (2, ⟨34, 4, true, [[.int .i64 k1, .int .i64 n1, .str s1, .imm q1 4 f1 (cellss ks1)]]⟩)], [], O, tki_readProof_L2⟩) n ?_ (fun m σ hI => ?_)
       ·refine run_sr ?_
        refine run_bin rfl rfl rfl rfl rfl rfl rfl (ltb rfl) ?_
        refine run_ops_nil ?_
        refine run_seq ?_
        refine run_ifd rfl rfl (fun hb110 => ?_) (fun hb110 => ?_)
        ·replace hM := ite_t hb110 hM
         refine run_skip ?_
         refine run_seq ?_
         refine run_block ?_
         refine run_sr ?_
         obtain ⟨y111, hy112, hM⟩ := bind_t hM
         obtain ⟨k113, n113, s113, q113, f113, ks113, rfl, hc114, hi115⟩ := tidx (ks := (lsub ks1 0 i10)) hy112
         refine run_pu rfl (indexImm_step hG rfl rfl rfl hi115 rfl rfl rfl rfl hc114) rfl (ltb rfl) ?_
         refine run_ld hG rfl rfl rfl rfl rfl (ltb rfl) ?_
         refine run_op rfl (alloc_step (d := 10) hG rfl rfl rfl) rfl (ltb rfl) ?_
         refine run_op0 rfl (store_step hG rfl rfl rfl rfl rfl rfl rfl rfl) rfl ?_
         refine run_ops_nil ?_
         refine run_sub_code (σ' := ⟨[(1, .int .i64 i2), (2, .optr (.loc 2) 0 0), (4, .optr (.loc 4) 0 0), (5, .int .i64 i7), (6, .optr (.loc 6) 0 0), (8, .optr (.loc 8) 0 0), (67, .imm 1 4 false (cellss (lsub ks1 0 i10))), (68, .int .i64 (((ers (lsub ks1 0 i10))).length : Int)), (69, .int .i64 0), (10, .optr (.loc 10) 0 0)], [(10, ⟨34, 4, true, [[.int .i64 k113, .int .i64 n113, .str s113, .imm q113 4 f113 (cellss ks113)]]⟩), (8, ⟨29, 4, true, [[.int .i64 i7, .int .i64 0, .imm 0 3 true [], .imm 0 4 true []]]⟩), (6, ⟨114, 5, true, [[.int .i64 i10, .int .i64 i11, .str t12, .jnk, .jnk]]⟩), (4, ⟨29, 4, true, [[.int .i64 0, .int .i64 0, .imm 0 3 true [], .imm 0 4 true []]]⟩), (2, ⟨34, 4, true, [[.int .i64 k1, .int .i64 n1, .str s1, .imm q1 4 f1 (cellss ks1)]]⟩)], [], O, tkj9⟩) (Sub.env _ ⟨rfl, rfl, rfl, rfl, rfl, rfl, rfl, rfl, rfl, rfl, trivial⟩) ?_
         refine run_draw [.loc 8] (n := 8) mixed rfl (by intro x hx; simp only [List.mem_cons, List.not_mem_nil, or_false] at hx; rcases hx with rfl <;> rfl) ?_
         refine AAny.take (i := 0) rfl (by kernel_rfl) (by kernel_rfl) (by kernel_rfl) rfl rfl (ltb rfl) ((fieldAddr_step hG rfl rfl rfl rfl rfl).rd _) ?_
         refine AAny.take (i := 2) rfl (by kernel_rfl) (by kernel_rfl) (by kernel_rfl) rfl rfl (ltb rfl) (aload_rd hG rfl rfl rfl (by first | (simp [ldok]; done) | exact List.not_mem_nil | trivial)) ?_
         refine AAny.each (rs := [1, 3]) (by kernel_rfl) (fun h => by cases h) (fun i hi => ?_)
         simp only [List.mem_cons, List.not_mem_nil, or_false] at hi
         rcases hi with rfl | rfl
         ·refine AOp.rd rfl rfl rfl (ltb rfl) (aload_rd hG rfl rfl rfl (by first | (simp [ldok]; done) | exact List.not_mem_nil | trivial)) ?_
          obtain ⟨z121, hg117, hM⟩ := zb_t hM
          refine AAny.one (i := 3) (by kernel_rfl) (AOp.call rfl rfl rfl rfl (ltb rfl) rfl rfl rfl (fun _ h => absurd h List.not_mem_nil) (fun _ h => absurd h List.not_mem_nil) (i_readForm_ok n k113 n113 s113 q113 f113 ks113 hg117 _ _) (callK_retZ (fun r116 v tk118 hz124 (hle119 : tkj9 ≤ tk118) h120 => ?_) (fun c p tk118 hz (_ : tkj9 ≤ tk118) => by subst hz; obtain rfl := bd_stop hM; exact run_pan_at (⟨rfl, (show tk ≤ tk118 by omega), rfl⟩))))
          subst hz124
          replace hM := bd_ok hM
          obtain ⟨k122, n122, q122, f122, ks122, rfl, rfl, hf123⟩ := h120
          refine AAny.one (i := 4) (by kernel_rfl) (AOp.step rfl rfl rfl (ltb rfl) (buildSlice_step (d := 77) hG rfl rfl rfl rfl rfl (by rfl) (by rfl) (by rfl) (by decide)) (fun _ h => absurd h List.not_mem_nil) ?_)
          obtain ⟨hc125, hM⟩ := chk_t hM
          try rw [show ((fers ([] : List LF)) ++ [(F.mk k122 n122 (fers ks122))] : List F) = (fers (([] : List LF) ++ [LF.mk k122 n122 q122 f122 ks122])) from fers_app ([] : List LF) [LF.mk k122 n122 q122 f122 ks122]] at hM
          refine AAny.one (i := 5) (by kernel_rfl) (AOp.step rfl rfl rfl (ltb rfl) (appendFM_step (d := 78) hG rfl rfl rfl rfl rfl rfl rfl (fcellss_sz ([] : List LF)) rfl (fcellss_sz ([LF.mk k122 n122 q122 f122 ks122])) (flen ([] : List LF)) (flen ([LF.mk k122 n122 q122 f122 ks122])) (by simp [fers]) hc125 (by decide) (fcellss_app _ _)) (fun _ h => absurd h List.not_mem_nil) ?_)
          refine AAny.take (i := 6) rfl (by kernel_rfl) (by kernel_rfl) (by kernel_rfl) rfl rfl (ltb rfl) ((fieldAddr_step hG rfl rfl rfl rfl rfl).rd _) ?_
          refine AAny.one (i := 7) (by kernel_rfl) (AOp.step0 rfl rfl rfl (store_step hG rfl rfl rfl rfl rfl rfl rfl rfl) (by intro x hx; exact hx) ?_)
          refine AAny.done (by kernel_rfl) ?_
          refine run_blk ?_
          refine run_region ?_
          refine run_bin rfl rfl rfl rfl rfl rfl rfl (ltb rfl) ?_
          refine mvL rfl rfl rfl rfl (ltb rfl) ?_
          refine run_ops_nil ?_
          exact run_loop_end ⟨n, _, Nat.le_refl _, ⟨(IntKind.i64.wrap (0 + 1)), (([] : List LF) ++ [LF.mk k122 n122 q122 f122 ks122]), tk118, (show tkj9 ≤ tk118 by omega), (show Fr tkj9 tk118 _ from (Fr.fcons ((show Fr tkj9 tk118 _ from hf123 rfl)) (show Fr tk118 tk118 _ from Fr.nil _ _) (by omega) (by omega)).mono (by omega) (by omega)), hM, rfl⟩, Sub.trans (Sub.drop (k := 77) rfl) (Sub.trans (Sub.drop (k := 10) rfl) (Sub.env [(1, .int .i64 i2), (2, .optr (.loc 2) 0 0), (4, .optr (.loc 4) 0 0), (5, .int .i64 i7), (6, .optr (.loc 6) 0 0), (8, .optr (.loc 8) 0 0), (67, .imm 1 4 false (cellss (lsub ks1 0 i10))), (68, .int .i64 (((ers (lsub ks1 0 i10))).length : Int)), (69, .int .i64 (IntKind.i64.wrap (0 + 1)))] ⟨rfl, rfl, rfl, rfl, rfl, rfl, rfl, rfl, rfl, trivial⟩))⟩
         ·obtain ⟨z131, hg127, hM⟩ := zb_t hM
          refine AOp.call rfl rfl rfl rfl (ltb rfl) rfl rfl rfl (fun _ h => absurd h List.not_mem_nil) (fun _ h => absurd h List.not_mem_nil) (i_readForm_ok n k113 n113 s113 q113 f113 ks113 hg127 _ _) (callK_retZ (fun r126 v tk128 hz134 (hle129 : tkj9 ≤ tk128) h130 => ?_) (fun c p tk128 hz (_ : tkj9 ≤ tk128) => by subst hz; obtain rfl := bd_stop hM; exact run_pan_at (⟨rfl, (show tk ≤ tk128 by omega), rfl⟩)))
          subst hz134
          replace hM := bd_ok hM
          obtain ⟨k132, n132, q132, f132, ks132, rfl, rfl, hf133⟩ := h130
          refine AAny.each (rs := [1, 4]) (by kernel_rfl) (fun h => by cases h) (fun i hi => ?_)
          simp only [List.mem_cons, List.not_mem_nil, or_false] at hi
          rcases hi with rfl | rfl
          ·refine AOp.rd rfl rfl rfl (ltb rfl) (aload_rd hG rfl rfl rfl (by first | (simp [ldok]; done) | exact List.not_mem_nil | trivial)) ?_
           refine AAny.one (i := 4) (by kernel_rfl) (AOp.step rfl rfl rfl (ltb rfl) (buildSlice_step (d := 77) hG rfl rfl rfl rfl rfl (by rfl) (by rfl) (by rfl) (by decide)) (fun _ h => absurd h List.not_mem_nil) ?_)
           obtain ⟨hc135, hM⟩ := chk_t hM
           try rw [show ((fers ([] : List LF)) ++ [(F.mk k132 n132 (fers ks132))] : List F) = (fers (([] : List LF) ++ [LF.mk k132 n132 q132 f132 ks132])) from fers_app ([] : List LF) [LF.mk k132 n132 q132 f132 ks132]] at hM
           refine AAny.one (i := 5) (by kernel_rfl) (AOp.step rfl rfl rfl (ltb rfl) (appendFM_step (d := 78) hG rfl rfl rfl rfl rfl rfl rfl (fcellss_sz ([] : List LF)) rfl (fcellss_sz ([LF.mk k132 n132 q132 f132 ks132])) (flen ([] : List LF)) (flen ([LF.mk k132 n132 q132 f132 ks132])) (by simp [fers]) hc135 (by decide) (fcellss_app _ _)) (fun _ h => absurd h List.not_mem_nil) ?_)
           refine AAny.take (i := 6) rfl (by kernel_rfl) (by kernel_rfl) (by kernel_rfl) rfl rfl (ltb rfl) ((fieldAddr_step hG rfl rfl rfl rfl rfl).rd _) ?_
           refine AAny.one (i := 7) (by kernel_rfl) (AOp.step0 rfl rfl rfl (store_step hG rfl rfl rfl rfl rfl rfl rfl rfl) (by intro x hx; exact hx) ?_)
           refine AAny.done (by kernel_rfl) ?_
           refine run_blk ?_
           refine run_region ?_
           refine run_bin rfl rfl rfl rfl rfl rfl rfl (ltb rfl) ?_
           refine mvL rfl rfl rfl rfl (ltb rfl) ?_
           refine run_ops_nil ?_
           exact run_loop_end ⟨n, _, Nat.le_refl _, ⟨(IntKind.i64.wrap (0 + 1)), (([] : List LF) ++ [LF.mk k132 n132 q132 f132 ks132]), tk128, (show tkj9 ≤ tk128 by omega), (show Fr tkj9 tk128 _ from (Fr.fcons ((show Fr tkj9 tk128 _ from hf133 rfl)) (show Fr tk128 tk128 _ from Fr.nil _ _) (by omega) (by omega)).mono (by omega) (by omega)), hM, rfl⟩, Sub.trans (Sub.drop (k := 77) rfl) (Sub.trans (Sub.drop (k := 10) rfl) (Sub.env [(1, .int .i64 i2), (2, .optr (.loc 2) 0 0), (4, .optr (.loc 4) 0 0), (5, .int .i64 i7), (6, .optr (.loc 6) 0 0), (8, .optr (.loc 8) 0 0), (67, .imm 1 4 false (cellss (lsub ks1 0 i10))), (68, .int .i64 (((ers (lsub ks1 0 i10))).length : Int)), (69, .int .i64 (IntKind.i64.wrap (0 + 1)))] ⟨rfl, rfl, rfl, rfl, rfl, rfl, rfl, rfl, rfl, trivial⟩))⟩
          ·refine AOp.step rfl rfl rfl (ltb rfl) (buildSlice_step (d := 77) hG rfl rfl rfl rfl rfl (by rfl) (by rfl) (by rfl) (by decide)) (fun _ h => absurd h List.not_mem_nil) ?_
           refine AAny.one (i := 1) (by kernel_rfl) (AOp.rd rfl rfl rfl (ltb rfl) (aload_rd hG rfl rfl rfl (by first | (simp [ldok]; done) | exact List.not_mem_nil | trivial)) ?_)
           obtain ⟨hc136, hM⟩ := chk_t hM
           try rw [show ((fers ([] : List LF)) ++ [(F.mk k132 n132 (fers ks132))] : List F) = (fers (([] : List LF) ++ [LF.mk k132 n132 q132 f132 ks132])) from fers_app ([] : List LF) [LF.mk k132 n132 q132 f132 ks132]] at hM
           refine AAny.one (i := 5) (by kernel_rfl) (AOp.step rfl rfl rfl (ltb rfl) (appendFM_step (d := 78) hG rfl rfl rfl rfl rfl rfl rfl (fcellss_sz ([] : List LF)) rfl (fcellss_sz ([LF.mk k132 n132 q132 f132 ks132])) (flen ([] : List LF)) (flen ([LF.mk k132 n132 q132 f132 ks132])) (by simp [fers]) hc136 (by decide) (fcellss_app _ _)) (fun _ h => absurd h List.not_mem_nil) ?_)
           refine AAny.take (i := 6) rfl (by kernel_rfl) (by kernel_rfl) (by kernel_rfl) rfl rfl (ltb rfl) ((fieldAddr_step hG rfl rfl rfl rfl rfl).rd _) ?_
           refine AAny.one (i := 7) (by kernel_rfl) (AOp.step0 rfl rfl rfl (store_step hG rfl rfl rfl rfl rfl rfl rfl rfl) (by intro x hx; exact hx) ?_)
           refine AAny.done (by kernel_rfl) ?_
           refine run_blk ?_
           refine run_region ?_
           refine run_bin rfl rfl rfl rfl rfl rfl rfl (ltb rfl) ?_
           refine mvL rfl rfl rfl rfl (ltb rfl) ?_
           refine run_ops_nil ?_
           exact run_loop_end ⟨n, _, Nat.le_refl _, ⟨(IntKind.i64.wrap (0 + 1)), (([] : List LF) ++ [LF.mk k132 n132 q132 f132 ks132]), tk128, (show tkj9 ≤ tk128 by omega), (show Fr tkj9 tk128 _ from (Fr.fcons ((show Fr tkj9 tk128 _ from hf133 rfl)) (show Fr tk128 tk128 _ from Fr.nil _ _) (by omega) (by omega)).mono (by omega) (by omega)), hM, rfl⟩, Sub.trans (Sub.drop (k := 77) rfl) (Sub.trans (Sub.drop (k := 10) rfl) (Sub.env [(1, .int .i64 i2), (2, .optr (.loc 2) 0 0), (4, .optr (.loc 4) 0 0), (5, .int .i64 i7), (6, .optr (.loc 6) 0 0), (8, .optr (.loc 8) 0 0), (67, .imm 1 4 false (cellss (lsub ks1 0 i10))), (68, .int .i64 (((ers (lsub ks1 0 i10))).length : Int)), (69, .int .i64 (IntKind.i64.wrap (0 + 1)))] ⟨rfl, rfl, rfl, rfl, rfl, rfl, rfl, rfl, rfl, trivial⟩))⟩
        ·replace hM := ite_f hb110 hM
         refine run_exit_to rfl ?_
         refine run_seq ?_
         refine run_sr ?_
         refine run_pu rfl (fieldAddr_step hG rfl rfl rfl rfl rfl) rfl (ltb rfl) ?_
         refine run_ld hG rfl rfl rfl rfl rfl (ltb rfl) ?_
         refine run_pu rfl (fieldAddr_step hG rfl rfl rfl rfl rfl) rfl (ltb rfl) ?_
         refine run_ld hG rfl rfl rfl rfl rfl (ltb rfl) ?_
         obtain ⟨hc137, hM⟩ := chk_t hM
         try rw [tkids] at hM
         repeat rw [ers_sub] at hM
         try rw [show (lsub (ers ks1) i10 (((ers ks1)).length : Int) : List T) = (ers (lsub ks1 i10 (((ers ks1)).length : Int))) from ers_sub _ _ _] at hM
         refine run_pu rfl (subImm_step hG rfl rfl rfl rfl rfl rfl (tlen _) (bnd_some rfl) bnd_none hc137 (cellss_sub _ _ _)) rfl (ltb rfl) ?_
         refine run_pu rfl (lenImm_step hG rfl rfl rfl rfl (tlen _)) rfl (ltb rfl) ?_
         refine mvL rfl rfl rfl rfl (ltb rfl) ?_
         refine run_ops_nil ?_
         refine run_block ?_
         refine run_sub_code (σ' := ⟨[(1, .int .i64 i2), (2, .optr (.loc 2) 0 0), (4, .optr (.loc 4) 0 0), (5, .int .i64 i7), (8, .optr (.loc 8) 0 0), (85, .imm 1 4 false (cellss (lsub ks1 i10 (((ers ks1)).length : Int)))), (86, .int .i64 (((ers (lsub ks1 i10 (((ers ks1)).length : Int)))).length : Int)), (87, .int .i64 0)], [(8, ⟨29, 4, true, [[.int .i64 i7, .int .i64 0, .imm 0 3 true [], .imm 0 4 true []]]⟩), (4, ⟨29, 4, true, [[.int .i64 0, .int .i64 0, .imm 0 3 true [], .imm 0 4 true []]]⟩), (2, ⟨34, 4, true, [[.int .i64 k1, .int .i64 n1, .str s1, .imm q1 4 f1 (cellss ks1)]]⟩)], [], O, tkj9⟩) (Sub.trans (Sub.drop (k := 6) rfl) (Sub.env _ ⟨rfl, rfl, rfl, rfl, rfl, rfl, rfl, rfl, trivial⟩)) ?_
         refine run_peel (fun m σ => ∃ (i138 : Int) (ks139 : List LP) (tki_readProof_L4 : Nat), tkj9 ≤ tki_readProof_L4 ∧ Fr tkj9 tki_readProof_L4 (ptoks ks139) ∧ i_readProof_L4 (i_readKid n) (T.mk k1 n1 s1 (ers ks1)) i2 i7 i10 m i138 (pers ks139) = some r ∧ σ = ⟨[(1, .int .i64 i2), (4, .optr (.loc 4) 0 0), (5, .int .i64 i7), (8, .optr (.loc 8) 0 0), (85, .imm 1 4 false (cellss (lsub ks1 i10 (((ers ks1)).length : Int)))), (86, .int .i64 (((ers (lsub ks1 i10 (((ers ks1)).length : Int)))).length : Int)), (87, .int .i64 i138)], [(98, ⟨29, 4, false, pcellss ks139⟩), (8, ⟨29, 4, true, [[.int .i64 i7, .int .i64 0, .imm 0 3 true [], .osl (.loc 98)]]⟩), (4, ⟨29, 4, true, [[.int .i64 0, .int .i64 0, .imm 0 3 true [], .imm 0 4 true []]]⟩), (2, ⟨34, 4, true, [[.int .i64 k1, .int .i64 n1, .str s1, .imm q1 4 f1 (cellss ks1)]]⟩)], [], O, tki_readProof_L4⟩) n ?_ (fun m σ hI => ?_)
         ·refine run_sr ?_
          refine run_bin rfl rfl rfl rfl rfl rfl rfl (ltb rfl) ?_
          refine run_ops_nil ?_
          refine run_seq ?_
          refine run_ifd rfl rfl (fun hb167 => ?_) (fun hb167 => ?_)
          ·replace hM := ite_t hb167 hM
           refine run_skip ?_
           refine run_seq ?_
           refine run_block ?_
           refine run_sr ?_
           obtain ⟨y168, hy169, hM⟩ := bind_t hM
           obtain ⟨k170, n170, s170, q170, f170, ks170, rfl, hc171, hi172⟩ := tidx (ks := (lsub ks1 i10 (((ers ks1)).length : Int))) hy169
           refine run_pu rfl (indexImm_step hG rfl rfl rfl hi172 rfl rfl rfl rfl hc171) rfl (ltb rfl) ?_
           refine run_ld hG rfl rfl rfl rfl rfl (ltb rfl) ?_
           refine run_op rfl (alloc_step (d := 12) hG rfl rfl rfl) rfl (ltb rfl) ?_
           refine run_op0 rfl (store_step hG rfl rfl rfl rfl rfl rfl rfl rfl) rfl ?_
           refine run_ops_nil ?_
           refine run_draw [.loc 8] (n := 10) mixed rfl (by intro x hx; simp only [List.mem_cons, List.not_mem_nil, or_false] at hx; rcases hx with rfl <;> rfl) ?_
           refine AAny.take (i := 0) rfl (by kernel_rfl) (by kernel_rfl) (by kernel_rfl) rfl rfl (ltb rfl) ((fieldAddr_step hG rfl rfl rfl rfl rfl).rd _) ?_
           refine AAny.take (i := 2) rfl (by kernel_rfl) (by kernel_rfl) (by kernel_rfl) rfl rfl (ltb rfl) ((move_step (.inl rfl) rfl).rd _) ?_
           refine AAny.take (i := 3) rfl (by kernel_rfl) (by kernel_rfl) (by kernel_rfl) rfl rfl (ltb rfl) (aload_rd hG rfl rfl rfl (by first | (simp [ldok]; done) | exact List.not_mem_nil | trivial)) ?_
           refine AAny.take (i := 4) rfl (by kernel_rfl) (by kernel_rfl) (by kernel_rfl) rfl rfl (ltb rfl) ((move_step (.inl rfl) rfl).rd _) ?_
           refine AAny.each (rs := [1, 5]) (by kernel_rfl) (fun h => by cases h) (fun i hi => ?_)
           simp only [List.mem_cons, List.not_mem_nil, or_false] at hi
           rcases hi with rfl | rfl
           ·refine AOp.rd rfl rfl rfl (ltb rfl) (aload_rd hG rfl rfl rfl (by first | (simp [ldok]; done) | exact List.not_mem_nil | trivial)) ?_
            obtain ⟨z178, hg174, hM⟩ := zb_t hM
            refine AAny.one (i := 5) (by kernel_rfl) (AOp.call rfl rfl rfl rfl (ltb rfl) rfl rfl rfl (fun _ h => absurd h List.not_mem_nil) (fun _ h => absurd h List.not_mem_nil) (ih_i_readKid i7 k170 n170 s170 q170 f170 ks170 i2 hg174 _ _) (callK_retZ (fun r173 v tk175 hz181 (hle176 : tkj9 ≤ tk175) h177 => ?_) (fun c p tk175 hz (_ : tkj9 ≤ tk175) => by subst hz; obtain rfl := bd_stop hM; exact run_pan_at (⟨rfl, (show tk ≤ tk175 by omega), rfl⟩))))
            subst hz181
            replace hM := bd_ok hM
            obtain ⟨k179, n179, p179, e179, fs179, q179, f179, ks179, rfl, rfl, hf180⟩ := h177
            refine AAny.one (i := 6) (by kernel_rfl) (AOp.step rfl rfl rfl (ltb rfl) (buildSlice_step (d := 97) hG rfl rfl rfl rfl rfl (by rfl) (by rfl) (by rfl) (by decide)) (fun _ h => absurd h List.not_mem_nil) ?_)
            obtain ⟨hc182, hM⟩ := chk_t hM
            try rw [show ((pers ([] : List LP)) ++ [(Pf.mk k179 n179 (fers fs179) (pers ks179))] : List Pf) = (pers (([] : List LP) ++ [LP.mk k179 n179 p179 e179 fs179 q179 f179 ks179])) from pers_app ([] : List LP) [LP.mk k179 n179 p179 e179 fs179 q179 f179 ks179]] at hM
            refine AAny.one (i := 7) (by kernel_rfl) (AOp.step rfl rfl rfl (ltb rfl) (appendFM_step (d := 98) hG rfl rfl rfl rfl rfl rfl rfl (pcellss_sz ([] : List LP)) rfl (pcellss_sz ([LP.mk k179 n179 p179 e179 fs179 q179 f179 ks179])) (plen ([] : List LP)) (plen ([LP.mk k179 n179 p179 e179 fs179 q179 f179 ks179])) (by simp [pers]) hc182 (by decide) (pcellss_app _ _)) (fun _ h => absurd h List.not_mem_nil) ?_)
            refine AAny.take (i := 8) rfl (by kernel_rfl) (by kernel_rfl) (by kernel_rfl) rfl rfl (ltb rfl) ((fieldAddr_step hG rfl rfl rfl rfl rfl).rd _) ?_
            refine AAny.one (i := 9) (by kernel_rfl) (AOp.step0 rfl rfl rfl (store_step hG rfl rfl rfl rfl rfl rfl rfl rfl) (by intro x hx; exact hx) ?_)
            refine AAny.done (by kernel_rfl) ?_
            refine run_blk ?_
            refine run_sub_code (σ' := ⟨[(1, .int .i64 i2), (2, .optr (.loc 2) 0 0), (4, .optr (.loc 4) 0 0), (5, .int .i64 i7), (8, .optr (.loc 8) 0 0), (85, .imm 1 4 false (cellss (lsub ks1 i10 (((ers ks1)).length : Int)))), (86, .int .i64 (((ers (lsub ks1 i10 (((ers ks1)).length : Int)))).length : Int)), (87, .int .i64 0)], [(98, ⟨29, 4, false, pcellss (([] : List LP) ++ [LP.mk k179 n179 p179 e179 fs179 q179 f179 ks179])⟩), (8, ⟨29, 4, true, [[.int .i64 i7, .int .i64 0, .imm 0 3 true [], .osl (.loc 98)]]⟩), (4, ⟨29, 4, true, [[.int .i64 0, .int .i64 0, .imm 0 3 true [], .imm 0 4 true []]]⟩), (2, ⟨34, 4, true, [[.int .i64 k1, .int .i64 n1, .str s1, .imm q1 4 f1 (cellss ks1)]]⟩)], [], O, tk175⟩) (Sub.trans (Sub.drop (k := 97) rfl) (Sub.trans (Sub.drop (k := 12) rfl) (Sub.env _ ⟨rfl, rfl, rfl, rfl, rfl, rfl, rfl, rfl, trivial⟩))) ?_
            refine run_region ?_
            refine run_bin rfl rfl rfl rfl rfl rfl rfl (ltb rfl) ?_
            refine mvL rfl rfl rfl rfl (ltb rfl) ?_
            refine run_ops_nil ?_
            exact run_loop_end ⟨n, _, Nat.le_refl _, ⟨(IntKind.i64.wrap (0 + 1)), (([] : List LP) ++ [LP.mk k179 n179 p179 e179 fs179 q179 f179 ks179]), tk175, (show tkj9 ≤ tk175 by omega), (show Fr tkj9 tk175 _ from (Fr.pcons ((show Fr tkj9 tk175 _ from hf180 rfl)) (show Fr tk175 tk175 _ from Fr.nil _ _) (by omega) (by omega)).mono (by omega) (by omega)), hM, rfl⟩, Sub.env [(1, .int .i64 i2), (4, .optr (.loc 4) 0 0), (5, .int .i64 i7), (8, .optr (.loc 8) 0 0), (85, .imm 1 4 false (cellss (lsub ks1 i10 (((ers ks1)).length : Int)))), (86, .int .i64 (((ers (lsub ks1 i10 (((ers ks1)).length : Int)))).length : Int)), (87, .int .i64 (IntKind.i64.wrap (0 + 1)))] ⟨rfl, rfl, rfl, rfl, rfl, rfl, rfl, trivial⟩⟩
           ·obtain ⟨z188, hg184, hM⟩ := zb_t hM
            refine AOp.call rfl rfl rfl rfl (ltb rfl) rfl rfl rfl (fun _ h => absurd h List.not_mem_nil) (fun _ h => absurd h List.not_mem_nil) (ih_i_readKid i7 k170 n170 s170 q170 f170 ks170 i2 hg184 _ _) (callK_retZ (fun r183 v tk185 hz191 (hle186 : tkj9 ≤ tk185) h187 => ?_) (fun c p tk185 hz (_ : tkj9 ≤ tk185) => by subst hz; obtain rfl := bd_stop hM; exact run_pan_at (⟨rfl, (show tk ≤ tk185 by omega), rfl⟩)))
            subst hz191
            replace hM := bd_ok hM
            obtain ⟨k189, n189, p189, e189, fs189, q189, f189, ks189, rfl, rfl, hf190⟩ := h187
            refine AAny.each (rs := [1, 6]) (by kernel_rfl) (fun h => by cases h) (fun i hi => ?_)
            simp only [List.mem_cons, List.not_mem_nil, or_false] at hi
            rcases hi with rfl | rfl
            ·refine AOp.rd rfl rfl rfl (ltb rfl) (aload_rd hG rfl rfl rfl (by first | (simp [ldok]; done) | exact List.not_mem_nil | trivial)) ?_
             refine AAny.one (i := 6) (by kernel_rfl) (AOp.step rfl rfl rfl (ltb rfl) (buildSlice_step (d := 97) hG rfl rfl rfl rfl rfl (by rfl) (by rfl) (by rfl) (by decide)) (fun _ h => absurd h List.not_mem_nil) ?_)
             obtain ⟨hc192, hM⟩ := chk_t hM
             try rw [show ((pers ([] : List LP)) ++ [(Pf.mk k189 n189 (fers fs189) (pers ks189))] : List Pf) = (pers (([] : List LP) ++ [LP.mk k189 n189 p189 e189 fs189 q189 f189 ks189])) from pers_app ([] : List LP) [LP.mk k189 n189 p189 e189 fs189 q189 f189 ks189]] at hM
             refine AAny.one (i := 7) (by kernel_rfl) (AOp.step rfl rfl rfl (ltb rfl) (appendFM_step (d := 98) hG rfl rfl rfl rfl rfl rfl rfl (pcellss_sz ([] : List LP)) rfl (pcellss_sz ([LP.mk k189 n189 p189 e189 fs189 q189 f189 ks189])) (plen ([] : List LP)) (plen ([LP.mk k189 n189 p189 e189 fs189 q189 f189 ks189])) (by simp [pers]) hc192 (by decide) (pcellss_app _ _)) (fun _ h => absurd h List.not_mem_nil) ?_)
             refine AAny.take (i := 8) rfl (by kernel_rfl) (by kernel_rfl) (by kernel_rfl) rfl rfl (ltb rfl) ((fieldAddr_step hG rfl rfl rfl rfl rfl).rd _) ?_
             refine AAny.one (i := 9) (by kernel_rfl) (AOp.step0 rfl rfl rfl (store_step hG rfl rfl rfl rfl rfl rfl rfl rfl) (by intro x hx; exact hx) ?_)
             refine AAny.done (by kernel_rfl) ?_
             refine run_blk ?_
             refine run_sub_code (σ' := ⟨[(1, .int .i64 i2), (2, .optr (.loc 2) 0 0), (4, .optr (.loc 4) 0 0), (5, .int .i64 i7), (8, .optr (.loc 8) 0 0), (85, .imm 1 4 false (cellss (lsub ks1 i10 (((ers ks1)).length : Int)))), (86, .int .i64 (((ers (lsub ks1 i10 (((ers ks1)).length : Int)))).length : Int)), (87, .int .i64 0)], [(98, ⟨29, 4, false, pcellss (([] : List LP) ++ [LP.mk k189 n189 p189 e189 fs189 q189 f189 ks189])⟩), (8, ⟨29, 4, true, [[.int .i64 i7, .int .i64 0, .imm 0 3 true [], .osl (.loc 98)]]⟩), (4, ⟨29, 4, true, [[.int .i64 0, .int .i64 0, .imm 0 3 true [], .imm 0 4 true []]]⟩), (2, ⟨34, 4, true, [[.int .i64 k1, .int .i64 n1, .str s1, .imm q1 4 f1 (cellss ks1)]]⟩)], [], O, tk185⟩) (Sub.trans (Sub.drop (k := 97) rfl) (Sub.trans (Sub.drop (k := 12) rfl) (Sub.env _ ⟨rfl, rfl, rfl, rfl, rfl, rfl, rfl, rfl, trivial⟩))) ?_
             refine run_region ?_
             refine run_bin rfl rfl rfl rfl rfl rfl rfl (ltb rfl) ?_
             refine mvL rfl rfl rfl rfl (ltb rfl) ?_
             refine run_ops_nil ?_
             exact run_loop_end ⟨n, _, Nat.le_refl _, ⟨(IntKind.i64.wrap (0 + 1)), (([] : List LP) ++ [LP.mk k189 n189 p189 e189 fs189 q189 f189 ks189]), tk185, (show tkj9 ≤ tk185 by omega), (show Fr tkj9 tk185 _ from (Fr.pcons ((show Fr tkj9 tk185 _ from hf190 rfl)) (show Fr tk185 tk185 _ from Fr.nil _ _) (by omega) (by omega)).mono (by omega) (by omega)), hM, rfl⟩, Sub.env [(1, .int .i64 i2), (4, .optr (.loc 4) 0 0), (5, .int .i64 i7), (8, .optr (.loc 8) 0 0), (85, .imm 1 4 false (cellss (lsub ks1 i10 (((ers ks1)).length : Int)))), (86, .int .i64 (((ers (lsub ks1 i10 (((ers ks1)).length : Int)))).length : Int)), (87, .int .i64 (IntKind.i64.wrap (0 + 1)))] ⟨rfl, rfl, rfl, rfl, rfl, rfl, rfl, trivial⟩⟩
            ·refine AOp.step rfl rfl rfl (ltb rfl) (buildSlice_step (d := 97) hG rfl rfl rfl rfl rfl (by rfl) (by rfl) (by rfl) (by decide)) (fun _ h => absurd h List.not_mem_nil) ?_
             refine AAny.one (i := 1) (by kernel_rfl) (AOp.rd rfl rfl rfl (ltb rfl) (aload_rd hG rfl rfl rfl (by first | (simp [ldok]; done) | exact List.not_mem_nil | trivial)) ?_)
             obtain ⟨hc193, hM⟩ := chk_t hM
             try rw [show ((pers ([] : List LP)) ++ [(Pf.mk k189 n189 (fers fs189) (pers ks189))] : List Pf) = (pers (([] : List LP) ++ [LP.mk k189 n189 p189 e189 fs189 q189 f189 ks189])) from pers_app ([] : List LP) [LP.mk k189 n189 p189 e189 fs189 q189 f189 ks189]] at hM
             refine AAny.one (i := 7) (by kernel_rfl) (AOp.step rfl rfl rfl (ltb rfl) (appendFM_step (d := 98) hG rfl rfl rfl rfl rfl rfl rfl (pcellss_sz ([] : List LP)) rfl (pcellss_sz ([LP.mk k189 n189 p189 e189 fs189 q189 f189 ks189])) (plen ([] : List LP)) (plen ([LP.mk k189 n189 p189 e189 fs189 q189 f189 ks189])) (by simp [pers]) hc193 (by decide) (pcellss_app _ _)) (fun _ h => absurd h List.not_mem_nil) ?_)
             refine AAny.take (i := 8) rfl (by kernel_rfl) (by kernel_rfl) (by kernel_rfl) rfl rfl (ltb rfl) ((fieldAddr_step hG rfl rfl rfl rfl rfl).rd _) ?_
             refine AAny.one (i := 9) (by kernel_rfl) (AOp.step0 rfl rfl rfl (store_step hG rfl rfl rfl rfl rfl rfl rfl rfl) (by intro x hx; exact hx) ?_)
             refine AAny.done (by kernel_rfl) ?_
             refine run_blk ?_
             refine run_sub_code (σ' := ⟨[(1, .int .i64 i2), (2, .optr (.loc 2) 0 0), (4, .optr (.loc 4) 0 0), (5, .int .i64 i7), (8, .optr (.loc 8) 0 0), (85, .imm 1 4 false (cellss (lsub ks1 i10 (((ers ks1)).length : Int)))), (86, .int .i64 (((ers (lsub ks1 i10 (((ers ks1)).length : Int)))).length : Int)), (87, .int .i64 0)], [(98, ⟨29, 4, false, pcellss (([] : List LP) ++ [LP.mk k189 n189 p189 e189 fs189 q189 f189 ks189])⟩), (8, ⟨29, 4, true, [[.int .i64 i7, .int .i64 0, .imm 0 3 true [], .osl (.loc 98)]]⟩), (4, ⟨29, 4, true, [[.int .i64 0, .int .i64 0, .imm 0 3 true [], .imm 0 4 true []]]⟩), (2, ⟨34, 4, true, [[.int .i64 k1, .int .i64 n1, .str s1, .imm q1 4 f1 (cellss ks1)]]⟩)], [], O, tk185⟩) (Sub.trans (Sub.drop (k := 97) rfl) (Sub.trans (Sub.drop (k := 12) rfl) (Sub.env _ ⟨rfl, rfl, rfl, rfl, rfl, rfl, rfl, rfl, trivial⟩))) ?_
             refine run_region ?_
             refine run_bin rfl rfl rfl rfl rfl rfl rfl (ltb rfl) ?_
             refine mvL rfl rfl rfl rfl (ltb rfl) ?_
             refine run_ops_nil ?_
             exact run_loop_end ⟨n, _, Nat.le_refl _, ⟨(IntKind.i64.wrap (0 + 1)), (([] : List LP) ++ [LP.mk k189 n189 p189 e189 fs189 q189 f189 ks189]), tk185, (show tkj9 ≤ tk185 by omega), (show Fr tkj9 tk185 _ from (Fr.pcons ((show Fr tkj9 tk185 _ from hf190 rfl)) (show Fr tk185 tk185 _ from Fr.nil _ _) (by omega) (by omega)).mono (by omega) (by omega)), hM, rfl⟩, Sub.env [(1, .int .i64 i2), (4, .optr (.loc 4) 0 0), (5, .int .i64 i7), (8, .optr (.loc 8) 0 0), (85, .imm 1 4 false (cellss (lsub ks1 i10 (((ers ks1)).length : Int)))), (86, .int .i64 (((ers (lsub ks1 i10 (((ers ks1)).length : Int)))).length : Int)), (87, .int .i64 (IntKind.i64.wrap (0 + 1)))] ⟨rfl, rfl, rfl, rfl, rfl, rfl, rfl, trivial⟩⟩
          ·replace hM := ite_f hb167 hM
           refine run_exit_to rfl ?_
           refine run_sr ?_
           refine run_ld hG rfl rfl rfl rfl rfl (ltb rfl) ?_
           refine run_op0 rfl (store_step hG rfl rfl rfl rfl rfl rfl rfl rfl) rfl ?_
           refine run_ops_nil ?_
           refine run_ret_to ?_
           obtain rfl := some_t hM
           refine fin_x hG rfl rfl rfl (v' := .agg [.int .i64 i7, .int .i64 0, .imm 0 3 true (fcellss []), .imm 0 4 true (pcellss [])]) (by rfl) ⟨rfl, (show tk ≤ tkj9 by omega), _, rfl, ⟨i7, 0, 0, true, [], 0, true, [], rfl, rfl, fun _ => Fr.nil _ _⟩⟩
         ·clear hM
          obtain ⟨i138, ks139, tki_readProof_L4, hle194, hfr139, hM, rfl⟩ := hI
          obtain _ | m := m
          ·exact absurd hM (by rw [i_readProof_L4]; exact fun h => by cases h)
          rw [i_readProof_L4] at hM
          try rw [tkids] at hM
          repeat rw [ers_sub] at hM
          refine run_sr ?_
          refine run_bin rfl rfl rfl rfl rfl rfl rfl (ltb rfl) ?_
          refine run_ops_nil ?_
          refine run_seq ?_
          refine run_ifd rfl rfl (fun hb140 => ?_) (fun hb140 => ?_)
          ·replace hM := ite_t hb140 hM
           refine run_skip ?_
           refine run_seq ?_
           refine run_block ?_
           refine run_sr ?_
           obtain ⟨y141, hy142, hM⟩ := bind_t hM
           obtain ⟨k143, n143, s143, q143, f143, ks143, rfl, hc144, hi145⟩ := tidx (ks := (lsub ks1 i10 (((ers ks1)).length : Int))) hy142
           refine run_pu rfl (indexImm_step hG rfl rfl rfl hi145 rfl rfl rfl rfl hc144) rfl (ltb rfl) ?_
           refine run_ld hG rfl rfl rfl rfl rfl (ltb rfl) ?_
           refine run_op rfl (alloc_step (d := 12) hG rfl rfl rfl) rfl (ltb rfl) ?_
           refine run_op0 rfl (store_step hG rfl rfl rfl rfl rfl rfl rfl rfl) rfl ?_
           refine run_ops_nil ?_
           refine run_draw [.loc 8, .loc 98] (n := 10) mixed rfl (by intro x hx; simp only [List.mem_cons, List.not_mem_nil, or_false] at hx; rcases hx with rfl | rfl <;> rfl) ?_
           refine AAny.take (i := 0) rfl (by kernel_rfl) (by kernel_rfl) (by kernel_rfl) rfl rfl (ltb rfl) ((fieldAddr_step hG rfl rfl rfl rfl rfl).rd _) ?_
           refine AAny.take (i := 2) rfl (by kernel_rfl) (by kernel_rfl) (by kernel_rfl) rfl rfl (ltb rfl) ((move_step (.inl rfl) rfl).rd _) ?_
           refine AAny.take (i := 3) rfl (by kernel_rfl) (by kernel_rfl) (by kernel_rfl) rfl rfl (ltb rfl) (aload_rd hG rfl rfl rfl (by first | (simp [ldok]; done) | exact List.not_mem_nil | trivial)) ?_
           refine AAny.take (i := 4) rfl (by kernel_rfl) (by kernel_rfl) (by kernel_rfl) rfl rfl (ltb rfl) ((move_step (.inl rfl) rfl).rd _) ?_
           refine AAny.each (rs := [1, 5]) (by kernel_rfl) (fun h => by cases h) (fun i hi => ?_)
           simp only [List.mem_cons, List.not_mem_nil, or_false] at hi
           rcases hi with rfl | rfl
           ·refine AOp.rd rfl rfl rfl (ltb rfl) (aload_rd hG rfl rfl rfl (by first | (simp [ldok]; done) | exact List.not_mem_nil | trivial)) ?_
            obtain ⟨z151, hg147, hM⟩ := zb_t hM
            refine AAny.one (i := 5) (by kernel_rfl) (AOp.call rfl rfl rfl rfl (ltb rfl) rfl rfl rfl (fun _ h => absurd h List.not_mem_nil) (fun _ h => absurd h List.not_mem_nil) (ih_i_readKid i7 k143 n143 s143 q143 f143 ks143 i2 hg147 _ _) (callK_retZ (fun r146 v tk148 hz154 (hle149 : tki_readProof_L4 ≤ tk148) h150 => ?_) (fun c p tk148 hz (_ : tki_readProof_L4 ≤ tk148) => by subst hz; obtain rfl := bd_stop hM; exact run_pan_at (⟨rfl, (show tk ≤ tk148 by omega), rfl⟩))))
            subst hz154
            replace hM := bd_ok hM
            obtain ⟨k152, n152, p152, e152, fs152, q152, f152, ks152, rfl, rfl, hf153⟩ := h150
            refine AAny.one (i := 6) (by kernel_rfl) (AOp.step rfl rfl rfl (ltb rfl) (buildSlice_step (d := 97) hG rfl rfl rfl rfl rfl (by rfl) (by rfl) (by rfl) (by decide)) (fun _ h => absurd h List.not_mem_nil) ?_)
            obtain ⟨hc155, hM⟩ := chk_t hM
            try rw [show ((pers ks139) ++ [(Pf.mk k152 n152 (fers fs152) (pers ks152))] : List Pf) = (pers (ks139 ++ [LP.mk k152 n152 p152 e152 fs152 q152 f152 ks152])) from pers_app ks139 [LP.mk k152 n152 p152 e152 fs152 q152 f152 ks152]] at hM
            refine AAny.one (i := 7) (by kernel_rfl) (AOp.step rfl rfl rfl (ltb rfl) (appendM_step hG rfl rfl rfl rfl rfl rfl rfl rfl rfl rfl rfl (pcellss_sz ([LP.mk k152 n152 p152 e152 fs152 q152 f152 ks152])) (plen ks139) (plen ([LP.mk k152 n152 p152 e152 fs152 q152 f152 ks152])) hc155 (by decide) (pcellss_app _ _)) (by intro x hx; simp only [List.mem_cons, List.not_mem_nil, or_false] at hx; subst hx; simp) ?_)
            refine AAny.take (i := 8) rfl (by kernel_rfl) (by kernel_rfl) (by kernel_rfl) rfl rfl (ltb rfl) ((fieldAddr_step hG rfl rfl rfl rfl rfl).rd _) ?_
            refine AAny.one (i := 9) (by kernel_rfl) (AOp.step0 rfl rfl rfl (store_step hG rfl rfl rfl rfl rfl rfl rfl rfl) (by intro x hx; have hx : x ∈ [ID.loc 8] := hx; simp only [List.mem_cons, List.not_mem_nil, or_false] at hx; subst hx; simp) ?_)
            refine AAny.done (by kernel_rfl) ?_
            refine run_blk ?_
            refine run_sub_code (σ' := ⟨[(1, .int .i64 i2), (4, .optr (.loc 4) 0 0), (5, .int .i64 i7), (8, .optr (.loc 8) 0 0), (85, .imm 1 4 false (cellss (lsub ks1 i10 (((ers ks1)).length : Int)))), (86, .int .i64 (((ers (lsub ks1 i10 (((ers ks1)).length : Int)))).length : Int)), (87, .int .i64 i138)], [(98, ⟨29, 4, false, pcellss (ks139 ++ [LP.mk k152 n152 p152 e152 fs152 q152 f152 ks152])⟩), (8, ⟨29, 4, true, [[.int .i64 i7, .int .i64 0, .imm 0 3 true [], .osl (.loc 98)]]⟩), (4, ⟨29, 4, true, [[.int .i64 0, .int .i64 0, .imm 0 3 true [], .imm 0 4 true []]]⟩), (2, ⟨34, 4, true, [[.int .i64 k1, .int .i64 n1, .str s1, .imm q1 4 f1 (cellss ks1)]]⟩)], [], O, tk148⟩) (Sub.trans (Sub.drop (k := 97) rfl) (Sub.trans (Sub.drop (k := 12) rfl) (Sub.env _ ⟨rfl, rfl, rfl, rfl, rfl, rfl, rfl, trivial⟩))) ?_
            refine run_region ?_
            refine run_bin rfl rfl rfl rfl rfl rfl rfl (ltb rfl) ?_
            refine mvL rfl rfl rfl rfl (ltb rfl) ?_
            refine run_ops_nil ?_
            exact run_loop_end ⟨m, _, Nat.lt_succ_self _, ⟨(IntKind.i64.wrap (i138 + 1)), (ks139 ++ [LP.mk k152 n152 p152 e152 fs152 q152 f152 ks152]), tk148, (show tkj9 ≤ tk148 by omega), (show Fr tkj9 tk148 _ from (Fr.psnoc (show Fr tkj9 tki_readProof_L4 _ from (hfr139).mono (by omega) (by omega)) ((show Fr tki_readProof_L4 tk148 _ from hf153 rfl)) (by omega) (by omega)).mono (by omega) (by omega)), hM, rfl⟩, Sub.env [(1, .int .i64 i2), (4, .optr (.loc 4) 0 0), (5, .int .i64 i7), (8, .optr (.loc 8) 0 0), (85, .imm 1 4 false (cellss (lsub ks1 i10 (((ers ks1)).length : Int)))), (86, .int .i64 (((ers (lsub ks1 i10 (((ers ks1)).length : Int)))).length : Int)), (87, .int .i64 (IntKind.i64.wrap (i138 + 1)))] ⟨rfl, rfl, rfl, rfl, rfl, rfl, rfl, trivial⟩⟩
           ·obtain ⟨z161, hg157, hM⟩ := zb_t hM
            refine AOp.call rfl rfl rfl rfl (ltb rfl) rfl rfl rfl (fun _ h => absurd h List.not_mem_nil) (fun _ h => absurd h List.not_mem_nil) (ih_i_readKid i7 k143 n143 s143 q143 f143 ks143 i2 hg157 _ _) (callK_retZ (fun r156 v tk158 hz164 (hle159 : tki_readProof_L4 ≤ tk158) h160 => ?_) (fun c p tk158 hz (_ : tki_readProof_L4 ≤ tk158) => by subst hz; obtain rfl := bd_stop hM; exact run_pan_at (⟨rfl, (show tk ≤ tk158 by omega), rfl⟩)))
            subst hz164
            replace hM := bd_ok hM
            obtain ⟨k162, n162, p162, e162, fs162, q162, f162, ks162, rfl, rfl, hf163⟩ := h160
            refine AAny.each (rs := [1, 6]) (by kernel_rfl) (fun h => by cases h) (fun i hi => ?_)
            simp only [List.mem_cons, List.not_mem_nil, or_false] at hi
            rcases hi with rfl | rfl
            ·refine AOp.rd rfl rfl rfl (ltb rfl) (aload_rd hG rfl rfl rfl (by first | (simp [ldok]; done) | exact List.not_mem_nil | trivial)) ?_
             refine AAny.one (i := 6) (by kernel_rfl) (AOp.step rfl rfl rfl (ltb rfl) (buildSlice_step (d := 97) hG rfl rfl rfl rfl rfl (by rfl) (by rfl) (by rfl) (by decide)) (fun _ h => absurd h List.not_mem_nil) ?_)
             obtain ⟨hc165, hM⟩ := chk_t hM
             try rw [show ((pers ks139) ++ [(Pf.mk k162 n162 (fers fs162) (pers ks162))] : List Pf) = (pers (ks139 ++ [LP.mk k162 n162 p162 e162 fs162 q162 f162 ks162])) from pers_app ks139 [LP.mk k162 n162 p162 e162 fs162 q162 f162 ks162]] at hM
             refine AAny.one (i := 7) (by kernel_rfl) (AOp.step rfl rfl rfl (ltb rfl) (appendM_step hG rfl rfl rfl rfl rfl rfl rfl rfl rfl rfl rfl (pcellss_sz ([LP.mk k162 n162 p162 e162 fs162 q162 f162 ks162])) (plen ks139) (plen ([LP.mk k162 n162 p162 e162 fs162 q162 f162 ks162])) hc165 (by decide) (pcellss_app _ _)) (by intro x hx; simp only [List.mem_cons, List.not_mem_nil, or_false] at hx; subst hx; simp) ?_)
             refine AAny.take (i := 8) rfl (by kernel_rfl) (by kernel_rfl) (by kernel_rfl) rfl rfl (ltb rfl) ((fieldAddr_step hG rfl rfl rfl rfl rfl).rd _) ?_
             refine AAny.one (i := 9) (by kernel_rfl) (AOp.step0 rfl rfl rfl (store_step hG rfl rfl rfl rfl rfl rfl rfl rfl) (by intro x hx; have hx : x ∈ [ID.loc 8] := hx; simp only [List.mem_cons, List.not_mem_nil, or_false] at hx; subst hx; simp) ?_)
             refine AAny.done (by kernel_rfl) ?_
             refine run_blk ?_
             refine run_sub_code (σ' := ⟨[(1, .int .i64 i2), (4, .optr (.loc 4) 0 0), (5, .int .i64 i7), (8, .optr (.loc 8) 0 0), (85, .imm 1 4 false (cellss (lsub ks1 i10 (((ers ks1)).length : Int)))), (86, .int .i64 (((ers (lsub ks1 i10 (((ers ks1)).length : Int)))).length : Int)), (87, .int .i64 i138)], [(98, ⟨29, 4, false, pcellss (ks139 ++ [LP.mk k162 n162 p162 e162 fs162 q162 f162 ks162])⟩), (8, ⟨29, 4, true, [[.int .i64 i7, .int .i64 0, .imm 0 3 true [], .osl (.loc 98)]]⟩), (4, ⟨29, 4, true, [[.int .i64 0, .int .i64 0, .imm 0 3 true [], .imm 0 4 true []]]⟩), (2, ⟨34, 4, true, [[.int .i64 k1, .int .i64 n1, .str s1, .imm q1 4 f1 (cellss ks1)]]⟩)], [], O, tk158⟩) (Sub.trans (Sub.drop (k := 97) rfl) (Sub.trans (Sub.drop (k := 12) rfl) (Sub.env _ ⟨rfl, rfl, rfl, rfl, rfl, rfl, rfl, trivial⟩))) ?_
             refine run_region ?_
             refine run_bin rfl rfl rfl rfl rfl rfl rfl (ltb rfl) ?_
             refine mvL rfl rfl rfl rfl (ltb rfl) ?_
             refine run_ops_nil ?_
             exact run_loop_end ⟨m, _, Nat.lt_succ_self _, ⟨(IntKind.i64.wrap (i138 + 1)), (ks139 ++ [LP.mk k162 n162 p162 e162 fs162 q162 f162 ks162]), tk158, (show tkj9 ≤ tk158 by omega), (show Fr tkj9 tk158 _ from (Fr.psnoc (show Fr tkj9 tki_readProof_L4 _ from (hfr139).mono (by omega) (by omega)) ((show Fr tki_readProof_L4 tk158 _ from hf163 rfl)) (by omega) (by omega)).mono (by omega) (by omega)), hM, rfl⟩, Sub.env [(1, .int .i64 i2), (4, .optr (.loc 4) 0 0), (5, .int .i64 i7), (8, .optr (.loc 8) 0 0), (85, .imm 1 4 false (cellss (lsub ks1 i10 (((ers ks1)).length : Int)))), (86, .int .i64 (((ers (lsub ks1 i10 (((ers ks1)).length : Int)))).length : Int)), (87, .int .i64 (IntKind.i64.wrap (i138 + 1)))] ⟨rfl, rfl, rfl, rfl, rfl, rfl, rfl, trivial⟩⟩
            ·refine AOp.step rfl rfl rfl (ltb rfl) (buildSlice_step (d := 97) hG rfl rfl rfl rfl rfl (by rfl) (by rfl) (by rfl) (by decide)) (fun _ h => absurd h List.not_mem_nil) ?_
             refine AAny.one (i := 1) (by kernel_rfl) (AOp.rd rfl rfl rfl (ltb rfl) (aload_rd hG rfl rfl rfl (by first | (simp [ldok]; done) | exact List.not_mem_nil | trivial)) ?_)
             obtain ⟨hc166, hM⟩ := chk_t hM
             try rw [show ((pers ks139) ++ [(Pf.mk k162 n162 (fers fs162) (pers ks162))] : List Pf) = (pers (ks139 ++ [LP.mk k162 n162 p162 e162 fs162 q162 f162 ks162])) from pers_app ks139 [LP.mk k162 n162 p162 e162 fs162 q162 f162 ks162]] at hM
             refine AAny.one (i := 7) (by kernel_rfl) (AOp.step rfl rfl rfl (ltb rfl) (appendM_step hG rfl rfl rfl rfl rfl rfl rfl rfl rfl rfl rfl (pcellss_sz ([LP.mk k162 n162 p162 e162 fs162 q162 f162 ks162])) (plen ks139) (plen ([LP.mk k162 n162 p162 e162 fs162 q162 f162 ks162])) hc166 (by decide) (pcellss_app _ _)) (by intro x hx; simp only [List.mem_cons, List.not_mem_nil, or_false] at hx; subst hx; simp) ?_)
             refine AAny.take (i := 8) rfl (by kernel_rfl) (by kernel_rfl) (by kernel_rfl) rfl rfl (ltb rfl) ((fieldAddr_step hG rfl rfl rfl rfl rfl).rd _) ?_
             refine AAny.one (i := 9) (by kernel_rfl) (AOp.step0 rfl rfl rfl (store_step hG rfl rfl rfl rfl rfl rfl rfl rfl) (by intro x hx; have hx : x ∈ [ID.loc 8] := hx; simp only [List.mem_cons, List.not_mem_nil, or_false] at hx; subst hx; simp) ?_)
             refine AAny.done (by kernel_rfl) ?_
             refine run_blk ?_
             refine run_sub_code (σ' := ⟨[(1, .int .i64 i2), (4, .optr (.loc 4) 0 0), (5, .int .i64 i7), (8, .optr (.loc 8) 0 0), (85, .imm 1 4 false (cellss (lsub ks1 i10 (((ers ks1)).length : Int)))), (86, .int .i64 (((ers (lsub ks1 i10 (((ers ks1)).length : Int)))).length : Int)), (87, .int .i64 i138)], [(98, ⟨29, 4, false, pcellss (ks139 ++ [LP.mk k162 n162 p162 e162 fs162 q162 f162 ks162])⟩), (8, ⟨29, 4, true, [[.int .i64 i7, .int .i64 0, .imm 0 3 true [], .osl (.loc 98)]]⟩), (4, ⟨29, 4, true, [[.int .i64 0, .int .i64 0, .imm 0 3 true [], .imm 0 4 true []]]⟩), (2, ⟨34, 4, true, [[.int .i64 k1, .int .i64 n1, .str s1, .imm q1 4 f1 (cellss ks1)]]⟩)], [], O, tk158⟩) (Sub.trans (Sub.drop (k := 97) rfl) (Sub.trans (Sub.drop (k := 12) rfl) (Sub.env _ ⟨rfl, rfl, rfl, rfl, rfl, rfl, rfl, trivial⟩))) ?_
             refine run_region ?_
             refine run_bin rfl rfl rfl rfl rfl rfl rfl (ltb rfl) ?_
             refine mvL rfl rfl rfl rfl (ltb rfl) ?_
             refine run_ops_nil ?_
             exact run_loop_end ⟨m, _, Nat.lt_succ_self _, ⟨(IntKind.i64.wrap (i138 + 1)), (ks139 ++ [LP.mk k162 n162 p162 e162 fs162 q162 f162 ks162]), tk158, (show tkj9 ≤ tk158 by omega), (show Fr tkj9 tk158 _ from (Fr.psnoc (show Fr tkj9 tki_readProof_L4 _ from (hfr139).mono (by omega) (by omega)) ((show Fr tki_readProof_L4 tk158 _ from hf163 rfl)) (by omega) (by omega)).mono (by omega) (by omega)), hM, rfl⟩, Sub.env [(1, .int .i64 i2), (4, .optr (.loc 4) 0 0), (5, .int .i64 i7), (8, .optr (.loc 8) 0 0), (85, .imm 1 4 false (cellss (lsub ks1 i10 (((ers ks1)).length : Int)))), (86, .int .i64 (((ers (lsub ks1 i10 (((ers ks1)).length : Int)))).length : Int)), (87, .int .i64 (IntKind.i64.wrap (i138 + 1)))] ⟨rfl, rfl, rfl, rfl, rfl, rfl, rfl, trivial⟩⟩
          ·replace hM := ite_f hb140 hM
           refine run_exit_to rfl ?_
           refine run_sr ?_
           refine run_ld hG rfl rfl rfl rfl rfl (ltb rfl) ?_
           refine run_op0 rfl (store_step hG rfl rfl rfl rfl rfl rfl rfl rfl) rfl ?_
           refine run_ops_nil ?_
           refine run_ret_to ?_
           refine fin_sub (Sub.freeze (k := 98) rfl rfl) ?_
           obtain rfl := some_t hM
           refine fin_x hG rfl rfl rfl (v' := .agg [.int .i64 i7, .int .i64 0, .imm 0 3 true (fcellss []), .imm tki_readProof_L4 4 false (pcellss ks139)]) (by rfl) ⟨rfl, (show tk ≤ (tki_readProof_L4 + 1) by omega), _, rfl, ⟨i7, 0, 0, true, [], tki_readProof_L4, false, ks139, rfl, rfl, fun _ => (show Fr tk (tki_readProof_L4 + 1) _ from (Fr.app (show Fr tkj9 tkj9 _ from Fr.nil _ _) (show Fr tkj9 (tki_readProof_L4 + 1) _ from Fr.pstop (show Fr tkj9 tki_readProof_L4 _ from (hfr139).mono (by omega) (by omega)) (by omega) (by omega)) (by omega) (by omega)).mono (by omega) (by omega))⟩⟩
       ·clear hM
        obtain ⟨i23, ks24, tki_readProof_L2, hle195, hfr24, hM, rfl⟩ := hI
        obtain _ | m := m
        ·exact absurd hM (by rw [i_readProof_L2]; exact fun h => by cases h)
        rw [i_readProof_L2] at hM
        try rw [tkids] at hM
        repeat rw [ers_sub] at hM
        refine run_sr ?_
        refine run_bin rfl rfl rfl rfl rfl rfl rfl (ltb rfl) ?_
        refine run_ops_nil ?_
        refine run_seq ?_
        refine run_ifd rfl rfl (fun hb25 => ?_) (fun hb25 => ?_)
        ·replace hM := ite_t hb25 hM
         refine run_skip ?_
         refine run_seq ?_
         refine run_block ?_
         refine run_sr ?_
         obtain ⟨y26, hy27, hM⟩ := bind_t hM
         obtain ⟨k28, n28, s28, q28, f28, ks28, rfl, hc29, hi30⟩ := tidx (ks := (lsub ks1 0 i10)) hy27
         refine run_pu rfl (indexImm_step hG rfl rfl rfl hi30 rfl rfl rfl rfl hc29) rfl (ltb rfl) ?_
         refine run_ld hG rfl rfl rfl rfl rfl (ltb rfl) ?_
         refine run_op rfl (alloc_step (d := 10) hG rfl rfl rfl) rfl (ltb rfl) ?_
         refine run_op0 rfl (store_step hG rfl rfl rfl rfl rfl rfl rfl rfl) rfl ?_
         refine run_ops_nil ?_
         refine run_draw [.loc 8, .loc 78] (n := 8) mixed rfl (by intro x hx; simp only [List.mem_cons, List.not_mem_nil, or_false] at hx; rcases hx with rfl | rfl <;> rfl) ?_
         refine AAny.take (i := 0) rfl (by kernel_rfl) (by kernel_rfl) (by kernel_rfl) rfl rfl (ltb rfl) ((fieldAddr_step hG rfl rfl rfl rfl rfl).rd _) ?_
         refine AAny.take (i := 2) rfl (by kernel_rfl) (by kernel_rfl) (by kernel_rfl) rfl rfl (ltb rfl) (aload_rd hG rfl rfl rfl (by first | (simp [ldok]; done) | exact List.not_mem_nil | trivial)) ?_
         refine AAny.each (rs := [1, 3]) (by kernel_rfl) (fun h => by cases h) (fun i hi => ?_)
         simp only [List.mem_cons, List.not_mem_nil, or_false] at hi
         rcases hi with rfl | rfl
         ·refine AOp.rd rfl rfl rfl (ltb rfl) (aload_rd hG rfl rfl rfl (by first | (simp [ldok]; done) | exact List.not_mem_nil | trivial)) ?_
          obtain ⟨z36, hg32, hM⟩ := zb_t hM
          refine AAny.one (i := 3) (by kernel_rfl) (AOp.call rfl rfl rfl rfl (ltb rfl) rfl rfl rfl (fun _ h => absurd h List.not_mem_nil) (fun _ h => absurd h List.not_mem_nil) (i_readForm_ok n k28 n28 s28 q28 f28 ks28 hg32 _ _) (callK_retZ (fun r31 v tk33 hz39 (hle34 : tki_readProof_L2 ≤ tk33) h35 => ?_) (fun c p tk33 hz (_ : tki_readProof_L2 ≤ tk33) => by subst hz; obtain rfl := bd_stop hM; exact run_pan_at (⟨rfl, (show tk ≤ tk33 by omega), rfl⟩))))
          subst hz39
          replace hM := bd_ok hM
          obtain ⟨k37, n37, q37, f37, ks37, rfl, rfl, hf38⟩ := h35
          refine AAny.one (i := 4) (by kernel_rfl) (AOp.step rfl rfl rfl (ltb rfl) (buildSlice_step (d := 77) hG rfl rfl rfl rfl rfl (by rfl) (by rfl) (by rfl) (by decide)) (fun _ h => absurd h List.not_mem_nil) ?_)
          obtain ⟨hc40, hM⟩ := chk_t hM
          try rw [show ((fers ks24) ++ [(F.mk k37 n37 (fers ks37))] : List F) = (fers (ks24 ++ [LF.mk k37 n37 q37 f37 ks37])) from fers_app ks24 [LF.mk k37 n37 q37 f37 ks37]] at hM
          refine AAny.one (i := 5) (by kernel_rfl) (AOp.step rfl rfl rfl (ltb rfl) (appendM_step hG rfl rfl rfl rfl rfl rfl rfl rfl rfl rfl rfl (fcellss_sz ([LF.mk k37 n37 q37 f37 ks37])) (flen ks24) (flen ([LF.mk k37 n37 q37 f37 ks37])) hc40 (by decide) (fcellss_app _ _)) (by intro x hx; simp only [List.mem_cons, List.not_mem_nil, or_false] at hx; subst hx; simp) ?_)
          refine AAny.take (i := 6) rfl (by kernel_rfl) (by kernel_rfl) (by kernel_rfl) rfl rfl (ltb rfl) ((fieldAddr_step hG rfl rfl rfl rfl rfl).rd _) ?_
          refine AAny.one (i := 7) (by kernel_rfl) (AOp.step0 rfl rfl rfl (store_step hG rfl rfl rfl rfl rfl rfl rfl rfl) (by intro x hx; have hx : x ∈ [ID.loc 8] := hx; simp only [List.mem_cons, List.not_mem_nil, or_false] at hx; subst hx; simp) ?_)
          refine AAny.done (by kernel_rfl) ?_
          refine run_blk ?_
          refine run_region ?_
          refine run_bin rfl rfl rfl rfl rfl rfl rfl (ltb rfl) ?_
          refine mvL rfl rfl rfl rfl (ltb rfl) ?_
          refine run_ops_nil ?_
          exact run_loop_end ⟨m, _, Nat.lt_succ_self _, ⟨(IntKind.i64.wrap (i23 + 1)), (ks24 ++ [LF.mk k37 n37 q37 f37 ks37]), tk33, (show tkj9 ≤ tk33 by omega), (show Fr tkj9 tk33 _ from (Fr.fsnoc (show Fr tkj9 tki_readProof_L2 _ from (hfr24).mono (by omega) (by omega)) ((show Fr tki_readProof_L2 tk33 _ from hf38 rfl)) (by omega) (by omega)).mono (by omega) (by omega)), hM, rfl⟩, Sub.trans (Sub.drop (k := 77) rfl) (Sub.trans (Sub.drop (k := 10) rfl) (Sub.env [(1, .int .i64 i2), (2, .optr (.loc 2) 0 0), (4, .optr (.loc 4) 0 0), (5, .int .i64 i7), (6, .optr (.loc 6) 0 0), (8, .optr (.loc 8) 0 0), (67, .imm 1 4 false (cellss (lsub ks1 0 i10))), (68, .int .i64 (((ers (lsub ks1 0 i10))).length : Int)), (69, .int .i64 (IntKind.i64.wrap (i23 + 1)))] ⟨rfl, rfl, rfl, rfl, rfl, rfl, rfl, rfl, rfl, trivial⟩))⟩
         ·obtain ⟨z46, hg42, hM⟩ := zb_t hM
          refine AOp.call rfl rfl rfl rfl (ltb rfl) rfl rfl rfl (fun _ h => absurd h List.not_mem_nil) (fun _ h => absurd h List.not_mem_nil) (i_readForm_ok n k28 n28 s28 q28 f28 ks28 hg42 _ _) (callK_retZ (fun r41 v tk43 hz49 (hle44 : tki_readProof_L2 ≤ tk43) h45 => ?_) (fun c p tk43 hz (_ : tki_readProof_L2 ≤ tk43) => by subst hz; obtain rfl := bd_stop hM; exact run_pan_at (⟨rfl, (show tk ≤ tk43 by omega), rfl⟩)))
          subst hz49
          replace hM := bd_ok hM
          obtain ⟨k47, n47, q47, f47, ks47, rfl, rfl, hf48⟩ := h45
          refine AAny.each (rs := [1, 4]) (by kernel_rfl) (fun h => by cases h) (fun i hi => ?_)
          simp only [List.mem_cons, List.not_mem_nil, or_false] at hi
          rcases hi with rfl | rfl
          ·refine AOp.rd rfl rfl rfl (ltb rfl) (aload_rd hG rfl rfl rfl (by first | (simp [ldok]; done) | exact List.not_mem_nil | trivial)) ?_
           refine AAny.one (i := 4) (by kernel_rfl) (AOp.step rfl rfl rfl (ltb rfl) (buildSlice_step (d := 77) hG rfl rfl rfl rfl rfl (by rfl) (by rfl) (by rfl) (by decide)) (fun _ h => absurd h List.not_mem_nil) ?_)
           obtain ⟨hc50, hM⟩ := chk_t hM
           try rw [show ((fers ks24) ++ [(F.mk k47 n47 (fers ks47))] : List F) = (fers (ks24 ++ [LF.mk k47 n47 q47 f47 ks47])) from fers_app ks24 [LF.mk k47 n47 q47 f47 ks47]] at hM
           refine AAny.one (i := 5) (by kernel_rfl) (AOp.step rfl rfl rfl (ltb rfl) (appendM_step hG rfl rfl rfl rfl rfl rfl rfl rfl rfl rfl rfl (fcellss_sz ([LF.mk k47 n47 q47 f47 ks47])) (flen ks24) (flen ([LF.mk k47 n47 q47 f47 ks47])) hc50 (by decide) (fcellss_app _ _)) (by intro x hx; simp only [List.mem_cons, List.not_mem_nil, or_false] at hx; subst hx; simp) ?_)
           refine AAny.take (i := 6) rfl (by kernel_rfl) (by kernel_rfl) (by kernel_rfl) rfl rfl (ltb rfl) ((fieldAddr_step hG rfl rfl rfl rfl rfl).rd _) ?_
           refine AAny.one (i := 7) (by kernel_rfl) (AOp.step0 rfl rfl rfl (store_step hG rfl rfl rfl rfl rfl rfl rfl rfl) (by intro x hx; have hx : x ∈ [ID.loc 8] := hx; simp only [List.mem_cons, List.not_mem_nil, or_false] at hx; subst hx; simp) ?_)
           refine AAny.done (by kernel_rfl) ?_
           refine run_blk ?_
           refine run_region ?_
           refine run_bin rfl rfl rfl rfl rfl rfl rfl (ltb rfl) ?_
           refine mvL rfl rfl rfl rfl (ltb rfl) ?_
           refine run_ops_nil ?_
           exact run_loop_end ⟨m, _, Nat.lt_succ_self _, ⟨(IntKind.i64.wrap (i23 + 1)), (ks24 ++ [LF.mk k47 n47 q47 f47 ks47]), tk43, (show tkj9 ≤ tk43 by omega), (show Fr tkj9 tk43 _ from (Fr.fsnoc (show Fr tkj9 tki_readProof_L2 _ from (hfr24).mono (by omega) (by omega)) ((show Fr tki_readProof_L2 tk43 _ from hf48 rfl)) (by omega) (by omega)).mono (by omega) (by omega)), hM, rfl⟩, Sub.trans (Sub.drop (k := 77) rfl) (Sub.trans (Sub.drop (k := 10) rfl) (Sub.env [(1, .int .i64 i2), (2, .optr (.loc 2) 0 0), (4, .optr (.loc 4) 0 0), (5, .int .i64 i7), (6, .optr (.loc 6) 0 0), (8, .optr (.loc 8) 0 0), (67, .imm 1 4 false (cellss (lsub ks1 0 i10))), (68, .int .i64 (((ers (lsub ks1 0 i10))).length : Int)), (69, .int .i64 (IntKind.i64.wrap (i23 + 1)))] ⟨rfl, rfl, rfl, rfl, rfl, rfl, rfl, rfl, rfl, trivial⟩))⟩
          ·refine AOp.step rfl rfl rfl (ltb rfl) (buildSlice_step (d := 77) hG rfl rfl rfl rfl rfl (by rfl) (by rfl) (by rfl) (by decide)) (fun _ h => absurd h List.not_mem_nil) ?_
           refine AAny.one (i := 1) (by kernel_rfl) (AOp.rd rfl rfl rfl (ltb rfl) (aload_rd hG rfl rfl rfl (by first | (simp [ldok]; done) | exact List.not_mem_nil | trivial)) ?_)
           obtain ⟨hc51, hM⟩ := chk_t hM
           try rw [show ((fers ks24) ++ [(F.mk k47 n47 (fers ks47))] : List F) = (fers (ks24 ++ [LF.mk k47 n47 q47 f47 ks47])) from fers_app ks24 [LF.mk k47 n47 q47 f47 ks47]] at hM
           refine AAny.one (i := 5) (by kernel_rfl) (AOp.step rfl rfl rfl (ltb rfl) (appendM_step hG rfl rfl rfl rfl rfl rfl rfl rfl rfl rfl rfl (fcellss_sz ([LF.mk k47 n47 q47 f47 ks47])) (flen ks24) (flen ([LF.mk k47 n47 q47 f47 ks47])) hc51 (by decide) (fcellss_app _ _)) (by intro x hx; simp only [List.mem_cons, List.not_mem_nil, or_false] at hx; subst hx; simp) ?_)
           refine AAny.take (i := 6) rfl (by kernel_rfl) (by kernel_rfl) (by kernel_rfl) rfl rfl (ltb rfl) ((fieldAddr_step hG rfl rfl rfl rfl rfl).rd _) ?_
           refine AAny.one (i := 7) (by kernel_rfl) (AOp.step0 rfl rfl rfl (store_step hG rfl rfl rfl rfl rfl rfl rfl rfl) (by intro x hx; have hx : x ∈ [ID.loc 8] := hx; simp only [List.mem_cons, List.not_mem_nil, or_false] at hx; subst hx; simp) ?_)
           refine AAny.done (by kernel_rfl) ?_
           refine run_blk ?_
           refine run_region ?_
           refine run_bin rfl rfl rfl rfl rfl rfl rfl (ltb rfl) ?_
           refine mvL rfl rfl rfl rfl (ltb rfl) ?_
           refine run_ops_nil ?_
           exact run_loop_end ⟨m, _, Nat.lt_succ_self _, ⟨(IntKind.i64.wrap (i23 + 1)), (ks24 ++ [LF.mk k47 n47 q47 f47 ks47]), tk43, (show tkj9 ≤ tk43 by omega), (show Fr tkj9 tk43 _ from (Fr.fsnoc (show Fr tkj9 tki_readProof_L2 _ from (hfr24).mono (by omega) (by omega)) ((show Fr tki_readProof_L2 tk43 _ from hf48 rfl)) (by omega) (by omega)).mono (by omega) (by omega)), hM, rfl⟩, Sub.trans (Sub.drop (k := 77) rfl) (Sub.trans (Sub.drop (k := 10) rfl) (Sub.env [(1, .int .i64 i2), (2, .optr (.loc 2) 0 0), (4, .optr (.loc 4) 0 0), (5, .int .i64 i7), (6, .optr (.loc 6) 0 0), (8, .optr (.loc 8) 0 0), (67, .imm 1 4 false (cellss (lsub ks1 0 i10))), (68, .int .i64 (((ers (lsub ks1 0 i10))).length : Int)), (69, .int .i64 (IntKind.i64.wrap (i23 + 1)))] ⟨rfl, rfl, rfl, rfl, rfl, rfl, rfl, rfl, rfl, trivial⟩))⟩
        ·replace hM := ite_f hb25 hM
         refine run_exit_to rfl ?_
         refine run_seq ?_
         refine run_sr ?_
         refine run_pu rfl (fieldAddr_step hG rfl rfl rfl rfl rfl) rfl (ltb rfl) ?_
         refine run_ld hG rfl rfl rfl rfl rfl (ltb rfl) ?_
         refine run_pu rfl (fieldAddr_step hG rfl rfl rfl rfl rfl) rfl (ltb rfl) ?_
         refine run_ld hG rfl rfl rfl rfl rfl (ltb rfl) ?_
         obtain ⟨hc52, hM⟩ := chk_t hM
         try rw [tkids] at hM
         repeat rw [ers_sub] at hM
         try rw [show (lsub (ers ks1) i10 (((ers ks1)).length : Int) : List T) = (ers (lsub ks1 i10 (((ers ks1)).length : Int))) from ers_sub _ _ _] at hM
         refine run_pu rfl (subImm_step hG rfl rfl rfl rfl rfl rfl (tlen _) (bnd_some rfl) bnd_none hc52 (cellss_sub _ _ _)) rfl (ltb rfl) ?_
         refine run_pu rfl (lenImm_step hG rfl rfl rfl rfl (tlen _)) rfl (ltb rfl) ?_
         refine mvL rfl rfl rfl rfl (ltb rfl) ?_
         refine run_ops_nil ?_
         refine run_block ?_
         refine run_peel (fun m σ => ∃ (i53 : Int) (ks54 : List LP) (tki_readProof_L3 : Nat), tki_readProof_L2 ≤ tki_readProof_L3 ∧ Fr tki_readProof_L2 tki_readProof_L3 (ptoks ks54) ∧ i_readProof_L3 (i_readKid n) (T.mk k1 n1 s1 (ers ks1)) i2 i7 i10 (fers ks24) m i53 (pers ks54) = some r ∧ σ = ⟨[(1, .int .i64 i2), (4, .optr (.loc 4) 0 0), (5, .int .i64 i7), (8, .optr (.loc 8) 0 0), (85, .imm 1 4 false (cellss (lsub ks1 i10 (((ers ks1)).length : Int)))), (86, .int .i64 (((ers (lsub ks1 i10 (((ers ks1)).length : Int)))).length : Int)), (87, .int .i64 i53)], [(98, ⟨29, 4, false, pcellss ks54⟩), (78, ⟨50, 3, false, fcellss ks24⟩), (8, ⟨29, 4, true, [[.int .i64 i7, .int .i64 0, .osl (.loc 78), .osl (.loc 98)]]⟩), (4, ⟨29, 4, true, [[.int .i64 0, .int .i64 0, .imm 0 3 true [], .imm 0 4 true []]]⟩), (2, ⟨34, 4, true, [[.int .i64 k1, .int .i64 n1, .str s1, .imm q1 4 f1 (cellss ks1)]]⟩)], [], O, tki_readProof_L3⟩) n ?_ (fun m σ hI => ?_)
         ·refine run_sr ?_
          refine run_bin rfl rfl rfl rfl rfl rfl rfl (ltb rfl) ?_
          refine run_ops_nil ?_
          refine run_seq ?_
          refine run_ifd rfl rfl (fun hb82 => ?_) (fun hb82 => ?_)
          ·replace hM := ite_t hb82 hM
           refine run_skip ?_
           refine run_seq ?_
           refine run_block ?_
           refine run_sr ?_
           obtain ⟨y83, hy84, hM⟩ := bind_t hM
           obtain ⟨k85, n85, s85, q85, f85, ks85, rfl, hc86, hi87⟩ := tidx (ks := (lsub ks1 i10 (((ers ks1)).length : Int))) hy84
           refine run_pu rfl (indexImm_step hG rfl rfl rfl hi87 rfl rfl rfl rfl hc86) rfl (ltb rfl) ?_
           refine run_ld hG rfl rfl rfl rfl rfl (ltb rfl) ?_
           refine run_op rfl (alloc_step (d := 12) hG rfl rfl rfl) rfl (ltb rfl) ?_
           refine run_op0 rfl (store_step hG rfl rfl rfl rfl rfl rfl rfl rfl) rfl ?_
           refine run_ops_nil ?_
           refine run_draw [.loc 8] (n := 10) mixed rfl (by intro x hx; simp only [List.mem_cons, List.not_mem_nil, or_false] at hx; rcases hx with rfl <;> rfl) ?_
           refine AAny.take (i := 0) rfl (by kernel_rfl) (by kernel_rfl) (by kernel_rfl) rfl rfl (ltb rfl) ((fieldAddr_step hG rfl rfl rfl rfl rfl).rd _) ?_
           refine AAny.take (i := 2) rfl (by kernel_rfl) (by kernel_rfl) (by kernel_rfl) rfl rfl (ltb rfl) ((move_step (.inl rfl) rfl).rd _) ?_
           refine AAny.take (i := 3) rfl (by kernel_rfl) (by kernel_rfl) (by kernel_rfl) rfl rfl (ltb rfl) (aload_rd hG rfl rfl rfl (by first | (simp [ldok]; done) | exact List.not_mem_nil | trivial)) ?_
           refine AAny.take (i := 4) rfl (by kernel_rfl) (by kernel_rfl) (by kernel_rfl) rfl rfl (ltb rfl) ((move_step (.inl rfl) rfl).rd _) ?_
           refine AAny.each (rs := [1, 5]) (by kernel_rfl) (fun h => by cases h) (fun i hi => ?_)
           simp only [List.mem_cons, List.not_mem_nil, or_false] at hi
           rcases hi with rfl | rfl
           ·refine AOp.rd rfl rfl rfl (ltb rfl) (aload_rd hG rfl rfl rfl (by first | (simp [ldok]; done) | exact List.not_mem_nil | trivial)) ?_
            obtain ⟨z93, hg89, hM⟩ := zb_t hM
            refine AAny.one (i := 5) (by kernel_rfl) (AOp.call rfl rfl rfl rfl (ltb rfl) rfl rfl rfl (fun _ h => absurd h List.not_mem_nil) (fun _ h => absurd h List.not_mem_nil) (ih_i_readKid i7 k85 n85 s85 q85 f85 ks85 i2 hg89 _ _) (callK_retZ (fun r88 v tk90 hz96 (hle91 : tki_readProof_L2 ≤ tk90) h92 => ?_) (fun c p tk90 hz (_ : tki_readProof_L2 ≤ tk90) => by subst hz; obtain rfl := bd_stop hM; exact run_pan_at (⟨rfl, (show tk ≤ tk90 by omega), rfl⟩))))
            subst hz96
            replace hM := bd_ok hM
            obtain ⟨k94, n94, p94, e94, fs94, q94, f94, ks94, rfl, rfl, hf95⟩ := h92
            refine AAny.one (i := 6) (by kernel_rfl) (AOp.step rfl rfl rfl (ltb rfl) (buildSlice_step (d := 97) hG rfl rfl rfl rfl rfl (by rfl) (by rfl) (by rfl) (by decide)) (fun _ h => absurd h List.not_mem_nil) ?_)
            obtain ⟨hc97, hM⟩ := chk_t hM
            try rw [show ((pers ([] : List LP)) ++ [(Pf.mk k94 n94 (fers fs94) (pers ks94))] : List Pf) = (pers (([] : List LP) ++ [LP.mk k94 n94 p94 e94 fs94 q94 f94 ks94])) from pers_app ([] : List LP) [LP.mk k94 n94 p94 e94 fs94 q94 f94 ks94]] at hM
            refine AAny.one (i := 7) (by kernel_rfl) (AOp.step rfl rfl rfl (ltb rfl) (appendFM_step (d := 98) hG rfl rfl rfl rfl rfl rfl rfl (pcellss_sz ([] : List LP)) rfl (pcellss_sz ([LP.mk k94 n94 p94 e94 fs94 q94 f94 ks94])) (plen ([] : List LP)) (plen ([LP.mk k94 n94 p94 e94 fs94 q94 f94 ks94])) (by simp [pers]) hc97 (by decide) (pcellss_app _ _)) (fun _ h => absurd h List.not_mem_nil) ?_)
            refine AAny.take (i := 8) rfl (by kernel_rfl) (by kernel_rfl) (by kernel_rfl) rfl rfl (ltb rfl) ((fieldAddr_step hG rfl rfl rfl rfl rfl).rd _) ?_
            refine AAny.one (i := 9) (by kernel_rfl) (AOp.step0 rfl rfl rfl (store_step hG rfl rfl rfl rfl rfl rfl rfl rfl) (by intro x hx; exact hx) ?_)
            refine AAny.done (by kernel_rfl) ?_
            refine run_blk ?_
            refine run_sub_code (σ' := ⟨[(1, .int .i64 i2), (2, .optr (.loc 2) 0 0), (4, .optr (.loc 4) 0 0), (5, .int .i64 i7), (8, .optr (.loc 8) 0 0), (85, .imm 1 4 false (cellss (lsub ks1 i10 (((ers ks1)).length : Int)))), (86, .int .i64 (((ers (lsub ks1 i10 (((ers ks1)).length : Int)))).length : Int)), (87, .int .i64 0)], [(98, ⟨29, 4, false, pcellss (([] : List LP) ++ [LP.mk k94 n94 p94 e94 fs94 q94 f94 ks94])⟩), (78, ⟨50, 3, false, fcellss ks24⟩), (8, ⟨29, 4, true, [[.int .i64 i7, .int .i64 0, .osl (.loc 78), .osl (.loc 98)]]⟩), (4, ⟨29, 4, true, [[.int .i64 0, .int .i64 0, .imm 0 3 true [], .imm 0 4 true []]]⟩), (2, ⟨34, 4, true, [[.int .i64 k1, .int .i64 n1, .str s1, .imm q1 4 f1 (cellss ks1)]]⟩)], [], O, tk90⟩) (Sub.trans (Sub.drop (k := 97) rfl) (Sub.trans (Sub.drop (k := 12) rfl) (Sub.trans (Sub.drop (k := 6) rfl) (Sub.env _ ⟨rfl, rfl, rfl, rfl, rfl, rfl, rfl, rfl, trivial⟩)))) ?_
            refine run_region ?_
            refine run_bin rfl rfl rfl rfl rfl rfl rfl (ltb rfl) ?_
            refine mvL rfl rfl rfl rfl (ltb rfl) ?_
            refine run_ops_nil ?_
            exact run_loop_end ⟨n, _, Nat.le_refl _, ⟨(IntKind.i64.wrap (0 + 1)), (([] : List LP) ++ [LP.mk k94 n94 p94 e94 fs94 q94 f94 ks94]), tk90, (show tki_readProof_L2 ≤ tk90 by omega), (show Fr tki_readProof_L2 tk90 _ from (Fr.pcons ((show Fr tki_readProof_L2 tk90 _ from hf95 rfl)) (show Fr tk90 tk90 _ from Fr.nil _ _) (by omega) (by omega)).mono (by omega) (by omega)), hM, rfl⟩, Sub.env [(1, .int .i64 i2), (4, .optr (.loc 4) 0 0), (5, .int .i64 i7), (8, .optr (.loc 8) 0 0), (85, .imm 1 4 false (cellss (lsub ks1 i10 (((ers ks1)).length : Int)))), (86, .int .i64 (((ers (lsub ks1 i10 (((ers ks1)).length : Int)))).length : Int)), (87, .int .i64 (IntKind.i64.wrap (0 + 1)))] ⟨rfl, rfl, rfl, rfl, rfl, rfl, rfl, trivial⟩⟩
           ·obtain ⟨z103, hg99, hM⟩ := zb_t hM
            refine AOp.call rfl rfl rfl rfl (ltb rfl) rfl rfl rfl (fun _ h => absurd h List.not_mem_nil) (fun _ h => absurd h List.not_mem_nil) (ih_i_readKid i7 k85 n85 s85 q85 f85 ks85 i2 hg99 _ _) (callK_retZ (fun r98 v tk100 hz106 (hle101 : tki_readProof_L2 ≤ tk100) h102 => ?_) (fun c p tk100 hz (_ : tki_readProof_L2 ≤ tk100) => by subst hz; obtain rfl := bd_stop hM; exact run_pan_at (⟨rfl, (show tk ≤ tk100 by omega), rfl⟩)))
            subst hz106
            replace hM := bd_ok hM
            obtain ⟨k104, n104, p104, e104, fs104, q104, f104, ks104, rfl, rfl, hf105⟩ := h102
            refine AAny.each (rs := [1, 6]) (by kernel_rfl) (fun h => by cases h) (fun i hi => ?_)
            simp only [List.mem_cons, List.not_mem_nil, or_false] at hi
            rcases hi with rfl | rfl
            ·refine AOp.rd rfl rfl rfl (ltb rfl) (aload_rd hG rfl rfl rfl (by first | (simp [ldok]; done) | exact List.not_mem_nil | trivial)) ?_
             refine AAny.one (i := 6) (by kernel_rfl) (AOp.step rfl rfl rfl (ltb rfl) (buildSlice_step (d := 97) hG rfl rfl rfl rfl rfl (by rfl) (by rfl) (by rfl) (by decide)) (fun _ h => absurd h List.not_mem_nil) ?_)
             obtain ⟨hc107, hM⟩ := chk_t hM
             try rw [show ((pers ([] : List LP)) ++ [(Pf.mk k104 n104 (fers fs104) (pers ks104))] : List Pf) = (pers (([] : List LP) ++ [LP.mk k104 n104 p104 e104 fs104 q104 f104 ks104])) from pers_app ([] : List LP) [LP.mk k104 n104 p104 e104 fs104 q104 f104 ks104]] at hM
             refine AAny.one (i := 7) (by kernel_rfl) (AOp.step rfl rfl rfl (ltb rfl) (appendFM_step (d := 98) hG rfl rfl rfl rfl rfl rfl rfl (pcellss_sz ([] : List LP)) rfl (pcellss_sz ([LP.mk k104 n104 p104 e104 fs104 q104 f104 ks104])) (plen ([] : List LP)) (plen ([LP.mk k104 n104 p104 e104 fs104 q104 f104 ks104])) (by simp [pers]) hc107 (by decide) (pcellss_app _ _)) (fun _ h => absurd h List.not_mem_nil) ?_)
             refine AAny.take (i := 8) rfl (by kernel_rfl) (by kernel_rfl) (by kernel_rfl) rfl rfl (ltb rfl) ((fieldAddr_step hG rfl rfl rfl rfl rfl).rd _) ?_
             refine AAny.one (i := 9) (by kernel_rfl) (AOp.step0 rfl rfl rfl (store_step hG rfl rfl rfl rfl rfl rfl rfl rfl) (by intro x hx; exact hx) ?_)
             refine AAny.done (by kernel_rfl) ?_
             refine run_blk ?_
             refine run_sub_code (σ' := ⟨[(1, .int .i64 i2), (2, .optr (.loc 2) 0 0), (4, .optr (.loc 4) 0 0), (5, .int .i64 i7), (8, .optr (.loc 8) 0 0), (85, .imm 1 4 false (cellss (lsub ks1 i10 (((ers ks1)).length : Int)))), (86, .int .i64 (((ers (lsub ks1 i10 (((ers ks1)).length : Int)))).length : Int)), (87, .int .i64 0)], [(98, ⟨29, 4, false, pcellss (([] : List LP) ++ [LP.mk k104 n104 p104 e104 fs104 q104 f104 ks104])⟩), (78, ⟨50, 3, false, fcellss ks24⟩), (8, ⟨29, 4, true, [[.int .i64 i7, .int .i64 0, .osl (.loc 78), .osl (.loc 98)]]⟩), (4, ⟨29, 4, true, [[.int .i64 0, .int .i64 0, .imm 0 3 true [], .imm 0 4 true []]]⟩), (2, ⟨34, 4, true, [[.int .i64 k1, .int .i64 n1, .str s1, .imm q1 4 f1 (cellss ks1)]]⟩)], [], O, tk100⟩) (Sub.trans (Sub.drop (k := 97) rfl) (Sub.trans (Sub.drop (k := 12) rfl) (Sub.trans (Sub.drop (k := 6) rfl) (Sub.env _ ⟨rfl, rfl, rfl, rfl, rfl, rfl, rfl, rfl, trivial⟩)))) ?_
             refine run_region ?_
             refine run_bin rfl rfl rfl rfl rfl rfl rfl (ltb rfl) ?_
             refine mvL rfl rfl rfl rfl (ltb rfl) ?_
             refine run_ops_nil ?_
             exact run_loop_end ⟨n, _, Nat.le_refl _, ⟨(IntKind.i64.wrap (0 + 1)), (([] : List LP) ++ [LP.mk k104 n104 p104 e104 fs104 q104 f104 ks104]), tk100, (show tki_readProof_L2 ≤ tk100 by omega), (show Fr tki_readProof_L2 tk100 _ from (Fr.pcons ((show Fr tki_readProof_L2 tk100 _ from hf105 rfl)) (show Fr tk100 tk100 _ from Fr.nil _ _) (by omega) (by omega)).mono (by omega) (by omega)), hM, rfl⟩, Sub.env [(1, .int .i64 i2), (4, .optr (.loc 4) 0 0), (5, .int .i64 i7), (8, .optr (.loc 8) 0 0), (85, .imm 1 4 false (cellss (lsub ks1 i10 (((ers ks1)).length : Int)))), (86, .int .i64 (((ers (lsub ks1 i10 (((ers ks1)).length : Int)))).length : Int)), (87, .int .i64 (IntKind.i64.wrap (0 + 1)))] ⟨rfl, rfl, rfl, rfl, rfl, rfl, rfl, trivial⟩⟩
            ·refine AOp.step rfl rfl rfl (ltb rfl) (buildSlice_step (d := 97) hG rfl rfl rfl rfl rfl (by rfl) (by rfl) (by rfl) (by decide)) (fun _ h => absurd h List.not_mem_nil) ?_
             refine AAny.one (i := 1) (by kernel_rfl) (AOp.rd rfl rfl rfl (ltb rfl) (aload_rd hG rfl rfl rfl (by first | (simp [ldok]; done) | exact List.not_mem_nil | trivial)) ?_)
             obtain ⟨hc108, hM⟩ := chk_t hM
             try rw [show ((pers ([] : List LP)) ++ [(Pf.mk k104 n104 (fers fs104) (pers ks104))] : List Pf) = (pers (([] : List LP) ++ [LP.mk k104 n104 p104 e104 fs104 q104 f104 ks104])) from pers_app ([] : List LP) [LP.mk k104 n104 p104 e104 fs104 q104 f104 ks104]] at hM
             refine AAny.one (i := 7) (by kernel_rfl) (AOp.step rfl rfl rfl (ltb rfl) (appendFM_step (d := 98) hG rfl rfl rfl rfl rfl rfl rfl (pcellss_sz ([] : List LP)) rfl (pcellss_sz ([LP.mk k104 n104 p104 e104 fs104 q104 f104 ks104])) (plen ([] : List LP)) (plen ([LP.mk k104 n104 p104 e104 fs104 q104 f104 ks104])) (by simp [pers]) hc108 (by decide) (pcellss_app _ _)) (fun _ h => absurd h List.not_mem_nil) ?_)
             refine AAny.take (i := 8) rfl (by kernel_rfl) (by kernel_rfl) (by kernel_rfl) rfl rfl (ltb rfl) ((fieldAddr_step hG rfl rfl rfl rfl rfl).rd _) ?_
             refine AAny.one (i := 9) (by kernel_rfl) (AOp.step0 rfl rfl rfl (store_step hG rfl rfl rfl rfl rfl rfl rfl rfl) (by intro x hx; exact hx) ?_)
             refine AAny.done (by kernel_rfl) ?_
             refine run_blk ?_
             refine run_sub_code (σ' := ⟨[(1, .int .i64 i2), (2, .optr (.loc 2) 0 0), (4, .optr (.loc 4) 0 0), (5, .int .i64 i7), (8, .optr (.loc 8) 0 0), (85, .imm 1 4 false (cellss (lsub ks1 i10 (((ers ks1)).length : Int)))), (86, .int .i64 (((ers (lsub ks1 i10 (((ers ks1)).length : Int)))).length : Int)), (87, .int .i64 0)], [(98, ⟨29, 4, false, pcellss (([] : List LP) ++ [LP.mk k104 n104 p104 e104 fs104 q104 f104 ks104])⟩), (78, ⟨50, 3, false, fcellss ks24⟩), (8, ⟨29, 4, true, [[.int .i64 i7, .int .i64 0, .osl (.loc 78), .osl (.loc 98)]]⟩), (4, ⟨29, 4, true, [[.int .i64 0, .int .i64 0, .imm 0 3 true [], .imm 0 4 true []]]⟩), (2, ⟨34, 4, true, [[.int .i64 k1, .int .i64 n1, .str s1, .imm q1 4 f1 (cellss ks1)]]⟩)], [], O, tk100⟩) (Sub.trans (Sub.drop (k := 97) rfl) (Sub.trans (Sub.drop (k := 12) rfl) (Sub.trans (Sub.drop (k := 6) rfl) (Sub.env _ ⟨rfl, rfl, rfl, rfl, rfl, rfl, rfl, rfl, trivial⟩)))) ?_
             refine run_region ?_
             refine run_bin rfl rfl rfl rfl rfl rfl rfl (ltb rfl) ?_
             refine mvL rfl rfl rfl rfl (ltb rfl) ?_
             refine run_ops_nil ?_
             exact run_loop_end ⟨n, _, Nat.le_refl _, ⟨(IntKind.i64.wrap (0 + 1)), (([] : List LP) ++ [LP.mk k104 n104 p104 e104 fs104 q104 f104 ks104]), tk100, (show tki_readProof_L2 ≤ tk100 by omega), (show Fr tki_readProof_L2 tk100 _ from (Fr.pcons ((show Fr tki_readProof_L2 tk100 _ from hf105 rfl)) (show Fr tk100 tk100 _ from Fr.nil _ _) (by omega) (by omega)).mono (by omega) (by omega)), hM, rfl⟩, Sub.env [(1, .int .i64 i2), (4, .optr (.loc 4) 0 0), (5, .int .i64 i7), (8, .optr (.loc 8) 0 0), (85, .imm 1 4 false (cellss (lsub ks1 i10 (((ers ks1)).length : Int)))), (86, .int .i64 (((ers (lsub ks1 i10 (((ers ks1)).length : Int)))).length : Int)), (87, .int .i64 (IntKind.i64.wrap (0 + 1)))] ⟨rfl, rfl, rfl, rfl, rfl, rfl, rfl, trivial⟩⟩
          ·replace hM := ite_f hb82 hM
           refine run_exit_to rfl ?_
           refine run_sr ?_
           refine run_ld hG rfl rfl rfl rfl rfl (ltb rfl) ?_
           refine run_op0 rfl (store_step hG rfl rfl rfl rfl rfl rfl rfl rfl) rfl ?_
           refine run_ops_nil ?_
           refine run_ret_to ?_
           refine fin_sub (Sub.freeze (k := 78) rfl rfl) ?_
           obtain rfl := some_t hM
           refine fin_x hG rfl rfl rfl (v' := .agg [.int .i64 i7, .int .i64 0, .imm tki_readProof_L2 3 false (fcellss ks24), .imm 0 4 true (pcellss [])]) (by rfl) ⟨rfl, (show tk ≤ (tki_readProof_L2 + 1) by omega), _, rfl, ⟨i7, 0, tki_readProof_L2, false, ks24, 0, true, [], rfl, rfl, fun _ => (show Fr tk (tki_readProof_L2 + 1) _ from (Fr.app (show Fr tkj9 (tki_readProof_L2 + 1) _ from Fr.fstop (show Fr tkj9 tki_readProof_L2 _ from (hfr24).mono (by omega) (by omega)) (by omega) (by omega)) (show Fr (tki_readProof_L2 + 1) (tki_readProof_L2 + 1) _ from Fr.nil _ _) (by omega) (by omega)).mono (by omega) (by omega))⟩⟩
         ·clear hM
          obtain ⟨i53, ks54, tki_readProof_L3, hle109, hfr54, hM, rfl⟩ := hI
          obtain _ | m := m
          ·exact absurd hM (by rw [i_readProof_L3]; exact fun h => by cases h)
          rw [i_readProof_L3] at hM
          try rw [tkids] at hM
          repeat rw [ers_sub] at hM
          refine run_sr ?_
          refine run_bin rfl rfl rfl rfl rfl rfl rfl (ltb rfl) ?_
          refine run_ops_nil ?_
          refine run_seq ?_
          refine run_ifd rfl rfl (fun hb55 => ?_) (fun hb55 => ?_)
          ·replace hM := ite_t hb55 hM
           refine run_skip ?_
           refine run_seq ?_
           refine run_block ?_
           refine run_sr ?_
           obtain ⟨y56, hy57, hM⟩ := bind_t hM
           obtain ⟨k58, n58, s58, q58, f58, ks58, rfl, hc59, hi60⟩ := tidx (ks := (lsub ks1 i10 (((ers ks1)).length : Int))) hy57
           refine run_pu rfl (indexImm_step hG rfl rfl rfl hi60 rfl rfl rfl rfl hc59) rfl (ltb rfl) ?_
           refine run_ld hG rfl rfl rfl rfl rfl (ltb rfl) ?_
           refine run_op rfl (alloc_step (d := 12) hG rfl rfl rfl) rfl (ltb rfl) ?_
           refine run_op0 rfl (store_step hG rfl rfl rfl rfl rfl rfl rfl rfl) rfl ?_
           refine run_ops_nil ?_
           refine run_draw [.loc 8, .loc 98] (n := 10) mixed rfl (by intro x hx; simp only [List.mem_cons, List.not_mem_nil, or_false] at hx; rcases hx with rfl | rfl <;> rfl) ?_
           refine AAny.take (i := 0) rfl (by kernel_rfl) (by kernel_rfl) (by kernel_rfl) rfl rfl (ltb rfl) ((fieldAddr_step hG rfl rfl rfl rfl rfl).rd _) ?_
           refine AAny.take (i := 2) rfl (by kernel_rfl) (by kernel_rfl) (by kernel_rfl) rfl rfl (ltb rfl) ((move_step (.inl rfl) rfl).rd _) ?_
           refine AAny.take (i := 3) rfl (by kernel_rfl) (by kernel_rfl) (by kernel_rfl) rfl rfl (ltb rfl) (aload_rd hG rfl rfl rfl (by first | (simp [ldok]; done) | exact List.not_mem_nil | trivial)) ?_
           refine AAny.take (i := 4) rfl (by kernel_rfl) (by kernel_rfl) (by kernel_rfl) rfl rfl (ltb rfl) ((move_step (.inl rfl) rfl).rd _) ?_
           refine AAny.each (rs := [1, 5]) (by kernel_rfl) (fun h => by cases h) (fun i hi => ?_)
           simp only [List.mem_cons, List.not_mem_nil, or_false] at hi
           rcases hi with rfl | rfl
           ·refine AOp.rd rfl rfl rfl (ltb rfl) (aload_rd hG rfl rfl rfl (by first | (simp [ldok]; done) | exact List.not_mem_nil | trivial)) ?_
            obtain ⟨z66, hg62, hM⟩ := zb_t hM
            refine AAny.one (i := 5) (by kernel_rfl) (AOp.call rfl rfl rfl rfl (ltb rfl) rfl rfl rfl (fun _ h => absurd h List.not_mem_nil) (fun _ h => absurd h List.not_mem_nil) (ih_i_readKid i7 k58 n58 s58 q58 f58 ks58 i2 hg62 _ _) (callK_retZ (fun r61 v tk63 hz69 (hle64 : tki_readProof_L3 ≤ tk63) h65 => ?_) (fun c p tk63 hz (_ : tki_readProof_L3 ≤ tk63) => by subst hz; obtain rfl := bd_stop hM; exact run_pan_at (⟨rfl, (show tk ≤ tk63 by omega), rfl⟩))))
            subst hz69
            replace hM := bd_ok hM
            obtain ⟨k67, n67, p67, e67, fs67, q67, f67, ks67, rfl, rfl, hf68⟩ := h65
            refine AAny.one (i := 6) (by kernel_rfl) (AOp.step rfl rfl rfl (ltb rfl) (buildSlice_step (d := 97) hG rfl rfl rfl rfl rfl (by rfl) (by rfl) (by rfl) (by decide)) (fun _ h => absurd h List.not_mem_nil) ?_)
            obtain ⟨hc70, hM⟩ := chk_t hM
            try rw [show ((pers ks54) ++ [(Pf.mk k67 n67 (fers fs67) (pers ks67))] : List Pf) = (pers (ks54 ++ [LP.mk k67 n67 p67 e67 fs67 q67 f67 ks67])) from pers_app ks54 [LP.mk k67 n67 p67 e67 fs67 q67 f67 ks67]] at hM
            refine AAny.one (i := 7) (by kernel_rfl) (AOp.step rfl rfl rfl (ltb rfl) (appendM_step hG rfl rfl rfl rfl rfl rfl rfl rfl rfl rfl rfl (pcellss_sz ([LP.mk k67 n67 p67 e67 fs67 q67 f67 ks67])) (plen ks54) (plen ([LP.mk k67 n67 p67 e67 fs67 q67 f67 ks67])) hc70 (by decide) (pcellss_app _ _)) (by intro x hx; simp only [List.mem_cons, List.not_mem_nil, or_false] at hx; subst hx; simp) ?_)
            refine AAny.take (i := 8) rfl (by kernel_rfl) (by kernel_rfl) (by kernel_rfl) rfl rfl (ltb rfl) ((fieldAddr_step hG rfl rfl rfl rfl rfl).rd _) ?_
            refine AAny.one (i := 9) (by kernel_rfl) (AOp.step0 rfl rfl rfl (store_step hG rfl rfl rfl rfl rfl rfl rfl rfl) (by intro x hx; have hx : x ∈ [ID.loc 8] := hx; simp only [List.mem_cons, List.not_mem_nil, or_false] at hx; subst hx; simp) ?_)
            refine AAny.done (by kernel_rfl) ?_
            refine run_blk ?_
            refine run_sub_code (σ' := ⟨[(1, .int .i64 i2), (4, .optr (.loc 4) 0 0), (5, .int .i64 i7), (8, .optr (.loc 8) 0 0), (85, .imm 1 4 false (cellss (lsub ks1 i10 (((ers ks1)).length : Int)))), (86, .int .i64 (((ers (lsub ks1 i10 (((ers ks1)).length : Int)))).length : Int)), (87, .int .i64 i53)], [(98, ⟨29, 4, false, pcellss (ks54 ++ [LP.mk k67 n67 p67 e67 fs67 q67 f67 ks67])⟩), (78, ⟨50, 3, false, fcellss ks24⟩), (8, ⟨29, 4, true, [[.int .i64 i7, .int .i64 0, .osl (.loc 78), .osl (.loc 98)]]⟩), (4, ⟨29, 4, true, [[.int .i64 0, .int .i64 0, .imm 0 3 true [], .imm 0 4 true []]]⟩), (2, ⟨34, 4, true, [[.int .i64 k1, .int .i64 n1, .str s1, .imm q1 4 f1 (cellss ks1)]]⟩)], [], O, tk63⟩) (Sub.trans (Sub.drop (k := 97) rfl) (Sub.trans (Sub.drop (k := 12) rfl) (Sub.env _ ⟨rfl, rfl, rfl, rfl, rfl, rfl, rfl, trivial⟩))) ?_
            refine run_region ?_
            refine run_bin rfl rfl rfl rfl rfl rfl rfl (ltb rfl) ?_
            refine mvL rfl rfl rfl rfl (ltb rfl) ?_
            refine run_ops_nil ?_
            exact run_loop_end ⟨m, _, Nat.lt_succ_self _, ⟨(IntKind.i64.wrap (i53 + 1)), (ks54 ++ [LP.mk k67 n67 p67 e67 fs67 q67 f67 ks67]), tk63, (show tki_readProof_L2 ≤ tk63 by omega), (show Fr tki_readProof_L2 tk63 _ from (Fr.psnoc (show Fr tki_readProof_L2 tki_readProof_L3 _ from (hfr54).mono (by omega) (by omega)) ((show Fr tki_readProof_L3 tk63 _ from hf68 rfl)) (by omega) (by omega)).mono (by omega) (by omega)), hM, rfl⟩, Sub.env [(1, .int .i64 i2), (4, .optr (.loc 4) 0 0), (5, .int .i64 i7), (8, .optr (.loc 8) 0 0), (85, .imm 1 4 false (cellss (lsub ks1 i10 (((ers ks1)).length : Int)))), (86, .int .i64 (((ers (lsub ks1 i10 (((ers ks1)).length : Int)))).length : Int)), (87, .int .i64 (IntKind.i64.wrap (i53 + 1)))] ⟨rfl, rfl, rfl, rfl, rfl, rfl, rfl, trivial⟩⟩
           ·obtain ⟨z76, hg72, hM⟩ := zb_t hM
            refine AOp.call rfl rfl rfl rfl (ltb rfl) rfl rfl rfl (fun _ h => absurd h List.not_mem_nil) (fun _ h => absurd h List.not_mem_nil) (ih_i_readKid i7 k58 n58 s58 q58 f58 ks58 i2 hg72 _ _) (callK_retZ (fun r71 v tk73 hz79 (hle74 : tki_readProof_L3 ≤ tk73) h75 => ?_) (fun c p tk73 hz (_ : tki_readProof_L3 ≤ tk73) => by subst hz; obtain rfl := bd_stop hM; exact run_pan_at (⟨rfl, (show tk ≤ tk73 by omega), rfl⟩)))
            subst hz79
            replace hM := bd_ok hM
            obtain ⟨k77, n77, p77, e77, fs77, q77, f77, ks77, rfl, rfl, hf78⟩ := h75
            refine AAny.each (rs := [1, 6]) (by kernel_rfl) (fun h => by cases h) (fun i hi => ?_)
            simp only [List.mem_cons, List.not_mem_nil, or_false] at hi
            rcases hi with rfl | rfl
            ·refine AOp.rd rfl rfl rfl (ltb rfl) (aload_rd hG rfl rfl rfl (by first | (simp [ldok]; done) | exact List.not_mem_nil | trivial)) ?_
             refine AAny.one (i := 6) (by kernel_rfl) (AOp.step rfl rfl rfl (ltb rfl) (buildSlice_step (d := 97) hG rfl rfl rfl rfl rfl (by rfl) (by rfl) (by rfl) (by decide)) (fun _ h => absurd h List.not_mem_nil) ?_)
             obtain ⟨hc80, hM⟩ := chk_t hM
             try rw [show ((pers ks54) ++ [(Pf.mk k77 n77 (fers fs77) (pers ks77))] : List Pf) = (pers (ks54 ++ [LP.mk k77 n77 p77 e77 fs77 q77 f77 ks77])) from pers_app ks54 [LP.mk k77 n77 p77 e77 fs77 q77 f77 ks77]] at hM
             refine AAny.one (i := 7) (by kernel_rfl) (AOp.step rfl rfl rfl (ltb rfl) (appendM_step hG rfl rfl rfl rfl rfl rfl rfl rfl rfl rfl rfl (pcellss_sz ([LP.mk k77 n77 p77 e77 fs77 q77 f77 ks77])) (plen ks54) (plen ([LP.mk k77 n77 p77 e77 fs77 q77 f77 ks77])) hc80 (by decide) (pcellss_app _ _)) (by intro x hx; simp only [List.mem_cons, List.not_mem_nil, or_false] at hx; subst hx; simp) ?_)
             refine AAny.take (i := 8) rfl (by kernel_rfl) (by kernel_rfl) (by kernel_rfl) rfl rfl (ltb rfl) ((fieldAddr_step hG rfl rfl rfl rfl rfl).rd _) ?_
             refine AAny.one (i := 9) (by kernel_rfl) (AOp.step0 rfl rfl rfl (store_step hG rfl rfl rfl rfl rfl rfl rfl rfl) (by intro x hx; have hx : x ∈ [ID.loc 8] := hx; simp only [List.mem_cons, List.not_mem_nil, or_false] at hx; subst hx; simp) ?_)
             refine AAny.done (by kernel_rfl) ?_
             refine run_blk ?_
             refine run_sub_code (σ' := ⟨[(1, .int .i64 i2), (4, .optr (.loc 4) 0 0), (5, .int .i64 i7), (8, .optr (.loc 8) 0 0), (85, .imm 1 4 false (cellss (lsub ks1 i10 (((ers ks1)).length : Int)))), (86, .int .i64 (((ers (lsub ks1 i10 (((ers ks1)).length : Int)))).length : Int)), (87, .int .i64 i53)], [(98, ⟨29, 4, false, pcellss (ks54 ++ [LP.mk k77 n77 p77 e77 fs77 q77 f77 ks77])⟩), (78, ⟨50, 3, false, fcellss ks24⟩), (8, ⟨29, 4, true, [[.int .i64 i7, .int .i64 0, .osl (.loc 78), .osl (.loc 98)]]⟩), (4, ⟨29, 4, true, [[.int .i64 0, .int .i64 0, .imm 0 3 true [], .imm 0 4 true []]]⟩), (2, ⟨34, 4, true, [[.int .i64 k1, .int .i64 n1, .str s1, .imm q1 4 f1 (cellss ks1)]]⟩)], [], O, tk73⟩) (Sub.trans (Sub.drop (k := 97) rfl) (Sub.trans (Sub.drop (k := 12) rfl) (Sub.env _ ⟨rfl, rfl, rfl, rfl, rfl, rfl, rfl, trivial⟩))) ?_
             refine run_region ?_
             refine run_bin rfl rfl rfl rfl rfl rfl rfl (ltb rfl) ?_
             refine mvL rfl rfl rfl rfl (ltb rfl) ?_
             refine run_ops_nil ?_
             exact run_loop_end ⟨m, _, Nat.lt_succ_self _, ⟨(IntKind.i64.wrap (i53 + 1)), (ks54 ++ [LP.mk k77 n77 p77 e77 fs77 q77 f77 ks77]), tk73, (show tki_readProof_L2 ≤ tk73 by omega), (show Fr tki_readProof_L2 tk73 _ from (Fr.psnoc (show Fr tki_readProof_L2 tki_readProof_L3 _ from (hfr54).mono (by omega) (by omega)) ((show Fr tki_readProof_L3 tk73 _ from hf78 rfl)) (by omega) (by omega)).mono (by omega) (by omega)), hM, rfl⟩, Sub.env [(1, .int .i64 i2), (4, .optr (.loc 4) 0 0), (5, .int .i64 i7), (8, .optr (.loc 8) 0 0), (85, .imm 1 4 false (cellss (lsub ks1 i10 (((ers ks1)).length : Int)))), (86, .int .i64 (((ers (lsub ks1 i10 (((ers ks1)).length : Int)))).length : Int)), (87, .int .i64 (IntKind.i64.wrap (i53 + 1)))] ⟨rfl, rfl, rfl, rfl, rfl, rfl, rfl, trivial⟩⟩
            ·refine AOp.step rfl rfl rfl (ltb rfl) (buildSlice_step (d := 97) hG rfl rfl rfl rfl rfl (by rfl) (by rfl) (by rfl) (by decide)) (fun _ h => absurd h List.not_mem_nil) ?_
             refine AAny.one (i := 1) (by kernel_rfl) (AOp.rd rfl rfl rfl (ltb rfl) (aload_rd hG rfl rfl rfl (by first | (simp [ldok]; done) | exact List.not_mem_nil | trivial)) ?_)
             obtain ⟨hc81, hM⟩ := chk_t hM
             try rw [show ((pers ks54) ++ [(Pf.mk k77 n77 (fers fs77) (pers ks77))] : List Pf) = (pers (ks54 ++ [LP.mk k77 n77 p77 e77 fs77 q77 f77 ks77])) from pers_app ks54 [LP.mk k77 n77 p77 e77 fs77 q77 f77 ks77]] at hM
             refine AAny.one (i := 7) (by kernel_rfl) (AOp.step rfl rfl rfl (ltb rfl) (appendM_step hG rfl rfl rfl rfl rfl rfl rfl rfl rfl rfl rfl (pcellss_sz ([LP.mk k77 n77 p77 e77 fs77 q77 f77 ks77])) (plen ks54) (plen ([LP.mk k77 n77 p77 e77 fs77 q77 f77 ks77])) hc81 (by decide) (pcellss_app _ _)) (by intro x hx; simp only [List.mem_cons, List.not_mem_nil, or_false] at hx; subst hx; simp) ?_)
             refine AAny.take (i := 8) rfl (by kernel_rfl) (by kernel_rfl) (by kernel_rfl) rfl rfl (ltb rfl) ((fieldAddr_step hG rfl rfl rfl rfl rfl).rd _) ?_
             refine AAny.one (i := 9) (by kernel_rfl) (AOp.step0 rfl rfl rfl (store_step hG rfl rfl rfl rfl rfl rfl rfl rfl) (by intro x hx; have hx : x ∈ [ID.loc 8] := hx; simp only [List.mem_cons, List.not_mem_nil, or_false] at hx; subst hx; simp) ?_)
             refine AAny.done (by kernel_rfl) ?_
             refine run_blk ?_
             refine run_sub_code (σ' := ⟨[(1, .int .i64 i2), (4, .optr (.loc 4) 0 0), (5, .int .i64 i7), (8, .optr (.loc 8) 0 0), (85, .imm 1 4 false (cellss (lsub ks1 i10 (((ers ks1)).length : Int)))), (86, .int .i64 (((ers (lsub ks1 i10 (((ers ks1)).length : Int)))).length : Int)), (87, .int .i64 i53)], [(98, ⟨29, 4, false, pcellss (ks54 ++ [LP.mk k77 n77 p77 e77 fs77 q77 f77 ks77])⟩), (78, ⟨50, 3, false, fcellss ks24⟩), (8, ⟨29, 4, true, [[.int .i64 i7, .int .i64 0, .osl (.loc 78), .osl (.loc 98)]]⟩), (4, ⟨29, 4, true, [[.int .i64 0, .int .i64 0, .imm 0 3 true [], .imm 0 4 true []]]⟩), (2, ⟨34, 4, true, [[.int .i64 k1, .int .i64 n1, .str s1, .imm q1 4 f1 (cellss ks1)]]⟩)], [], O, tk73⟩) (Sub.trans (Sub.drop (k := 97) rfl) (Sub.trans (Sub.drop (k := 12) rfl) (Sub.env _ ⟨rfl, rfl, rfl, rfl, rfl, rfl, rfl, trivial⟩))) ?_
             refine run_region ?_
             refine run_bin rfl rfl rfl rfl rfl rfl rfl (ltb rfl) ?_
             refine mvL rfl rfl rfl rfl (ltb rfl) ?_
             refine run_ops_nil ?_
             exact run_loop_end ⟨m, _, Nat.lt_succ_self _, ⟨(IntKind.i64.wrap (i53 + 1)), (ks54 ++ [LP.mk k77 n77 p77 e77 fs77 q77 f77 ks77]), tk73, (show tki_readProof_L2 ≤ tk73 by omega), (show Fr tki_readProof_L2 tk73 _ from (Fr.psnoc (show Fr tki_readProof_L2 tki_readProof_L3 _ from (hfr54).mono (by omega) (by omega)) ((show Fr tki_readProof_L3 tk73 _ from hf78 rfl)) (by omega) (by omega)).mono (by omega) (by omega)), hM, rfl⟩, Sub.env [(1, .int .i64 i2), (4, .optr (.loc 4) 0 0), (5, .int .i64 i7), (8, .optr (.loc 8) 0 0), (85, .imm 1 4 false (cellss (lsub ks1 i10 (((ers ks1)).length : Int)))), (86, .int .i64 (((ers (lsub ks1 i10 (((ers ks1)).length : Int)))).length : Int)), (87, .int .i64 (IntKind.i64.wrap (i53 + 1)))] ⟨rfl, rfl, rfl, rfl, rfl, rfl, rfl, trivial⟩⟩
          ·replace hM := ite_f hb55 hM
           refine run_exit_to rfl ?_
           refine run_sr ?_
           refine run_ld hG rfl rfl rfl rfl rfl (ltb rfl) ?_
           refine run_op0 rfl (store_step hG rfl rfl rfl rfl rfl rfl rfl rfl) rfl ?_
           refine run_ops_nil ?_
           refine run_ret_to ?_
           refine fin_sub (Sub.freeze (k := 78) rfl rfl) ?_
           refine fin_sub (Sub.freeze (k := 98) rfl rfl) ?_
           obtain rfl := some_t hM
           refine fin_x hG rfl rfl rfl (v' := .agg [.int .i64 i7, .int .i64 0, .imm tki_readProof_L3 3 false (fcellss ks24), .imm (tki_readProof_L3 + 1) 4 false (pcellss ks54)]) (by rfl) ⟨rfl, (show tk ≤ ((tki_readProof_L3 + 1) + 1) by omega), _, rfl, ⟨i7, 0, tki_readProof_L3, false, ks24, (tki_readProof_L3 + 1), false, ks54, rfl, rfl, fun _ => (show Fr tk ((tki_readProof_L3 + 1) + 1) _ from by first | exact Fr.fpab (q1 := tki_readProof_L3) (q := (tki_readProof_L3 + 1)) (show Fr tkj9 tki_readProof_L2 _ from hfr24) (show Fr tki_readProof_L2 tki_readProof_L3 _ from hfr54) (by omega) (by omega) (by omega) (by omega) (by omega) (by omega) (by omega) (by omega) (by omega) | exact Fr.fpba (q1 := tki_readProof_L3) (q := (tki_readProof_L3 + 1)) (show Fr tkj9 tki_readProof_L2 _ from hfr24) (show Fr tki_readProof_L2 tki_readProof_L3 _ from hfr54) (by omega) (by omega) (by omega) (by omega) (by omega) (by omega) (by omega) (by omega) (by omega))⟩⟩
  ·replace hM := ite_f hb8 hM
   refine run_exit_to rfl ?_
   refine run_sr ?_
   obtain rfl := some_t hM
   exact run_call rfl rfl rfl (ltb rfl) rfl rfl rfl (fun _ h => absurd h List.not_mem_nil) (i_stop_ok 3 0 _ _) (callK_retS (run_pan_at (⟨rfl, (show tk ≤ tki_readProof_L1 by omega), rfl⟩)))

set_option maxRecDepth 100000 in
theorem i_readKid_st (n : Nat) (ih_i_readProof : ∀ (k1 : Int) (n1 : Int) (s1 : ByteArray) (q1 : Nat) (f1 : Bool) (ks1 : List LT) (i2 : Int) {r : (Rz Pf)}, i_readProof n (T.mk k1 n1 s1 (ers ks1)) i2 = some r → ∀ (O : Heap) (tk : Nat), ACalls Go.Proofs.Tryd.prog 46 [.agg [.int .i64 k1, .int .i64 n1, .str s1, .imm q1 4 f1 (cellss ks1)], .int .i64 i2] O tk (RetZ HT O tk r (fun r v tk' => VP true tk tk' r v))) : ∀ (i1 : Int) (k2 : Int) (n2 : Int) (s2 : ByteArray) (q2 : Nat) (f2 : Bool) (ks2 : List LT) (i3 : Int) {r : (Rz Pf)}, i_readKid (n + 1) i1 (T.mk k2 n2 s2 (ers ks2)) i3 = some r → ∀ (O : Heap) (tk : Nat), ACalls Go.Proofs.Tryd.prog 93 [.int .i64 i1, .agg [.int .i64 k2, .int .i64 n2, .str s2, .imm q2 4 f2 (cellss ks2)], .int .i64 i3] O tk (RetZ HT O tk r (fun r v tk' => VP true tk tk' r v)) := by
 intro i1 k2 n2 s2 q2 f2 ks2 i3 r hM O tk
 rw [i_readKid] at hM
 refine acalls_of_run Go.Proofs.Tryd.func93 rfl rfl [] [] (Bor.nil _) [(0, .int .i64 i1), (1, .agg [.int .i64 k2, .int .i64 n2, .str s2, .imm q2 4 f2 (cellss ks2)]), (2, .int .i64 i3)] (.cons (entS rfl) (.cons (.agg _) (.cons (entS rfl) (.nil _)))) (leb rfl) (fun _ h => by cases h) (fun S0 hO htk hfz => ?_)
 refine run_sr ?_
 refine run_op rfl (box_step (d := 4) rfl rfl rfl rfl rfl) rfl (ltb rfl) ?_
 refine run_op rfl (alloc_step (d := 6) hG rfl rfl rfl) rfl (ltb rfl) ?_
 refine run_ops_nil ?_
 refine run_seq ?_
 refine run_sr ?_
 refine mvL rfl rfl rfl rfl (ltb rfl) ?_
 refine run_bin rfl rfl rfl rfl rfl rfl rfl (ltb rfl) ?_
 refine run_ops_nil ?_
 refine run_ifb rfl rfl (fun hb4 => ?_) (fun hb4 => ?_)
 ·replace hM := ite_t hb4 hM
  refine run_sr ?_
  refine run_ld hG rfl rfl rfl rfl rfl (ltb rfl) ?_
  refine mvL rfl rfl rfl rfl (ltb rfl) ?_
  obtain ⟨z10, hg6, hM⟩ := zb_t hM
  refine run_call rfl rfl rfl (ltb rfl) rfl rfl rfl (fun _ h => absurd h List.not_mem_nil) (ih_i_readProof k2 n2 s2 q2 f2 ks2 i3 hg6 _ _) (callK_retZ (fun r5 v tk7 hz13 (hle8 : tk ≤ tk7) h9 => ?_) (fun c p tk7 hz (_ : tk ≤ tk7) => by subst hz; obtain rfl := bd_stop hM; exact run_pan_at (⟨rfl, (show tk ≤ tk7 by omega), rfl⟩)))
  subst hz13
  replace hM := bd_ok hM
  obtain ⟨k11, n11, p11, e11, fs11, q11, f11, ks11, rfl, rfl, hf12⟩ := h9
  refine run_op0 rfl (store_step hG rfl rfl rfl rfl rfl rfl rfl rfl) rfl ?_
  refine run_ops_nil ?_
  refine run_ret_to ?_
  obtain rfl := some_t hM
  refine fin_x hG rfl rfl rfl (v' := .agg [.int .i64 k11, .int .i64 n11, .imm p11 3 e11 (fcellss fs11), .imm q11 4 f11 (pcellss ks11)]) (by rfl) ⟨rfl, (show tk ≤ tk7 by omega), _, rfl, ⟨k11, n11, p11, e11, fs11, q11, f11, ks11, rfl, rfl, fun _ => (show Fr tk tk7 _ from ((show Fr tk tk7 _ from hf12 rfl)).mono (by omega) (by omega))⟩⟩
 ·replace hM := ite_f hb4 hM
  refine run_skip ?_
  refine run_seq ?_
  refine run_sr ?_
  refine run_pu rfl (fieldAddr_step hG rfl rfl rfl rfl rfl) rfl (ltb rfl) ?_
  refine run_ld hG rfl rfl rfl rfl rfl (ltb rfl) ?_
  refine run_bin rfl rfl rfl rfl rfl rfl rfl (ltb rfl) ?_
  refine run_ops_nil ?_
  refine run_ifb rfl rfl (fun hb14 => ?_) (fun hb14 => ?_)
  ·replace hM := ite_t hb14 hM
   refine run_region ?_
   obtain rfl := some_t hM
   exact run_call rfl rfl rfl (ltb rfl) rfl rfl rfl (fun _ h => absurd h List.not_mem_nil) (i_stop_ok 3 0 _ _) (callK_retS (run_pan_at (⟨rfl, (show tk ≤ tk by omega), rfl⟩)))
  ·replace hM := ite_f hb14 hM
   refine run_skip ?_
   refine run_sr ?_
   refine run_pu rfl (fieldAddr_step hG rfl rfl rfl rfl rfl) rfl (ltb rfl) ?_
   refine run_ld hG rfl rfl rfl rfl rfl (ltb rfl) ?_
   obtain ⟨y15, hy16, hM⟩ := bind_t hM
   obtain ⟨k17, n17, s17, q17, f17, ks17, rfl, hc18, hi19⟩ := tidx (ks := ks2) hy16
   refine run_pu rfl (indexImm_step hG rfl rfl rfl hi19 rfl rfl rfl rfl hc18) rfl (ltb rfl) ?_
   refine run_ld hG rfl rfl rfl rfl rfl (ltb rfl) ?_
   refine mvL rfl rfl rfl rfl (ltb rfl) ?_
   refine run_bin rfl rfl rfl rfl rfl rfl rfl (ltb rfl) ?_
   obtain ⟨z25, hg21, hM⟩ := zb_t hM
   refine run_call rfl rfl rfl (ltb rfl) rfl rfl rfl (fun _ h => absurd h List.not_mem_nil) (ih_i_readProof k17 n17 s17 q17 f17 ks17 (IntKind.i64.wrap (i3 + 1)) hg21 _ _) (callK_retZ (fun r20 v tk22 hz28 (hle23 : tk ≤ tk22) h24 => ?_) (fun c p tk22 hz (_ : tk ≤ tk22) => by subst hz; obtain rfl := bd_stop hM; exact run_pan_at (⟨rfl, (show tk ≤ tk22 by omega), rfl⟩)))
   subst hz28
   replace hM := bd_ok hM
   obtain ⟨k26, n26, p26, e26, fs26, q26, f26, ks26, rfl, rfl, hf27⟩ := h24
   refine run_op0 rfl (store_step hG rfl rfl rfl rfl rfl rfl rfl rfl) rfl ?_
   refine run_ops_nil ?_
   refine run_ret_to ?_
   obtain rfl := some_t hM
   refine fin_x hG rfl rfl rfl (v' := .agg [.int .i64 k26, .int .i64 n26, .imm p26 3 e26 (fcellss fs26), .imm q26 4 f26 (pcellss ks26)]) (by rfl) ⟨rfl, (show tk ≤ tk22 by omega), _, rfl, ⟨k26, n26, p26, e26, fs26, q26, f26, ks26, rfl, rfl, fun _ => (show Fr tk tk22 _ from ((show Fr tk tk22 _ from hf27 rfl)).mono (by omega) (by omega))⟩⟩

theorem i_readProof_all : ∀ (n : Nat), (∀ (k1 : Int) (n1 : Int) (s1 : ByteArray) (q1 : Nat) (f1 : Bool) (ks1 : List LT) (i2 : Int) {r : (Rz Pf)}, i_readProof n (T.mk k1 n1 s1 (ers ks1)) i2 = some r → ∀ (O : Heap) (tk : Nat), ACalls Go.Proofs.Tryd.prog 46 [.agg [.int .i64 k1, .int .i64 n1, .str s1, .imm q1 4 f1 (cellss ks1)], .int .i64 i2] O tk (RetZ HT O tk r (fun r v tk' => VP true tk tk' r v))) ∧ (∀ (i1 : Int) (k2 : Int) (n2 : Int) (s2 : ByteArray) (q2 : Nat) (f2 : Bool) (ks2 : List LT) (i3 : Int) {r : (Rz Pf)}, i_readKid n i1 (T.mk k2 n2 s2 (ers ks2)) i3 = some r → ∀ (O : Heap) (tk : Nat), ACalls Go.Proofs.Tryd.prog 93 [.int .i64 i1, .agg [.int .i64 k2, .int .i64 n2, .str s2, .imm q2 4 f2 (cellss ks2)], .int .i64 i3] O tk (RetZ HT O tk r (fun r v tk' => VP true tk tk' r v)))
 | 0 => ⟨(by intro k1 n1 s1 q1 f1 ks1 i2 r hM; rw [i_readProof] at hM; cases hM), (by intro i1 k2 n2 s2 q2 f2 ks2 i3 r hM; rw [i_readKid] at hM; cases hM)⟩
 | n + 1 => have ih := i_readProof_all n; ⟨i_readProof_st n (ih.2), i_readKid_st n (ih.1)⟩

theorem i_readProof_ok (n : Nat) : ∀ (k1 : Int) (n1 : Int) (s1 : ByteArray) (q1 : Nat) (f1 : Bool) (ks1 : List LT) (i2 : Int) {r : (Rz Pf)}, i_readProof n (T.mk k1 n1 s1 (ers ks1)) i2 = some r → ∀ (O : Heap) (tk : Nat), ACalls Go.Proofs.Tryd.prog 46 [.agg [.int .i64 k1, .int .i64 n1, .str s1, .imm q1 4 f1 (cellss ks1)], .int .i64 i2] O tk (RetZ HT O tk r (fun r v tk' => VP true tk tk' r v)) := (i_readProof_all n).1

def i_DecodeProof_c1__kkv (n : Nat) (x1 : T) (i2 : Int) (x3 : Pf) : Option (Rz Pf) :=
 zb (i_readProof n x1 i2) fun r4 =>
 some (.ok r4)

set_option maxRecDepth 100000 in
theorem i_DecodeProof_c1__kkv_ok (n : Nat) : ∀ (k1 : Int) (n1 : Int) (s1 : ByteArray) (q1 : Nat) (f1 : Bool) (ks1 : List LT) (i2 : Int) (X0 : ID) (k3 : Int) (n3 : Int) (p3 : Nat) (e3 : Bool) (fs3 : List LF) (q3 : Nat) (f3 : Bool) (ks3 : List LP) {r : (Rz Pf)}, i_DecodeProof_c1__kkv n (T.mk k1 n1 s1 (ers ks1)) i2 (Pf.mk k3 n3 (fers fs3) (pers ks3)) = some r → ∀ (O : Heap) (tk : Nat), O X0 = some ⟨29, 4, true, [[.int .i64 k3, .int .i64 n3, .imm p3 3 e3 (fcellss fs3), .imm q3 4 f3 (pcellss ks3)]]⟩ → ACalls Go.Proofs.Tryd.prog 45 [.cptr [.int .i64 k1, .int .i64 n1, .str s1, .imm q1 4 f1 (cellss ks1)], .cptr [.int .i64 i2], .optr X0 0 0] O tk (RetVZ HT O X0 tk r (fun r v o' tk' => ∃ cs, o' = ⟨29, 4, true, [cs]⟩ ∧ VP true tk tk' r (.agg cs) ∧ v = .tup []) (fun o' => o'.up = o')) := by
 intro k1 n1 s1 q1 f1 ks1 i2 X0 k3 n3 p3 e3 fs3 q3 f3 ks3 r hM O tk hX0
 unfold i_DecodeProof_c1__kkv at hM
 refine acalls_of_run Go.Proofs.Tryd.func45 rfl rfl [X0] [⟨29, 4, true, [[.int .i64 k3, .int .i64 n3, .imm p3 3 e3 (fcellss fs3), .imm q3 4 f3 (pcellss ks3)]]⟩] (Bor.one hX0 rfl) [(0, .cptr [.int .i64 k1, .int .i64 n1, .str s1, .imm q1 4 f1 (cellss ks1)]), (1, .cptr [.int .i64 i2]), (2, .optr (.bor 0) 0 0)] (.cons (.cptr _) (.cons (.cptr _) (.cons (.bor 0 _ _ _ rfl) (.nil _)))) (leb rfl) (by intro y h; simp only [List.mem_cons, List.not_mem_nil, or_false] at h; rcases h with rfl <;> simp [tch, tch0]) (fun S0 hO htk hfz => ?_)
 refine run_region ?_
 refine run_ld hG rfl rfl rfl rfl rfl (ltb rfl) ?_
 refine run_ld hG rfl rfl rfl rfl rfl (ltb rfl) ?_
 obtain ⟨z9, hg5, hM⟩ := zb_t hM
 refine run_call rfl rfl rfl (ltb rfl) rfl rfl rfl (fun _ h => absurd h List.not_mem_nil) (i_readProof_ok n k1 n1 s1 q1 f1 ks1 i2 hg5 _ _) (callK_retZ (fun r4 v tk6 hz12 (hle7 : tk ≤ tk6) h8 => ?_) (fun c p tk6 hz (_ : tk ≤ tk6) => by subst hz; obtain rfl := bd_stop hM; exact run_pan_at (⟨⟨29, 4, true, [[.int .i64 k3, .int .i64 n3, .imm p3 3 e3 (fcellss fs3), .imm q3 4 f3 (pcellss ks3)]]⟩, rfl, (show tk ≤ tk6 by omega), rfl, rfl⟩)))
 subst hz12
 replace hM := bd_ok hM
 obtain ⟨k10, n10, p10, e10, fs10, q10, f10, ks10, rfl, rfl, hf11⟩ := h8
 refine run_op0 rfl (store_step hG rfl rfl rfl rfl rfl rfl rfl rfl) rfl ?_
 refine run_ops_nil ?_
 show Results _ _ _ _
 obtain rfl := some_t hM
 refine fin_x hG rfl rfl rfl (v' := .tup []) (by rfl) ⟨⟨29, 4, true, [[.int .i64 k10, .int .i64 n10, .imm p10 3 e10 (fcellss fs10), .imm q10 4 f10 (pcellss ks10)]]⟩, rfl, (show tk ≤ tk6 by omega), _, rfl, ⟨_, rfl, ⟨k10, n10, p10, e10, fs10, q10, f10, ks10, rfl, rfl, fun _ => (show Fr tk tk6 _ from ((show Fr tk tk6 _ from hf11 rfl)).mono (by omega) (by omega))⟩, rfl⟩⟩

def i_DecodeProof (n : Nat) (x1 : T) (i2 : Int) : Option (Pf × Int) :=
 (i_badTerm n x1).bind fun r3 =>
 if r3 = true then
  some ((Pf.mk 0 0 [] []), 1)
 else
  (i_in i2 0 12).bind fun r11 =>
  if (!r11) = true then
   some ((Pf.mk 0 0 [] []), 16)
  else
   (i_DecodeProof_c1__kkv n x1 i2 (Pf.mk 0 0 [] [])).bind fun z19 =>
   z19.cs (fun r22 =>
    if (0 != 0) = true then
     some ((Pf.mk 0 0 [] []), 0)
    else
     some (r22, 0)) (fun c28 p29 =>
    if (c28 != 0) = true then
     some ((Pf.mk 0 0 [] []), c28)
    else
     none)

set_option maxHeartbeats 2000000 in
set_option maxRecDepth 100000 in
theorem i_DecodeProof_ok (n : Nat) : ∀ (k1 : Int) (n1 : Int) (s1 : ByteArray) (q1 : Nat) (f1 : Bool) (ks1 : List LT) (i2 : Int) {r : (Pf × Int)}, i_DecodeProof n (T.mk k1 n1 s1 (ers ks1)) i2 = some r → ∀ (O : Heap) (tk : Nat), ACalls Go.Proofs.Tryd.prog 12 [.agg [.int .i64 k1, .int .i64 n1, .str s1, .imm q1 4 f1 (cellss ks1)], .int .i64 i2] O tk (RetX O tk (fun v tk' => ∃ r0' r1' v0' v1', r = (r0', r1') ∧ v = .tup [v0', v1'] ∧ VP true tk tk' r0' v0' ∧ v1' = .int .i64 r1')) := by
 intro k1 n1 s1 q1 f1 ks1 i2 r hM O tk
 unfold i_DecodeProof at hM
 refine acalls_of_run Go.Proofs.Tryd.func12 rfl rfl [] [] (Bor.nil _) [(0, .agg [.int .i64 k1, .int .i64 n1, .str s1, .imm q1 4 f1 (cellss ks1)]), (1, .int .i64 i2)] (.cons (.agg _) (.cons (entS rfl) (.nil _))) (leb rfl) (fun _ h => by cases h) (fun S0 hO htk hfz => ?_)
 refine run_sr ?_
 refine run_op rfl (box_step (d := 2) rfl rfl rfl rfl rfl) rfl (ltb rfl) ?_
 refine run_op rfl (box_step (d := 3) rfl rfl rfl rfl rfl) rfl (ltb rfl) ?_
 refine run_op rfl (alloc_step (d := 4) hG rfl rfl rfl) rfl (ltb rfl) ?_
 refine mvR rfl rfl rfl rfl (ltb rfl) ?_
 refine run_ops_nil ?_
 refine run_seq ?_
 refine run_block ?_
 refine run_sr ?_
 refine run_ld hG rfl rfl rfl rfl rfl (ltb rfl) ?_
 obtain ⟨r3, hg4, hM⟩ := bind_t hM
 refine run_call rfl rfl rfl (ltb rfl) rfl rfl rfl (fun _ h => absurd h List.not_mem_nil) (i_badTerm_ok n k1 n1 s1 q1 f1 ks1 hg4 _ _) (callK_retX (fun v tk5 (hle6 : tk ≤ tk5) h7 => ?_))
 subst h7
 refine mvR rfl rfl rfl rfl (ltb rfl) ?_
 refine run_ops_nil ?_
 refine run_ifb rfl rfl (fun hb10 => ?_) (fun hb10 => ?_)
 ·replace hM := ite_t hb10 hM
  refine run_sr ?_
  refine run_pu rfl (build_step hG rfl (by rfl) rfl (fun h => by cases h) (by rfl)) rfl (ltb rfl) ?_
  refine run_op0 rfl (store_step hG rfl rfl rfl rfl rfl rfl rfl rfl) rfl ?_
  refine mvR rfl rfl rfl rfl (ltb rfl) ?_
  refine run_ops_nil ?_
  refine run_ret_to ?_
  obtain rfl := some_t hM
  refine fin_x hG rfl rfl rfl (v' := .tup [.agg [.int .i64 0, .int .i64 0, .imm 0 3 true (fcellss []), .imm 0 4 true (pcellss [])], .int .i64 1]) (by rfl) ⟨rfl, (show tk ≤ tk5 by omega), _, rfl, ⟨_, _, _, _, rfl, rfl, ⟨0, 0, 0, true, [], 0, true, [], rfl, rfl, fun _ => Fr.nil _ _⟩, rfl⟩⟩
 ·replace hM := ite_f hb10 hM
  refine run_sr ?_
  refine run_ld hG rfl rfl rfl rfl rfl (ltb rfl) ?_
  obtain ⟨r11, hg12, hM⟩ := bind_t hM
  refine run_call rfl rfl rfl (ltb rfl) rfl rfl rfl (fun _ h => absurd h List.not_mem_nil) (i_in_ok i2 0 12 hg12 _ _) (callK_retX (fun v tk13 (hle14 : tk5 ≤ tk13) h15 => ?_))
  subst h15
  refine run_pu rfl (aun_step rfl rfl rfl) rfl (ltb rfl) ?_
  refine mvR rfl rfl rfl rfl (ltb rfl) ?_
  refine run_ops_nil ?_
  refine run_ifb rfl rfl (fun hb18 => ?_) (fun hb18 => ?_)
  ·replace hM := ite_t hb18 hM
   refine run_sr ?_
   refine run_pu rfl (build_step hG rfl (by rfl) rfl (fun h => by cases h) (by rfl)) rfl (ltb rfl) ?_
   refine run_op0 rfl (store_step hG rfl rfl rfl rfl rfl rfl rfl rfl) rfl ?_
   refine mvR rfl rfl rfl rfl (ltb rfl) ?_
   refine run_ops_nil ?_
   refine run_ret_to ?_
   obtain rfl := some_t hM
   refine fin_x hG rfl rfl rfl (v' := .tup [.agg [.int .i64 0, .int .i64 0, .imm 0 3 true (fcellss []), .imm 0 4 true (pcellss [])], .int .i64 16]) (by rfl) ⟨rfl, (show tk ≤ tk13 by omega), _, rfl, ⟨_, _, _, _, rfl, rfl, ⟨0, 0, 0, true, [], 0, true, [], rfl, rfl, fun _ => Fr.nil _ _⟩, rfl⟩⟩
  ·replace hM := ite_f hb18 hM
   refine run_skip ?_
   refine run_blk ?_
   refine run_sr ?_
   refine run_pu rfl (build_step hG rfl (by rfl) rfl (fun h => by cases h) (by rfl)) rfl (ltb rfl) ?_
   refine run_op rfl (alloc_step (d := 6) hG rfl rfl rfl) rfl (ltb rfl) ?_
   refine run_op0 rfl (store_step hG rfl rfl rfl rfl rfl rfl rfl rfl) rfl ?_
   refine run_ops_nil ?_
   refine run_sub_code (σ' := ⟨[(2, .optr (.loc 2) 0 0), (3, .optr (.loc 3) 0 0), (4, .optr (.loc 4) 0 0), (5, .int .i64 0), (6, .optr (.loc 6) 0 0)], [(6, ⟨29, 4, true, [[.int .i64 0, .int .i64 0, .imm 0 3 true [], .imm 0 4 true []]]⟩), (4, ⟨29, 4, true, [[.int .i64 0, .int .i64 0, .imm 0 3 true [], .imm 0 4 true []]]⟩), (3, ⟨3, 1, true, [[.int .i64 i2]]⟩), (2, ⟨34, 4, true, [[.int .i64 k1, .int .i64 n1, .str s1, .imm q1 4 f1 (cellss ks1)]]⟩)], [], O, tk13⟩) (Sub.env _ ⟨rfl, rfl, rfl, rfl, rfl, trivial⟩) ?_
   refine run_seq ?_
   refine run_sr ?_
   refine run_sub_ops (Sub.frbox (k := 2) (env' := [(2, .cptr [.int .i64 k1, .int .i64 n1, .str s1, .imm q1 4 f1 (cellss ks1)]), (3, .optr (.loc 3) 0 0), (4, .optr (.loc 4) 0 0), (5, .int .i64 0), (6, .optr (.loc 6) 0 0)]) rfl rfl (.ptr 2 0 _ rfl (.keep 3 _ _ rfl (.keep 4 _ _ rfl (.keep 5 _ _ rfl (.keep 6 _ _ rfl .nil)))))) ?_
   refine run_sub_ops (Sub.frbox (k := 3) (env' := [(2, .cptr [.int .i64 k1, .int .i64 n1, .str s1, .imm q1 4 f1 (cellss ks1)]), (3, .cptr [.int .i64 i2]), (4, .optr (.loc 4) 0 0), (5, .int .i64 0), (6, .optr (.loc 6) 0 0)]) rfl rfl (.keep 2 _ _ rfl (.ptr 3 0 _ rfl (.keep 4 _ _ rfl (.keep 5 _ _ rfl (.keep 6 _ _ rfl .nil)))))) ?_
   refine run_pu rfl (makeFunc_step (first := []) (cap := [.tmp 2, .tmp 3, .tmp 6]) rfl rfl rfl) rfl (ltb rfl) ?_
   obtain ⟨z19, hg20, hM⟩ := bind_t hM
   refine run_call rfl rfl rfl (ltb rfl) rfl rfl rfl (fun _ h => absurd h List.not_mem_nil) (caught_vz (j := 0) rfl (K := 45) (bor := [.loc 6]) (b := [⟨29, 4, true, [[.int .i64 0, .int .i64 0, .imm 0 3 true [], .imm 0 4 true []]]⟩]) (caps := [.cptr [.int .i64 k1, .int .i64 n1, .str s1, .imm q1 4 f1 (cellss ks1)], .cptr [.int .i64 i2], .optr (.loc 6) 0 0]) (caps' := [.cptr [.int .i64 k1, .int .i64 n1, .str s1, .imm q1 4 f1 (cellss ks1)], .cptr [.int .i64 i2], .optr (.bor 0) 0 0]) (Bor.cons rfl rfl (by decide) (Bor.nil _)) (.cons (.cptr _) (.cons (.cptr _) (.cons (.bor 0 _ _ _ rfl) .nil))) rfl (by intro y h; simp only [List.mem_cons, List.not_mem_nil, or_false] at h; rcases h with rfl <;> simp [tch, tch0]) rfl (i_DecodeProof_c1__kkv_ok n k1 n1 s1 q1 f1 ks1 i2 (.bor 0) 0 0 0 true [] 0 true [] hg20 _ _ rfl) (fun a v o' tk' h => by obtain ⟨_, rfl, ⟨_, _, _, _, _, _, _, _, ⟨⟩, rfl, _⟩, _⟩ := h; rfl)) (callK_retV_loc (k := 6) rfl (fun v o'25 tk23 (hle24 : tk13 ≤ tk23) h21 => ?_))
   rcases z19 with r22 | ⟨c28, p29⟩
   ·replace hM := cs_ok hM
    obtain ⟨rfl, _, ⟨_, rfl, ⟨k26, n26, p26, e26, fs26, q26, f26, ks26, ⟨⟩, rfl, hf27⟩, rfl⟩⟩ := h21
    refine run_op rfl (alloc_step (d := 7) hG rfl rfl rfl) rfl (ltb rfl) ?_
    refine run_op0 rfl (store_step hG rfl rfl rfl rfl rfl rfl rfl rfl) rfl ?_
    refine run_ops_nil ?_
    refine run_sr ?_
    refine run_pu rfl (fieldAddr_step hG rfl rfl rfl rfl rfl) rfl (ltb rfl) ?_
    refine run_ld hG rfl rfl rfl rfl rfl (ltb rfl) ?_
    refine run_bin rfl rfl rfl rfl rfl rfl rfl (ltb rfl) ?_
    refine run_ops_nil ?_
    refine run_ifb rfl rfl (fun hb30 => ?_) (fun hb30 => ?_)
    ·replace hM := ite_t hb30 hM
     refine run_seq ?_
     refine run_draw [.loc 4] (n := 5) mixed rfl (by intro x hx; simp only [List.mem_cons, List.not_mem_nil, or_false] at hx; rcases hx with rfl <;> rfl) ?_
     refine AAny.take (i := 0) rfl (by kernel_rfl) (by kernel_rfl) (by kernel_rfl) rfl rfl (ltb rfl) ((build_step hG rfl (by rfl) rfl (fun h => by cases h) (by rfl)).rd _) ?_
     refine AAny.take (i := 1) rfl (by kernel_rfl) (by kernel_rfl) (by kernel_rfl) rfl rfl (ltb rfl) ((fieldAddr_step hG rfl rfl rfl rfl rfl).rd _) ?_
     refine AAny.take (i := 2) rfl (by kernel_rfl) (by kernel_rfl) (by kernel_rfl) rfl rfl (ltb rfl) (aload_rd hG rfl rfl rfl (by first | (simp [ldok]; done) | exact List.not_mem_nil | trivial)) ?_
     refine AAny.one (i := 3) (by kernel_rfl) (AOp.step0 rfl rfl rfl (store_step hG rfl rfl rfl rfl rfl rfl rfl rfl) (by intro x hx; exact hx) ?_)
     refine AAny.take (i := 4) rfl (by kernel_rfl) (by kernel_rfl) (by kernel_rfl) rfl rfl (ltb rfl) ((move_step (.inr rfl) rfl).rd _) ?_
     refine AAny.done (by kernel_rfl) ?_
     refine run_ret_to ?_
     obtain rfl := some_t hM
     refine fin_x hG rfl rfl rfl (v' := .tup [.agg [.int .i64 0, .int .i64 0, .imm 0 3 true (fcellss []), .imm 0 4 true (pcellss [])], .int .i64 0]) (by rfl) ⟨rfl, (show tk ≤ tk23 by omega), _, rfl, ⟨_, _, _, _, rfl, rfl, ⟨0, 0, 0, true, [], 0, true, [], rfl, rfl, fun _ => Fr.nil _ _⟩, rfl⟩⟩
    ·replace hM := ite_f hb30 hM
     refine run_skip ?_
     refine run_sr ?_
     refine run_ld hG rfl rfl rfl rfl rfl (ltb rfl) ?_
     refine run_op0 rfl (store_step hG rfl rfl rfl rfl rfl rfl rfl rfl) rfl ?_
     refine mvR rfl rfl rfl rfl (ltb rfl) ?_
     refine run_ops_nil ?_
     refine run_ret_to ?_
     obtain rfl := some_t hM
     refine fin_x hG rfl rfl rfl (v' := .tup [.agg [.int .i64 k26, .int .i64 n26, .imm p26 3 e26 (fcellss fs26), .imm q26 4 f26 (pcellss ks26)], .int .i64 0]) (by rfl) ⟨rfl, (show tk ≤ tk23 by omega), _, rfl, ⟨_, _, _, _, rfl, rfl, ⟨k26, n26, p26, e26, fs26, q26, f26, ks26, rfl, rfl, fun _ => (show Fr tk tk23 _ from ((show Fr tk13 tk23 _ from hf27 rfl)).mono (by omega) (by omega))⟩, rfl⟩⟩
   ·replace hM := cs_stop hM
    obtain ⟨rfl, _⟩ := h21
    refine run_op rfl (alloc_step (d := 7) hG rfl rfl rfl) rfl (ltb rfl) ?_
    refine run_op0 rfl (store_step hG rfl rfl rfl rfl rfl rfl rfl rfl) rfl ?_
    refine run_ops_nil ?_
    refine run_sr ?_
    refine run_pu rfl (fieldAddr_step hG rfl rfl rfl rfl rfl) rfl (ltb rfl) ?_
    refine run_ld hG rfl rfl rfl rfl rfl (ltb rfl) ?_
    refine run_bin rfl rfl rfl rfl rfl rfl rfl (ltb rfl) ?_
    refine run_ops_nil ?_
    refine run_ifb rfl rfl (fun hb31 => ?_) (fun hb31 => ?_)
    ·replace hM := ite_t hb31 hM
     refine run_seq ?_
     refine run_draw [.loc 4] (n := 5) mixed rfl (by intro x hx; simp only [List.mem_cons, List.not_mem_nil, or_false] at hx; rcases hx with rfl <;> rfl) ?_
     refine AAny.take (i := 0) rfl (by kernel_rfl) (by kernel_rfl) (by kernel_rfl) rfl rfl (ltb rfl) ((build_step hG rfl (by rfl) rfl (fun h => by cases h) (by rfl)).rd _) ?_
     refine AAny.take (i := 1) rfl (by kernel_rfl) (by kernel_rfl) (by kernel_rfl) rfl rfl (ltb rfl) ((fieldAddr_step hG rfl rfl rfl rfl rfl).rd _) ?_
     refine AAny.take (i := 2) rfl (by kernel_rfl) (by kernel_rfl) (by kernel_rfl) rfl rfl (ltb rfl) (aload_rd hG rfl rfl rfl (by first | (simp [ldok]; done) | exact List.not_mem_nil | trivial)) ?_
     refine AAny.one (i := 3) (by kernel_rfl) (AOp.step0 rfl rfl rfl (store_step hG rfl rfl rfl rfl rfl rfl rfl rfl) (by intro x hx; exact hx) ?_)
     refine AAny.take (i := 4) rfl (by kernel_rfl) (by kernel_rfl) (by kernel_rfl) rfl rfl (ltb rfl) ((move_step (.inr rfl) rfl).rd _) ?_
     refine AAny.done (by kernel_rfl) ?_
     refine run_ret_to ?_
     obtain rfl := some_t hM
     refine fin_x hG rfl rfl rfl (v' := .tup [.agg [.int .i64 0, .int .i64 0, .imm 0 3 true (fcellss []), .imm 0 4 true (pcellss [])], .int .i64 c28]) (by rfl) ⟨rfl, (show tk ≤ tk23 by omega), _, rfl, ⟨_, _, _, _, rfl, rfl, ⟨0, 0, 0, true, [], 0, true, [], rfl, rfl, fun _ => Fr.nil _ _⟩, rfl⟩⟩
    ·replace hM := ite_f hb31 hM
     refine run_skip ?_
     refine run_sr ?_
     cases hM

set_option maxRecDepth 100000 in
theorem s_l08Names_ex (O : Heap) (tk : Nat) : ACalls Go.Proofs.Tryd.prog 88 [] O tk (RetN O (.imm tk 1 false (([(⟨#[]⟩ : ByteArray), (⟨#[]⟩ : ByteArray), (⟨#[97, 110, 100, 73]⟩ : ByteArray), (⟨#[102, 115, 116]⟩ : ByteArray), (⟨#[115, 110, 100]⟩ : ByteArray), (⟨#[102, 117, 110, 73]⟩ : ByteArray), (⟨#[117, 115, 101]⟩ : ByteArray), (⟨#[98, 111, 116, 69]⟩ : ByteArray)] : List ByteArray).map fun s => [AV.str s])) (tk + 1)) := by
 refine acalls_of_run Go.Proofs.Tryd.func88 rfl rfl [] [] (Bor.nil _) [] (.nil _) (leb rfl) (fun _ h => by cases h) (fun S0 hO htk hfz => ?_)
 refine run_sr ?_
 refine mvR rfl rfl rfl rfl (ltb rfl) ?_
 refine run_ops_nil ?_
 refine run_sr ?_
 refine run_op rfl (buildSlice_step (d := 1) hG rfl rfl rfl rfl rfl (by rfl) (by rfl) (by rfl) (by decide)) rfl (ltb rfl) ?_
 refine mvR rfl rfl rfl rfl (ltb rfl) ?_
 refine run_ops_nil ?_
 refine run_ret_to ?_
 refine fin_sub (Sub.freeze (k := 1) rfl rfl) ?_
 refine fin_x hG rfl rfl rfl (v' := .imm tk 1 false (([(⟨#[]⟩ : ByteArray), (⟨#[]⟩ : ByteArray), (⟨#[97, 110, 100, 73]⟩ : ByteArray), (⟨#[102, 115, 116]⟩ : ByteArray), (⟨#[115, 110, 100]⟩ : ByteArray), (⟨#[102, 117, 110, 73]⟩ : ByteArray), (⟨#[117, 115, 101]⟩ : ByteArray), (⟨#[98, 111, 116, 69]⟩ : ByteArray)] : List ByteArray).map fun s => [AV.str s])) (by rfl) ⟨rfl, rfl, rfl⟩

def s_l06Word_L1 (l1 : List ByteArray) (t2 : ByteArray) : Nat → Int → Option Int
 | 0, _ => none
 | m + 1, i3 =>
  if i3 ≥ 0 then
   (idx l1 i3).bind fun y5 =>
   if (y5.toList == t2.toList) = true then
    some i3
   else
    s_l06Word_L1 l1 t2 m (IntKind.i64.wrap (i3 - 1))
  else
   some (-1)

def s_l06Word (n : Nat) (l1 : List ByteArray) (t2 : ByteArray) : Option Int :=
 s_l06Word_L1 l1 t2 n (IntKind.i64.wrap (((l1).length : Int) - 1))

set_option maxRecDepth 100000 in
theorem s_l06Word_ok (n : Nat) : ∀ (q1 : Nat) (f1 : Bool) (l1 : List ByteArray) (t2 : ByteArray) {r : Int}, s_l06Word n l1 t2 = some r → ∀ (O : Heap) (tk : Nat), ACalls Go.Proofs.Tryd.prog 87 [.imm q1 1 f1 ((l1 : List ByteArray).map fun s => [AV.str s]), .str t2] O tk (RetX O tk (fun v tk' => v = .int .i64 r)) := by
 intro q1 f1 l1 t2 r hM O tk
 unfold s_l06Word at hM
 refine acalls_of_run Go.Proofs.Tryd.func87 rfl rfl [] [] (Bor.nil _) [(0, .imm q1 1 f1 ((l1 : List ByteArray).map fun s => [AV.str s])), (1, .str t2)] (.cons (entS rfl) (.cons (entS rfl) (.nil _))) (leb rfl) (fun _ h => by cases h) (fun S0 hO htk hfz => ?_)
 refine run_sr ?_
 refine mvR rfl rfl rfl rfl (ltb rfl) ?_
 refine run_ops_nil ?_
 refine run_seq ?_
 refine run_sr ?_
 refine mvL rfl rfl rfl rfl (ltb rfl) ?_
 refine run_pu rfl (lenImm_step hG rfl rfl rfl rfl (slen _)) rfl (ltb rfl) ?_
 refine run_bin rfl rfl rfl rfl rfl rfl rfl (ltb rfl) ?_
 refine mvR rfl rfl rfl rfl (ltb rfl) ?_
 refine run_ops_nil ?_
 refine run_block ?_
 refine run_rounds (fun m σ => ∃ (i3 : Int) (tks_l06Word_L1 : Nat), tk ≤ tks_l06Word_L1 ∧ s_l06Word_L1 l1 t2 m i3 = some r ∧ σ = ⟨[(0, .imm q1 1 f1 ((l1 : List ByteArray).map fun s => [AV.str s])), (1, .str t2), (4, .int .i64 0), (5, .int .i64 i3)], [], [], O, tks_l06Word_L1⟩) n (Sub.env [(0, .imm q1 1 f1 ((l1 : List ByteArray).map fun s => [AV.str s])), (1, .str t2), (4, .int .i64 0), (5, .int .i64 (IntKind.i64.wrap (((l1).length : Int) - 1)))] ⟨rfl, rfl, rfl, rfl, trivial⟩) ⟨(IntKind.i64.wrap (((l1).length : Int) - 1)), tk, Nat.le_refl _, hM, rfl⟩ (fun m σ hI => ?_)
 clear hM
 obtain ⟨i3, tks_l06Word_L1, hle11, hM, rfl⟩ := hI
 obtain _ | m := m
 ·exact absurd hM (by rw [s_l06Word_L1]; exact fun h => by cases h)
 rw [s_l06Word_L1] at hM
 refine run_seq ?_
 refine run_sr ?_
 refine mvL rfl rfl rfl rfl (ltb rfl) ?_
 refine run_bin rfl rfl rfl rfl rfl rfl rfl (ltb rfl) ?_
 refine run_ops_nil ?_
 refine run_ifd rfl rfl (fun hb4 => ?_) (fun hb4 => ?_)
 ·replace hM := ite_t hb4 hM
  refine run_skip ?_
  refine run_seq ?_
  refine run_block ?_
  refine run_sr ?_
  refine mvL rfl rfl rfl rfl (ltb rfl) ?_
  refine mvL rfl rfl rfl rfl (ltb rfl) ?_
  obtain ⟨y5, hy6, hM⟩ := bind_t hM
  obtain ⟨hc8, hi9⟩ := sidx hy6
  refine run_pu rfl (indexImm_step hG rfl rfl rfl hi9 rfl rfl rfl rfl hc8) rfl (ltb rfl) ?_
  refine run_ld hG rfl rfl rfl rfl rfl (ltb rfl) ?_
  refine mvL rfl rfl rfl rfl (ltb rfl) ?_
  refine run_bin rfl rfl rfl rfl rfl rfl rfl (ltb rfl) ?_
  refine run_ops_nil ?_
  refine run_ifb rfl rfl (fun hb10 => ?_) (fun hb10 => ?_)
  ·replace hM := ite_t hb10 hM
   refine run_sr ?_
   refine mvL rfl rfl rfl rfl (ltb rfl) ?_
   refine mvR rfl rfl rfl rfl (ltb rfl) ?_
   refine run_ops_nil ?_
   refine run_ret_to ?_
   obtain rfl := some_t hM
   refine fin_x hG rfl rfl rfl (v' := .int .i64 i3) (by rfl) ⟨rfl, (show tk ≤ tks_l06Word_L1 by omega), _, rfl, rfl⟩
  ·replace hM := ite_f hb10 hM
   refine run_skip ?_
   refine run_blk ?_
   refine run_region ?_
   refine mvL rfl rfl rfl rfl (ltb rfl) ?_
   refine run_bin rfl rfl rfl rfl rfl rfl rfl (ltb rfl) ?_
   refine mvR rfl rfl rfl rfl (ltb rfl) ?_
   refine run_ops_nil ?_
   exact run_loop_end ⟨m, _, Nat.lt_succ_self _, ⟨(IntKind.i64.wrap (i3 - 1)), tks_l06Word_L1, (show tk ≤ tks_l06Word_L1 by omega), hM, rfl⟩, Sub.env [(0, .imm q1 1 f1 ((l1 : List ByteArray).map fun s => [AV.str s])), (1, .str t2), (4, .int .i64 0), (5, .int .i64 (IntKind.i64.wrap (i3 - 1)))] ⟨rfl, rfl, rfl, rfl, trivial⟩⟩
 ·replace hM := ite_f hb4 hM
  refine run_exit_to rfl ?_
  refine run_sr ?_
  refine mvR rfl rfl rfl rfl (ltb rfl) ?_
  refine run_ops_nil ?_
  refine run_ret_to ?_
  obtain rfl := some_t hM
  refine fin_x hG rfl rfl rfl (v' := .int .i64 (-1)) (by rfl) ⟨rfl, (show tk ≤ tks_l06Word_L1 by omega), _, rfl, rfl⟩

def s_l08Shape (i1 : Int) : Option (Int × Int) :=
 if i1 = 1 then
  some (0, 0)
 else
  jn (fun (b4 : Bool) =>
   if b4 = true then
    some (2, 2)
   else
    if i1 = 3 then
     if i1 = 3 then
      some (2, 1)
     else
      if i1 = 7 then
       some (1, 1)
      else
       some ((-1), (-1))
    else
     if i1 = 4 then
      if i1 = 4 then
       some (2, 1)
      else
       if i1 = 7 then
        some (1, 1)
       else
        some ((-1), (-1))
     else
      if i1 = 5 then
       some (2, 1)
      else
       if i1 = 7 then
        some (1, 1)
       else
        some ((-1), (-1))) fun j3 =>
  if i1 = 2 then
   j3 (i1 == 2)
  else
   j3 (i1 == 6)

set_option maxHeartbeats 2000000 in
set_option maxRecDepth 100000 in
theorem s_l08Shape_ok : ∀ (i1 : Int) {r : (Int × Int)}, s_l08Shape i1 = some r → ∀ (O : Heap) (tk : Nat), ACalls Go.Proofs.Tryd.prog 89 [.int .i64 i1] O tk (RetX O tk (fun v tk' => ∃ r0' r1' v0' v1', r = (r0', r1') ∧ v = .tup [v0', v1'] ∧ v0' = .int .i64 r0' ∧ v1' = .int .i64 r1')) := by
 intro i1 r hM O tk
 unfold s_l08Shape at hM
 refine acalls_of_run Go.Proofs.Tryd.func89 rfl rfl [] [] (Bor.nil _) [(0, .int .i64 i1)] (.cons (entS rfl) (.nil _)) (leb rfl) (fun _ h => by cases h) (fun S0 hO htk hfz => ?_)
 refine run_sr ?_
 refine mvR rfl rfl rfl rfl (ltb rfl) ?_
 refine mvR rfl rfl rfl rfl (ltb rfl) ?_
 refine run_ops_nil ?_
 refine run_seq ?_
 refine run_sr ?_
 refine mvL rfl rfl rfl rfl (ltb rfl) ?_
 refine run_ops_nil ?_
 refine run_block ?_
 refine run_sr ?_
 refine run_bin rfl rfl rfl rfl rfl rfl rfl (ltb rfl) ?_
 refine mvR rfl rfl rfl rfl (ltb rfl) ?_
 refine run_ops_nil ?_
 refine run_ifd rfl rfl (fun hb2 => ?_) (fun hb2 => ?_)
 ·replace hM := ite_t hb2 hM
  refine run_sr ?_
  refine mvR rfl rfl rfl rfl (ltb rfl) ?_
  refine mvR rfl rfl rfl rfl (ltb rfl) ?_
  refine run_ops_nil ?_
  refine run_ret_to ?_
  obtain rfl := some_t hM
  refine fin_x hG rfl rfl rfl (v' := .tup [.int .i64 0, .int .i64 0]) (by rfl) ⟨rfl, (show tk ≤ tk by omega), _, rfl, ⟨_, _, _, _, rfl, rfl, rfl, rfl⟩⟩
 ·replace hM := ite_f hb2 hM
  refine run_seq ?_
  refine run_sr ?_
  refine run_bin rfl rfl rfl rfl rfl rfl rfl (ltb rfl) ?_
  refine mvR rfl rfl rfl rfl (ltb rfl) ?_
  refine run_ops_nil ?_
  obtain ⟨j3, hj16, hM⟩ := jn_t hM
  refine run_cutL [.code _] (fun σ' => ∃ (b4 : Bool) (tkj3 : Nat), tk ≤ tkj3 ∧ j3 b4 = some r ∧ Sub ⟨Go.Proofs.Tryd.prog, S0, Go.Proofs.Tryd.f89.ntmps, [], fun _ => False, []⟩ σ' ⟨[(2, .int .i64 0), (3, .int .i64 0), (4, .int .i64 i1), (7, .bool b4)], [], [], O, tkj3⟩) rfl ?_ ?_
  ·refine run_ifd rfl rfl (fun hb5 => ?_) (fun hb5 => ?_)
   ·replace hM := ite_t hb5 hM
    refine run_skip ?_
    exact ⟨(i1 == 2), tk, (show tk ≤ tk by omega), hM, Sub.env [(2, .int .i64 0), (3, .int .i64 0), (4, .int .i64 i1), (7, .bool (i1 == 2))] ⟨rfl, rfl, rfl, rfl, trivial⟩⟩
   ·replace hM := ite_f hb5 hM
    refine run_region ?_
    refine run_bin rfl rfl rfl rfl rfl rfl rfl (ltb rfl) ?_
    refine mvR rfl rfl rfl rfl (ltb rfl) ?_
    refine run_ops_nil ?_
    exact ⟨(i1 == 6), tk, (show tk ≤ tk by omega), hM, Sub.env [(2, .int .i64 0), (3, .int .i64 0), (4, .int .i64 i1), (7, .bool (i1 == 6))] ⟨rfl, rfl, rfl, rfl, trivial⟩⟩
  ·clear hM
   rintro σ' ⟨b4, tkj3, hle15, hM, hsub⟩
   rw [hj16] at hM
   clear hj16
   refine run_sub_code hsub ?_
   refine run_ifb rfl rfl (fun hb6 => ?_) (fun hb6 => ?_)
   ·replace hM := ite_t hb6 hM
    refine run_sr ?_
    refine mvR rfl rfl rfl rfl (ltb rfl) ?_
    refine mvR rfl rfl rfl rfl (ltb rfl) ?_
    refine run_ops_nil ?_
    refine run_ret_to ?_
    obtain rfl := some_t hM
    refine fin_x hG rfl rfl rfl (v' := .tup [.int .i64 2, .int .i64 2]) (by rfl) ⟨rfl, (show tk ≤ tkj3 by omega), _, rfl, ⟨_, _, _, _, rfl, rfl, rfl, rfl⟩⟩
   ·replace hM := ite_f hb6 hM
    refine run_seq ?_
    refine run_sr ?_
    refine run_bin rfl rfl rfl rfl rfl rfl rfl (ltb rfl) ?_
    refine mvR rfl rfl rfl rfl (ltb rfl) ?_
    refine run_ops_nil ?_
    refine run_ifd rfl rfl (fun hb7 => ?_) (fun hb7 => ?_)
    ·replace hM := ite_t hb7 hM
     refine run_skip ?_
     refine run_ifd rfl rfl (fun hb8 => ?_) (fun hb8 => ?_)
     ·replace hM := ite_t hb8 hM
      refine run_sr ?_
      refine mvR rfl rfl rfl rfl (ltb rfl) ?_
      refine mvR rfl rfl rfl rfl (ltb rfl) ?_
      refine run_ops_nil ?_
      refine run_ret_to ?_
      obtain rfl := some_t hM
      refine fin_x hG rfl rfl rfl (v' := .tup [.int .i64 2, .int .i64 1]) (by rfl) ⟨rfl, (show tk ≤ tkj3 by omega), _, rfl, ⟨_, _, _, _, rfl, rfl, rfl, rfl⟩⟩
     ·replace hM := ite_f hb8 hM
      refine run_sr ?_
      refine run_bin rfl rfl rfl rfl rfl rfl rfl (ltb rfl) ?_
      refine mvR rfl rfl rfl rfl (ltb rfl) ?_
      refine run_ops_nil ?_
      refine run_ifd rfl rfl (fun hb9 => ?_) (fun hb9 => ?_)
      ·replace hM := ite_t hb9 hM
       refine run_sr ?_
       refine mvR rfl rfl rfl rfl (ltb rfl) ?_
       refine mvR rfl rfl rfl rfl (ltb rfl) ?_
       refine run_ops_nil ?_
       refine run_ret_to ?_
       obtain rfl := some_t hM
       refine fin_x hG rfl rfl rfl (v' := .tup [.int .i64 1, .int .i64 1]) (by rfl) ⟨rfl, (show tk ≤ tkj3 by omega), _, rfl, ⟨_, _, _, _, rfl, rfl, rfl, rfl⟩⟩
      ·replace hM := ite_f hb9 hM
       refine run_skip ?_
       refine run_blk ?_
       refine run_sr ?_
       refine mvR rfl rfl rfl rfl (ltb rfl) ?_
       refine mvR rfl rfl rfl rfl (ltb rfl) ?_
       refine run_ops_nil ?_
       refine run_ret_to ?_
       obtain rfl := some_t hM
       refine fin_x hG rfl rfl rfl (v' := .tup [.int .i64 (-1), .int .i64 (-1)]) (by rfl) ⟨rfl, (show tk ≤ tkj3 by omega), _, rfl, ⟨_, _, _, _, rfl, rfl, rfl, rfl⟩⟩
    ·replace hM := ite_f hb7 hM
     refine run_sr ?_
     refine run_bin rfl rfl rfl rfl rfl rfl rfl (ltb rfl) ?_
     refine mvR rfl rfl rfl rfl (ltb rfl) ?_
     refine run_ops_nil ?_
     refine run_ifd rfl rfl (fun hb10 => ?_) (fun hb10 => ?_)
     ·replace hM := ite_t hb10 hM
      refine run_skip ?_
      refine run_ifd rfl rfl (fun hb11 => ?_) (fun hb11 => ?_)
      ·replace hM := ite_t hb11 hM
       refine run_sr ?_
       refine mvR rfl rfl rfl rfl (ltb rfl) ?_
       refine mvR rfl rfl rfl rfl (ltb rfl) ?_
       refine run_ops_nil ?_
       refine run_ret_to ?_
       obtain rfl := some_t hM
       refine fin_x hG rfl rfl rfl (v' := .tup [.int .i64 2, .int .i64 1]) (by rfl) ⟨rfl, (show tk ≤ tkj3 by omega), _, rfl, ⟨_, _, _, _, rfl, rfl, rfl, rfl⟩⟩
      ·replace hM := ite_f hb11 hM
       refine run_sr ?_
       refine run_bin rfl rfl rfl rfl rfl rfl rfl (ltb rfl) ?_
       refine mvR rfl rfl rfl rfl (ltb rfl) ?_
       refine run_ops_nil ?_
       refine run_ifd rfl rfl (fun hb12 => ?_) (fun hb12 => ?_)
       ·replace hM := ite_t hb12 hM
        refine run_sr ?_
        refine mvR rfl rfl rfl rfl (ltb rfl) ?_
        refine mvR rfl rfl rfl rfl (ltb rfl) ?_
        refine run_ops_nil ?_
        refine run_ret_to ?_
        obtain rfl := some_t hM
        refine fin_x hG rfl rfl rfl (v' := .tup [.int .i64 1, .int .i64 1]) (by rfl) ⟨rfl, (show tk ≤ tkj3 by omega), _, rfl, ⟨_, _, _, _, rfl, rfl, rfl, rfl⟩⟩
       ·replace hM := ite_f hb12 hM
        refine run_skip ?_
        refine run_blk ?_
        refine run_sr ?_
        refine mvR rfl rfl rfl rfl (ltb rfl) ?_
        refine mvR rfl rfl rfl rfl (ltb rfl) ?_
        refine run_ops_nil ?_
        refine run_ret_to ?_
        obtain rfl := some_t hM
        refine fin_x hG rfl rfl rfl (v' := .tup [.int .i64 (-1), .int .i64 (-1)]) (by rfl) ⟨rfl, (show tk ≤ tkj3 by omega), _, rfl, ⟨_, _, _, _, rfl, rfl, rfl, rfl⟩⟩
     ·replace hM := ite_f hb10 hM
      refine run_region ?_
      refine run_bin rfl rfl rfl rfl rfl rfl rfl (ltb rfl) ?_
      refine mvR rfl rfl rfl rfl (ltb rfl) ?_
      refine run_ops_nil ?_
      refine run_ifd rfl rfl (fun hb13 => ?_) (fun hb13 => ?_)
      ·replace hM := ite_t hb13 hM
       refine run_sr ?_
       refine mvR rfl rfl rfl rfl (ltb rfl) ?_
       refine mvR rfl rfl rfl rfl (ltb rfl) ?_
       refine run_ops_nil ?_
       refine run_ret_to ?_
       obtain rfl := some_t hM
       refine fin_x hG rfl rfl rfl (v' := .tup [.int .i64 2, .int .i64 1]) (by rfl) ⟨rfl, (show tk ≤ tkj3 by omega), _, rfl, ⟨_, _, _, _, rfl, rfl, rfl, rfl⟩⟩
      ·replace hM := ite_f hb13 hM
       refine run_sr ?_
       refine run_bin rfl rfl rfl rfl rfl rfl rfl (ltb rfl) ?_
       refine mvR rfl rfl rfl rfl (ltb rfl) ?_
       refine run_ops_nil ?_
       refine run_ifd rfl rfl (fun hb14 => ?_) (fun hb14 => ?_)
       ·replace hM := ite_t hb14 hM
        refine run_sr ?_
        refine mvR rfl rfl rfl rfl (ltb rfl) ?_
        refine mvR rfl rfl rfl rfl (ltb rfl) ?_
        refine run_ops_nil ?_
        refine run_ret_to ?_
        obtain rfl := some_t hM
        refine fin_x hG rfl rfl rfl (v' := .tup [.int .i64 1, .int .i64 1]) (by rfl) ⟨rfl, (show tk ≤ tkj3 by omega), _, rfl, ⟨_, _, _, _, rfl, rfl, rfl, rfl⟩⟩
       ·replace hM := ite_f hb14 hM
        refine run_skip ?_
        refine run_blk ?_
        refine run_sr ?_
        refine mvR rfl rfl rfl rfl (ltb rfl) ?_
        refine mvR rfl rfl rfl rfl (ltb rfl) ?_
        refine run_ops_nil ?_
        refine run_ret_to ?_
        obtain rfl := some_t hM
        refine fin_x hG rfl rfl rfl (v' := .tup [.int .i64 (-1), .int .i64 (-1)]) (by rfl) ⟨rfl, (show tk ≤ tkj3 by omega), _, rfl, ⟨_, _, _, _, rfl, rfl, rfl, rfl⟩⟩

def s_l08Decode_L3 (rec_s_l08Decode : T → Int → Option (Pf × Bool)) (x1 : T) (i2 : Int) (r5 : Int) (r14 : (Int × Int)) : Nat → Int → List Pf → Option (Pf × Bool)
 | 0, _, _ => none
 | m + 1, i147, l148 =>
  if i147 < (IntKind.i64.wrap (r14.1 + r14.2)) then
   (idx x1.kids i147).bind fun y150 =>
   jn (fun (i156 : Int) (i157 : Int) (i158 : Int) (t159 : ByteArray) (l160 : List T) =>
    (rec_s_l08Decode (T.mk i157 i158 t159 l160) i156).bind fun r168 =>
    if (!r168.2) = true then
     some ((Pf.mk 0 0 [] []), false)
    else
     chk ((l148).length + ([r168.1]).length ≤ 1099511627776) <|
     s_l08Decode_L3 rec_s_l08Decode x1 i2 r5 r14 m (IntKind.i64.wrap (i147 + 1)) (l148 ++ [r168.1])) fun j155 =>
   if r5 = 5 then
    if (y150.kind != 4) = true then
     some ((Pf.mk 0 0 [] []), false)
    else
     (idx y150.kids 0).bind fun y163 =>
     j155 (IntKind.i64.wrap (i2 + 1)) y163.kind y163.n y163.name y163.kids
   else
    j155 i2 y150.kind y150.n y150.name y150.kids
  else
   some ((Pf.mk r5 0 [] l148), true)

def s_l08Decode_L2 (rec_s_l08Decode : T → Int → Option (Pf × Bool)) (x1 : T) (i2 : Int) (r5 : Int) (r14 : (Int × Int)) (l29 : List F) : Nat → Int → List Pf → Option (Pf × Bool)
 | 0, _, _ => none
 | m + 1, i51, l52 =>
  if i51 < (IntKind.i64.wrap (r14.1 + r14.2)) then
   (idx x1.kids i51).bind fun y54 =>
   jn (fun (i60 : Int) (i61 : Int) (i62 : Int) (t63 : ByteArray) (l64 : List T) =>
    (rec_s_l08Decode (T.mk i61 i62 t63 l64) i60).bind fun r72 =>
    if (!r72.2) = true then
     some ((Pf.mk 0 0 [] []), false)
    else
     chk ((l52).length + ([r72.1]).length ≤ 1099511627776) <|
     s_l08Decode_L2 rec_s_l08Decode x1 i2 r5 r14 l29 m (IntKind.i64.wrap (i51 + 1)) (l52 ++ [r72.1])) fun j59 =>
   if r5 = 5 then
    if (y54.kind != 4) = true then
     some ((Pf.mk 0 0 [] []), false)
    else
     (idx y54.kids 0).bind fun y67 =>
     j59 (IntKind.i64.wrap (i2 + 1)) y67.kind y67.n y67.name y67.kids
   else
    j59 i2 y54.kind y54.n y54.name y54.kids
  else
   some ((Pf.mk r5 0 l29 l52), true)

def s_l08Decode_L1 (rec_s_l08Decode : T → Int → Option (Pf × Bool)) (n : Nat) (x1 : T) (i2 : Int) (r5 : Int) (r14 : (Int × Int)) : Nat → Int → List F → Option (Pf × Bool)
 | 0, _, _ => none
 | m + 1, i28, l29 =>
  if i28 < r14.1 then
   (idx x1.kids i28).bind fun y31 =>
   (s_l08Back n y31).bind fun r36 =>
   if (!r36.2) = true then
    some ((Pf.mk 0 0 [] []), false)
   else
    chk ((l29).length + ([r36.1]).length ≤ 1099511627776) <|
    s_l08Decode_L1 rec_s_l08Decode n x1 i2 r5 r14 m (IntKind.i64.wrap (i28 + 1)) (l29 ++ [r36.1])
  else
   if r14.1 < (IntKind.i64.wrap (r14.1 + r14.2)) then
    (idx x1.kids r14.1).bind fun y90 =>
    jn (fun (i96 : Int) (i97 : Int) (i98 : Int) (t99 : ByteArray) (l100 : List T) =>
     (rec_s_l08Decode (T.mk i97 i98 t99 l100) i96).bind fun r108 =>
     if (!r108.2) = true then
      some ((Pf.mk 0 0 [] []), false)
     else
      chk ((([] : List Pf)).length + ([r108.1]).length ≤ 1099511627776) <|
      s_l08Decode_L2 rec_s_l08Decode x1 i2 r5 r14 l29 n (IntKind.i64.wrap (r14.1 + 1)) (([] : List Pf) ++ [r108.1])) fun j95 =>
    if r5 = 5 then
     if (y90.kind != 4) = true then
      some ((Pf.mk 0 0 [] []), false)
     else
      (idx y90.kids 0).bind fun y103 =>
      j95 (IntKind.i64.wrap (i2 + 1)) y103.kind y103.n y103.name y103.kids
    else
     j95 i2 y90.kind y90.n y90.name y90.kids
   else
    some ((Pf.mk r5 0 l29 []), true)

def s_l08Decode : Nat → T → Int → Option (Pf × Bool)
 | 0, _, _ => none
 | n + 1, x1, i2 =>
  if x1.kind = 5 then
   if ((x1.kids).length : Int) = 0 then
    some ((Pf.mk 1 x1.n [] []), (decide (x1.n < i2)))
   else
    some ((Pf.mk 1 x1.n [] []), false)
  else
   (s_l06Word n ([(⟨#[]⟩ : ByteArray), (⟨#[]⟩ : ByteArray), (⟨#[97, 110, 100, 73]⟩ : ByteArray), (⟨#[102, 115, 116]⟩ : ByteArray), (⟨#[115, 110, 100]⟩ : ByteArray), (⟨#[102, 117, 110, 73]⟩ : ByteArray), (⟨#[117, 115, 101]⟩ : ByteArray), (⟨#[98, 111, 116, 69]⟩ : ByteArray)]) x1.name).bind fun r5 =>
   if (x1.kind != 6) = true then
    some ((Pf.mk 0 0 [] []), false)
   else
    if r5 < 2 then
     some ((Pf.mk 0 0 [] []), false)
    else
     (s_l08Shape r5).bind fun r14 =>
     if (((x1.kids).length : Int) != (IntKind.i64.wrap (r14.1 + r14.2))) = true then
      some ((Pf.mk 0 0 [] []), false)
     else
      if 0 < r14.1 then
       (idx x1.kids 0).bind fun y127 =>
       (s_l08Back n y127).bind fun r132 =>
       if (!r132.2) = true then
        some ((Pf.mk 0 0 [] []), false)
       else
        chk ((([] : List F)).length + ([r132.1]).length ≤ 1099511627776) <|
        s_l08Decode_L1 (s_l08Decode n) n x1 i2 r5 r14 n (IntKind.i64.wrap (0 + 1)) (([] : List F) ++ [r132.1])
      else
       if r14.1 < (IntKind.i64.wrap (r14.1 + r14.2)) then
        (idx x1.kids r14.1).bind fun y186 =>
        jn (fun (i192 : Int) (i193 : Int) (i194 : Int) (t195 : ByteArray) (l196 : List T) =>
         (s_l08Decode n (T.mk i193 i194 t195 l196) i192).bind fun r204 =>
         if (!r204.2) = true then
          some ((Pf.mk 0 0 [] []), false)
         else
          chk ((([] : List Pf)).length + ([r204.1]).length ≤ 1099511627776) <|
          s_l08Decode_L3 (s_l08Decode n) x1 i2 r5 r14 n (IntKind.i64.wrap (r14.1 + 1)) (([] : List Pf) ++ [r204.1])) fun j191 =>
        if r5 = 5 then
         if (y186.kind != 4) = true then
          some ((Pf.mk 0 0 [] []), false)
         else
          (idx y186.kids 0).bind fun y199 =>
          j191 (IntKind.i64.wrap (i2 + 1)) y199.kind y199.n y199.name y199.kids
        else
         j191 i2 y186.kind y186.n y186.name y186.kids
       else
        some ((Pf.mk r5 0 [] []), true)

set_option maxHeartbeats 2000000 in
set_option maxRecDepth 100000 in
theorem s_l08Decode_st (n : Nat) (ih_s_l08Decode : ∀ (k1 : Int) (n1 : Int) (s1 : ByteArray) (q1 : Nat) (f1 : Bool) (ks1 : List LT) (i2 : Int) {r : (Pf × Bool)}, s_l08Decode n (T.mk k1 n1 s1 (ers ks1)) i2 = some r → ∀ (O : Heap) (tk : Nat), ACalls Go.Proofs.Tryd.prog 40 [.agg [.int .i64 k1, .int .i64 n1, .str s1, .imm q1 4 f1 (cellss ks1)], .int .i64 i2] O tk (RetX O tk (fun v tk' => ∃ r0' r1' v0' v1', r = (r0', r1') ∧ v = .tup [v0', v1'] ∧ VP true tk tk' r0' v0' ∧ v1' = .bool r1'))) : ∀ (k1 : Int) (n1 : Int) (s1 : ByteArray) (q1 : Nat) (f1 : Bool) (ks1 : List LT) (i2 : Int) {r : (Pf × Bool)}, s_l08Decode (n + 1) (T.mk k1 n1 s1 (ers ks1)) i2 = some r → ∀ (O : Heap) (tk : Nat), ACalls Go.Proofs.Tryd.prog 40 [.agg [.int .i64 k1, .int .i64 n1, .str s1, .imm q1 4 f1 (cellss ks1)], .int .i64 i2] O tk (RetX O tk (fun v tk' => ∃ r0' r1' v0' v1', r = (r0', r1') ∧ v = .tup [v0', v1'] ∧ VP true tk tk' r0' v0' ∧ v1' = .bool r1')) := by
 intro k1 n1 s1 q1 f1 ks1 i2 r hM O tk
 rw [s_l08Decode] at hM
 refine acalls_of_run Go.Proofs.Tryd.func40 rfl rfl [] [] (Bor.nil _) [(0, .agg [.int .i64 k1, .int .i64 n1, .str s1, .imm q1 4 f1 (cellss ks1)]), (1, .int .i64 i2)] (.cons (.agg _) (.cons (entS rfl) (.nil _))) (leb rfl) (fun _ h => by cases h) (fun S0 hO htk hfz => ?_)
 refine run_sr ?_
 refine run_op rfl (box_step (d := 2) rfl rfl rfl rfl rfl) rfl (ltb rfl) ?_
 refine run_op rfl (alloc_step (d := 4) hG rfl rfl rfl) rfl (ltb rfl) ?_
 refine mvR rfl rfl rfl rfl (ltb rfl) ?_
 refine run_ops_nil ?_
 refine run_seq ?_
 refine run_sr ?_
 refine run_pu rfl (fieldAddr_step hG rfl rfl rfl rfl rfl) rfl (ltb rfl) ?_
 refine run_ld hG rfl rfl rfl rfl rfl (ltb rfl) ?_
 refine run_bin rfl rfl rfl rfl rfl rfl rfl (ltb rfl) ?_
 refine run_ops_nil ?_
 refine run_ifd rfl rfl (fun hb3 => ?_) (fun hb3 => ?_)
 ·replace hM := ite_t hb3 hM
  refine run_seq ?_
  refine run_draw [.loc 4] (n := 15) mixed rfl (by intro x hx; simp only [List.mem_cons, List.not_mem_nil, or_false] at hx; rcases hx with rfl <;> rfl) ?_
  refine AAny.take (i := 0) rfl (by kernel_rfl) (by kernel_rfl) (by kernel_rfl) rfl rfl (ltb rfl) ((fieldAddr_step hG rfl rfl rfl rfl rfl).rd _) ?_
  refine AAny.take (i := 1) rfl (by kernel_rfl) (by kernel_rfl) (by kernel_rfl) rfl rfl (ltb rfl) (aload_rd hG rfl rfl rfl (by first | (simp [ldok]; done) | exact List.not_mem_nil | trivial)) ?_
  refine AAny.take (i := 2) rfl (by kernel_rfl) (by kernel_rfl) (by kernel_rfl) rfl rfl (ltb rfl) ((build_step hG rfl (by rfl) rfl (fun h => by cases h) (by rfl)).rd _) ?_
  refine AAny.take (i := 3) rfl (by kernel_rfl) (by kernel_rfl) (by kernel_rfl) rfl rfl (ltb rfl) ((fieldAddr_step hG rfl rfl rfl rfl rfl).rd _) ?_
  refine AAny.take (i := 4) rfl (by kernel_rfl) (by kernel_rfl) (by kernel_rfl) rfl rfl (ltb rfl) (aload_rd hG rfl rfl rfl (by first | (simp [ldok]; done) | exact List.not_mem_nil | trivial)) ?_
  refine AAny.take (i := 5) rfl (by kernel_rfl) (by kernel_rfl) (by kernel_rfl) rfl rfl (ltb rfl) ((lenImm_step hG rfl rfl rfl rfl (tlen _)).rd _) ?_
  refine AAny.take (i := 6) rfl (by kernel_rfl) (by kernel_rfl) (by kernel_rfl) rfl rfl (ltb rfl) ((abin_step rfl rfl rfl rfl (fun _ h => by cases h)).rd _) ?_
  refine AAny.take (i := 7) rfl (by kernel_rfl) (by kernel_rfl) (by kernel_rfl) rfl rfl (ltb rfl) ((move_step (.inl rfl) rfl).rd _) ?_
  refine AAny.splitd (i := 28) rfl (by intro x hx; simp only [List.mem_cons, List.not_mem_nil, or_false] at hx; rcases hx with rfl <;> rfl) (fun hb4 => ?_) (fun hb4 => ?_)
  ·replace hM := ite_t hb4 hM
   refine AAny.takeG (i := 8) rfl (by kernel_rfl) (by kernel_rfl) (by kernel_rfl) (on_of rfl rfl rfl rfl) rfl (ltb rfl) ((fieldAddr_step hG rfl rfl rfl rfl rfl).rd _) ?_
   refine AAny.takeG (i := 9) rfl (by kernel_rfl) (by kernel_rfl) (by kernel_rfl) (on_of rfl rfl rfl rfl) rfl (ltb rfl) (aload_rd hG rfl rfl rfl (by first | (simp [ldok]; done) | exact List.not_mem_nil | trivial)) ?_
   refine AAny.takeG (i := 10) rfl (by kernel_rfl) (by kernel_rfl) (by kernel_rfl) (on_of rfl rfl rfl rfl) rfl (ltb rfl) ((move_step (.inl rfl) rfl).rd _) ?_
   refine AAny.takeG (i := 11) rfl (by kernel_rfl) (by kernel_rfl) (by kernel_rfl) (on_of rfl rfl rfl rfl) rfl (ltb rfl) ((abin_step rfl rfl rfl rfl (fun _ h => by cases h)).rd _) ?_
   refine AAny.take (i := 12) rfl (by kernel_rfl) (by kernel_rfl) (by kernel_rfl) rfl rfl (ltb rfl) ((pick_step rfl rfl rfl).rd _) ?_
   refine AAny.one (i := 13) (by kernel_rfl) (AOp.step0 rfl rfl rfl (store_step hG rfl rfl rfl rfl rfl rfl rfl rfl) (by intro x hx; exact hx) ?_)
   refine AAny.take (i := 14) rfl (by kernel_rfl) (by kernel_rfl) (by kernel_rfl) rfl rfl (ltb rfl) ((move_step (.inr rfl) rfl).rd _) ?_
   refine AAny.done (by kernel_rfl) ?_
   refine run_ret_to ?_
   obtain rfl := some_t hM
   refine fin_x hG rfl rfl rfl (v' := .tup [.agg [.int .i64 1, .int .i64 n1, .imm 0 3 true (fcellss []), .imm 0 4 true (pcellss [])], .bool (decide (n1 < i2))]) (by rfl) ⟨rfl, (show tk ≤ tk by omega), _, rfl, ⟨_, _, _, _, rfl, rfl, ⟨1, n1, 0, true, [], 0, true, [], rfl, rfl, fun _ => Fr.nil _ _⟩, rfl⟩⟩
  ·replace hM := ite_f hb4 hM
   refine AAny.off (i := 8) rfl (by kernel_rfl) (by kernel_rfl) (by kernel_rfl) (on_of rfl rfl rfl rfl) rfl (ltb rfl) ?_
   refine AAny.off (i := 9) rfl (by kernel_rfl) (by kernel_rfl) (by kernel_rfl) (on_of rfl rfl rfl rfl) rfl (ltb rfl) ?_
   refine AAny.off (i := 10) rfl (by kernel_rfl) (by kernel_rfl) (by kernel_rfl) (on_of rfl rfl rfl rfl) rfl (ltb rfl) ?_
   refine AAny.off (i := 11) rfl (by kernel_rfl) (by kernel_rfl) (by kernel_rfl) (on_of rfl rfl rfl rfl) rfl (ltb rfl) ?_
   refine AAny.take (i := 12) rfl (by kernel_rfl) (by kernel_rfl) (by kernel_rfl) rfl rfl (ltb rfl) ((pick_step rfl rfl rfl).rd _) ?_
   refine AAny.one (i := 13) (by kernel_rfl) (AOp.step0 rfl rfl rfl (store_step hG rfl rfl rfl rfl rfl rfl rfl rfl) (by intro x hx; exact hx) ?_)
   refine AAny.take (i := 14) rfl (by kernel_rfl) (by kernel_rfl) (by kernel_rfl) rfl rfl (ltb rfl) ((move_step (.inr rfl) rfl).rd _) ?_
   refine AAny.done (by kernel_rfl) ?_
   refine run_ret_to ?_
   obtain rfl := some_t hM
   refine fin_x hG rfl rfl rfl (v' := .tup [.agg [.int .i64 1, .int .i64 n1, .imm 0 3 true (fcellss []), .imm 0 4 true (pcellss [])], .bool false]) (by rfl) ⟨rfl, (show tk ≤ tk by omega), _, rfl, ⟨_, _, _, _, rfl, rfl, ⟨1, n1, 0, true, [], 0, true, [], rfl, rfl, fun _ => Fr.nil _ _⟩, rfl⟩⟩
 ·replace hM := ite_f hb3 hM
  refine run_skip ?_
  refine run_seq ?_
  refine run_draw [] (n := 5) mixed rfl (fun _ h => absurd h List.not_mem_nil) ?_
  refine AAny.take (i := 1) rfl (by kernel_rfl) (by kernel_rfl) (by kernel_rfl) rfl rfl (ltb rfl) ((fieldAddr_step hG rfl rfl rfl rfl rfl).rd _) ?_
  refine AAny.take (i := 2) rfl (by kernel_rfl) (by kernel_rfl) (by kernel_rfl) rfl rfl (ltb rfl) (aload_rd hG rfl rfl rfl (by first | (simp [ldok]; done) | exact List.not_mem_nil | trivial)) ?_
  refine AAny.one (i := 0) (by kernel_rfl) (AOp.call rfl rfl rfl rfl (ltb rfl) rfl rfl rfl (fun _ h => absurd h List.not_mem_nil) (fun _ h => absurd h List.not_mem_nil) (s_l08Names_ex  _ _) (callK_retN ?_))
  skip
  obtain ⟨r5, hg6, hM⟩ := bind_t hM
  refine AAny.one (i := 3) (by kernel_rfl) (AOp.call rfl rfl rfl rfl (ltb rfl) rfl rfl rfl (fun _ h => absurd h List.not_mem_nil) (fun _ h => absurd h List.not_mem_nil) (s_l06Word_ok n tk false [(⟨#[]⟩ : ByteArray), (⟨#[]⟩ : ByteArray), (⟨#[97, 110, 100, 73]⟩ : ByteArray), (⟨#[102, 115, 116]⟩ : ByteArray), (⟨#[115, 110, 100]⟩ : ByteArray), (⟨#[102, 117, 110, 73]⟩ : ByteArray), (⟨#[117, 115, 101]⟩ : ByteArray), (⟨#[98, 111, 116, 69]⟩ : ByteArray)] s1 hg6 _ _) (callK_retX (fun v tk7 (hle8 : (tk + 1) ≤ tk7) h9 => ?_)))
  subst h9
  refine AAny.take (i := 4) rfl (by kernel_rfl) (by kernel_rfl) (by kernel_rfl) rfl rfl (ltb rfl) ((move_step (.inr rfl) rfl).rd _) ?_
  refine AAny.done (by kernel_rfl) ?_
  refine run_seq ?_
  refine run_sr ?_
  refine run_pu rfl (fieldAddr_step hG rfl rfl rfl rfl rfl) rfl (ltb rfl) ?_
  refine run_ld hG rfl rfl rfl rfl rfl (ltb rfl) ?_
  refine run_bin rfl rfl rfl rfl rfl rfl rfl (ltb rfl) ?_
  refine mvL rfl rfl rfl rfl (ltb rfl) ?_
  refine run_splitb (i := 41) rfl (fun hb12 => ?_) (fun hb12 => ?_)
  ·replace hM := ite_t hb12 hM
   refine run_off (on_of rfl rfl rfl rfl) rfl (ltb rfl) ?_
   refine run_off (on_of rfl rfl rfl rfl) rfl (ltb rfl) ?_
   refine run_pu rfl (pick_step rfl rfl rfl) rfl (ltb rfl) ?_
   refine run_ops_nil ?_
   refine run_sub_code (σ' := ⟨[(1, .int .i64 i2), (2, .optr (.loc 2) 0 0), (4, .optr (.loc 4) 0 0), (5, .bool false), (6, .int .i64 r5), (44, .bool true)], [(4, ⟨29, 4, true, [[.int .i64 0, .int .i64 0, .imm 0 3 true [], .imm 0 4 true []]]⟩), (2, ⟨34, 4, true, [[.int .i64 k1, .int .i64 n1, .str s1, .imm q1 4 f1 (cellss ks1)]]⟩)], [], O, tk7⟩) (Sub.env _ ⟨rfl, rfl, rfl, rfl, rfl, rfl, trivial⟩) ?_
   refine run_if rfl rfl (fun _ => ?_) (fun h => by cases h)
   refine run_sr ?_
   refine run_pu rfl (build_step hG rfl (by rfl) rfl (fun h => by cases h) (by rfl)) rfl (ltb rfl) ?_
   refine run_op0 rfl (store_step hG rfl rfl rfl rfl rfl rfl rfl rfl) rfl ?_
   refine mvR rfl rfl rfl rfl (ltb rfl) ?_
   refine run_ops_nil ?_
   refine run_ret_to ?_
   obtain rfl := some_t hM
   refine fin_x hG rfl rfl rfl (v' := .tup [.agg [.int .i64 0, .int .i64 0, .imm 0 3 true (fcellss []), .imm 0 4 true (pcellss [])], .bool false]) (by rfl) ⟨rfl, (show tk ≤ tk7 by omega), _, rfl, ⟨_, _, _, _, rfl, rfl, ⟨0, 0, 0, true, [], 0, true, [], rfl, rfl, fun _ => Fr.nil _ _⟩, rfl⟩⟩
  ·replace hM := ite_f hb12 hM
   refine run_puG (on_of rfl rfl rfl rfl) (move_step (.inl rfl) rfl) rfl (ltb rfl) ?_
   refine run_puG (on_of rfl rfl rfl rfl) (abin_step rfl rfl rfl rfl (fun _ h => by cases h)) rfl (ltb rfl) ?_
   refine run_pu rfl (pick_step rfl rfl rfl) rfl (ltb rfl) ?_
   refine run_ops_nil ?_
   refine run_sub_code (σ' := ⟨[(1, .int .i64 i2), (2, .optr (.loc 2) 0 0), (4, .optr (.loc 4) 0 0), (5, .bool false), (6, .int .i64 r5), (44, .bool (decide (r5 < 2)))], [(4, ⟨29, 4, true, [[.int .i64 0, .int .i64 0, .imm 0 3 true [], .imm 0 4 true []]]⟩), (2, ⟨34, 4, true, [[.int .i64 k1, .int .i64 n1, .str s1, .imm q1 4 f1 (cellss ks1)]]⟩)], [], O, tk7⟩) (Sub.env _ ⟨rfl, rfl, rfl, rfl, rfl, rfl, trivial⟩) ?_
   refine run_ifd rfl rfl (fun hb13 => ?_) (fun hb13 => ?_)
   ·replace hM := ite_t hb13 hM
    refine run_sr ?_
    refine run_pu rfl (build_step hG rfl (by rfl) rfl (fun h => by cases h) (by rfl)) rfl (ltb rfl) ?_
    refine run_op0 rfl (store_step hG rfl rfl rfl rfl rfl rfl rfl rfl) rfl ?_
    refine mvR rfl rfl rfl rfl (ltb rfl) ?_
    refine run_ops_nil ?_
    refine run_ret_to ?_
    obtain rfl := some_t hM
    refine fin_x hG rfl rfl rfl (v' := .tup [.agg [.int .i64 0, .int .i64 0, .imm 0 3 true (fcellss []), .imm 0 4 true (pcellss [])], .bool false]) (by rfl) ⟨rfl, (show tk ≤ tk7 by omega), _, rfl, ⟨_, _, _, _, rfl, rfl, ⟨0, 0, 0, true, [], 0, true, [], rfl, rfl, fun _ => Fr.nil _ _⟩, rfl⟩⟩
   ·replace hM := ite_f hb13 hM
    refine run_skip ?_
    refine run_sr ?_
    refine mvL rfl rfl rfl rfl (ltb rfl) ?_
    obtain ⟨r14, hg15, hM⟩ := bind_t hM
    refine run_call rfl rfl rfl (ltb rfl) rfl rfl rfl (fun _ h => absurd h List.not_mem_nil) (s_l08Shape_ok r5 hg15 _ _) (callK_retX (fun v tk16 (hle17 : tk7 ≤ tk16) h18 => ?_))
    obtain ⟨ra23, ra24, va25, va26, rfl, rfl, rfl, rfl⟩ := h18
    refine mvL rfl rfl rfl rfl (ltb rfl) ?_
    refine run_pu rfl (extract_step rfl rfl rfl) rfl (ltb rfl) ?_
    refine run_pu rfl (extract_step rfl rfl rfl) rfl (ltb rfl) ?_
    refine mvR rfl rfl rfl rfl (ltb rfl) ?_
    refine mvR rfl rfl rfl rfl (ltb rfl) ?_
    refine run_ops_nil ?_
    refine run_seq ?_
    refine run_sr ?_
    refine run_pu rfl (fieldAddr_step hG rfl rfl rfl rfl rfl) rfl (ltb rfl) ?_
    refine run_ld hG rfl rfl rfl rfl rfl (ltb rfl) ?_
    refine run_pu rfl (lenImm_step hG rfl rfl rfl rfl (tlen _)) rfl (ltb rfl) ?_
    refine mvL rfl rfl rfl rfl (ltb rfl) ?_
    refine mvL rfl rfl rfl rfl (ltb rfl) ?_
    refine run_bin rfl rfl rfl rfl rfl rfl rfl (ltb rfl) ?_
    refine run_bin rfl rfl rfl rfl rfl rfl rfl (ltb rfl) ?_
    refine run_ops_nil ?_
    refine run_sub_code (σ' := ⟨[(1, .int .i64 i2), (2, .optr (.loc 2) 0 0), (4, .optr (.loc 4) 0 0), (5, .bool false), (6, .int .i64 r5), (7, .int .i64 ra23), (8, .int .i64 ra24), (57, .bool ((((ers ks1)).length : Int) != (IntKind.i64.wrap (ra23 + ra24))))], [(4, ⟨29, 4, true, [[.int .i64 0, .int .i64 0, .imm 0 3 true [], .imm 0 4 true []]]⟩), (2, ⟨34, 4, true, [[.int .i64 k1, .int .i64 n1, .str s1, .imm q1 4 f1 (cellss ks1)]]⟩)], [], O, tk16⟩) (Sub.env _ ⟨rfl, rfl, rfl, rfl, rfl, rfl, rfl, rfl, trivial⟩) ?_
    refine run_ifb rfl rfl (fun hb27 => ?_) (fun hb27 => ?_)
    ·replace hM := ite_t hb27 hM
     refine run_sr ?_
     refine run_pu rfl (build_step hG rfl (by rfl) rfl (fun h => by cases h) (by rfl)) rfl (ltb rfl) ?_
     refine run_op0 rfl (store_step hG rfl rfl rfl rfl rfl rfl rfl rfl) rfl ?_
     refine mvR rfl rfl rfl rfl (ltb rfl) ?_
     refine run_ops_nil ?_
     refine run_ret_to ?_
     obtain rfl := some_t hM
     refine fin_x hG rfl rfl rfl (v' := .tup [.agg [.int .i64 0, .int .i64 0, .imm 0 3 true (fcellss []), .imm 0 4 true (pcellss [])], .bool false]) (by rfl) ⟨rfl, (show tk ≤ tk16 by omega), _, rfl, ⟨_, _, _, _, rfl, rfl, ⟨0, 0, 0, true, [], 0, true, [], rfl, rfl, fun _ => Fr.nil _ _⟩, rfl⟩⟩
    ·replace hM := ite_f hb27 hM
     refine run_skip ?_
     refine run_sr ?_
     refine mvL rfl rfl rfl rfl (ltb rfl) ?_
     refine run_pu rfl (build_step hG rfl (by rfl) rfl (fun h => by cases h) (by rfl)) rfl (ltb rfl) ?_
     refine run_op rfl (alloc_step (d := 9) hG rfl rfl rfl) rfl (ltb rfl) ?_
     refine run_op0 rfl (store_step hG rfl rfl rfl rfl rfl rfl rfl rfl) rfl ?_
     refine run_ops_nil ?_
     refine run_seq ?_
     refine run_sr ?_
     refine mvR rfl rfl rfl rfl (ltb rfl) ?_
     refine run_ops_nil ?_
     refine run_block ?_
     refine run_peel (fun m σ => ∃ (i28 : Int) (ks29 : List LF) (tks_l08Decode_L1 : Nat), tk16 ≤ tks_l08Decode_L1 ∧ Fr tk16 tks_l08Decode_L1 (ftoks ks29) ∧ s_l08Decode_L1 (s_l08Decode n) n (T.mk k1 n1 s1 (ers ks1)) i2 r5 (ra23, ra24) m i28 (fers ks29) = some r ∧ σ = ⟨[(1, .int .i64 i2), (2, .optr (.loc 2) 0 0), (4, .optr (.loc 4) 0 0), (5, .bool false), (6, .int .i64 r5), (7, .int .i64 ra23), (8, .int .i64 ra24), (9, .optr (.loc 9) 0 0), (10, .int .i64 i28)], [(82, ⟨50, 3, false, fcellss ks29⟩), (9, ⟨29, 4, true, [[.int .i64 r5, .int .i64 0, .osl (.loc 82), .imm 0 4 true []]]⟩), (4, ⟨29, 4, true, [[.int .i64 0, .int .i64 0, .imm 0 3 true [], .imm 0 4 true []]]⟩), (2, ⟨34, 4, true, [[.int .i64 k1, .int .i64 n1, .str s1, .imm q1 4 f1 (cellss ks1)]]⟩)], [], O, tks_l08Decode_L1⟩) n ?_ (fun m σ hI => ?_)
     ·refine run_seq ?_
      refine run_sr ?_
      refine mvL rfl rfl rfl rfl (ltb rfl) ?_
      refine mvL rfl rfl rfl rfl (ltb rfl) ?_
      refine run_bin rfl rfl rfl rfl rfl rfl rfl (ltb rfl) ?_
      refine run_ops_nil ?_
      refine run_ifd rfl rfl (fun hb126 => ?_) (fun hb126 => ?_)
      ·replace hM := ite_t hb126 hM
       refine run_skip ?_
       refine run_seq ?_
       refine run_block ?_
       refine run_sr ?_
       refine run_pu rfl (fieldAddr_step hG rfl rfl rfl rfl rfl) rfl (ltb rfl) ?_
       refine run_ld hG rfl rfl rfl rfl rfl (ltb rfl) ?_
       refine mvL rfl rfl rfl rfl (ltb rfl) ?_
       obtain ⟨y127, hy128, hM⟩ := bind_t hM
       obtain ⟨k129, n129, s129, q129, f129, ks129, rfl, hc130, hi131⟩ := tidx (ks := ks1) hy128
       refine run_pu rfl (indexImm_step hG rfl rfl rfl hi131 rfl rfl rfl rfl hc130) rfl (ltb rfl) ?_
       refine run_ld hG rfl rfl rfl rfl rfl (ltb rfl) ?_
       obtain ⟨r132, hg133, hM⟩ := bind_t hM
       refine run_call rfl rfl rfl (ltb rfl) rfl rfl rfl (fun _ h => absurd h List.not_mem_nil) (s_l08Back_ok n k129 n129 s129 q129 f129 ks129 hg133 _ _) (callK_retX (fun v tk134 (hle135 : tk16 ≤ tk134) h136 => ?_))
       obtain ⟨ra141, ra142, va143, va144, rfl, rfl, ⟨k137, n137, q137, f137, ks137, rfl, rfl, hf138⟩, rfl⟩ := h136
       refine mvL rfl rfl rfl rfl (ltb rfl) ?_
       refine run_pu rfl (extract_step rfl rfl rfl) rfl (ltb rfl) ?_
       refine run_pu rfl (extract_step rfl rfl rfl) rfl (ltb rfl) ?_
       refine run_op rfl (alloc_step (d := 11) hG rfl rfl rfl) rfl (ltb rfl) ?_
       refine run_op0 rfl (store_step hG rfl rfl rfl rfl rfl rfl rfl rfl) rfl ?_
       refine mvR rfl rfl rfl rfl (ltb rfl) ?_
       refine run_ops_nil ?_
       refine run_sub_code (σ' := ⟨[(1, .int .i64 i2), (2, .optr (.loc 2) 0 0), (4, .optr (.loc 4) 0 0), (5, .bool false), (6, .int .i64 r5), (7, .int .i64 ra23), (8, .int .i64 ra24), (9, .optr (.loc 9) 0 0), (10, .int .i64 0), (11, .optr (.loc 11) 0 0), (12, .bool ra142)], [(11, ⟨50, 3, true, [[.int .i64 k137, .int .i64 n137, .imm q137 3 f137 (fcellss ks137)]]⟩), (9, ⟨29, 4, true, [[.int .i64 r5, .int .i64 0, .imm 0 3 true [], .imm 0 4 true []]]⟩), (4, ⟨29, 4, true, [[.int .i64 0, .int .i64 0, .imm 0 3 true [], .imm 0 4 true []]]⟩), (2, ⟨34, 4, true, [[.int .i64 k1, .int .i64 n1, .str s1, .imm q1 4 f1 (cellss ks1)]]⟩)], [], O, tk134⟩) (Sub.env _ ⟨rfl, rfl, rfl, rfl, rfl, rfl, rfl, rfl, rfl, rfl, rfl, trivial⟩) ?_
       refine run_seq ?_
       refine run_sr ?_
       refine mvL rfl rfl rfl rfl (ltb rfl) ?_
       refine run_pu rfl (aun_step rfl rfl rfl) rfl (ltb rfl) ?_
       refine run_ops_nil ?_
       refine run_ifb rfl rfl (fun hb145 => ?_) (fun hb145 => ?_)
       ·replace hM := ite_t hb145 hM
        refine run_sr ?_
        refine run_pu rfl (build_step hG rfl (by rfl) rfl (fun h => by cases h) (by rfl)) rfl (ltb rfl) ?_
        refine run_op0 rfl (store_step hG rfl rfl rfl rfl rfl rfl rfl rfl) rfl ?_
        refine mvR rfl rfl rfl rfl (ltb rfl) ?_
        refine run_ops_nil ?_
        refine run_ret_to ?_
        obtain rfl := some_t hM
        refine fin_x hG rfl rfl rfl (v' := .tup [.agg [.int .i64 0, .int .i64 0, .imm 0 3 true (fcellss []), .imm 0 4 true (pcellss [])], .bool false]) (by rfl) ⟨rfl, (show tk ≤ tk134 by omega), _, rfl, ⟨_, _, _, _, rfl, rfl, ⟨0, 0, 0, true, [], 0, true, [], rfl, rfl, fun _ => Fr.nil _ _⟩, rfl⟩⟩
       ·replace hM := ite_f hb145 hM
        refine run_skip ?_
        refine run_region ?_
        refine run_pu rfl (fieldAddr_step hG rfl rfl rfl rfl rfl) rfl (ltb rfl) ?_
        refine run_ld hG rfl rfl rfl rfl rfl (ltb rfl) ?_
        refine run_ld hG rfl rfl rfl rfl rfl (ltb rfl) ?_
        refine run_op rfl (buildSlice_step (d := 81) hG rfl rfl rfl rfl rfl (by rfl) (by rfl) (by rfl) (by decide)) rfl (ltb rfl) ?_
        obtain ⟨hc146, hM⟩ := chk_t hM
        try rw [show ((fers ([] : List LF)) ++ [(F.mk k137 n137 (fers ks137))] : List F) = (fers (([] : List LF) ++ [LF.mk k137 n137 q137 f137 ks137])) from fers_app ([] : List LF) [LF.mk k137 n137 q137 f137 ks137]] at hM
        refine run_op rfl (appendFM_step (d := 82) hG rfl rfl rfl rfl rfl rfl rfl (fcellss_sz ([] : List LF)) rfl (fcellss_sz ([LF.mk k137 n137 q137 f137 ks137])) (flen ([] : List LF)) (flen ([LF.mk k137 n137 q137 f137 ks137])) (by simp [fers]) hc146 (by decide) (fcellss_app _ _)) rfl (ltb rfl) ?_
        refine run_pu rfl (fieldAddr_step hG rfl rfl rfl rfl rfl) rfl (ltb rfl) ?_
        refine run_op0 rfl (store_step hG rfl rfl rfl rfl rfl rfl rfl rfl) rfl ?_
        refine run_ops_nil ?_
        refine run_blk ?_
        refine run_region ?_
        refine mvL rfl rfl rfl rfl (ltb rfl) ?_
        refine run_bin rfl rfl rfl rfl rfl rfl rfl (ltb rfl) ?_
        refine mvR rfl rfl rfl rfl (ltb rfl) ?_
        refine run_ops_nil ?_
        exact run_loop_end ⟨n, _, Nat.le_refl _, ⟨(IntKind.i64.wrap (0 + 1)), (([] : List LF) ++ [LF.mk k137 n137 q137 f137 ks137]), tk134, (show tk16 ≤ tk134 by omega), (show Fr tk16 tk134 _ from (Fr.fcons ((show Fr tk16 tk134 _ from hf138 rfl)) (show Fr tk134 tk134 _ from Fr.nil _ _) (by omega) (by omega)).mono (by omega) (by omega)), hM, rfl⟩, Sub.trans (Sub.drop (k := 81) rfl) (Sub.trans (Sub.drop (k := 11) rfl) (Sub.env [(1, .int .i64 i2), (2, .optr (.loc 2) 0 0), (4, .optr (.loc 4) 0 0), (5, .bool false), (6, .int .i64 r5), (7, .int .i64 ra23), (8, .int .i64 ra24), (9, .optr (.loc 9) 0 0), (10, .int .i64 (IntKind.i64.wrap (0 + 1)))] ⟨rfl, rfl, rfl, rfl, rfl, rfl, rfl, rfl, rfl, trivial⟩))⟩
      ·replace hM := ite_f hb126 hM
       refine run_exit_to rfl ?_
       refine run_seq ?_
       refine run_sr ?_
       refine mvL rfl rfl rfl rfl (ltb rfl) ?_
       refine mvR rfl rfl rfl rfl (ltb rfl) ?_
       refine run_ops_nil ?_
       refine run_block ?_
       refine run_peel (fun m σ => ∃ (i147 : Int) (ks148 : List LP) (tks_l08Decode_L3 : Nat), tk16 ≤ tks_l08Decode_L3 ∧ Fr tk16 tks_l08Decode_L3 (ptoks ks148) ∧ s_l08Decode_L3 (s_l08Decode n) (T.mk k1 n1 s1 (ers ks1)) i2 r5 (ra23, ra24) m i147 (pers ks148) = some r ∧ σ = ⟨[(1, .int .i64 i2), (2, .optr (.loc 2) 0 0), (4, .optr (.loc 4) 0 0), (5, .bool false), (6, .int .i64 r5), (7, .int .i64 ra23), (8, .int .i64 ra24), (9, .optr (.loc 9) 0 0), (13, .int .i64 i147)], [(123, ⟨29, 4, false, pcellss ks148⟩), (9, ⟨29, 4, true, [[.int .i64 r5, .int .i64 0, .imm 0 3 true [], .osl (.loc 123)]]⟩), (4, ⟨29, 4, true, [[.int .i64 0, .int .i64 0, .imm 0 3 true [], .imm 0 4 true []]]⟩), (2, ⟨34, 4, true, [[.int .i64 k1, .int .i64 n1, .str s1, .imm q1 4 f1 (cellss ks1)]]⟩)], [], O, tks_l08Decode_L3⟩) n ?_ (fun m σ hI => ?_)
       ·refine run_seq ?_
        refine run_sr ?_
        refine mvL rfl rfl rfl rfl (ltb rfl) ?_
        refine mvL rfl rfl rfl rfl (ltb rfl) ?_
        refine mvL rfl rfl rfl rfl (ltb rfl) ?_
        refine run_bin rfl rfl rfl rfl rfl rfl rfl (ltb rfl) ?_
        refine run_bin rfl rfl rfl rfl rfl rfl rfl (ltb rfl) ?_
        refine run_ops_nil ?_
        refine run_sub_code (σ' := ⟨[(1, .int .i64 i2), (2, .optr (.loc 2) 0 0), (4, .optr (.loc 4) 0 0), (5, .bool false), (6, .int .i64 r5), (7, .int .i64 ra23), (8, .int .i64 ra24), (9, .optr (.loc 9) 0 0), (13, .int .i64 ra23), (89, .bool (decide (ra23 < (IntKind.i64.wrap (ra23 + ra24)))))], [(9, ⟨29, 4, true, [[.int .i64 r5, .int .i64 0, .imm 0 3 true [], .imm 0 4 true []]]⟩), (4, ⟨29, 4, true, [[.int .i64 0, .int .i64 0, .imm 0 3 true [], .imm 0 4 true []]]⟩), (2, ⟨34, 4, true, [[.int .i64 k1, .int .i64 n1, .str s1, .imm q1 4 f1 (cellss ks1)]]⟩)], [], O, tk16⟩) (Sub.env _ ⟨rfl, rfl, rfl, rfl, rfl, rfl, rfl, rfl, rfl, rfl, trivial⟩) ?_
        refine run_ifd rfl rfl (fun hb185 => ?_) (fun hb185 => ?_)
        ·replace hM := ite_t hb185 hM
         refine run_skip ?_
         refine run_seq ?_
         refine run_block ?_
         refine run_sr ?_
         refine run_pu rfl (fieldAddr_step hG rfl rfl rfl rfl rfl) rfl (ltb rfl) ?_
         refine run_ld hG rfl rfl rfl rfl rfl (ltb rfl) ?_
         refine mvL rfl rfl rfl rfl (ltb rfl) ?_
         obtain ⟨y186, hy187, hM⟩ := bind_t hM
         obtain ⟨k188, n188, s188, q188, f188, ks188, rfl, hc189, hi190⟩ := tidx (ks := ks1) hy187
         refine run_pu rfl (indexImm_step hG rfl rfl rfl hi190 rfl rfl rfl rfl hc189) rfl (ltb rfl) ?_
         refine run_ld hG rfl rfl rfl rfl rfl (ltb rfl) ?_
         refine run_op rfl (alloc_step (d := 14) hG rfl rfl rfl) rfl (ltb rfl) ?_
         refine run_op0 rfl (store_step hG rfl rfl rfl rfl rfl rfl rfl rfl) rfl ?_
         refine run_ops_nil ?_
         refine run_sr ?_
         refine mvL rfl rfl rfl rfl (ltb rfl) ?_
         refine mvR rfl rfl rfl rfl (ltb rfl) ?_
         refine run_ops_nil ?_
         refine run_seq ?_
         refine run_sr ?_
         refine mvL rfl rfl rfl rfl (ltb rfl) ?_
         refine run_bin rfl rfl rfl rfl rfl rfl rfl (ltb rfl) ?_
         refine run_ops_nil ?_
         obtain ⟨j191, hj220, hM⟩ := jn_t hM
         refine run_cutL [.code _] (fun σ' => ∃ (i192 : Int) (i193 : Int) (i194 : Int) (t195 : ByteArray) (q196 : Nat) (f196 : Bool) (ks196 : List LT) (tkj191 : Nat), tk16 ≤ tkj191 ∧ j191 i192 i193 i194 t195 (ers ks196) = some r ∧ Sub ⟨Go.Proofs.Tryd.prog, S0, Go.Proofs.Tryd.f40.ntmps, [], fun _ => False, []⟩ σ' ⟨[(1, .int .i64 i2), (2, .optr (.loc 2) 0 0), (4, .optr (.loc 4) 0 0), (5, .bool false), (6, .int .i64 r5), (7, .int .i64 ra23), (8, .int .i64 ra24), (9, .optr (.loc 9) 0 0), (13, .int .i64 ra23), (14, .optr (.loc 14) 0 0), (15, .int .i64 i192)], [(14, ⟨34, 4, true, [[.int .i64 i193, .int .i64 i194, .str t195, .imm q196 4 f196 (cellss ks196)]]⟩), (9, ⟨29, 4, true, [[.int .i64 r5, .int .i64 0, .imm 0 3 true [], .imm 0 4 true []]]⟩), (4, ⟨29, 4, true, [[.int .i64 0, .int .i64 0, .imm 0 3 true [], .imm 0 4 true []]]⟩), (2, ⟨34, 4, true, [[.int .i64 k1, .int .i64 n1, .str s1, .imm q1 4 f1 (cellss ks1)]]⟩)], [], O, tkj191⟩) rfl ?_ ?_
         ·refine run_ifd rfl rfl (fun hb197 => ?_) (fun hb197 => ?_)
          ·replace hM := ite_t hb197 hM
           refine run_seq ?_
           refine run_sr ?_
           refine run_pu rfl (fieldAddr_step hG rfl rfl rfl rfl rfl) rfl (ltb rfl) ?_
           refine run_ld hG rfl rfl rfl rfl rfl (ltb rfl) ?_
           refine run_bin rfl rfl rfl rfl rfl rfl rfl (ltb rfl) ?_
           refine run_ops_nil ?_
           refine run_sub_code (σ' := ⟨[(1, .int .i64 i2), (2, .optr (.loc 2) 0 0), (4, .optr (.loc 4) 0 0), (5, .bool false), (6, .int .i64 r5), (7, .int .i64 ra23), (8, .int .i64 ra24), (9, .optr (.loc 9) 0 0), (13, .int .i64 ra23), (14, .optr (.loc 14) 0 0), (15, .int .i64 i2), (102, .bool (k188 != 4))], [(14, ⟨34, 4, true, [[.int .i64 k188, .int .i64 n188, .str s188, .imm q188 4 f188 (cellss ks188)]]⟩), (9, ⟨29, 4, true, [[.int .i64 r5, .int .i64 0, .imm 0 3 true [], .imm 0 4 true []]]⟩), (4, ⟨29, 4, true, [[.int .i64 0, .int .i64 0, .imm 0 3 true [], .imm 0 4 true []]]⟩), (2, ⟨34, 4, true, [[.int .i64 k1, .int .i64 n1, .str s1, .imm q1 4 f1 (cellss ks1)]]⟩)], [], O, tk16⟩) (Sub.env _ ⟨rfl, rfl, rfl, rfl, rfl, rfl, rfl, rfl, rfl, rfl, rfl, rfl, trivial⟩) ?_
           refine run_ifb rfl rfl (fun hb198 => ?_) (fun hb198 => ?_)
           ·replace hM := ite_t hb198 hM
            refine run_sr ?_
            refine run_pu rfl (build_step hG rfl (by rfl) rfl (fun h => by cases h) (by rfl)) rfl (ltb rfl) ?_
            refine run_op0 rfl (store_step hG rfl rfl rfl rfl rfl rfl rfl rfl) rfl ?_
            refine mvR rfl rfl rfl rfl (ltb rfl) ?_
            refine run_ops_nil ?_
            refine run_ret_to ?_
            refine cut_ret ?_
            obtain rfl := some_t hM
            refine fin_x hG rfl rfl rfl (v' := .tup [.agg [.int .i64 0, .int .i64 0, .imm 0 3 true (fcellss []), .imm 0 4 true (pcellss [])], .bool false]) (by rfl) ⟨rfl, (show tk ≤ tk16 by omega), _, rfl, ⟨_, _, _, _, rfl, rfl, ⟨0, 0, 0, true, [], 0, true, [], rfl, rfl, fun _ => Fr.nil _ _⟩, rfl⟩⟩
           ·replace hM := ite_f hb198 hM
            refine run_skip ?_
            refine run_sr ?_
            refine run_pu rfl (fieldAddr_step hG rfl rfl rfl rfl rfl) rfl (ltb rfl) ?_
            refine run_ld hG rfl rfl rfl rfl rfl (ltb rfl) ?_
            obtain ⟨y199, hy200, hM⟩ := bind_t hM
            obtain ⟨k201, n201, s201, q201, f201, ks201, rfl, hc202, hi203⟩ := tidx (ks := ks188) hy200
            refine run_pu rfl (indexImm_step hG rfl rfl rfl hi203 rfl rfl rfl rfl hc202) rfl (ltb rfl) ?_
            refine run_ld hG rfl rfl rfl rfl rfl (ltb rfl) ?_
            refine run_op0 rfl (store_step hG rfl rfl rfl rfl rfl rfl rfl rfl) rfl ?_
            refine run_ops_nil ?_
            refine run_region ?_
            refine mvL rfl rfl rfl rfl (ltb rfl) ?_
            refine run_bin rfl rfl rfl rfl rfl rfl rfl (ltb rfl) ?_
            refine mvR rfl rfl rfl rfl (ltb rfl) ?_
            refine run_ops_nil ?_
            exact ⟨(IntKind.i64.wrap (i2 + 1)), k201, n201, s201, q201, f201, ks201, tk16, (show tk16 ≤ tk16 by omega), hM, Sub.env [(1, .int .i64 i2), (2, .optr (.loc 2) 0 0), (4, .optr (.loc 4) 0 0), (5, .bool false), (6, .int .i64 r5), (7, .int .i64 ra23), (8, .int .i64 ra24), (9, .optr (.loc 9) 0 0), (13, .int .i64 ra23), (14, .optr (.loc 14) 0 0), (15, .int .i64 (IntKind.i64.wrap (i2 + 1)))] ⟨rfl, rfl, rfl, rfl, rfl, rfl, rfl, rfl, rfl, rfl, rfl, trivial⟩⟩
          ·replace hM := ite_f hb197 hM
           refine run_skip ?_
           exact ⟨i2, k188, n188, s188, q188, f188, ks188, tk16, (show tk16 ≤ tk16 by omega), hM, Sub.env [(1, .int .i64 i2), (2, .optr (.loc 2) 0 0), (4, .optr (.loc 4) 0 0), (5, .bool false), (6, .int .i64 r5), (7, .int .i64 ra23), (8, .int .i64 ra24), (9, .optr (.loc 9) 0 0), (13, .int .i64 ra23), (14, .optr (.loc 14) 0 0), (15, .int .i64 i2)] ⟨rfl, rfl, rfl, rfl, rfl, rfl, rfl, rfl, rfl, rfl, rfl, trivial⟩⟩
         ·clear hM
          rintro σ' ⟨i192, i193, i194, t195, q196, f196, ks196, tkj191, hle219, hM, hsub⟩
          rw [hj220] at hM
          clear hj220
          refine run_sub_code hsub ?_
          refine run_sr ?_
          refine run_ld hG rfl rfl rfl rfl rfl (ltb rfl) ?_
          refine mvL rfl rfl rfl rfl (ltb rfl) ?_
          obtain ⟨r204, hg205, hM⟩ := bind_t hM
          refine run_call rfl rfl rfl (ltb rfl) rfl rfl rfl (fun _ h => absurd h List.not_mem_nil) (ih_s_l08Decode i193 i194 t195 q196 f196 ks196 i192 hg205 _ _) (callK_retX (fun v tk206 (hle207 : tkj191 ≤ tk206) h208 => ?_))
          obtain ⟨ra213, ra214, va215, va216, rfl, rfl, ⟨k209, n209, p209, e209, fs209, q209, f209, ks209, rfl, rfl, hf210⟩, rfl⟩ := h208
          refine mvL rfl rfl rfl rfl (ltb rfl) ?_
          refine run_pu rfl (extract_step rfl rfl rfl) rfl (ltb rfl) ?_
          refine run_pu rfl (extract_step rfl rfl rfl) rfl (ltb rfl) ?_
          refine run_op rfl (alloc_step (d := 16) hG rfl rfl rfl) rfl (ltb rfl) ?_
          refine run_op0 rfl (store_step hG rfl rfl rfl rfl rfl rfl rfl rfl) rfl ?_
          refine mvR rfl rfl rfl rfl (ltb rfl) ?_
          refine run_ops_nil ?_
          refine run_seq ?_
          refine run_sr ?_
          refine mvL rfl rfl rfl rfl (ltb rfl) ?_
          refine run_pu rfl (aun_step rfl rfl rfl) rfl (ltb rfl) ?_
          refine run_ops_nil ?_
          refine run_ifb rfl rfl (fun hb217 => ?_) (fun hb217 => ?_)
          ·replace hM := ite_t hb217 hM
           refine run_sr ?_
           refine run_pu rfl (build_step hG rfl (by rfl) rfl (fun h => by cases h) (by rfl)) rfl (ltb rfl) ?_
           refine run_op0 rfl (store_step hG rfl rfl rfl rfl rfl rfl rfl rfl) rfl ?_
           refine mvR rfl rfl rfl rfl (ltb rfl) ?_
           refine run_ops_nil ?_
           refine run_ret_to ?_
           obtain rfl := some_t hM
           refine fin_x hG rfl rfl rfl (v' := .tup [.agg [.int .i64 0, .int .i64 0, .imm 0 3 true (fcellss []), .imm 0 4 true (pcellss [])], .bool false]) (by rfl) ⟨rfl, (show tk ≤ tk206 by omega), _, rfl, ⟨_, _, _, _, rfl, rfl, ⟨0, 0, 0, true, [], 0, true, [], rfl, rfl, fun _ => Fr.nil _ _⟩, rfl⟩⟩
          ·replace hM := ite_f hb217 hM
           refine run_skip ?_
           refine run_region ?_
           refine run_pu rfl (fieldAddr_step hG rfl rfl rfl rfl rfl) rfl (ltb rfl) ?_
           refine run_ld hG rfl rfl rfl rfl rfl (ltb rfl) ?_
           refine run_ld hG rfl rfl rfl rfl rfl (ltb rfl) ?_
           refine run_op rfl (buildSlice_step (d := 122) hG rfl rfl rfl rfl rfl (by rfl) (by rfl) (by rfl) (by decide)) rfl (ltb rfl) ?_
           obtain ⟨hc218, hM⟩ := chk_t hM
           try rw [show ((pers ([] : List LP)) ++ [(Pf.mk k209 n209 (fers fs209) (pers ks209))] : List Pf) = (pers (([] : List LP) ++ [LP.mk k209 n209 p209 e209 fs209 q209 f209 ks209])) from pers_app ([] : List LP) [LP.mk k209 n209 p209 e209 fs209 q209 f209 ks209]] at hM
           refine run_op rfl (appendFM_step (d := 123) hG rfl rfl rfl rfl rfl rfl rfl (pcellss_sz ([] : List LP)) rfl (pcellss_sz ([LP.mk k209 n209 p209 e209 fs209 q209 f209 ks209])) (plen ([] : List LP)) (plen ([LP.mk k209 n209 p209 e209 fs209 q209 f209 ks209])) (by simp [pers]) hc218 (by decide) (pcellss_app _ _)) rfl (ltb rfl) ?_
           refine run_pu rfl (fieldAddr_step hG rfl rfl rfl rfl rfl) rfl (ltb rfl) ?_
           refine run_op0 rfl (store_step hG rfl rfl rfl rfl rfl rfl rfl rfl) rfl ?_
           refine run_ops_nil ?_
           refine run_blk ?_
           refine run_sub_code (σ' := ⟨[(1, .int .i64 i2), (2, .optr (.loc 2) 0 0), (4, .optr (.loc 4) 0 0), (5, .bool false), (6, .int .i64 r5), (7, .int .i64 ra23), (8, .int .i64 ra24), (9, .optr (.loc 9) 0 0), (13, .int .i64 ra23)], [(123, ⟨29, 4, false, pcellss (([] : List LP) ++ [LP.mk k209 n209 p209 e209 fs209 q209 f209 ks209])⟩), (9, ⟨29, 4, true, [[.int .i64 r5, .int .i64 0, .imm 0 3 true [], .osl (.loc 123)]]⟩), (4, ⟨29, 4, true, [[.int .i64 0, .int .i64 0, .imm 0 3 true [], .imm 0 4 true []]]⟩), (2, ⟨34, 4, true, [[.int .i64 k1, .int .i64 n1, .str s1, .imm q1 4 f1 (cellss ks1)]]⟩)], [], O, tk206⟩) (Sub.trans (Sub.drop (k := 122) rfl) (Sub.trans (Sub.drop (k := 16) rfl) (Sub.trans (Sub.drop (k := 14) rfl) (Sub.env _ ⟨rfl, rfl, rfl, rfl, rfl, rfl, rfl, rfl, rfl, trivial⟩)))) ?_
           refine run_region ?_
           refine mvL rfl rfl rfl rfl (ltb rfl) ?_
           refine run_bin rfl rfl rfl rfl rfl rfl rfl (ltb rfl) ?_
           refine mvR rfl rfl rfl rfl (ltb rfl) ?_
           refine run_ops_nil ?_
           exact run_loop_end ⟨n, _, Nat.le_refl _, ⟨(IntKind.i64.wrap (ra23 + 1)), (([] : List LP) ++ [LP.mk k209 n209 p209 e209 fs209 q209 f209 ks209]), tk206, (show tk16 ≤ tk206 by omega), (show Fr tk16 tk206 _ from (Fr.pcons ((show Fr tkj191 tk206 _ from hf210 rfl)) (show Fr tk206 tk206 _ from Fr.nil _ _) (by omega) (by omega)).mono (by omega) (by omega)), hM, rfl⟩, Sub.env [(1, .int .i64 i2), (2, .optr (.loc 2) 0 0), (4, .optr (.loc 4) 0 0), (5, .bool false), (6, .int .i64 r5), (7, .int .i64 ra23), (8, .int .i64 ra24), (9, .optr (.loc 9) 0 0), (13, .int .i64 (IntKind.i64.wrap (ra23 + 1)))] ⟨rfl, rfl, rfl, rfl, rfl, rfl, rfl, rfl, rfl, trivial⟩⟩
        ·replace hM := ite_f hb185 hM
         refine run_exit_to rfl ?_
         refine run_sr ?_
         refine run_ld hG rfl rfl rfl rfl rfl (ltb rfl) ?_
         refine run_op0 rfl (store_step hG rfl rfl rfl rfl rfl rfl rfl rfl) rfl ?_
         refine mvR rfl rfl rfl rfl (ltb rfl) ?_
         refine run_ops_nil ?_
         refine run_ret_to ?_
         obtain rfl := some_t hM
         refine fin_x hG rfl rfl rfl (v' := .tup [.agg [.int .i64 r5, .int .i64 0, .imm 0 3 true (fcellss []), .imm 0 4 true (pcellss [])], .bool true]) (by rfl) ⟨rfl, (show tk ≤ tk16 by omega), _, rfl, ⟨_, _, _, _, rfl, rfl, ⟨r5, 0, 0, true, [], 0, true, [], rfl, rfl, fun _ => Fr.nil _ _⟩, rfl⟩⟩
       ·clear hM
        obtain ⟨i147, ks148, tks_l08Decode_L3, hle221, hfr148, hM, rfl⟩ := hI
        obtain _ | m := m
        ·exact absurd hM (by rw [s_l08Decode_L3]; exact fun h => by cases h)
        rw [s_l08Decode_L3] at hM
        refine run_seq ?_
        refine run_sr ?_
        refine mvL rfl rfl rfl rfl (ltb rfl) ?_
        refine mvL rfl rfl rfl rfl (ltb rfl) ?_
        refine mvL rfl rfl rfl rfl (ltb rfl) ?_
        refine run_bin rfl rfl rfl rfl rfl rfl rfl (ltb rfl) ?_
        refine run_bin rfl rfl rfl rfl rfl rfl rfl (ltb rfl) ?_
        refine run_ops_nil ?_
        refine run_ifd rfl rfl (fun hb149 => ?_) (fun hb149 => ?_)
        ·replace hM := ite_t hb149 hM
         refine run_skip ?_
         refine run_seq ?_
         refine run_block ?_
         refine run_sr ?_
         refine run_pu rfl (fieldAddr_step hG rfl rfl rfl rfl rfl) rfl (ltb rfl) ?_
         refine run_ld hG rfl rfl rfl rfl rfl (ltb rfl) ?_
         refine mvL rfl rfl rfl rfl (ltb rfl) ?_
         obtain ⟨y150, hy151, hM⟩ := bind_t hM
         obtain ⟨k152, n152, s152, q152, f152, ks152, rfl, hc153, hi154⟩ := tidx (ks := ks1) hy151
         refine run_pu rfl (indexImm_step hG rfl rfl rfl hi154 rfl rfl rfl rfl hc153) rfl (ltb rfl) ?_
         refine run_ld hG rfl rfl rfl rfl rfl (ltb rfl) ?_
         refine run_op rfl (alloc_step (d := 14) hG rfl rfl rfl) rfl (ltb rfl) ?_
         refine run_op0 rfl (store_step hG rfl rfl rfl rfl rfl rfl rfl rfl) rfl ?_
         refine run_ops_nil ?_
         refine run_sr ?_
         refine mvL rfl rfl rfl rfl (ltb rfl) ?_
         refine mvR rfl rfl rfl rfl (ltb rfl) ?_
         refine run_ops_nil ?_
         refine run_sub_code (σ' := ⟨[(1, .int .i64 i2), (2, .optr (.loc 2) 0 0), (4, .optr (.loc 4) 0 0), (5, .bool false), (6, .int .i64 r5), (7, .int .i64 ra23), (8, .int .i64 ra24), (9, .optr (.loc 9) 0 0), (13, .int .i64 i147), (14, .optr (.loc 14) 0 0), (15, .int .i64 i2)], [(14, ⟨34, 4, true, [[.int .i64 k152, .int .i64 n152, .str s152, .imm q152 4 f152 (cellss ks152)]]⟩), (123, ⟨29, 4, false, pcellss ks148⟩), (9, ⟨29, 4, true, [[.int .i64 r5, .int .i64 0, .imm 0 3 true [], .osl (.loc 123)]]⟩), (4, ⟨29, 4, true, [[.int .i64 0, .int .i64 0, .imm 0 3 true [], .imm 0 4 true []]]⟩), (2, ⟨34, 4, true, [[.int .i64 k1, .int .i64 n1, .str s1, .imm q1 4 f1 (cellss ks1)]]⟩)], [], O, tks_l08Decode_L3⟩) (Sub.env _ ⟨rfl, rfl, rfl, rfl, rfl, rfl, rfl, rfl, rfl, rfl, rfl, trivial⟩) ?_
         refine run_seq ?_
         refine run_sr ?_
         refine mvL rfl rfl rfl rfl (ltb rfl) ?_
         refine run_bin rfl rfl rfl rfl rfl rfl rfl (ltb rfl) ?_
         refine run_ops_nil ?_
         obtain ⟨j155, hj184, hM⟩ := jn_t hM
         refine run_cutL [.code _] (fun σ' => ∃ (i156 : Int) (i157 : Int) (i158 : Int) (t159 : ByteArray) (q160 : Nat) (f160 : Bool) (ks160 : List LT) (tkj155 : Nat), tks_l08Decode_L3 ≤ tkj155 ∧ j155 i156 i157 i158 t159 (ers ks160) = some r ∧ Sub ⟨Go.Proofs.Tryd.prog, S0, Go.Proofs.Tryd.f40.ntmps, [], fun _ => False, []⟩ σ' ⟨[(1, .int .i64 i2), (2, .optr (.loc 2) 0 0), (4, .optr (.loc 4) 0 0), (5, .bool false), (6, .int .i64 r5), (7, .int .i64 ra23), (8, .int .i64 ra24), (9, .optr (.loc 9) 0 0), (13, .int .i64 i147), (14, .optr (.loc 14) 0 0), (15, .int .i64 i156)], [(14, ⟨34, 4, true, [[.int .i64 i157, .int .i64 i158, .str t159, .imm q160 4 f160 (cellss ks160)]]⟩), (123, ⟨29, 4, false, pcellss ks148⟩), (9, ⟨29, 4, true, [[.int .i64 r5, .int .i64 0, .imm 0 3 true [], .osl (.loc 123)]]⟩), (4, ⟨29, 4, true, [[.int .i64 0, .int .i64 0, .imm 0 3 true [], .imm 0 4 true []]]⟩), (2, ⟨34, 4, true, [[.int .i64 k1, .int .i64 n1, .str s1, .imm q1 4 f1 (cellss ks1)]]⟩)], [], O, tkj155⟩) rfl ?_ ?_
         ·refine run_ifd rfl rfl (fun hb161 => ?_) (fun hb161 => ?_)
          ·replace hM := ite_t hb161 hM
           refine run_seq ?_
           refine run_sr ?_
           refine run_pu rfl (fieldAddr_step hG rfl rfl rfl rfl rfl) rfl (ltb rfl) ?_
           refine run_ld hG rfl rfl rfl rfl rfl (ltb rfl) ?_
           refine run_bin rfl rfl rfl rfl rfl rfl rfl (ltb rfl) ?_
           refine run_ops_nil ?_
           refine run_ifb rfl rfl (fun hb162 => ?_) (fun hb162 => ?_)
           ·replace hM := ite_t hb162 hM
            refine run_sr ?_
            refine run_pu rfl (build_step hG rfl (by rfl) rfl (fun h => by cases h) (by rfl)) rfl (ltb rfl) ?_
            refine run_op0 rfl (store_step hG rfl rfl rfl rfl rfl rfl rfl rfl) rfl ?_
            refine mvR rfl rfl rfl rfl (ltb rfl) ?_
            refine run_ops_nil ?_
            refine run_ret_to ?_
            refine cut_ret ?_
            obtain rfl := some_t hM
            refine fin_x hG rfl rfl rfl (v' := .tup [.agg [.int .i64 0, .int .i64 0, .imm 0 3 true (fcellss []), .imm 0 4 true (pcellss [])], .bool false]) (by rfl) ⟨rfl, (show tk ≤ tks_l08Decode_L3 by omega), _, rfl, ⟨_, _, _, _, rfl, rfl, ⟨0, 0, 0, true, [], 0, true, [], rfl, rfl, fun _ => Fr.nil _ _⟩, rfl⟩⟩
           ·replace hM := ite_f hb162 hM
            refine run_skip ?_
            refine run_sr ?_
            refine run_pu rfl (fieldAddr_step hG rfl rfl rfl rfl rfl) rfl (ltb rfl) ?_
            refine run_ld hG rfl rfl rfl rfl rfl (ltb rfl) ?_
            obtain ⟨y163, hy164, hM⟩ := bind_t hM
            obtain ⟨k165, n165, s165, q165, f165, ks165, rfl, hc166, hi167⟩ := tidx (ks := ks152) hy164
            refine run_pu rfl (indexImm_step hG rfl rfl rfl hi167 rfl rfl rfl rfl hc166) rfl (ltb rfl) ?_
            refine run_ld hG rfl rfl rfl rfl rfl (ltb rfl) ?_
            refine run_op0 rfl (store_step hG rfl rfl rfl rfl rfl rfl rfl rfl) rfl ?_
            refine run_ops_nil ?_
            refine run_region ?_
            refine mvL rfl rfl rfl rfl (ltb rfl) ?_
            refine run_bin rfl rfl rfl rfl rfl rfl rfl (ltb rfl) ?_
            refine mvR rfl rfl rfl rfl (ltb rfl) ?_
            refine run_ops_nil ?_
            exact ⟨(IntKind.i64.wrap (i2 + 1)), k165, n165, s165, q165, f165, ks165, tks_l08Decode_L3, (show tks_l08Decode_L3 ≤ tks_l08Decode_L3 by omega), hM, Sub.env [(1, .int .i64 i2), (2, .optr (.loc 2) 0 0), (4, .optr (.loc 4) 0 0), (5, .bool false), (6, .int .i64 r5), (7, .int .i64 ra23), (8, .int .i64 ra24), (9, .optr (.loc 9) 0 0), (13, .int .i64 i147), (14, .optr (.loc 14) 0 0), (15, .int .i64 (IntKind.i64.wrap (i2 + 1)))] ⟨rfl, rfl, rfl, rfl, rfl, rfl, rfl, rfl, rfl, rfl, rfl, trivial⟩⟩
          ·replace hM := ite_f hb161 hM
           refine run_skip ?_
           exact ⟨i2, k152, n152, s152, q152, f152, ks152, tks_l08Decode_L3, (show tks_l08Decode_L3 ≤ tks_l08Decode_L3 by omega), hM, Sub.env [(1, .int .i64 i2), (2, .optr (.loc 2) 0 0), (4, .optr (.loc 4) 0 0), (5, .bool false), (6, .int .i64 r5), (7, .int .i64 ra23), (8, .int .i64 ra24), (9, .optr (.loc 9) 0 0), (13, .int .i64 i147), (14, .optr (.loc 14) 0 0), (15, .int .i64 i2)] ⟨rfl, rfl, rfl, rfl, rfl, rfl, rfl, rfl, rfl, rfl, rfl, trivial⟩⟩
         ·clear hM
          rintro σ' ⟨i156, i157, i158, t159, q160, f160, ks160, tkj155, hle183, hM, hsub⟩
          rw [hj184] at hM
          clear hj184
          refine run_sub_code hsub ?_
          refine run_sr ?_
          refine run_ld hG rfl rfl rfl rfl rfl (ltb rfl) ?_
          refine mvL rfl rfl rfl rfl (ltb rfl) ?_
          obtain ⟨r168, hg169, hM⟩ := bind_t hM
          refine run_call rfl rfl rfl (ltb rfl) rfl rfl rfl (fun _ h => absurd h List.not_mem_nil) (ih_s_l08Decode i157 i158 t159 q160 f160 ks160 i156 hg169 _ _) (callK_retX (fun v tk170 (hle171 : tkj155 ≤ tk170) h172 => ?_))
          obtain ⟨ra177, ra178, va179, va180, rfl, rfl, ⟨k173, n173, p173, e173, fs173, q173, f173, ks173, rfl, rfl, hf174⟩, rfl⟩ := h172
          refine mvL rfl rfl rfl rfl (ltb rfl) ?_
          refine run_pu rfl (extract_step rfl rfl rfl) rfl (ltb rfl) ?_
          refine run_pu rfl (extract_step rfl rfl rfl) rfl (ltb rfl) ?_
          refine run_op rfl (alloc_step (d := 16) hG rfl rfl rfl) rfl (ltb rfl) ?_
          refine run_op0 rfl (store_step hG rfl rfl rfl rfl rfl rfl rfl rfl) rfl ?_
          refine mvR rfl rfl rfl rfl (ltb rfl) ?_
          refine run_ops_nil ?_
          refine run_seq ?_
          refine run_sr ?_
          refine mvL rfl rfl rfl rfl (ltb rfl) ?_
          refine run_pu rfl (aun_step rfl rfl rfl) rfl (ltb rfl) ?_
          refine run_ops_nil ?_
          refine run_ifb rfl rfl (fun hb181 => ?_) (fun hb181 => ?_)
          ·replace hM := ite_t hb181 hM
           refine run_sr ?_
           refine run_pu rfl (build_step hG rfl (by rfl) rfl (fun h => by cases h) (by rfl)) rfl (ltb rfl) ?_
           refine run_op0 rfl (store_step hG rfl rfl rfl rfl rfl rfl rfl rfl) rfl ?_
           refine mvR rfl rfl rfl rfl (ltb rfl) ?_
           refine run_ops_nil ?_
           refine run_ret_to ?_
           obtain rfl := some_t hM
           refine fin_x hG rfl rfl rfl (v' := .tup [.agg [.int .i64 0, .int .i64 0, .imm 0 3 true (fcellss []), .imm 0 4 true (pcellss [])], .bool false]) (by rfl) ⟨rfl, (show tk ≤ tk170 by omega), _, rfl, ⟨_, _, _, _, rfl, rfl, ⟨0, 0, 0, true, [], 0, true, [], rfl, rfl, fun _ => Fr.nil _ _⟩, rfl⟩⟩
          ·replace hM := ite_f hb181 hM
           refine run_skip ?_
           refine run_region ?_
           refine run_pu rfl (fieldAddr_step hG rfl rfl rfl rfl rfl) rfl (ltb rfl) ?_
           refine run_ld hG rfl rfl rfl rfl rfl (ltb rfl) ?_
           refine run_ld hG rfl rfl rfl rfl rfl (ltb rfl) ?_
           refine run_op rfl (buildSlice_step (d := 122) hG rfl rfl rfl rfl rfl (by rfl) (by rfl) (by rfl) (by decide)) rfl (ltb rfl) ?_
           obtain ⟨hc182, hM⟩ := chk_t hM
           try rw [show ((pers ks148) ++ [(Pf.mk k173 n173 (fers fs173) (pers ks173))] : List Pf) = (pers (ks148 ++ [LP.mk k173 n173 p173 e173 fs173 q173 f173 ks173])) from pers_app ks148 [LP.mk k173 n173 p173 e173 fs173 q173 f173 ks173]] at hM
           refine run_op rfl (appendM_step hG rfl rfl rfl rfl rfl rfl rfl rfl rfl rfl rfl (pcellss_sz ([LP.mk k173 n173 p173 e173 fs173 q173 f173 ks173])) (plen ks148) (plen ([LP.mk k173 n173 p173 e173 fs173 q173 f173 ks173])) hc182 (by decide) (pcellss_app _ _)) rfl (ltb rfl) ?_
           refine run_pu rfl (fieldAddr_step hG rfl rfl rfl rfl rfl) rfl (ltb rfl) ?_
           refine run_op0 rfl (store_step hG rfl rfl rfl rfl rfl rfl rfl rfl) rfl ?_
           refine run_ops_nil ?_
           refine run_blk ?_
           refine run_sub_code (σ' := ⟨[(1, .int .i64 i2), (2, .optr (.loc 2) 0 0), (4, .optr (.loc 4) 0 0), (5, .bool false), (6, .int .i64 r5), (7, .int .i64 ra23), (8, .int .i64 ra24), (9, .optr (.loc 9) 0 0), (13, .int .i64 i147)], [(123, ⟨29, 4, false, pcellss (ks148 ++ [LP.mk k173 n173 p173 e173 fs173 q173 f173 ks173])⟩), (9, ⟨29, 4, true, [[.int .i64 r5, .int .i64 0, .imm 0 3 true [], .osl (.loc 123)]]⟩), (4, ⟨29, 4, true, [[.int .i64 0, .int .i64 0, .imm 0 3 true [], .imm 0 4 true []]]⟩), (2, ⟨34, 4, true, [[.int .i64 k1, .int .i64 n1, .str s1, .imm q1 4 f1 (cellss ks1)]]⟩)], [], O, tk170⟩) (Sub.trans (Sub.drop (k := 122) rfl) (Sub.trans (Sub.drop (k := 16) rfl) (Sub.trans (Sub.drop (k := 14) rfl) (Sub.env _ ⟨rfl, rfl, rfl, rfl, rfl, rfl, rfl, rfl, rfl, trivial⟩)))) ?_
           refine run_region ?_
           refine mvL rfl rfl rfl rfl (ltb rfl) ?_
           refine run_bin rfl rfl rfl rfl rfl rfl rfl (ltb rfl) ?_
           refine mvR rfl rfl rfl rfl (ltb rfl) ?_
           refine run_ops_nil ?_
           exact run_loop_end ⟨m, _, Nat.lt_succ_self _, ⟨(IntKind.i64.wrap (i147 + 1)), (ks148 ++ [LP.mk k173 n173 p173 e173 fs173 q173 f173 ks173]), tk170, (show tk16 ≤ tk170 by omega), (show Fr tk16 tk170 _ from (Fr.psnoc (show Fr tk16 tkj155 _ from (hfr148).mono (by omega) (by omega)) ((show Fr tkj155 tk170 _ from hf174 rfl)) (by omega) (by omega)).mono (by omega) (by omega)), hM, rfl⟩, Sub.env [(1, .int .i64 i2), (2, .optr (.loc 2) 0 0), (4, .optr (.loc 4) 0 0), (5, .bool false), (6, .int .i64 r5), (7, .int .i64 ra23), (8, .int .i64 ra24), (9, .optr (.loc 9) 0 0), (13, .int .i64 (IntKind.i64.wrap (i147 + 1)))] ⟨rfl, rfl, rfl, rfl, rfl, rfl, rfl, rfl, rfl, trivial⟩⟩
        ·replace hM := ite_f hb149 hM
         refine run_exit_to rfl ?_
         refine run_sr ?_
         refine run_ld hG rfl rfl rfl rfl rfl (ltb rfl) ?_
         refine run_op0 rfl (store_step hG rfl rfl rfl rfl rfl rfl rfl rfl) rfl ?_
         refine mvR rfl rfl rfl rfl (ltb rfl) ?_
         refine run_ops_nil ?_
         refine run_ret_to ?_
         refine fin_sub (Sub.freeze (k := 123) rfl rfl) ?_
         obtain rfl := some_t hM
         refine fin_x hG rfl rfl rfl (v' := .tup [.agg [.int .i64 r5, .int .i64 0, .imm 0 3 true (fcellss []), .imm tks_l08Decode_L3 4 false (pcellss ks148)], .bool true]) (by rfl) ⟨rfl, (show tk ≤ (tks_l08Decode_L3 + 1) by omega), _, rfl, ⟨_, _, _, _, rfl, rfl, ⟨r5, 0, 0, true, [], tks_l08Decode_L3, false, ks148, rfl, rfl, fun _ => (show Fr tk (tks_l08Decode_L3 + 1) _ from (Fr.app (show Fr tk16 tk16 _ from Fr.nil _ _) (show Fr tk16 (tks_l08Decode_L3 + 1) _ from Fr.pstop (show Fr tk16 tks_l08Decode_L3 _ from (hfr148).mono (by omega) (by omega)) (by omega) (by omega)) (by omega) (by omega)).mono (by omega) (by omega))⟩, rfl⟩⟩
     ·clear hM
      obtain ⟨i28, ks29, tks_l08Decode_L1, hle222, hfr29, hM, rfl⟩ := hI
      obtain _ | m := m
      ·exact absurd hM (by rw [s_l08Decode_L1]; exact fun h => by cases h)
      rw [s_l08Decode_L1] at hM
      refine run_seq ?_
      refine run_sr ?_
      refine mvL rfl rfl rfl rfl (ltb rfl) ?_
      refine mvL rfl rfl rfl rfl (ltb rfl) ?_
      refine run_bin rfl rfl rfl rfl rfl rfl rfl (ltb rfl) ?_
      refine run_ops_nil ?_
      refine run_ifd rfl rfl (fun hb30 => ?_) (fun hb30 => ?_)
      ·replace hM := ite_t hb30 hM
       refine run_skip ?_
       refine run_seq ?_
       refine run_block ?_
       refine run_sr ?_
       refine run_pu rfl (fieldAddr_step hG rfl rfl rfl rfl rfl) rfl (ltb rfl) ?_
       refine run_ld hG rfl rfl rfl rfl rfl (ltb rfl) ?_
       refine mvL rfl rfl rfl rfl (ltb rfl) ?_
       obtain ⟨y31, hy32, hM⟩ := bind_t hM
       obtain ⟨k33, n33, s33, q33, f33, ks33, rfl, hc34, hi35⟩ := tidx (ks := ks1) hy32
       refine run_pu rfl (indexImm_step hG rfl rfl rfl hi35 rfl rfl rfl rfl hc34) rfl (ltb rfl) ?_
       refine run_ld hG rfl rfl rfl rfl rfl (ltb rfl) ?_
       obtain ⟨r36, hg37, hM⟩ := bind_t hM
       refine run_call rfl rfl rfl (ltb rfl) rfl rfl rfl (fun _ h => absurd h List.not_mem_nil) (s_l08Back_ok n k33 n33 s33 q33 f33 ks33 hg37 _ _) (callK_retX (fun v tk38 (hle39 : tks_l08Decode_L1 ≤ tk38) h40 => ?_))
       obtain ⟨ra45, ra46, va47, va48, rfl, rfl, ⟨k41, n41, q41, f41, ks41, rfl, rfl, hf42⟩, rfl⟩ := h40
       refine mvL rfl rfl rfl rfl (ltb rfl) ?_
       refine run_pu rfl (extract_step rfl rfl rfl) rfl (ltb rfl) ?_
       refine run_pu rfl (extract_step rfl rfl rfl) rfl (ltb rfl) ?_
       refine run_op rfl (alloc_step (d := 11) hG rfl rfl rfl) rfl (ltb rfl) ?_
       refine run_op0 rfl (store_step hG rfl rfl rfl rfl rfl rfl rfl rfl) rfl ?_
       refine mvR rfl rfl rfl rfl (ltb rfl) ?_
       refine run_ops_nil ?_
       refine run_sub_code (σ' := ⟨[(1, .int .i64 i2), (2, .optr (.loc 2) 0 0), (4, .optr (.loc 4) 0 0), (5, .bool false), (6, .int .i64 r5), (7, .int .i64 ra23), (8, .int .i64 ra24), (9, .optr (.loc 9) 0 0), (10, .int .i64 i28), (11, .optr (.loc 11) 0 0), (12, .bool ra46)], [(11, ⟨50, 3, true, [[.int .i64 k41, .int .i64 n41, .imm q41 3 f41 (fcellss ks41)]]⟩), (82, ⟨50, 3, false, fcellss ks29⟩), (9, ⟨29, 4, true, [[.int .i64 r5, .int .i64 0, .osl (.loc 82), .imm 0 4 true []]]⟩), (4, ⟨29, 4, true, [[.int .i64 0, .int .i64 0, .imm 0 3 true [], .imm 0 4 true []]]⟩), (2, ⟨34, 4, true, [[.int .i64 k1, .int .i64 n1, .str s1, .imm q1 4 f1 (cellss ks1)]]⟩)], [], O, tk38⟩) (Sub.env _ ⟨rfl, rfl, rfl, rfl, rfl, rfl, rfl, rfl, rfl, rfl, rfl, trivial⟩) ?_
       refine run_seq ?_
       refine run_sr ?_
       refine mvL rfl rfl rfl rfl (ltb rfl) ?_
       refine run_pu rfl (aun_step rfl rfl rfl) rfl (ltb rfl) ?_
       refine run_ops_nil ?_
       refine run_ifb rfl rfl (fun hb49 => ?_) (fun hb49 => ?_)
       ·replace hM := ite_t hb49 hM
        refine run_sr ?_
        refine run_pu rfl (build_step hG rfl (by rfl) rfl (fun h => by cases h) (by rfl)) rfl (ltb rfl) ?_
        refine run_op0 rfl (store_step hG rfl rfl rfl rfl rfl rfl rfl rfl) rfl ?_
        refine mvR rfl rfl rfl rfl (ltb rfl) ?_
        refine run_ops_nil ?_
        refine run_ret_to ?_
        obtain rfl := some_t hM
        refine fin_x hG rfl rfl rfl (v' := .tup [.agg [.int .i64 0, .int .i64 0, .imm 0 3 true (fcellss []), .imm 0 4 true (pcellss [])], .bool false]) (by rfl) ⟨rfl, (show tk ≤ tk38 by omega), _, rfl, ⟨_, _, _, _, rfl, rfl, ⟨0, 0, 0, true, [], 0, true, [], rfl, rfl, fun _ => Fr.nil _ _⟩, rfl⟩⟩
       ·replace hM := ite_f hb49 hM
        refine run_skip ?_
        refine run_region ?_
        refine run_pu rfl (fieldAddr_step hG rfl rfl rfl rfl rfl) rfl (ltb rfl) ?_
        refine run_ld hG rfl rfl rfl rfl rfl (ltb rfl) ?_
        refine run_ld hG rfl rfl rfl rfl rfl (ltb rfl) ?_
        refine run_op rfl (buildSlice_step (d := 81) hG rfl rfl rfl rfl rfl (by rfl) (by rfl) (by rfl) (by decide)) rfl (ltb rfl) ?_
        obtain ⟨hc50, hM⟩ := chk_t hM
        try rw [show ((fers ks29) ++ [(F.mk k41 n41 (fers ks41))] : List F) = (fers (ks29 ++ [LF.mk k41 n41 q41 f41 ks41])) from fers_app ks29 [LF.mk k41 n41 q41 f41 ks41]] at hM
        refine run_op rfl (appendM_step hG rfl rfl rfl rfl rfl rfl rfl rfl rfl rfl rfl (fcellss_sz ([LF.mk k41 n41 q41 f41 ks41])) (flen ks29) (flen ([LF.mk k41 n41 q41 f41 ks41])) hc50 (by decide) (fcellss_app _ _)) rfl (ltb rfl) ?_
        refine run_pu rfl (fieldAddr_step hG rfl rfl rfl rfl rfl) rfl (ltb rfl) ?_
        refine run_op0 rfl (store_step hG rfl rfl rfl rfl rfl rfl rfl rfl) rfl ?_
        refine run_ops_nil ?_
        refine run_blk ?_
        refine run_region ?_
        refine mvL rfl rfl rfl rfl (ltb rfl) ?_
        refine run_bin rfl rfl rfl rfl rfl rfl rfl (ltb rfl) ?_
        refine mvR rfl rfl rfl rfl (ltb rfl) ?_
        refine run_ops_nil ?_
        exact run_loop_end ⟨m, _, Nat.lt_succ_self _, ⟨(IntKind.i64.wrap (i28 + 1)), (ks29 ++ [LF.mk k41 n41 q41 f41 ks41]), tk38, (show tk16 ≤ tk38 by omega), (show Fr tk16 tk38 _ from (Fr.fsnoc (show Fr tk16 tks_l08Decode_L1 _ from (hfr29).mono (by omega) (by omega)) ((show Fr tks_l08Decode_L1 tk38 _ from hf42 rfl)) (by omega) (by omega)).mono (by omega) (by omega)), hM, rfl⟩, Sub.trans (Sub.drop (k := 81) rfl) (Sub.trans (Sub.drop (k := 11) rfl) (Sub.env [(1, .int .i64 i2), (2, .optr (.loc 2) 0 0), (4, .optr (.loc 4) 0 0), (5, .bool false), (6, .int .i64 r5), (7, .int .i64 ra23), (8, .int .i64 ra24), (9, .optr (.loc 9) 0 0), (10, .int .i64 (IntKind.i64.wrap (i28 + 1)))] ⟨rfl, rfl, rfl, rfl, rfl, rfl, rfl, rfl, rfl, trivial⟩))⟩
      ·replace hM := ite_f hb30 hM
       refine run_exit_to rfl ?_
       refine run_seq ?_
       refine run_sr ?_
       refine mvL rfl rfl rfl rfl (ltb rfl) ?_
       refine mvR rfl rfl rfl rfl (ltb rfl) ?_
       refine run_ops_nil ?_
       refine run_block ?_
       refine run_peel (fun m σ => ∃ (i51 : Int) (ks52 : List LP) (tks_l08Decode_L2 : Nat), tks_l08Decode_L1 ≤ tks_l08Decode_L2 ∧ Fr tks_l08Decode_L1 tks_l08Decode_L2 (ptoks ks52) ∧ s_l08Decode_L2 (s_l08Decode n) (T.mk k1 n1 s1 (ers ks1)) i2 r5 (ra23, ra24) (fers ks29) m i51 (pers ks52) = some r ∧ σ = ⟨[(1, .int .i64 i2), (2, .optr (.loc 2) 0 0), (4, .optr (.loc 4) 0 0), (5, .bool false), (6, .int .i64 r5), (7, .int .i64 ra23), (8, .int .i64 ra24), (9, .optr (.loc 9) 0 0), (13, .int .i64 i51)], [(123, ⟨29, 4, false, pcellss ks52⟩), (82, ⟨50, 3, false, fcellss ks29⟩), (9, ⟨29, 4, true, [[.int .i64 r5, .int .i64 0, .osl (.loc 82), .osl (.loc 123)]]⟩), (4, ⟨29, 4, true, [[.int .i64 0, .int .i64 0, .imm 0 3 true [], .imm 0 4 true []]]⟩), (2, ⟨34, 4, true, [[.int .i64 k1, .int .i64 n1, .str s1, .imm q1 4 f1 (cellss ks1)]]⟩)], [], O, tks_l08Decode_L2⟩) n ?_ (fun m σ hI => ?_)
       ·refine run_seq ?_
        refine run_sr ?_
        refine mvL rfl rfl rfl rfl (ltb rfl) ?_
        refine mvL rfl rfl rfl rfl (ltb rfl) ?_
        refine mvL rfl rfl rfl rfl (ltb rfl) ?_
        refine run_bin rfl rfl rfl rfl rfl rfl rfl (ltb rfl) ?_
        refine run_bin rfl rfl rfl rfl rfl rfl rfl (ltb rfl) ?_
        refine run_ops_nil ?_
        refine run_ifd rfl rfl (fun hb89 => ?_) (fun hb89 => ?_)
        ·replace hM := ite_t hb89 hM
         refine run_skip ?_
         refine run_seq ?_
         refine run_block ?_
         refine run_sr ?_
         refine run_pu rfl (fieldAddr_step hG rfl rfl rfl rfl rfl) rfl (ltb rfl) ?_
         refine run_ld hG rfl rfl rfl rfl rfl (ltb rfl) ?_
         refine mvL rfl rfl rfl rfl (ltb rfl) ?_
         obtain ⟨y90, hy91, hM⟩ := bind_t hM
         obtain ⟨k92, n92, s92, q92, f92, ks92, rfl, hc93, hi94⟩ := tidx (ks := ks1) hy91
         refine run_pu rfl (indexImm_step hG rfl rfl rfl hi94 rfl rfl rfl rfl hc93) rfl (ltb rfl) ?_
         refine run_ld hG rfl rfl rfl rfl rfl (ltb rfl) ?_
         refine run_op rfl (alloc_step (d := 14) hG rfl rfl rfl) rfl (ltb rfl) ?_
         refine run_op0 rfl (store_step hG rfl rfl rfl rfl rfl rfl rfl rfl) rfl ?_
         refine run_ops_nil ?_
         refine run_sub_code (σ' := ⟨[(1, .int .i64 i2), (2, .optr (.loc 2) 0 0), (4, .optr (.loc 4) 0 0), (5, .bool false), (6, .int .i64 r5), (7, .int .i64 ra23), (8, .int .i64 ra24), (9, .optr (.loc 9) 0 0), (13, .int .i64 ra23), (14, .optr (.loc 14) 0 0)], [(14, ⟨34, 4, true, [[.int .i64 k92, .int .i64 n92, .str s92, .imm q92 4 f92 (cellss ks92)]]⟩), (82, ⟨50, 3, false, fcellss ks29⟩), (9, ⟨29, 4, true, [[.int .i64 r5, .int .i64 0, .osl (.loc 82), .imm 0 4 true []]]⟩), (4, ⟨29, 4, true, [[.int .i64 0, .int .i64 0, .imm 0 3 true [], .imm 0 4 true []]]⟩), (2, ⟨34, 4, true, [[.int .i64 k1, .int .i64 n1, .str s1, .imm q1 4 f1 (cellss ks1)]]⟩)], [], O, tks_l08Decode_L1⟩) (Sub.env _ ⟨rfl, rfl, rfl, rfl, rfl, rfl, rfl, rfl, rfl, rfl, trivial⟩) ?_
         refine run_sr ?_
         refine mvL rfl rfl rfl rfl (ltb rfl) ?_
         refine mvR rfl rfl rfl rfl (ltb rfl) ?_
         refine run_ops_nil ?_
         refine run_seq ?_
         refine run_sr ?_
         refine mvL rfl rfl rfl rfl (ltb rfl) ?_
         refine run_bin rfl rfl rfl rfl rfl rfl rfl (ltb rfl) ?_
         refine run_ops_nil ?_
         obtain ⟨j95, hj124, hM⟩ := jn_t hM
         refine run_cutL [.code _] (fun σ' => ∃ (i96 : Int) (i97 : Int) (i98 : Int) (t99 : ByteArray) (q100 : Nat) (f100 : Bool) (ks100 : List LT) (tkj95 : Nat), tks_l08Decode_L1 ≤ tkj95 ∧ j95 i96 i97 i98 t99 (ers ks100) = some r ∧ Sub ⟨Go.Proofs.Tryd.prog, S0, Go.Proofs.Tryd.f40.ntmps, [], fun _ => False, []⟩ σ' ⟨[(1, .int .i64 i2), (2, .optr (.loc 2) 0 0), (4, .optr (.loc 4) 0 0), (5, .bool false), (6, .int .i64 r5), (7, .int .i64 ra23), (8, .int .i64 ra24), (9, .optr (.loc 9) 0 0), (13, .int .i64 ra23), (14, .optr (.loc 14) 0 0), (15, .int .i64 i96)], [(14, ⟨34, 4, true, [[.int .i64 i97, .int .i64 i98, .str t99, .imm q100 4 f100 (cellss ks100)]]⟩), (82, ⟨50, 3, false, fcellss ks29⟩), (9, ⟨29, 4, true, [[.int .i64 r5, .int .i64 0, .osl (.loc 82), .imm 0 4 true []]]⟩), (4, ⟨29, 4, true, [[.int .i64 0, .int .i64 0, .imm 0 3 true [], .imm 0 4 true []]]⟩), (2, ⟨34, 4, true, [[.int .i64 k1, .int .i64 n1, .str s1, .imm q1 4 f1 (cellss ks1)]]⟩)], [], O, tkj95⟩) rfl ?_ ?_
         ·refine run_ifd rfl rfl (fun hb101 => ?_) (fun hb101 => ?_)
          ·replace hM := ite_t hb101 hM
           refine run_seq ?_
           refine run_sr ?_
           refine run_pu rfl (fieldAddr_step hG rfl rfl rfl rfl rfl) rfl (ltb rfl) ?_
           refine run_ld hG rfl rfl rfl rfl rfl (ltb rfl) ?_
           refine run_bin rfl rfl rfl rfl rfl rfl rfl (ltb rfl) ?_
           refine run_ops_nil ?_
           refine run_ifb rfl rfl (fun hb102 => ?_) (fun hb102 => ?_)
           ·replace hM := ite_t hb102 hM
            refine run_sr ?_
            refine run_pu rfl (build_step hG rfl (by rfl) rfl (fun h => by cases h) (by rfl)) rfl (ltb rfl) ?_
            refine run_op0 rfl (store_step hG rfl rfl rfl rfl rfl rfl rfl rfl) rfl ?_
            refine mvR rfl rfl rfl rfl (ltb rfl) ?_
            refine run_ops_nil ?_
            refine run_ret_to ?_
            refine cut_ret ?_
            obtain rfl := some_t hM
            refine fin_x hG rfl rfl rfl (v' := .tup [.agg [.int .i64 0, .int .i64 0, .imm 0 3 true (fcellss []), .imm 0 4 true (pcellss [])], .bool false]) (by rfl) ⟨rfl, (show tk ≤ tks_l08Decode_L1 by omega), _, rfl, ⟨_, _, _, _, rfl, rfl, ⟨0, 0, 0, true, [], 0, true, [], rfl, rfl, fun _ => Fr.nil _ _⟩, rfl⟩⟩
           ·replace hM := ite_f hb102 hM
            refine run_skip ?_
            refine run_sr ?_
            refine run_pu rfl (fieldAddr_step hG rfl rfl rfl rfl rfl) rfl (ltb rfl) ?_
            refine run_ld hG rfl rfl rfl rfl rfl (ltb rfl) ?_
            obtain ⟨y103, hy104, hM⟩ := bind_t hM
            obtain ⟨k105, n105, s105, q105, f105, ks105, rfl, hc106, hi107⟩ := tidx (ks := ks92) hy104
            refine run_pu rfl (indexImm_step hG rfl rfl rfl hi107 rfl rfl rfl rfl hc106) rfl (ltb rfl) ?_
            refine run_ld hG rfl rfl rfl rfl rfl (ltb rfl) ?_
            refine run_op0 rfl (store_step hG rfl rfl rfl rfl rfl rfl rfl rfl) rfl ?_
            refine run_ops_nil ?_
            refine run_region ?_
            refine mvL rfl rfl rfl rfl (ltb rfl) ?_
            refine run_bin rfl rfl rfl rfl rfl rfl rfl (ltb rfl) ?_
            refine mvR rfl rfl rfl rfl (ltb rfl) ?_
            refine run_ops_nil ?_
            exact ⟨(IntKind.i64.wrap (i2 + 1)), k105, n105, s105, q105, f105, ks105, tks_l08Decode_L1, (show tks_l08Decode_L1 ≤ tks_l08Decode_L1 by omega), hM, Sub.env [(1, .int .i64 i2), (2, .optr (.loc 2) 0 0), (4, .optr (.loc 4) 0 0), (5, .bool false), (6, .int .i64 r5), (7, .int .i64 ra23), (8, .int .i64 ra24), (9, .optr (.loc 9) 0 0), (13, .int .i64 ra23), (14, .optr (.loc 14) 0 0), (15, .int .i64 (IntKind.i64.wrap (i2 + 1)))] ⟨rfl, rfl, rfl, rfl, rfl, rfl, rfl, rfl, rfl, rfl, rfl, trivial⟩⟩
          ·replace hM := ite_f hb101 hM
           refine run_skip ?_
           exact ⟨i2, k92, n92, s92, q92, f92, ks92, tks_l08Decode_L1, (show tks_l08Decode_L1 ≤ tks_l08Decode_L1 by omega), hM, Sub.env [(1, .int .i64 i2), (2, .optr (.loc 2) 0 0), (4, .optr (.loc 4) 0 0), (5, .bool false), (6, .int .i64 r5), (7, .int .i64 ra23), (8, .int .i64 ra24), (9, .optr (.loc 9) 0 0), (13, .int .i64 ra23), (14, .optr (.loc 14) 0 0), (15, .int .i64 i2)] ⟨rfl, rfl, rfl, rfl, rfl, rfl, rfl, rfl, rfl, rfl, rfl, trivial⟩⟩
         ·clear hM
          rintro σ' ⟨i96, i97, i98, t99, q100, f100, ks100, tkj95, hle123, hM, hsub⟩
          rw [hj124] at hM
          clear hj124
          refine run_sub_code hsub ?_
          refine run_sr ?_
          refine run_ld hG rfl rfl rfl rfl rfl (ltb rfl) ?_
          refine mvL rfl rfl rfl rfl (ltb rfl) ?_
          obtain ⟨r108, hg109, hM⟩ := bind_t hM
          refine run_call rfl rfl rfl (ltb rfl) rfl rfl rfl (fun _ h => absurd h List.not_mem_nil) (ih_s_l08Decode i97 i98 t99 q100 f100 ks100 i96 hg109 _ _) (callK_retX (fun v tk110 (hle111 : tkj95 ≤ tk110) h112 => ?_))
          obtain ⟨ra117, ra118, va119, va120, rfl, rfl, ⟨k113, n113, p113, e113, fs113, q113, f113, ks113, rfl, rfl, hf114⟩, rfl⟩ := h112
          refine mvL rfl rfl rfl rfl (ltb rfl) ?_
          refine run_pu rfl (extract_step rfl rfl rfl) rfl (ltb rfl) ?_
          refine run_pu rfl (extract_step rfl rfl rfl) rfl (ltb rfl) ?_
          refine run_op rfl (alloc_step (d := 16) hG rfl rfl rfl) rfl (ltb rfl) ?_
          refine run_op0 rfl (store_step hG rfl rfl rfl rfl rfl rfl rfl rfl) rfl ?_
          refine mvR rfl rfl rfl rfl (ltb rfl) ?_
          refine run_ops_nil ?_
          refine run_seq ?_
          refine run_sr ?_
          refine mvL rfl rfl rfl rfl (ltb rfl) ?_
          refine run_pu rfl (aun_step rfl rfl rfl) rfl (ltb rfl) ?_
          refine run_ops_nil ?_
          refine run_ifb rfl rfl (fun hb121 => ?_) (fun hb121 => ?_)
          ·replace hM := ite_t hb121 hM
           refine run_sr ?_
           refine run_pu rfl (build_step hG rfl (by rfl) rfl (fun h => by cases h) (by rfl)) rfl (ltb rfl) ?_
           refine run_op0 rfl (store_step hG rfl rfl rfl rfl rfl rfl rfl rfl) rfl ?_
           refine mvR rfl rfl rfl rfl (ltb rfl) ?_
           refine run_ops_nil ?_
           refine run_ret_to ?_
           obtain rfl := some_t hM
           refine fin_x hG rfl rfl rfl (v' := .tup [.agg [.int .i64 0, .int .i64 0, .imm 0 3 true (fcellss []), .imm 0 4 true (pcellss [])], .bool false]) (by rfl) ⟨rfl, (show tk ≤ tk110 by omega), _, rfl, ⟨_, _, _, _, rfl, rfl, ⟨0, 0, 0, true, [], 0, true, [], rfl, rfl, fun _ => Fr.nil _ _⟩, rfl⟩⟩
          ·replace hM := ite_f hb121 hM
           refine run_skip ?_
           refine run_region ?_
           refine run_pu rfl (fieldAddr_step hG rfl rfl rfl rfl rfl) rfl (ltb rfl) ?_
           refine run_ld hG rfl rfl rfl rfl rfl (ltb rfl) ?_
           refine run_ld hG rfl rfl rfl rfl rfl (ltb rfl) ?_
           refine run_op rfl (buildSlice_step (d := 122) hG rfl rfl rfl rfl rfl (by rfl) (by rfl) (by rfl) (by decide)) rfl (ltb rfl) ?_
           obtain ⟨hc122, hM⟩ := chk_t hM
           try rw [show ((pers ([] : List LP)) ++ [(Pf.mk k113 n113 (fers fs113) (pers ks113))] : List Pf) = (pers (([] : List LP) ++ [LP.mk k113 n113 p113 e113 fs113 q113 f113 ks113])) from pers_app ([] : List LP) [LP.mk k113 n113 p113 e113 fs113 q113 f113 ks113]] at hM
           refine run_op rfl (appendFM_step (d := 123) hG rfl rfl rfl rfl rfl rfl rfl (pcellss_sz ([] : List LP)) rfl (pcellss_sz ([LP.mk k113 n113 p113 e113 fs113 q113 f113 ks113])) (plen ([] : List LP)) (plen ([LP.mk k113 n113 p113 e113 fs113 q113 f113 ks113])) (by simp [pers]) hc122 (by decide) (pcellss_app _ _)) rfl (ltb rfl) ?_
           refine run_pu rfl (fieldAddr_step hG rfl rfl rfl rfl rfl) rfl (ltb rfl) ?_
           refine run_op0 rfl (store_step hG rfl rfl rfl rfl rfl rfl rfl rfl) rfl ?_
           refine run_ops_nil ?_
           refine run_blk ?_
           refine run_sub_code (σ' := ⟨[(1, .int .i64 i2), (2, .optr (.loc 2) 0 0), (4, .optr (.loc 4) 0 0), (5, .bool false), (6, .int .i64 r5), (7, .int .i64 ra23), (8, .int .i64 ra24), (9, .optr (.loc 9) 0 0), (13, .int .i64 ra23)], [(123, ⟨29, 4, false, pcellss (([] : List LP) ++ [LP.mk k113 n113 p113 e113 fs113 q113 f113 ks113])⟩), (82, ⟨50, 3, false, fcellss ks29⟩), (9, ⟨29, 4, true, [[.int .i64 r5, .int .i64 0, .osl (.loc 82), .osl (.loc 123)]]⟩), (4, ⟨29, 4, true, [[.int .i64 0, .int .i64 0, .imm 0 3 true [], .imm 0 4 true []]]⟩), (2, ⟨34, 4, true, [[.int .i64 k1, .int .i64 n1, .str s1, .imm q1 4 f1 (cellss ks1)]]⟩)], [], O, tk110⟩) (Sub.trans (Sub.drop (k := 122) rfl) (Sub.trans (Sub.drop (k := 16) rfl) (Sub.trans (Sub.drop (k := 14) rfl) (Sub.env _ ⟨rfl, rfl, rfl, rfl, rfl, rfl, rfl, rfl, rfl, trivial⟩)))) ?_
           refine run_region ?_
           refine mvL rfl rfl rfl rfl (ltb rfl) ?_
           refine run_bin rfl rfl rfl rfl rfl rfl rfl (ltb rfl) ?_
           refine mvR rfl rfl rfl rfl (ltb rfl) ?_
           refine run_ops_nil ?_
           exact run_loop_end ⟨n, _, Nat.le_refl _, ⟨(IntKind.i64.wrap (ra23 + 1)), (([] : List LP) ++ [LP.mk k113 n113 p113 e113 fs113 q113 f113 ks113]), tk110, (show tks_l08Decode_L1 ≤ tk110 by omega), (show Fr tks_l08Decode_L1 tk110 _ from (Fr.pcons ((show Fr tkj95 tk110 _ from hf114 rfl)) (show Fr tk110 tk110 _ from Fr.nil _ _) (by omega) (by omega)).mono (by omega) (by omega)), hM, rfl⟩, Sub.env [(1, .int .i64 i2), (2, .optr (.loc 2) 0 0), (4, .optr (.loc 4) 0 0), (5, .bool false), (6, .int .i64 r5), (7, .int .i64 ra23), (8, .int .i64 ra24), (9, .optr (.loc 9) 0 0), (13, .int .i64 (IntKind.i64.wrap (ra23 + 1)))] ⟨rfl, rfl, rfl, rfl, rfl, rfl, rfl, rfl, rfl, trivial⟩⟩
        ·replace hM := ite_f hb89 hM
         refine run_exit_to rfl ?_
         refine run_sr ?_
         refine run_ld hG rfl rfl rfl rfl rfl (ltb rfl) ?_
         refine run_op0 rfl (store_step hG rfl rfl rfl rfl rfl rfl rfl rfl) rfl ?_
         refine mvR rfl rfl rfl rfl (ltb rfl) ?_
         refine run_ops_nil ?_
         refine run_ret_to ?_
         refine fin_sub (Sub.freeze (k := 82) rfl rfl) ?_
         obtain rfl := some_t hM
         refine fin_x hG rfl rfl rfl (v' := .tup [.agg [.int .i64 r5, .int .i64 0, .imm tks_l08Decode_L1 3 false (fcellss ks29), .imm 0 4 true (pcellss [])], .bool true]) (by rfl) ⟨rfl, (show tk ≤ (tks_l08Decode_L1 + 1) by omega), _, rfl, ⟨_, _, _, _, rfl, rfl, ⟨r5, 0, tks_l08Decode_L1, false, ks29, 0, true, [], rfl, rfl, fun _ => (show Fr tk (tks_l08Decode_L1 + 1) _ from (Fr.app (show Fr tk16 (tks_l08Decode_L1 + 1) _ from Fr.fstop (show Fr tk16 tks_l08Decode_L1 _ from (hfr29).mono (by omega) (by omega)) (by omega) (by omega)) (show Fr (tks_l08Decode_L1 + 1) (tks_l08Decode_L1 + 1) _ from Fr.nil _ _) (by omega) (by omega)).mono (by omega) (by omega))⟩, rfl⟩⟩
       ·clear hM
        obtain ⟨i51, ks52, tks_l08Decode_L2, hle125, hfr52, hM, rfl⟩ := hI
        obtain _ | m := m
        ·exact absurd hM (by rw [s_l08Decode_L2]; exact fun h => by cases h)
        rw [s_l08Decode_L2] at hM
        refine run_seq ?_
        refine run_sr ?_
        refine mvL rfl rfl rfl rfl (ltb rfl) ?_
        refine mvL rfl rfl rfl rfl (ltb rfl) ?_
        refine mvL rfl rfl rfl rfl (ltb rfl) ?_
        refine run_bin rfl rfl rfl rfl rfl rfl rfl (ltb rfl) ?_
        refine run_bin rfl rfl rfl rfl rfl rfl rfl (ltb rfl) ?_
        refine run_ops_nil ?_
        refine run_ifd rfl rfl (fun hb53 => ?_) (fun hb53 => ?_)
        ·replace hM := ite_t hb53 hM
         refine run_skip ?_
         refine run_seq ?_
         refine run_block ?_
         refine run_sr ?_
         refine run_pu rfl (fieldAddr_step hG rfl rfl rfl rfl rfl) rfl (ltb rfl) ?_
         refine run_ld hG rfl rfl rfl rfl rfl (ltb rfl) ?_
         refine mvL rfl rfl rfl rfl (ltb rfl) ?_
         obtain ⟨y54, hy55, hM⟩ := bind_t hM
         obtain ⟨k56, n56, s56, q56, f56, ks56, rfl, hc57, hi58⟩ := tidx (ks := ks1) hy55
         refine run_pu rfl (indexImm_step hG rfl rfl rfl hi58 rfl rfl rfl rfl hc57) rfl (ltb rfl) ?_
         refine run_ld hG rfl rfl rfl rfl rfl (ltb rfl) ?_
         refine run_op rfl (alloc_step (d := 14) hG rfl rfl rfl) rfl (ltb rfl) ?_
         refine run_op0 rfl (store_step hG rfl rfl rfl rfl rfl rfl rfl rfl) rfl ?_
         refine run_ops_nil ?_
         refine run_sr ?_
         refine mvL rfl rfl rfl rfl (ltb rfl) ?_
         refine mvR rfl rfl rfl rfl (ltb rfl) ?_
         refine run_ops_nil ?_
         refine run_sub_code (σ' := ⟨[(1, .int .i64 i2), (2, .optr (.loc 2) 0 0), (4, .optr (.loc 4) 0 0), (5, .bool false), (6, .int .i64 r5), (7, .int .i64 ra23), (8, .int .i64 ra24), (9, .optr (.loc 9) 0 0), (13, .int .i64 i51), (14, .optr (.loc 14) 0 0), (15, .int .i64 i2)], [(14, ⟨34, 4, true, [[.int .i64 k56, .int .i64 n56, .str s56, .imm q56 4 f56 (cellss ks56)]]⟩), (123, ⟨29, 4, false, pcellss ks52⟩), (82, ⟨50, 3, false, fcellss ks29⟩), (9, ⟨29, 4, true, [[.int .i64 r5, .int .i64 0, .osl (.loc 82), .osl (.loc 123)]]⟩), (4, ⟨29, 4, true, [[.int .i64 0, .int .i64 0, .imm 0 3 true [], .imm 0 4 true []]]⟩), (2, ⟨34, 4, true, [[.int .i64 k1, .int .i64 n1, .str s1, .imm q1 4 f1 (cellss ks1)]]⟩)], [], O, tks_l08Decode_L2⟩) (Sub.env _ ⟨rfl, rfl, rfl, rfl, rfl, rfl, rfl, rfl, rfl, rfl, rfl, trivial⟩) ?_
         refine run_seq ?_
         refine run_sr ?_
         refine mvL rfl rfl rfl rfl (ltb rfl) ?_
         refine run_bin rfl rfl rfl rfl rfl rfl rfl (ltb rfl) ?_
         refine run_ops_nil ?_
         obtain ⟨j59, hj88, hM⟩ := jn_t hM
         refine run_cutL [.code _] (fun σ' => ∃ (i60 : Int) (i61 : Int) (i62 : Int) (t63 : ByteArray) (q64 : Nat) (f64 : Bool) (ks64 : List LT) (tkj59 : Nat), tks_l08Decode_L2 ≤ tkj59 ∧ j59 i60 i61 i62 t63 (ers ks64) = some r ∧ Sub ⟨Go.Proofs.Tryd.prog, S0, Go.Proofs.Tryd.f40.ntmps, [], fun _ => False, []⟩ σ' ⟨[(1, .int .i64 i2), (2, .optr (.loc 2) 0 0), (4, .optr (.loc 4) 0 0), (5, .bool false), (6, .int .i64 r5), (7, .int .i64 ra23), (8, .int .i64 ra24), (9, .optr (.loc 9) 0 0), (13, .int .i64 i51), (14, .optr (.loc 14) 0 0), (15, .int .i64 i60)], [(14, ⟨34, 4, true, [[.int .i64 i61, .int .i64 i62, .str t63, .imm q64 4 f64 (cellss ks64)]]⟩), (123, ⟨29, 4, false, pcellss ks52⟩), (82, ⟨50, 3, false, fcellss ks29⟩), (9, ⟨29, 4, true, [[.int .i64 r5, .int .i64 0, .osl (.loc 82), .osl (.loc 123)]]⟩), (4, ⟨29, 4, true, [[.int .i64 0, .int .i64 0, .imm 0 3 true [], .imm 0 4 true []]]⟩), (2, ⟨34, 4, true, [[.int .i64 k1, .int .i64 n1, .str s1, .imm q1 4 f1 (cellss ks1)]]⟩)], [], O, tkj59⟩) rfl ?_ ?_
         ·refine run_ifd rfl rfl (fun hb65 => ?_) (fun hb65 => ?_)
          ·replace hM := ite_t hb65 hM
           refine run_seq ?_
           refine run_sr ?_
           refine run_pu rfl (fieldAddr_step hG rfl rfl rfl rfl rfl) rfl (ltb rfl) ?_
           refine run_ld hG rfl rfl rfl rfl rfl (ltb rfl) ?_
           refine run_bin rfl rfl rfl rfl rfl rfl rfl (ltb rfl) ?_
           refine run_ops_nil ?_
           refine run_ifb rfl rfl (fun hb66 => ?_) (fun hb66 => ?_)
           ·replace hM := ite_t hb66 hM
            refine run_sr ?_
            refine run_pu rfl (build_step hG rfl (by rfl) rfl (fun h => by cases h) (by rfl)) rfl (ltb rfl) ?_
            refine run_op0 rfl (store_step hG rfl rfl rfl rfl rfl rfl rfl rfl) rfl ?_
            refine mvR rfl rfl rfl rfl (ltb rfl) ?_
            refine run_ops_nil ?_
            refine run_ret_to ?_
            refine cut_ret ?_
            obtain rfl := some_t hM
            refine fin_x hG rfl rfl rfl (v' := .tup [.agg [.int .i64 0, .int .i64 0, .imm 0 3 true (fcellss []), .imm 0 4 true (pcellss [])], .bool false]) (by rfl) ⟨rfl, (show tk ≤ tks_l08Decode_L2 by omega), _, rfl, ⟨_, _, _, _, rfl, rfl, ⟨0, 0, 0, true, [], 0, true, [], rfl, rfl, fun _ => Fr.nil _ _⟩, rfl⟩⟩
           ·replace hM := ite_f hb66 hM
            refine run_skip ?_
            refine run_sr ?_
            refine run_pu rfl (fieldAddr_step hG rfl rfl rfl rfl rfl) rfl (ltb rfl) ?_
            refine run_ld hG rfl rfl rfl rfl rfl (ltb rfl) ?_
            obtain ⟨y67, hy68, hM⟩ := bind_t hM
            obtain ⟨k69, n69, s69, q69, f69, ks69, rfl, hc70, hi71⟩ := tidx (ks := ks56) hy68
            refine run_pu rfl (indexImm_step hG rfl rfl rfl hi71 rfl rfl rfl rfl hc70) rfl (ltb rfl) ?_
            refine run_ld hG rfl rfl rfl rfl rfl (ltb rfl) ?_
            refine run_op0 rfl (store_step hG rfl rfl rfl rfl rfl rfl rfl rfl) rfl ?_
            refine run_ops_nil ?_
            refine run_region ?_
            refine mvL rfl rfl rfl rfl (ltb rfl) ?_
            refine run_bin rfl rfl rfl rfl rfl rfl rfl (ltb rfl) ?_
            refine mvR rfl rfl rfl rfl (ltb rfl) ?_
            refine run_ops_nil ?_
            exact ⟨(IntKind.i64.wrap (i2 + 1)), k69, n69, s69, q69, f69, ks69, tks_l08Decode_L2, (show tks_l08Decode_L2 ≤ tks_l08Decode_L2 by omega), hM, Sub.env [(1, .int .i64 i2), (2, .optr (.loc 2) 0 0), (4, .optr (.loc 4) 0 0), (5, .bool false), (6, .int .i64 r5), (7, .int .i64 ra23), (8, .int .i64 ra24), (9, .optr (.loc 9) 0 0), (13, .int .i64 i51), (14, .optr (.loc 14) 0 0), (15, .int .i64 (IntKind.i64.wrap (i2 + 1)))] ⟨rfl, rfl, rfl, rfl, rfl, rfl, rfl, rfl, rfl, rfl, rfl, trivial⟩⟩
          ·replace hM := ite_f hb65 hM
           refine run_skip ?_
           exact ⟨i2, k56, n56, s56, q56, f56, ks56, tks_l08Decode_L2, (show tks_l08Decode_L2 ≤ tks_l08Decode_L2 by omega), hM, Sub.env [(1, .int .i64 i2), (2, .optr (.loc 2) 0 0), (4, .optr (.loc 4) 0 0), (5, .bool false), (6, .int .i64 r5), (7, .int .i64 ra23), (8, .int .i64 ra24), (9, .optr (.loc 9) 0 0), (13, .int .i64 i51), (14, .optr (.loc 14) 0 0), (15, .int .i64 i2)] ⟨rfl, rfl, rfl, rfl, rfl, rfl, rfl, rfl, rfl, rfl, rfl, trivial⟩⟩
         ·clear hM
          rintro σ' ⟨i60, i61, i62, t63, q64, f64, ks64, tkj59, hle87, hM, hsub⟩
          rw [hj88] at hM
          clear hj88
          refine run_sub_code hsub ?_
          refine run_sr ?_
          refine run_ld hG rfl rfl rfl rfl rfl (ltb rfl) ?_
          refine mvL rfl rfl rfl rfl (ltb rfl) ?_
          obtain ⟨r72, hg73, hM⟩ := bind_t hM
          refine run_call rfl rfl rfl (ltb rfl) rfl rfl rfl (fun _ h => absurd h List.not_mem_nil) (ih_s_l08Decode i61 i62 t63 q64 f64 ks64 i60 hg73 _ _) (callK_retX (fun v tk74 (hle75 : tkj59 ≤ tk74) h76 => ?_))
          obtain ⟨ra81, ra82, va83, va84, rfl, rfl, ⟨k77, n77, p77, e77, fs77, q77, f77, ks77, rfl, rfl, hf78⟩, rfl⟩ := h76
          refine mvL rfl rfl rfl rfl (ltb rfl) ?_
          refine run_pu rfl (extract_step rfl rfl rfl) rfl (ltb rfl) ?_
          refine run_pu rfl (extract_step rfl rfl rfl) rfl (ltb rfl) ?_
          refine run_op rfl (alloc_step (d := 16) hG rfl rfl rfl) rfl (ltb rfl) ?_
          refine run_op0 rfl (store_step hG rfl rfl rfl rfl rfl rfl rfl rfl) rfl ?_
          refine mvR rfl rfl rfl rfl (ltb rfl) ?_
          refine run_ops_nil ?_
          refine run_seq ?_
          refine run_sr ?_
          refine mvL rfl rfl rfl rfl (ltb rfl) ?_
          refine run_pu rfl (aun_step rfl rfl rfl) rfl (ltb rfl) ?_
          refine run_ops_nil ?_
          refine run_ifb rfl rfl (fun hb85 => ?_) (fun hb85 => ?_)
          ·replace hM := ite_t hb85 hM
           refine run_sr ?_
           refine run_pu rfl (build_step hG rfl (by rfl) rfl (fun h => by cases h) (by rfl)) rfl (ltb rfl) ?_
           refine run_op0 rfl (store_step hG rfl rfl rfl rfl rfl rfl rfl rfl) rfl ?_
           refine mvR rfl rfl rfl rfl (ltb rfl) ?_
           refine run_ops_nil ?_
           refine run_ret_to ?_
           obtain rfl := some_t hM
           refine fin_x hG rfl rfl rfl (v' := .tup [.agg [.int .i64 0, .int .i64 0, .imm 0 3 true (fcellss []), .imm 0 4 true (pcellss [])], .bool false]) (by rfl) ⟨rfl, (show tk ≤ tk74 by omega), _, rfl, ⟨_, _, _, _, rfl, rfl, ⟨0, 0, 0, true, [], 0, true, [], rfl, rfl, fun _ => Fr.nil _ _⟩, rfl⟩⟩
          ·replace hM := ite_f hb85 hM
           refine run_skip ?_
           refine run_region ?_
           refine run_pu rfl (fieldAddr_step hG rfl rfl rfl rfl rfl) rfl (ltb rfl) ?_
           refine run_ld hG rfl rfl rfl rfl rfl (ltb rfl) ?_
           refine run_ld hG rfl rfl rfl rfl rfl (ltb rfl) ?_
           refine run_op rfl (buildSlice_step (d := 122) hG rfl rfl rfl rfl rfl (by rfl) (by rfl) (by rfl) (by decide)) rfl (ltb rfl) ?_
           obtain ⟨hc86, hM⟩ := chk_t hM
           try rw [show ((pers ks52) ++ [(Pf.mk k77 n77 (fers fs77) (pers ks77))] : List Pf) = (pers (ks52 ++ [LP.mk k77 n77 p77 e77 fs77 q77 f77 ks77])) from pers_app ks52 [LP.mk k77 n77 p77 e77 fs77 q77 f77 ks77]] at hM
           refine run_op rfl (appendM_step hG rfl rfl rfl rfl rfl rfl rfl rfl rfl rfl rfl (pcellss_sz ([LP.mk k77 n77 p77 e77 fs77 q77 f77 ks77])) (plen ks52) (plen ([LP.mk k77 n77 p77 e77 fs77 q77 f77 ks77])) hc86 (by decide) (pcellss_app _ _)) rfl (ltb rfl) ?_
           refine run_pu rfl (fieldAddr_step hG rfl rfl rfl rfl rfl) rfl (ltb rfl) ?_
           refine run_op0 rfl (store_step hG rfl rfl rfl rfl rfl rfl rfl rfl) rfl ?_
           refine run_ops_nil ?_
           refine run_blk ?_
           refine run_sub_code (σ' := ⟨[(1, .int .i64 i2), (2, .optr (.loc 2) 0 0), (4, .optr (.loc 4) 0 0), (5, .bool false), (6, .int .i64 r5), (7, .int .i64 ra23), (8, .int .i64 ra24), (9, .optr (.loc 9) 0 0), (13, .int .i64 i51)], [(123, ⟨29, 4, false, pcellss (ks52 ++ [LP.mk k77 n77 p77 e77 fs77 q77 f77 ks77])⟩), (82, ⟨50, 3, false, fcellss ks29⟩), (9, ⟨29, 4, true, [[.int .i64 r5, .int .i64 0, .osl (.loc 82), .osl (.loc 123)]]⟩), (4, ⟨29, 4, true, [[.int .i64 0, .int .i64 0, .imm 0 3 true [], .imm 0 4 true []]]⟩), (2, ⟨34, 4, true, [[.int .i64 k1, .int .i64 n1, .str s1, .imm q1 4 f1 (cellss ks1)]]⟩)], [], O, tk74⟩) (Sub.trans (Sub.drop (k := 122) rfl) (Sub.trans (Sub.drop (k := 16) rfl) (Sub.trans (Sub.drop (k := 14) rfl) (Sub.env _ ⟨rfl, rfl, rfl, rfl, rfl, rfl, rfl, rfl, rfl, trivial⟩)))) ?_
           refine run_region ?_
           refine mvL rfl rfl rfl rfl (ltb rfl) ?_
           refine run_bin rfl rfl rfl rfl rfl rfl rfl (ltb rfl) ?_
           refine mvR rfl rfl rfl rfl (ltb rfl) ?_
           refine run_ops_nil ?_
           exact run_loop_end ⟨m, _, Nat.lt_succ_self _, ⟨(IntKind.i64.wrap (i51 + 1)), (ks52 ++ [LP.mk k77 n77 p77 e77 fs77 q77 f77 ks77]), tk74, (show tks_l08Decode_L1 ≤ tk74 by omega), (show Fr tks_l08Decode_L1 tk74 _ from (Fr.psnoc (show Fr tks_l08Decode_L1 tkj59 _ from (hfr52).mono (by omega) (by omega)) ((show Fr tkj59 tk74 _ from hf78 rfl)) (by omega) (by omega)).mono (by omega) (by omega)), hM, rfl⟩, Sub.env [(1, .int .i64 i2), (2, .optr (.loc 2) 0 0), (4, .optr (.loc 4) 0 0), (5, .bool false), (6, .int .i64 r5), (7, .int .i64 ra23), (8, .int .i64 ra24), (9, .optr (.loc 9) 0 0), (13, .int .i64 (IntKind.i64.wrap (i51 + 1)))] ⟨rfl, rfl, rfl, rfl, rfl, rfl, rfl, rfl, rfl, trivial⟩⟩
        ·replace hM := ite_f hb53 hM
         refine run_exit_to rfl ?_
         refine run_sr ?_
         refine run_ld hG rfl rfl rfl rfl rfl (ltb rfl) ?_
         refine run_op0 rfl (store_step hG rfl rfl rfl rfl rfl rfl rfl rfl) rfl ?_
         refine mvR rfl rfl rfl rfl (ltb rfl) ?_
         refine run_ops_nil ?_
         refine run_ret_to ?_
         refine fin_sub (Sub.freeze (k := 82) rfl rfl) ?_
         refine fin_sub (Sub.freeze (k := 123) rfl rfl) ?_
         obtain rfl := some_t hM
         refine fin_x hG rfl rfl rfl (v' := .tup [.agg [.int .i64 r5, .int .i64 0, .imm tks_l08Decode_L2 3 false (fcellss ks29), .imm (tks_l08Decode_L2 + 1) 4 false (pcellss ks52)], .bool true]) (by rfl) ⟨rfl, (show tk ≤ ((tks_l08Decode_L2 + 1) + 1) by omega), _, rfl, ⟨_, _, _, _, rfl, rfl, ⟨r5, 0, tks_l08Decode_L2, false, ks29, (tks_l08Decode_L2 + 1), false, ks52, rfl, rfl, fun _ => (show Fr tk ((tks_l08Decode_L2 + 1) + 1) _ from by first | exact Fr.fpab (q1 := tks_l08Decode_L2) (q := (tks_l08Decode_L2 + 1)) (show Fr tk16 tks_l08Decode_L1 _ from hfr29) (show Fr tks_l08Decode_L1 tks_l08Decode_L2 _ from hfr52) (by omega) (by omega) (by omega) (by omega) (by omega) (by omega) (by omega) (by omega) (by omega) | exact Fr.fpba (q1 := tks_l08Decode_L2) (q := (tks_l08Decode_L2 + 1)) (show Fr tk16 tks_l08Decode_L1 _ from hfr29) (show Fr tks_l08Decode_L1 tks_l08Decode_L2 _ from hfr52) (by omega) (by omega) (by omega) (by omega) (by omega) (by omega) (by omega) (by omega) (by omega))⟩, rfl⟩⟩

theorem s_l08Decode_all : ∀ (n : Nat), (∀ (k1 : Int) (n1 : Int) (s1 : ByteArray) (q1 : Nat) (f1 : Bool) (ks1 : List LT) (i2 : Int) {r : (Pf × Bool)}, s_l08Decode n (T.mk k1 n1 s1 (ers ks1)) i2 = some r → ∀ (O : Heap) (tk : Nat), ACalls Go.Proofs.Tryd.prog 40 [.agg [.int .i64 k1, .int .i64 n1, .str s1, .imm q1 4 f1 (cellss ks1)], .int .i64 i2] O tk (RetX O tk (fun v tk' => ∃ r0' r1' v0' v1', r = (r0', r1') ∧ v = .tup [v0', v1'] ∧ VP true tk tk' r0' v0' ∧ v1' = .bool r1')))
 | 0 => by intro k1 n1 s1 q1 f1 ks1 i2 r hM; rw [s_l08Decode] at hM; cases hM
 | n + 1 => have ih := s_l08Decode_all n; s_l08Decode_st n (ih)

theorem s_l08Decode_ok (n : Nat) : ∀ (k1 : Int) (n1 : Int) (s1 : ByteArray) (q1 : Nat) (f1 : Bool) (ks1 : List LT) (i2 : Int) {r : (Pf × Bool)}, s_l08Decode n (T.mk k1 n1 s1 (ers ks1)) i2 = some r → ∀ (O : Heap) (tk : Nat), ACalls Go.Proofs.Tryd.prog 40 [.agg [.int .i64 k1, .int .i64 n1, .str s1, .imm q1 4 f1 (cellss ks1)], .int .i64 i2] O tk (RetX O tk (fun v tk' => ∃ r0' r1' v0' v1', r = (r0', r1') ∧ v = .tup [v0', v1'] ∧ VP true tk tk' r0' v0' ∧ v1' = .bool r1')) := s_l08Decode_all n

def s_DecodeProof (n : Nat) (x1 : T) (i2 : Int) : Option (Pf × Int) :=
 (s_TermOK n x1).bind fun r3 =>
 if (!r3) = true then
  some ((Pf.mk 0 0 [] []), 1)
 else
  if i2 < 0 then
   some ((Pf.mk 0 0 [] []), 16)
  else
   if i2 > 12 then
    some ((Pf.mk 0 0 [] []), 16)
   else
    (s_l08Decode n x1 i2).bind fun r13 =>
    if (!r13.2) = true then
     some ((Pf.mk 0 0 [] []), 3)
    else
     some (r13.1, 0)

set_option maxRecDepth 100000 in
theorem s_DecodeProof_ok (n : Nat) : ∀ (k1 : Int) (n1 : Int) (s1 : ByteArray) (q1 : Nat) (f1 : Bool) (ks1 : List LT) (i2 : Int) {r : (Pf × Int)}, s_DecodeProof n (T.mk k1 n1 s1 (ers ks1)) i2 = some r → ∀ (O : Heap) (tk : Nat), ACalls Go.Proofs.Tryd.prog 10 [.agg [.int .i64 k1, .int .i64 n1, .str s1, .imm q1 4 f1 (cellss ks1)], .int .i64 i2] O tk (RetX O tk (fun v tk' => ∃ r0' r1' v0' v1', r = (r0', r1') ∧ v = .tup [v0', v1'] ∧ VP true tk tk' r0' v0' ∧ v1' = .int .i64 r1')) := by
 intro k1 n1 s1 q1 f1 ks1 i2 r hM O tk
 unfold s_DecodeProof at hM
 refine acalls_of_run Go.Proofs.Tryd.func10 rfl rfl [] [] (Bor.nil _) [(0, .agg [.int .i64 k1, .int .i64 n1, .str s1, .imm q1 4 f1 (cellss ks1)]), (1, .int .i64 i2)] (.cons (.agg _) (.cons (entS rfl) (.nil _))) (leb rfl) (fun _ h => by cases h) (fun S0 hO htk hfz => ?_)
 refine run_sr ?_
 refine run_op rfl (box_step (d := 2) rfl rfl rfl rfl rfl) rfl (ltb rfl) ?_
 refine run_op rfl (alloc_step (d := 4) hG rfl rfl rfl) rfl (ltb rfl) ?_
 refine mvR rfl rfl rfl rfl (ltb rfl) ?_
 refine run_ops_nil ?_
 refine run_seq ?_
 refine run_sr ?_
 refine run_ld hG rfl rfl rfl rfl rfl (ltb rfl) ?_
 obtain ⟨r3, hg4, hM⟩ := bind_t hM
 refine run_call rfl rfl rfl (ltb rfl) rfl rfl rfl (fun _ h => absurd h List.not_mem_nil) (s_TermOK_ok n k1 n1 s1 q1 f1 ks1 hg4 _ _) (callK_retX (fun v tk5 (hle6 : tk ≤ tk5) h7 => ?_))
 subst h7
 refine run_pu rfl (aun_step rfl rfl rfl) rfl (ltb rfl) ?_
 refine run_ops_nil ?_
 refine run_ifb rfl rfl (fun hb10 => ?_) (fun hb10 => ?_)
 ·replace hM := ite_t hb10 hM
  refine run_sr ?_
  refine run_pu rfl (build_step hG rfl (by rfl) rfl (fun h => by cases h) (by rfl)) rfl (ltb rfl) ?_
  refine run_op0 rfl (store_step hG rfl rfl rfl rfl rfl rfl rfl rfl) rfl ?_
  refine mvR rfl rfl rfl rfl (ltb rfl) ?_
  refine run_ops_nil ?_
  refine run_ret_to ?_
  obtain rfl := some_t hM
  refine fin_x hG rfl rfl rfl (v' := .tup [.agg [.int .i64 0, .int .i64 0, .imm 0 3 true (fcellss []), .imm 0 4 true (pcellss [])], .int .i64 1]) (by rfl) ⟨rfl, (show tk ≤ tk5 by omega), _, rfl, ⟨_, _, _, _, rfl, rfl, ⟨0, 0, 0, true, [], 0, true, [], rfl, rfl, fun _ => Fr.nil _ _⟩, rfl⟩⟩
 ·replace hM := ite_f hb10 hM
  refine run_skip ?_
  refine run_seq ?_
  refine run_sr ?_
  refine mvL rfl rfl rfl rfl (ltb rfl) ?_
  refine run_bin rfl rfl rfl rfl rfl rfl rfl (ltb rfl) ?_
  refine mvL rfl rfl rfl rfl (ltb rfl) ?_
  refine run_splitd (i := 14) rfl (fun hb11 => ?_) (fun hb11 => ?_)
  ·replace hM := ite_t hb11 hM
   refine run_off (on_of rfl rfl rfl rfl) rfl (ltb rfl) ?_
   refine run_off (on_of rfl rfl rfl rfl) rfl (ltb rfl) ?_
   refine run_pu rfl (pick_step rfl rfl rfl) rfl (ltb rfl) ?_
   refine run_ops_nil ?_
   refine run_if rfl rfl (fun _ => ?_) (fun h => by cases h)
   refine run_sr ?_
   refine run_pu rfl (build_step hG rfl (by rfl) rfl (fun h => by cases h) (by rfl)) rfl (ltb rfl) ?_
   refine run_op0 rfl (store_step hG rfl rfl rfl rfl rfl rfl rfl rfl) rfl ?_
   refine mvR rfl rfl rfl rfl (ltb rfl) ?_
   refine run_ops_nil ?_
   refine run_ret_to ?_
   obtain rfl := some_t hM
   refine fin_x hG rfl rfl rfl (v' := .tup [.agg [.int .i64 0, .int .i64 0, .imm 0 3 true (fcellss []), .imm 0 4 true (pcellss [])], .int .i64 16]) (by rfl) ⟨rfl, (show tk ≤ tk5 by omega), _, rfl, ⟨_, _, _, _, rfl, rfl, ⟨0, 0, 0, true, [], 0, true, [], rfl, rfl, fun _ => Fr.nil _ _⟩, rfl⟩⟩
  ·replace hM := ite_f hb11 hM
   refine run_puG (on_of rfl rfl rfl rfl) (move_step (.inl rfl) rfl) rfl (ltb rfl) ?_
   refine run_puG (on_of rfl rfl rfl rfl) (abin_step rfl rfl rfl rfl (fun _ h => by cases h)) rfl (ltb rfl) ?_
   refine run_pu rfl (pick_step rfl rfl rfl) rfl (ltb rfl) ?_
   refine run_ops_nil ?_
   refine run_ifd rfl rfl (fun hb12 => ?_) (fun hb12 => ?_)
   ·replace hM := ite_t hb12 hM
    refine run_sr ?_
    refine run_pu rfl (build_step hG rfl (by rfl) rfl (fun h => by cases h) (by rfl)) rfl (ltb rfl) ?_
    refine run_op0 rfl (store_step hG rfl rfl rfl rfl rfl rfl rfl rfl) rfl ?_
    refine mvR rfl rfl rfl rfl (ltb rfl) ?_
    refine run_ops_nil ?_
    refine run_ret_to ?_
    obtain rfl := some_t hM
    refine fin_x hG rfl rfl rfl (v' := .tup [.agg [.int .i64 0, .int .i64 0, .imm 0 3 true (fcellss []), .imm 0 4 true (pcellss [])], .int .i64 16]) (by rfl) ⟨rfl, (show tk ≤ tk5 by omega), _, rfl, ⟨_, _, _, _, rfl, rfl, ⟨0, 0, 0, true, [], 0, true, [], rfl, rfl, fun _ => Fr.nil _ _⟩, rfl⟩⟩
   ·replace hM := ite_f hb12 hM
    refine run_skip ?_
    refine run_sr ?_
    refine run_ld hG rfl rfl rfl rfl rfl (ltb rfl) ?_
    refine mvL rfl rfl rfl rfl (ltb rfl) ?_
    obtain ⟨r13, hg14, hM⟩ := bind_t hM
    refine run_call rfl rfl rfl (ltb rfl) rfl rfl rfl (fun _ h => absurd h List.not_mem_nil) (s_l08Decode_ok n k1 n1 s1 q1 f1 ks1 i2 hg14 _ _) (callK_retX (fun v tk15 (hle16 : tk5 ≤ tk15) h17 => ?_))
    obtain ⟨ra22, ra23, va24, va25, rfl, rfl, ⟨k18, n18, p18, e18, fs18, q18, f18, ks18, rfl, rfl, hf19⟩, rfl⟩ := h17
    refine mvL rfl rfl rfl rfl (ltb rfl) ?_
    refine run_pu rfl (extract_step rfl rfl rfl) rfl (ltb rfl) ?_
    refine run_pu rfl (extract_step rfl rfl rfl) rfl (ltb rfl) ?_
    refine run_op rfl (alloc_step (d := 6) hG rfl rfl rfl) rfl (ltb rfl) ?_
    refine run_op0 rfl (store_step hG rfl rfl rfl rfl rfl rfl rfl rfl) rfl ?_
    refine mvR rfl rfl rfl rfl (ltb rfl) ?_
    refine run_ops_nil ?_
    refine run_sub_code (σ' := ⟨[(4, .optr (.loc 4) 0 0), (5, .int .i64 0), (6, .optr (.loc 6) 0 0), (7, .bool ra23)], [(6, ⟨29, 4, true, [[.int .i64 k18, .int .i64 n18, .imm p18 3 e18 (fcellss fs18), .imm q18 4 f18 (pcellss ks18)]]⟩), (4, ⟨29, 4, true, [[.int .i64 0, .int .i64 0, .imm 0 3 true [], .imm 0 4 true []]]⟩)], [], O, tk15⟩) (Sub.trans (Sub.drop (k := 2) rfl) (Sub.env _ ⟨rfl, rfl, rfl, rfl, trivial⟩)) ?_
    refine run_seq ?_
    refine run_sr ?_
    refine mvL rfl rfl rfl rfl (ltb rfl) ?_
    refine run_pu rfl (aun_step rfl rfl rfl) rfl (ltb rfl) ?_
    refine run_ops_nil ?_
    refine run_ifb rfl rfl (fun hb26 => ?_) (fun hb26 => ?_)
    ·replace hM := ite_t hb26 hM
     refine run_sr ?_
     refine run_pu rfl (build_step hG rfl (by rfl) rfl (fun h => by cases h) (by rfl)) rfl (ltb rfl) ?_
     refine run_op0 rfl (store_step hG rfl rfl rfl rfl rfl rfl rfl rfl) rfl ?_
     refine mvR rfl rfl rfl rfl (ltb rfl) ?_
     refine run_ops_nil ?_
     refine run_ret_to ?_
     obtain rfl := some_t hM
     refine fin_x hG rfl rfl rfl (v' := .tup [.agg [.int .i64 0, .int .i64 0, .imm 0 3 true (fcellss []), .imm 0 4 true (pcellss [])], .int .i64 3]) (by rfl) ⟨rfl, (show tk ≤ tk15 by omega), _, rfl, ⟨_, _, _, _, rfl, rfl, ⟨0, 0, 0, true, [], 0, true, [], rfl, rfl, fun _ => Fr.nil _ _⟩, rfl⟩⟩
    ·replace hM := ite_f hb26 hM
     refine run_skip ?_
     refine run_sr ?_
     refine run_ld hG rfl rfl rfl rfl rfl (ltb rfl) ?_
     refine run_op0 rfl (store_step hG rfl rfl rfl rfl rfl rfl rfl rfl) rfl ?_
     refine mvR rfl rfl rfl rfl (ltb rfl) ?_
     refine run_ops_nil ?_
     refine run_ret_to ?_
     obtain rfl := some_t hM
     refine fin_x hG rfl rfl rfl (v' := .tup [.agg [.int .i64 k18, .int .i64 n18, .imm p18 3 e18 (fcellss fs18), .imm q18 4 f18 (pcellss ks18)], .int .i64 0]) (by rfl) ⟨rfl, (show tk ≤ tk15 by omega), _, rfl, ⟨_, _, _, _, rfl, rfl, ⟨k18, n18, p18, e18, fs18, q18, f18, ks18, rfl, rfl, fun _ => (show Fr tk tk15 _ from ((show Fr tk5 tk15 _ from hf19 rfl)).mono (by omega) (by omega))⟩, rfl⟩⟩

end Go.Am.YtiobknkpdkkikaaDoor
