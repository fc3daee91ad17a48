/- Printed by a program of ours: Lean functions that do what the Go functions do, and the contracts. -/
import Derived.Test.YtklchmkanhpeeaaMiC
import Derived.Test.YtklchmkanhpeeaaTypes
import Derived.Test.YtklchmkanhpeeaaMkForm
namespace Go.Am.Ytklchmkanhpeeaa
open Go Go.Am

set_option maxRecDepth 100000 in
theorem i_ruleOf_ex0 (i1 : Int) (h0' : i1 = 2) (O : Heap) (tk : Nat) : ACalls Go.Proofs.Try.prog 66 [.int .i64 i1] O tk (RetN O (.tup [.agg [.int .i64 2, .int .i64 2, .str ⟨#[97, 110, 100, 73]⟩, .fn (.func 71) [] [], .fn (.func 72) [] []], .bool true]) tk) := by
  refine acalls_of_run Go.Proofs.Try.func66 rfl rfl [] [] (Bor.nil _) [(0, .int .i64 i1)] (.cons (entS rfl) (.nil _)) (leb rfl) (fun _ h => by cases h) (fun S0 hO htk hfz => ?_)
  refine run_seq ?_
  refine run_region ?_
  refine run_op rfl (alloc_step (d := 2) hG rfl rfl rfl) rfl (ltb rfl) ?_
  refine run_pu rfl (move_step (.inr rfl) rfl) rfl (ltb rfl) ?_
  refine run_ops_nil ?_
  refine run_seq ?_
  refine run_region ?_
  refine run_pu rfl (move_step (.inr rfl) rfl) rfl (ltb rfl) ?_
  refine run_ops_nil ?_
  refine run_seq ?_
  refine run_region ?_
  refine run_pu rfl (move_step (.inr rfl) rfl) rfl (ltb rfl) ?_
  refine run_ops_nil ?_
  refine run_seq ?_
  refine run_region ?_
  refine run_pu rfl (move_step (.inr rfl) rfl) rfl (ltb rfl) ?_
  refine run_ops_nil ?_
  refine run_seq ?_
  refine run_seq ?_
  refine run_region ?_
  refine run_pu rfl (move_step (.inl rfl) rfl) rfl (ltb rfl) ?_
  refine run_ops_nil ?_
  refine run_block ?_
  refine run_seq ?_
  refine run_region ?_
  refine run_pu rfl (abin_step rfl rfl rfl rfl (fun _ h => by cases h)) rfl (ltb rfl) ?_
  refine run_pu rfl (move_step (.inr rfl) rfl) rfl (ltb rfl) ?_
  refine run_ops_nil ?_
  refine run_ifd rfl rfl (fun _ => ?_) (fun h => absurd h0' h)
  refine run_seq ?_
  refine run_region ?_
  refine run_pu rfl (build_step hG rfl (by rfl) rfl (fun h => by cases h) (by rfl)) rfl (ltb rfl) ?_
  refine run_op0 rfl (store_step hG rfl rfl rfl rfl rfl rfl rfl rfl) rfl ?_
  refine run_pu rfl (move_step (.inr rfl) rfl) rfl (ltb rfl) ?_
  refine run_ops_nil ?_
  refine run_ret_to ?_
  refine fin_x hG rfl rfl rfl (v' := .tup [.agg [.int .i64 2, .int .i64 2, .str ⟨#[97, 110, 100, 73]⟩, .fn (.func 71) [] [], .fn (.func 72) [] []], .bool true]) (by rfl) ⟨rfl, rfl, rfl⟩

set_option maxRecDepth 100000 in
theorem i_ruleOf_ex1 (i1 : Int) (h0' : ¬ (i1 = 2)) (h1' : i1 = 3) (O : Heap) (tk : Nat) : ACalls Go.Proofs.Try.prog 66 [.int .i64 i1] O tk (RetN O (.tup [.agg [.int .i64 2, .int .i64 1, .str ⟨#[102, 115, 116]⟩, .fn (.func 67) [] [], .fn (.func 69) [] []], .bool true]) tk) := by
  refine acalls_of_run Go.Proofs.Try.func66 rfl rfl [] [] (Bor.nil _) [(0, .int .i64 i1)] (.cons (entS rfl) (.nil _)) (leb rfl) (fun _ h => by cases h) (fun S0 hO htk hfz => ?_)
  refine run_seq ?_
  refine run_region ?_
  refine run_op rfl (alloc_step (d := 2) hG rfl rfl rfl) rfl (ltb rfl) ?_
  refine run_pu rfl (move_step (.inr rfl) rfl) rfl (ltb rfl) ?_
  refine run_ops_nil ?_
  refine run_seq ?_
  refine run_region ?_
  refine run_pu rfl (move_step (.inr rfl) rfl) rfl (ltb rfl) ?_
  refine run_ops_nil ?_
  refine run_seq ?_
  refine run_region ?_
  refine run_pu rfl (move_step (.inr rfl) rfl) rfl (ltb rfl) ?_
  refine run_ops_nil ?_
  refine run_seq ?_
  refine run_region ?_
  refine run_pu rfl (move_step (.inr rfl) rfl) rfl (ltb rfl) ?_
  refine run_ops_nil ?_
  refine run_seq ?_
  refine run_seq ?_
  refine run_region ?_
  refine run_pu rfl (move_step (.inl rfl) rfl) rfl (ltb rfl) ?_
  refine run_ops_nil ?_
  refine run_block ?_
  refine run_seq ?_
  refine run_region ?_
  refine run_pu rfl (abin_step rfl rfl rfl rfl (fun _ h => by cases h)) rfl (ltb rfl) ?_
  refine run_pu rfl (move_step (.inr rfl) rfl) rfl (ltb rfl) ?_
  refine run_ops_nil ?_
  refine run_ifd rfl rfl (fun h => absurd h h0') (fun _ => ?_)
  refine run_seq ?_
  refine run_region ?_
  refine run_pu rfl (abin_step rfl rfl rfl rfl (fun _ h => by cases h)) rfl (ltb rfl) ?_
  refine run_pu rfl (move_step (.inr rfl) rfl) rfl (ltb rfl) ?_
  refine run_ops_nil ?_
  refine run_ifd rfl rfl (fun _ => ?_) (fun h => absurd h1' h)
  refine run_seq ?_
  refine run_region ?_
  refine run_pu rfl (move_step (.inl rfl) rfl) rfl (ltb rfl) ?_
  refine run_pu rfl (move_step (.inl rfl) rfl) rfl (ltb rfl) ?_
  refine run_pu rfl (build_step hG rfl (by rfl) rfl (fun h => by cases h) (by rfl)) rfl (ltb rfl) ?_
  refine run_op0 rfl (store_step hG rfl rfl rfl rfl rfl rfl rfl rfl) rfl ?_
  refine run_pu rfl (move_step (.inr rfl) rfl) rfl (ltb rfl) ?_
  refine run_ops_nil ?_
  refine run_ret_to ?_
  refine fin_x hG rfl rfl rfl (v' := .tup [.agg [.int .i64 2, .int .i64 1, .str ⟨#[102, 115, 116]⟩, .fn (.func 67) [] [], .fn (.func 69) [] []], .bool true]) (by rfl) ⟨rfl, rfl, rfl⟩

set_option maxRecDepth 100000 in
theorem i_ruleOf_ex2 (i1 : Int) (h0' : ¬ (i1 = 2)) (h1' : ¬ (i1 = 3)) (h2' : i1 = 4) (O : Heap) (tk : Nat) : ACalls Go.Proofs.Try.prog 66 [.int .i64 i1] O tk (RetN O (.tup [.agg [.int .i64 2, .int .i64 1, .str ⟨#[115, 110, 100]⟩, .fn (.func 67) [] [], .fn (.func 70) [] []], .bool true]) tk) := by
  refine acalls_of_run Go.Proofs.Try.func66 rfl rfl [] [] (Bor.nil _) [(0, .int .i64 i1)] (.cons (entS rfl) (.nil _)) (leb rfl) (fun _ h => by cases h) (fun S0 hO htk hfz => ?_)
  refine run_seq ?_
  refine run_region ?_
  refine run_op rfl (alloc_step (d := 2) hG rfl rfl rfl) rfl (ltb rfl) ?_
  refine run_pu rfl (move_step (.inr rfl) rfl) rfl (ltb rfl) ?_
  refine run_ops_nil ?_
  refine run_seq ?_
  refine run_region ?_
  refine run_pu rfl (move_step (.inr rfl) rfl) rfl (ltb rfl) ?_
  refine run_ops_nil ?_
  refine run_seq ?_
  refine run_region ?_
  refine run_pu rfl (move_step (.inr rfl) rfl) rfl (ltb rfl) ?_
  refine run_ops_nil ?_
  refine run_seq ?_
  refine run_region ?_
  refine run_pu rfl (move_step (.inr rfl) rfl) rfl (ltb rfl) ?_
  refine run_ops_nil ?_
  refine run_seq ?_
  refine run_seq ?_
  refine run_region ?_
  refine run_pu rfl (move_step (.inl rfl) rfl) rfl (ltb rfl) ?_
  refine run_ops_nil ?_
  refine run_block ?_
  refine run_seq ?_
  refine run_region ?_
  refine run_pu rfl (abin_step rfl rfl rfl rfl (fun _ h => by cases h)) rfl (ltb rfl) ?_
  refine run_pu rfl (move_step (.inr rfl) rfl) rfl (ltb rfl) ?_
  refine run_ops_nil ?_
  refine run_ifd rfl rfl (fun h => absurd h h0') (fun _ => ?_)
  refine run_seq ?_
  refine run_region ?_
  refine run_pu rfl (abin_step rfl rfl rfl rfl (fun _ h => by cases h)) rfl (ltb rfl) ?_
  refine run_pu rfl (move_step (.inr rfl) rfl) rfl (ltb rfl) ?_
  refine run_ops_nil ?_
  refine run_ifd rfl rfl (fun h => absurd h h1') (fun _ => ?_)
  refine run_seq ?_
  refine run_region ?_
  refine run_pu rfl (abin_step rfl rfl rfl rfl (fun _ h => by cases h)) rfl (ltb rfl) ?_
  refine run_pu rfl (move_step (.inr rfl) rfl) rfl (ltb rfl) ?_
  refine run_ops_nil ?_
  refine run_ifd rfl rfl (fun _ => ?_) (fun h => absurd h2' h)
  refine run_seq ?_
  refine run_region ?_
  refine run_pu rfl (move_step (.inl rfl) rfl) rfl (ltb rfl) ?_
  refine run_pu rfl (move_step (.inl rfl) rfl) rfl (ltb rfl) ?_
  refine run_pu rfl (build_step hG rfl (by rfl) rfl (fun h => by cases h) (by rfl)) rfl (ltb rfl) ?_
  refine run_op0 rfl (store_step hG rfl rfl rfl rfl rfl rfl rfl rfl) rfl ?_
  refine run_pu rfl (move_step (.inr rfl) rfl) rfl (ltb rfl) ?_
  refine run_ops_nil ?_
  refine run_ret_to ?_
  refine fin_x hG rfl rfl rfl (v' := .tup [.agg [.int .i64 2, .int .i64 1, .str ⟨#[115, 110, 100]⟩, .fn (.func 67) [] [], .fn (.func 70) [] []], .bool true]) (by rfl) ⟨rfl, rfl, rfl⟩

set_option maxRecDepth 100000 in
theorem i_ruleOf_ex3 (i1 : Int) (h0' : ¬ (i1 = 2)) (h1' : ¬ (i1 = 3)) (h2' : ¬ (i1 = 4)) (h3' : i1 = 5) (O : Heap) (tk : Nat) : ACalls Go.Proofs.Try.prog 66 [.int .i64 i1] O tk (RetN O (.tup [.agg [.int .i64 2, .int .i64 1, .str ⟨#[102, 117, 110, 73]⟩, .fn (.func 73) [] [], .fn (.func 74) [] []], .bool true]) tk) := by
  refine acalls_of_run Go.Proofs.Try.func66 rfl rfl [] [] (Bor.nil _) [(0, .int .i64 i1)] (.cons (entS rfl) (.nil _)) (leb rfl) (fun _ h => by cases h) (fun S0 hO htk hfz => ?_)
  refine run_seq ?_
  refine run_region ?_
  refine run_op rfl (alloc_step (d := 2) hG rfl rfl rfl) rfl (ltb rfl) ?_
  refine run_pu rfl (move_step (.inr rfl) rfl) rfl (ltb rfl) ?_
  refine run_ops_nil ?_
  refine run_seq ?_
  refine run_region ?_
  refine run_pu rfl (move_step (.inr rfl) rfl) rfl (ltb rfl) ?_
  refine run_ops_nil ?_
  refine run_seq ?_
  refine run_region ?_
  refine run_pu rfl (move_step (.inr rfl) rfl) rfl (ltb rfl) ?_
  refine run_ops_nil ?_
  refine run_seq ?_
  refine run_region ?_
  refine run_pu rfl (move_step (.inr rfl) rfl) rfl (ltb rfl) ?_
  refine run_ops_nil ?_
  refine run_seq ?_
  refine run_seq ?_
  refine run_region ?_
  refine run_pu rfl (move_step (.inl rfl) rfl) rfl (ltb rfl) ?_
  refine run_ops_nil ?_
  refine run_block ?_
  refine run_seq ?_
  refine run_region ?_
  refine run_pu rfl (abin_step rfl rfl rfl rfl (fun _ h => by cases h)) rfl (ltb rfl) ?_
  refine run_pu rfl (move_step (.inr rfl) rfl) rfl (ltb rfl) ?_
  refine run_ops_nil ?_
  refine run_ifd rfl rfl (fun h => absurd h h0') (fun _ => ?_)
  refine run_seq ?_
  refine run_region ?_
  refine run_pu rfl (abin_step rfl rfl rfl rfl (fun _ h => by cases h)) rfl (ltb rfl) ?_
  refine run_pu rfl (move_step (.inr rfl) rfl) rfl (ltb rfl) ?_
  refine run_ops_nil ?_
  refine run_ifd rfl rfl (fun h => absurd h h1') (fun _ => ?_)
  refine run_seq ?_
  refine run_region ?_
  refine run_pu rfl (abin_step rfl rfl rfl rfl (fun _ h => by cases h)) rfl (ltb rfl) ?_
  refine run_pu rfl (move_step (.inr rfl) rfl) rfl (ltb rfl) ?_
  refine run_ops_nil ?_
  refine run_ifd rfl rfl (fun h => absurd h h2') (fun _ => ?_)
  refine run_seq ?_
  refine run_region ?_
  refine run_pu rfl (abin_step rfl rfl rfl rfl (fun _ h => by cases h)) rfl (ltb rfl) ?_
  refine run_pu rfl (move_step (.inr rfl) rfl) rfl (ltb rfl) ?_
  refine run_ops_nil ?_
  refine run_ifd rfl rfl (fun _ => ?_) (fun h => absurd h3' h)
  refine run_seq ?_
  refine run_region ?_
  refine run_pu rfl (build_step hG rfl (by rfl) rfl (fun h => by cases h) (by rfl)) rfl (ltb rfl) ?_
  refine run_op0 rfl (store_step hG rfl rfl rfl rfl rfl rfl rfl rfl) rfl ?_
  refine run_pu rfl (move_step (.inr rfl) rfl) rfl (ltb rfl) ?_
  refine run_ops_nil ?_
  refine run_ret_to ?_
  refine fin_x hG rfl rfl rfl (v' := .tup [.agg [.int .i64 2, .int .i64 1, .str ⟨#[102, 117, 110, 73]⟩, .fn (.func 73) [] [], .fn (.func 74) [] []], .bool true]) (by rfl) ⟨rfl, rfl, rfl⟩

set_option maxRecDepth 100000 in
theorem i_ruleOf_ex4 (i1 : Int) (h0' : ¬ (i1 = 2)) (h1' : ¬ (i1 = 3)) (h2' : ¬ (i1 = 4)) (h3' : ¬ (i1 = 5)) (h4' : i1 = 6) (O : Heap) (tk : Nat) : ACalls Go.Proofs.Try.prog 66 [.int .i64 i1] O tk (RetN O (.tup [.agg [.int .i64 2, .int .i64 2, .str ⟨#[117, 115, 101]⟩, .fn (.func 76) [] [], .fn (.func 70) [] []], .bool true]) tk) := by
  refine acalls_of_run Go.Proofs.Try.func66 rfl rfl [] [] (Bor.nil _) [(0, .int .i64 i1)] (.cons (entS rfl) (.nil _)) (leb rfl) (fun _ h => by cases h) (fun S0 hO htk hfz => ?_)
  refine run_seq ?_
  refine run_region ?_
  refine run_op rfl (alloc_step (d := 2) hG rfl rfl rfl) rfl (ltb rfl) ?_
  refine run_pu rfl (move_step (.inr rfl) rfl) rfl (ltb rfl) ?_
  refine run_ops_nil ?_
  refine run_seq ?_
  refine run_region ?_
  refine run_pu rfl (move_step (.inr rfl) rfl) rfl (ltb rfl) ?_
  refine run_ops_nil ?_
  refine run_seq ?_
  refine run_region ?_
  refine run_pu rfl (move_step (.inr rfl) rfl) rfl (ltb rfl) ?_
  refine run_ops_nil ?_
  refine run_seq ?_
  refine run_region ?_
  refine run_pu rfl (move_step (.inr rfl) rfl) rfl (ltb rfl) ?_
  refine run_ops_nil ?_
  refine run_seq ?_
  refine run_seq ?_
  refine run_region ?_
  refine run_pu rfl (move_step (.inl rfl) rfl) rfl (ltb rfl) ?_
  refine run_ops_nil ?_
  refine run_block ?_
  refine run_seq ?_
  refine run_region ?_
  refine run_pu rfl (abin_step rfl rfl rfl rfl (fun _ h => by cases h)) rfl (ltb rfl) ?_
  refine run_pu rfl (move_step (.inr rfl) rfl) rfl (ltb rfl) ?_
  refine run_ops_nil ?_
  refine run_ifd rfl rfl (fun h => absurd h h0') (fun _ => ?_)
  refine run_seq ?_
  refine run_region ?_
  refine run_pu rfl (abin_step rfl rfl rfl rfl (fun _ h => by cases h)) rfl (ltb rfl) ?_
  refine run_pu rfl (move_step (.inr rfl) rfl) rfl (ltb rfl) ?_
  refine run_ops_nil ?_
  refine run_ifd rfl rfl (fun h => absurd h h1') (fun _ => ?_)
  refine run_seq ?_
  refine run_region ?_
  refine run_pu rfl (abin_step rfl rfl rfl rfl (fun _ h => by cases h)) rfl (ltb rfl) ?_
  refine run_pu rfl (move_step (.inr rfl) rfl) rfl (ltb rfl) ?_
  refine run_ops_nil ?_
  refine run_ifd rfl rfl (fun h => absurd h h2') (fun _ => ?_)
  refine run_seq ?_
  refine run_region ?_
  refine run_pu rfl (abin_step rfl rfl rfl rfl (fun _ h => by cases h)) rfl (ltb rfl) ?_
  refine run_pu rfl (move_step (.inr rfl) rfl) rfl (ltb rfl) ?_
  refine run_ops_nil ?_
  refine run_ifd rfl rfl (fun h => absurd h h3') (fun _ => ?_)
  refine run_seq ?_
  refine run_region ?_
  refine run_pu rfl (abin_step rfl rfl rfl rfl (fun _ h => by cases h)) rfl (ltb rfl) ?_
  refine run_pu rfl (move_step (.inr rfl) rfl) rfl (ltb rfl) ?_
  refine run_ops_nil ?_
  refine run_ifd rfl rfl (fun _ => ?_) (fun h => absurd h4' h)
  refine run_seq ?_
  refine run_region ?_
  refine run_pu rfl (move_step (.inl rfl) rfl) rfl (ltb rfl) ?_
  refine run_pu rfl (build_step hG rfl (by rfl) rfl (fun h => by cases h) (by rfl)) rfl (ltb rfl) ?_
  refine run_op0 rfl (store_step hG rfl rfl rfl rfl rfl rfl rfl rfl) rfl ?_
  refine run_pu rfl (move_step (.inr rfl) rfl) rfl (ltb rfl) ?_
  refine run_ops_nil ?_
  refine run_ret_to ?_
  refine fin_x hG rfl rfl rfl (v' := .tup [.agg [.int .i64 2, .int .i64 2, .str ⟨#[117, 115, 101]⟩, .fn (.func 76) [] [], .fn (.func 70) [] []], .bool true]) (by rfl) ⟨rfl, rfl, rfl⟩

set_option maxRecDepth 100000 in
theorem i_ruleOf_ex5 (i1 : Int) (h0' : ¬ (i1 = 2)) (h1' : ¬ (i1 = 3)) (h2' : ¬ (i1 = 4)) (h3' : ¬ (i1 = 5)) (h4' : ¬ (i1 = 6)) (h5' : i1 = 7) (O : Heap) (tk : Nat) : ACalls Go.Proofs.Try.prog 66 [.int .i64 i1] O tk (RetN O (.tup [.agg [.int .i64 1, .int .i64 1, .str ⟨#[98, 111, 116, 69]⟩, .fn (.func 77) [] [], .fn (.func 69) [] []], .bool true]) tk) := by
  refine acalls_of_run Go.Proofs.Try.func66 rfl rfl [] [] (Bor.nil _) [(0, .int .i64 i1)] (.cons (entS rfl) (.nil _)) (leb rfl) (fun _ h => by cases h) (fun S0 hO htk hfz => ?_)
  refine run_seq ?_
  refine run_region ?_
  refine run_op rfl (alloc_step (d := 2) hG rfl rfl rfl) rfl (ltb rfl) ?_
  refine run_pu rfl (move_step (.inr rfl) rfl) rfl (ltb rfl) ?_
  refine run_ops_nil ?_
  refine run_seq ?_
  refine run_region ?_
  refine run_pu rfl (move_step (.inr rfl) rfl) rfl (ltb rfl) ?_
  refine run_ops_nil ?_
  refine run_seq ?_
  refine run_region ?_
  refine run_pu rfl (move_step (.inr rfl) rfl) rfl (ltb rfl) ?_
  refine run_ops_nil ?_
  refine run_seq ?_
  refine run_region ?_
  refine run_pu rfl (move_step (.inr rfl) rfl) rfl (ltb rfl) ?_
  refine run_ops_nil ?_
  refine run_seq ?_
  refine run_seq ?_
  refine run_region ?_
  refine run_pu rfl (move_step (.inl rfl) rfl) rfl (ltb rfl) ?_
  refine run_ops_nil ?_
  refine run_block ?_
  refine run_seq ?_
  refine run_region ?_
  refine run_pu rfl (abin_step rfl rfl rfl rfl (fun _ h => by cases h)) rfl (ltb rfl) ?_
  refine run_pu rfl (move_step (.inr rfl) rfl) rfl (ltb rfl) ?_
  refine run_ops_nil ?_
  refine run_ifd rfl rfl (fun h => absurd h h0') (fun _ => ?_)
  refine run_seq ?_
  refine run_region ?_
  refine run_pu rfl (abin_step rfl rfl rfl rfl (fun _ h => by cases h)) rfl (ltb rfl) ?_
  refine run_pu rfl (move_step (.inr rfl) rfl) rfl (ltb rfl) ?_
  refine run_ops_nil ?_
  refine run_ifd rfl rfl (fun h => absurd h h1') (fun _ => ?_)
  refine run_seq ?_
  refine run_region ?_
  refine run_pu rfl (abin_step rfl rfl rfl rfl (fun _ h => by cases h)) rfl (ltb rfl) ?_
  refine run_pu rfl (move_step (.inr rfl) rfl) rfl (ltb rfl) ?_
  refine run_ops_nil ?_
  refine run_ifd rfl rfl (fun h => absurd h h2') (fun _ => ?_)
  refine run_seq ?_
  refine run_region ?_
  refine run_pu rfl (abin_step rfl rfl rfl rfl (fun _ h => by cases h)) rfl (ltb rfl) ?_
  refine run_pu rfl (move_step (.inr rfl) rfl) rfl (ltb rfl) ?_
  refine run_ops_nil ?_
  refine run_ifd rfl rfl (fun h => absurd h h3') (fun _ => ?_)
  refine run_seq ?_
  refine run_region ?_
  refine run_pu rfl (abin_step rfl rfl rfl rfl (fun _ h => by cases h)) rfl (ltb rfl) ?_
  refine run_pu rfl (move_step (.inr rfl) rfl) rfl (ltb rfl) ?_
  refine run_ops_nil ?_
  refine run_ifd rfl rfl (fun h => absurd h h4') (fun _ => ?_)
  refine run_seq ?_
  refine run_region ?_
  refine run_pu rfl (abin_step rfl rfl rfl rfl (fun _ h => by cases h)) rfl (ltb rfl) ?_
  refine run_pu rfl (move_step (.inr rfl) rfl) rfl (ltb rfl) ?_
  refine run_ops_nil ?_
  refine run_ifd rfl rfl (fun _ => ?_) (fun h => absurd h5' h)
  refine run_seq ?_
  refine run_region ?_
  refine run_pu rfl (move_step (.inl rfl) rfl) rfl (ltb rfl) ?_
  refine run_pu rfl (build_step hG rfl (by rfl) rfl (fun h => by cases h) (by rfl)) rfl (ltb rfl) ?_
  refine run_op0 rfl (store_step hG rfl rfl rfl rfl rfl rfl rfl rfl) rfl ?_
  refine run_pu rfl (move_step (.inr rfl) rfl) rfl (ltb rfl) ?_
  refine run_ops_nil ?_
  refine run_ret_to ?_
  refine fin_x hG rfl rfl rfl (v' := .tup [.agg [.int .i64 1, .int .i64 1, .str ⟨#[98, 111, 116, 69]⟩, .fn (.func 77) [] [], .fn (.func 69) [] []], .bool true]) (by rfl) ⟨rfl, rfl, rfl⟩

set_option maxRecDepth 100000 in
theorem i_ruleOf_ex6 (i1 : Int) (h0' : ¬ (i1 = 2)) (h1' : ¬ (i1 = 3)) (h2' : ¬ (i1 = 4)) (h3' : ¬ (i1 = 5)) (h4' : ¬ (i1 = 6)) (h5' : ¬ (i1 = 7)) (O : Heap) (tk : Nat) : ACalls Go.Proofs.Try.prog 66 [.int .i64 i1] O tk (RetN O (.tup [.agg [.int .i64 0, .int .i64 0, .str ⟨#[]⟩, .nilfn, .nilfn], .bool false]) tk) := by
  refine acalls_of_run Go.Proofs.Try.func66 rfl rfl [] [] (Bor.nil _) [(0, .int .i64 i1)] (.cons (entS rfl) (.nil _)) (leb rfl) (fun _ h => by cases h) (fun S0 hO htk hfz => ?_)
  refine run_seq ?_
  refine run_region ?_
  refine run_op rfl (alloc_step (d := 2) hG rfl rfl rfl) rfl (ltb rfl) ?_
  refine run_pu rfl (move_step (.inr rfl) rfl) rfl (ltb rfl) ?_
  refine run_ops_nil ?_
  refine run_seq ?_
  refine run_region ?_
  refine run_pu rfl (move_step (.inr rfl) rfl) rfl (ltb rfl) ?_
  refine run_ops_nil ?_
  refine run_seq ?_
  refine run_region ?_
  refine run_pu rfl (move_step (.inr rfl) rfl) rfl (ltb rfl) ?_
  refine run_ops_nil ?_
  refine run_seq ?_
  refine run_region ?_
  refine run_pu rfl (move_step (.inr rfl) rfl) rfl (ltb rfl) ?_
  refine run_ops_nil ?_
  refine run_seq ?_
  refine run_seq ?_
  refine run_region ?_
  refine run_pu rfl (move_step (.inl rfl) rfl) rfl (ltb rfl) ?_
  refine run_ops_nil ?_
  refine run_block ?_
  refine run_seq ?_
  refine run_region ?_
  refine run_pu rfl (abin_step rfl rfl rfl rfl (fun _ h => by cases h)) rfl (ltb rfl) ?_
  refine run_pu rfl (move_step (.inr rfl) rfl) rfl (ltb rfl) ?_
  refine run_ops_nil ?_
  refine run_ifd rfl rfl (fun h => absurd h h0') (fun _ => ?_)
  refine run_seq ?_
  refine run_region ?_
  refine run_pu rfl (abin_step rfl rfl rfl rfl (fun _ h => by cases h)) rfl (ltb rfl) ?_
  refine run_pu rfl (move_step (.inr rfl) rfl) rfl (ltb rfl) ?_
  refine run_ops_nil ?_
  refine run_ifd rfl rfl (fun h => absurd h h1') (fun _ => ?_)
  refine run_seq ?_
  refine run_region ?_
  refine run_pu rfl (abin_step rfl rfl rfl rfl (fun _ h => by cases h)) rfl (ltb rfl) ?_
  refine run_pu rfl (move_step (.inr rfl) rfl) rfl (ltb rfl) ?_
  refine run_ops_nil ?_
  refine run_ifd rfl rfl (fun h => absurd h h2') (fun _ => ?_)
  refine run_seq ?_
  refine run_region ?_
  refine run_pu rfl (abin_step rfl rfl rfl rfl (fun _ h => by cases h)) rfl (ltb rfl) ?_
  refine run_pu rfl (move_step (.inr rfl) rfl) rfl (ltb rfl) ?_
  refine run_ops_nil ?_
  refine run_ifd rfl rfl (fun h => absurd h h3') (fun _ => ?_)
  refine run_seq ?_
  refine run_region ?_
  refine run_pu rfl (abin_step rfl rfl rfl rfl (fun _ h => by cases h)) rfl (ltb rfl) ?_
  refine run_pu rfl (move_step (.inr rfl) rfl) rfl (ltb rfl) ?_
  refine run_ops_nil ?_
  refine run_ifd rfl rfl (fun h => absurd h h4') (fun _ => ?_)
  refine run_seq ?_
  refine run_region ?_
  refine run_pu rfl (abin_step rfl rfl rfl rfl (fun _ h => by cases h)) rfl (ltb rfl) ?_
  refine run_pu rfl (move_step (.inr rfl) rfl) rfl (ltb rfl) ?_
  refine run_ops_nil ?_
  refine run_ifd rfl rfl (fun h => absurd h h5') (fun _ => ?_)
  refine run_skip ?_
  refine run_blk ?_
  refine run_seq ?_
  refine run_region ?_
  refine run_pu rfl (build_step hG rfl (by rfl) rfl (fun h => by cases h) (by rfl)) rfl (ltb rfl) ?_
  refine run_op0 rfl (store_step hG rfl rfl rfl rfl rfl rfl rfl rfl) rfl ?_
  refine run_pu rfl (move_step (.inr rfl) rfl) rfl (ltb rfl) ?_
  refine run_ops_nil ?_
  refine run_ret_to ?_
  refine fin_x hG rfl rfl rfl (v' := .tup [.agg [.int .i64 0, .int .i64 0, .str ⟨#[]⟩, .nilfn, .nilfn], .bool false]) (by rfl) ⟨rfl, rfl, rfl⟩

def i_looker_proof_L2 (rec_i_looker_proof : (Int × Bool) → Pf → Option (Bool × (Int × Bool))) (x4 : Pf) : Nat → Int → Int → Bool → Option (Bool × (Int × Bool))
  | 0, _, _, _ => none
  | m + 1, i54, i55, b56 =>
    if i54 < ((x4.kids).length : Int) then
      (idx x4.kids i54).bind fun y58 =>
      (rec_i_looker_proof (i55, b56) y58).bind fun r63 =>
      if (!r63.1) = true then
        some (false, (r63.2.1, r63.2.2))
      else
        i_looker_proof_L2 rec_i_looker_proof x4 m (IntKind.i64.wrap (i54 + 1)) r63.2.1 r63.2.2
    else
      some (true, (i55, b56))

def i_looker_proof_L1 (rec_i_looker_proof : (Int × Bool) → Pf → Option (Bool × (Int × Bool))) (n : Nat) (x4 : Pf) : Nat → Int → Int → Bool → Option (Bool × (Int × Bool))
  | 0, _, _, _ => none
  | m + 1, i34, i35, b36 =>
    if i34 < ((x4.forms).length : Int) then
      (idx x4.forms i34).bind fun y38 =>
      (i_looker_form n (i35, b36) y38).bind fun r43 =>
      if (!r43.1) = true then
        some (false, (r43.2.1, r43.2.2))
      else
        i_looker_proof_L1 rec_i_looker_proof n x4 m (IntKind.i64.wrap (i34 + 1)) r43.2.1 r43.2.2
    else
      i_looker_proof_L2 rec_i_looker_proof x4 n 0 i35 b36

def i_looker_proof : Nat → (Int × Bool) → Pf → Option (Bool × (Int × Bool))
  | 0, _, _ => none
  | n + 1, z1, x4 =>
    (i_looker_node (z1.1, z1.2)).bind fun r5 =>
    if (!r5.1) = true then
      some (false, (r5.2.1, r5.2.2))
    else
      if x4.kind = 1 then
        jn (fun (b18 : Bool) =>
          some (b18, (r5.2.1, r5.2.2))) fun j17 =>
        (i_in x4.n 0 100).bind fun r19 =>
        if r19 = true then
          if ((x4.forms).length : Int) = 0 then
            j17 (((x4.kids).length : Int) == 0)
          else
            j17 false
        else
          j17 false
      else
        if x4.kind = 2 then
          if (x4.n != 0) = true then
            some (false, (r5.2.1, r5.2.2))
          else
            if (((x4.forms).length : Int) != 2) = true then
              some (false, (r5.2.1, r5.2.2))
            else
              if (((x4.kids).length : Int) != 2) = true then
                some (false, (r5.2.1, r5.2.2))
              else
                i_looker_proof_L1 (i_looker_proof n) n x4 n 0 r5.2.1 r5.2.2
        else
          if x4.kind = 3 then
            if (x4.n != 0) = true then
              some (false, (r5.2.1, r5.2.2))
            else
              if (((x4.forms).length : Int) != 2) = true then
                some (false, (r5.2.1, r5.2.2))
              else
                if (((x4.kids).length : Int) != 1) = true then
                  some (false, (r5.2.1, r5.2.2))
                else
                  i_looker_proof_L1 (i_looker_proof n) n x4 n 0 r5.2.1 r5.2.2
          else
            if x4.kind = 4 then
              if (x4.n != 0) = true then
                some (false, (r5.2.1, r5.2.2))
              else
                if (((x4.forms).length : Int) != 2) = true then
                  some (false, (r5.2.1, r5.2.2))
                else
                  if (((x4.kids).length : Int) != 1) = true then
                    some (false, (r5.2.1, r5.2.2))
                  else
                    i_looker_proof_L1 (i_looker_proof n) n x4 n 0 r5.2.1 r5.2.2
            else
              if x4.kind = 5 then
                if (x4.n != 0) = true then
                  some (false, (r5.2.1, r5.2.2))
                else
                  if (((x4.forms).length : Int) != 2) = true then
                    some (false, (r5.2.1, r5.2.2))
                  else
                    if (((x4.kids).length : Int) != 1) = true then
                      some (false, (r5.2.1, r5.2.2))
                    else
                      i_looker_proof_L1 (i_looker_proof n) n x4 n 0 r5.2.1 r5.2.2
              else
                if x4.kind = 6 then
                  if (x4.n != 0) = true then
                    some (false, (r5.2.1, r5.2.2))
                  else
                    if (((x4.forms).length : Int) != 2) = true then
                      some (false, (r5.2.1, r5.2.2))
                    else
                      if (((x4.kids).length : Int) != 2) = true then
                        some (false, (r5.2.1, r5.2.2))
                      else
                        i_looker_proof_L1 (i_looker_proof n) n x4 n 0 r5.2.1 r5.2.2
                else
                  if x4.kind = 7 then
                    if (x4.n != 0) = true then
                      some (false, (r5.2.1, r5.2.2))
                    else
                      if (((x4.forms).length : Int) != 1) = true then
                        some (false, (r5.2.1, r5.2.2))
                      else
                        if (((x4.kids).length : Int) != 1) = true then
                          some (false, (r5.2.1, r5.2.2))
                        else
                          i_looker_proof_L1 (i_looker_proof n) n x4 n 0 r5.2.1 r5.2.2
                  else
                    some (false, (r5.2.1, r5.2.2))

set_option maxRecDepth 100000 in
theorem i_looker_proof_st (n : Nat) (ih_i_looker_proof : ∀ (X0 : ID) (i2 : Int) (b3 : Bool) (k4 : Int) (n4 : Int) (p4 : Nat) (e4 : Bool) (fs4 : List LF) (q4 : Nat) (f4 : Bool) (ks4 : List LP) {r : (Bool × (Int × Bool))}, i_looker_proof n (i2, b3) (Pf.mk k4 n4 (fers fs4) (pers ks4)) = some r → ∀ (O : Heap) (tk : Nat), O X0 = some ⟨101, 2, true, [[.int .i64 i2, .bool b3]]⟩ → ACalls Go.Proofs.Try.prog 61 [.optr X0 0 0, .agg [.int .i64 k4, .int .i64 n4, .imm p4 3 e4 (fcellss fs4), .imm q4 4 f4 (pcellss ks4)]] O tk (RetV O X0 tk (fun v o' tk' => ∃ r0', ∃ (c0 : Int) (c1 : Bool) , r = (r0', (c0, c1)) ∧ o' = ⟨101, 2, true, [[.int .i64 c0, .bool c1]]⟩ ∧ v = .bool r0'))) : ∀ (X0 : ID) (i2 : Int) (b3 : Bool) (k4 : Int) (n4 : Int) (p4 : Nat) (e4 : Bool) (fs4 : List LF) (q4 : Nat) (f4 : Bool) (ks4 : List LP) {r : (Bool × (Int × Bool))}, i_looker_proof (n + 1) (i2, b3) (Pf.mk k4 n4 (fers fs4) (pers ks4)) = some r → ∀ (O : Heap) (tk : Nat), O X0 = some ⟨101, 2, true, [[.int .i64 i2, .bool b3]]⟩ → ACalls Go.Proofs.Try.prog 61 [.optr X0 0 0, .agg [.int .i64 k4, .int .i64 n4, .imm p4 3 e4 (fcellss fs4), .imm q4 4 f4 (pcellss ks4)]] O tk (RetV O X0 tk (fun v o' tk' => ∃ r0', ∃ (c0 : Int) (c1 : Bool) , r = (r0', (c0, c1)) ∧ o' = ⟨101, 2, true, [[.int .i64 c0, .bool c1]]⟩ ∧ v = .bool r0')) := by
  intro X0 i2 b3 k4 n4 p4 e4 fs4 q4 f4 ks4 r hM O tk hX0
  rw [i_looker_proof] at hM
  refine acalls_of_run Go.Proofs.Try.func61 rfl rfl [X0] [⟨101, 2, true, [[.int .i64 i2, .bool b3]]⟩] (Bor.one hX0 rfl) [(0, .optr (.bor 0) 0 0), (1, .agg [.int .i64 k4, .int .i64 n4, .imm p4 3 e4 (fcellss fs4), .imm q4 4 f4 (pcellss ks4)])] (.cons (.bor 0 _ _ _ rfl) (.cons (.agg _) (.nil _))) (leb rfl) (by intro y h; rw [List.mem_singleton] at h; subst h; simp [tch, tch0]) (fun S0 hO htk hfz => ?_)
  refine run_seq ?_
  refine run_region ?_
  refine run_op rfl (box_step (d := 3) rfl rfl rfl rfl rfl) rfl (ltb rfl) ?_
  refine run_pu rfl (move_step (.inr rfl) rfl) rfl (ltb rfl) ?_
  refine run_ops_nil ?_
  refine run_seq ?_
  refine run_seq ?_
  refine run_region ?_
  refine run_pu rfl (move_step (.inl rfl) rfl) rfl (ltb rfl) ?_
  obtain ⟨r5, hg6, hM⟩ := bind_t hM
  refine run_call rfl rfl rfl (ltb rfl) rfl rfl rfl (fun _ h => absurd h List.not_mem_nil) (i_looker_node_ok (.bor 0) i2 b3 hg6 _ _ rfl) (callK_retV_bor (k := 0) rfl (fun v o' tk' h => by obtain ⟨_, _, _, rfl, rfl, _⟩ := h; rfl) (fun v o' tk7 (hle8 : tk ≤ tk7) h9 => ?_))
  obtain ⟨ra14, c12, c13, rfl, rfl, rfl⟩ := h9
  refine run_pu rfl (aun_step rfl rfl rfl) rfl (ltb rfl) ?_
  refine run_ops_nil ?_
  refine run_ifb rfl rfl (fun hb15 => ?_) (fun hb15 => ?_)
  · replace hM := ite_t hb15 hM
    refine run_seq ?_
    refine run_region ?_
    refine run_pu rfl (move_step (.inr rfl) rfl) rfl (ltb rfl) ?_
    refine run_ops_nil ?_
    refine run_ret_to ?_
    obtain rfl := some_t hM
    refine fin_x hG rfl rfl rfl (v' := .bool false) (by rfl) ⟨_, ⟨101, 2, true, [[.int .i64 c12, .bool c13]]⟩, rfl, rfl, (show tk ≤ tk7 by omega), ⟨_, c12, c13, rfl, rfl, rfl⟩⟩
  · replace hM := ite_f hb15 hM
    refine run_skip ?_
    refine run_seq ?_
    refine run_seq ?_
    refine run_region ?_
    refine run_pu rfl (fieldAddr_step hG rfl rfl rfl rfl rfl) rfl (ltb rfl) ?_
    refine run_rd rfl (aload_rd hG rfl rfl rfl (by simp [ldok])) rfl (ltb rfl) ?_
    refine run_pu rfl (abin_step rfl rfl rfl rfl (fun _ h => by cases h)) rfl (ltb rfl) ?_
    refine run_ops_nil ?_
    refine run_ifd rfl rfl (fun hb16 => ?_) (fun hb16 => ?_)
    · replace hM := ite_t hb16 hM
      refine run_seq ?_
      obtain ⟨j17, hj29, hM⟩ := jn_t hM
      refine run_cutL [.code _] (fun σ' => ∃ (b18 : Bool) (tkj17 : Nat), tk7 ≤ tkj17 ∧ j17 b18 = some r ∧ Sub ⟨Go.Proofs.Try.prog, S0, Go.Proofs.Try.f61.ntmps, [X0]⟩ σ' ⟨[(0, .optr (.bor 0) 0 0), (3, .optr (.loc 3) 0 0), (4, .bool b18)], [(3, ⟨74, 4, true, [[.int .i64 k4, .int .i64 n4, .imm p4 3 e4 (fcellss fs4), .imm q4 4 f4 (pcellss ks4)]]⟩)], [⟨101, 2, true, [[.int .i64 c12, .bool c13]]⟩], O, tkj17⟩) rfl ?_ ?_
      · refine run_region ?_
        refine run_pu rfl (fieldAddr_step hG rfl rfl rfl rfl rfl) rfl (ltb rfl) ?_
        refine run_rd rfl (aload_rd hG rfl rfl rfl (by simp [ldok])) rfl (ltb rfl) ?_
        obtain ⟨r19, hg20, hM⟩ := bind_t hM
        refine run_call rfl rfl rfl (ltb rfl) rfl rfl rfl (fun _ h => absurd h List.not_mem_nil) (i_in_ok n4 0 100 hg20 _ _) (callK_retX (fun v tk21 (hle22 : tk7 ≤ tk21) h23 => ?_))
        subst h23
        refine run_pu rfl (move_step (.inl rfl) rfl) rfl (ltb rfl) ?_
        refine run_splitb (i := 20) rfl (fun hb26 => ?_) (fun hb26 => ?_)
        · replace hM := ite_t hb26 hM
          refine run_puG (on_of rfl rfl rfl rfl) (fieldAddr_step hG rfl rfl rfl rfl rfl) rfl (ltb rfl) ?_
          refine run_rdG (on_of rfl rfl rfl rfl) (aload_rd hG rfl rfl rfl (by simp [ldok])) rfl (ltb rfl) ?_
          refine run_puG (on_of rfl rfl rfl rfl) (lenImm_step hG rfl rfl rfl rfl (flen _)) rfl (ltb rfl) ?_
          refine run_puG (on_of rfl rfl rfl rfl) (abin_step rfl rfl rfl rfl (fun _ h => by cases h)) rfl (ltb rfl) ?_
          refine run_pu rfl (pick_step rfl rfl rfl) rfl (ltb rfl) ?_
          refine run_pu rfl (move_step (.inl rfl) rfl) rfl (ltb rfl) ?_
          refine run_splitd (i := 26) rfl (fun hb27 => ?_) (fun hb27 => ?_)
          · replace hM := ite_t hb27 hM
            refine run_puG (on_of rfl rfl rfl rfl) (fieldAddr_step hG rfl rfl rfl rfl rfl) rfl (ltb rfl) ?_
            refine run_rdG (on_of rfl rfl rfl rfl) (aload_rd hG rfl rfl rfl (by simp [ldok])) rfl (ltb rfl) ?_
            refine run_puG (on_of rfl rfl rfl rfl) (lenImm_step hG rfl rfl rfl rfl (plen _)) rfl (ltb rfl) ?_
            refine run_puG (on_of rfl rfl rfl rfl) (abin_step rfl rfl rfl rfl (fun _ h => by cases h)) rfl (ltb rfl) ?_
            refine run_pu rfl (pick_step rfl rfl rfl) rfl (ltb rfl) ?_
            refine run_pu rfl (move_step (.inr rfl) rfl) rfl (ltb rfl) ?_
            refine run_ops_nil ?_
            exact ⟨((((pers ks4)).length : Int) == 0), tk21, (show tk7 ≤ tk21 by omega), hM, Sub.env [(0, .optr (.bor 0) 0 0), (3, .optr (.loc 3) 0 0), (4, .bool ((((pers ks4)).length : Int) == 0))] ⟨rfl, rfl, rfl, trivial⟩⟩
          · replace hM := ite_f hb27 hM
            refine run_off (on_of rfl rfl rfl rfl) rfl (ltb rfl) ?_
            refine run_off (on_of rfl rfl rfl rfl) rfl (ltb rfl) ?_
            refine run_off (on_of rfl rfl rfl rfl) rfl (ltb rfl) ?_
            refine run_off (on_of rfl rfl rfl rfl) rfl (ltb rfl) ?_
            refine run_pu rfl (pick_step rfl rfl rfl) rfl (ltb rfl) ?_
            refine run_pu rfl (move_step (.inr rfl) rfl) rfl (ltb rfl) ?_
            refine run_ops_nil ?_
            exact ⟨false, tk21, (show tk7 ≤ tk21 by omega), hM, Sub.env [(0, .optr (.bor 0) 0 0), (3, .optr (.loc 3) 0 0), (4, .bool false)] ⟨rfl, rfl, rfl, trivial⟩⟩
        · replace hM := ite_f hb26 hM
          refine run_off (on_of rfl rfl rfl rfl) rfl (ltb rfl) ?_
          refine run_off (on_of rfl rfl rfl rfl) rfl (ltb rfl) ?_
          refine run_off (on_of rfl rfl rfl rfl) rfl (ltb rfl) ?_
          refine run_off (on_of rfl rfl rfl rfl) rfl (ltb rfl) ?_
          refine run_pu rfl (pick_step rfl rfl rfl) rfl (ltb rfl) ?_
          refine run_pu rfl (move_step (.inl rfl) rfl) rfl (ltb rfl) ?_
          refine run_off (on_of rfl rfl rfl rfl) rfl (ltb rfl) ?_
          refine run_off (on_of rfl rfl rfl rfl) rfl (ltb rfl) ?_
          refine run_off (on_of rfl rfl rfl rfl) rfl (ltb rfl) ?_
          refine run_off (on_of rfl rfl rfl rfl) rfl (ltb rfl) ?_
          refine run_pu rfl (pick_step rfl rfl rfl) rfl (ltb rfl) ?_
          refine run_pu rfl (move_step (.inr rfl) rfl) rfl (ltb rfl) ?_
          refine run_ops_nil ?_
          exact ⟨false, tk21, (show tk7 ≤ tk21 by omega), hM, Sub.env [(0, .optr (.bor 0) 0 0), (3, .optr (.loc 3) 0 0), (4, .bool false)] ⟨rfl, rfl, rfl, trivial⟩⟩
      · clear hM
        rintro σ' ⟨b18, tkj17, hle28, hM, hsub⟩
        rw [hj29] at hM
        clear hj29
        refine run_sub_code hsub ?_
        refine run_ret_to ?_
        obtain rfl := some_t hM
        refine fin_x hG rfl rfl rfl (v' := .bool b18) (by rfl) ⟨_, ⟨101, 2, true, [[.int .i64 c12, .bool c13]]⟩, rfl, rfl, (show tk ≤ tkj17 by omega), ⟨_, c12, c13, rfl, rfl, rfl⟩⟩
    · replace hM := ite_f hb16 hM
      refine run_skip ?_
      refine run_seq ?_
      refine run_region ?_
      refine run_pu rfl (fieldAddr_step hG rfl rfl rfl rfl rfl) rfl (ltb rfl) ?_
      refine run_rd rfl (aload_rd hG rfl rfl rfl (by simp [ldok])) rfl (ltb rfl) ?_
      by_cases hb30 : k4 = 2
      · replace hM := ite_t hb30 hM
        refine run_call rfl rfl rfl (ltb rfl) rfl rfl rfl (fun _ h => absurd h List.not_mem_nil) (i_ruleOf_ex0 k4 hb30 _ _) (callK_retN ?_)
        refine run_pu rfl (move_step (.inl rfl) rfl) rfl (ltb rfl) ?_
        refine run_pu rfl (extract_step rfl rfl rfl) rfl (ltb rfl) ?_
        refine run_pu rfl (extract_step rfl rfl rfl) rfl (ltb rfl) ?_
        refine run_op rfl (alloc_step (d := 5) hG rfl rfl rfl) rfl (ltb rfl) ?_
        refine run_op0 rfl (store_step hG rfl rfl rfl rfl rfl rfl rfl rfl) rfl ?_
        refine run_pu rfl (move_step (.inr rfl) rfl) rfl (ltb rfl) ?_
        refine run_ops_nil ?_
        refine run_sub_code (σ' := ⟨[(0, .optr (.bor 0) 0 0), (3, .optr (.loc 3) 0 0), (4, .bool false), (5, .optr (.loc 5) 0 0), (6, .bool true)], [(5, ⟨108, 5, true, [[.int .i64 2, .int .i64 2, .str ⟨#[97, 110, 100, 73]⟩, .fn (.func 71) [] [], .fn (.func 72) [] []]]⟩), (3, ⟨74, 4, true, [[.int .i64 k4, .int .i64 n4, .imm p4 3 e4 (fcellss fs4), .imm q4 4 f4 (pcellss ks4)]]⟩)], [⟨101, 2, true, [[.int .i64 c12, .bool c13]]⟩], O, tk7⟩) (Sub.env [(0, .optr (.bor 0) 0 0), (3, .optr (.loc 3) 0 0), (4, .bool false), (5, .optr (.loc 5) 0 0), (6, .bool true)] ⟨rfl, rfl, rfl, rfl, rfl, trivial⟩) ?_
        refine run_seq ?_
        refine run_seq ?_
        refine run_region ?_
        refine run_pu rfl (move_step (.inl rfl) rfl) rfl (ltb rfl) ?_
        refine run_pu rfl (aun_step rfl rfl rfl) rfl (ltb rfl) ?_
        refine run_pu rfl (move_step (.inl rfl) rfl) rfl (ltb rfl) ?_
        refine run_puG (on_of rfl rfl rfl rfl) (fieldAddr_step hG rfl rfl rfl rfl rfl) rfl (ltb rfl) ?_
        refine run_rdG (on_of rfl rfl rfl rfl) (aload_rd hG rfl rfl rfl (by simp [ldok])) rfl (ltb rfl) ?_
        refine run_puG (on_of rfl rfl rfl rfl) (abin_step rfl rfl rfl rfl (fun _ h => by cases h)) rfl (ltb rfl) ?_
        refine run_pu rfl (pick_step rfl rfl rfl) rfl (ltb rfl) ?_
        refine run_pu rfl (move_step (.inl rfl) rfl) rfl (ltb rfl) ?_
        refine run_splitb (i := 45) rfl (fun hb31 => ?_) (fun hb31 => ?_)
        · replace hM := ite_t hb31 hM
          refine run_off (on_of rfl rfl rfl rfl) rfl (ltb rfl) ?_
          refine run_off (on_of rfl rfl rfl rfl) rfl (ltb rfl) ?_
          refine run_off (on_of rfl rfl rfl rfl) rfl (ltb rfl) ?_
          refine run_off (on_of rfl rfl rfl rfl) rfl (ltb rfl) ?_
          refine run_off (on_of rfl rfl rfl rfl) rfl (ltb rfl) ?_
          refine run_off (on_of rfl rfl rfl rfl) rfl (ltb rfl) ?_
          refine run_pu rfl (pick_step rfl rfl rfl) rfl (ltb rfl) ?_
          refine run_pu rfl (move_step (.inl rfl) rfl) rfl (ltb rfl) ?_
          refine run_off (on_of rfl rfl rfl rfl) rfl (ltb rfl) ?_
          refine run_off (on_of rfl rfl rfl rfl) rfl (ltb rfl) ?_
          refine run_off (on_of rfl rfl rfl rfl) rfl (ltb rfl) ?_
          refine run_off (on_of rfl rfl rfl rfl) rfl (ltb rfl) ?_
          refine run_off (on_of rfl rfl rfl rfl) rfl (ltb rfl) ?_
          refine run_off (on_of rfl rfl rfl rfl) rfl (ltb rfl) ?_
          refine run_pu rfl (pick_step rfl rfl rfl) rfl (ltb rfl) ?_
          refine run_ops_nil ?_
          refine run_if rfl rfl (fun _ => ?_) (fun h => by cases h)
          refine run_seq ?_
          refine run_region ?_
          refine run_pu rfl (move_step (.inr rfl) rfl) rfl (ltb rfl) ?_
          refine run_ops_nil ?_
          refine run_ret_to ?_
          obtain rfl := some_t hM
          refine fin_x hG rfl rfl rfl (v' := .bool false) (by rfl) ⟨_, ⟨101, 2, true, [[.int .i64 c12, .bool c13]]⟩, rfl, rfl, (show tk ≤ tk7 by omega), ⟨_, c12, c13, rfl, rfl, rfl⟩⟩
        · replace hM := ite_f hb31 hM
          refine run_puG (on_of rfl rfl rfl rfl) (fieldAddr_step hG rfl rfl rfl rfl rfl) rfl (ltb rfl) ?_
          refine run_rdG (on_of rfl rfl rfl rfl) (aload_rd hG rfl rfl rfl (by simp [ldok])) rfl (ltb rfl) ?_
          refine run_puG (on_of rfl rfl rfl rfl) (lenImm_step hG rfl rfl rfl rfl (flen _)) rfl (ltb rfl) ?_
          refine run_puG (on_of rfl rfl rfl rfl) (fieldAddr_step hG rfl rfl rfl rfl rfl) rfl (ltb rfl) ?_
          refine run_rdG (on_of rfl rfl rfl rfl) (aload_rd hG rfl rfl rfl (by simp [ldok])) rfl (ltb rfl) ?_
          refine run_puG (on_of rfl rfl rfl rfl) (abin_step rfl rfl rfl rfl (fun _ h => by cases h)) rfl (ltb rfl) ?_
          refine run_pu rfl (pick_step rfl rfl rfl) rfl (ltb rfl) ?_
          refine run_pu rfl (move_step (.inl rfl) rfl) rfl (ltb rfl) ?_
          refine run_splitb (i := 53) rfl (fun hb32 => ?_) (fun hb32 => ?_)
          · replace hM := ite_t hb32 hM
            refine run_off (on_of rfl rfl rfl rfl) rfl (ltb rfl) ?_
            refine run_off (on_of rfl rfl rfl rfl) rfl (ltb rfl) ?_
            refine run_off (on_of rfl rfl rfl rfl) rfl (ltb rfl) ?_
            refine run_off (on_of rfl rfl rfl rfl) rfl (ltb rfl) ?_
            refine run_off (on_of rfl rfl rfl rfl) rfl (ltb rfl) ?_
            refine run_off (on_of rfl rfl rfl rfl) rfl (ltb rfl) ?_
            refine run_pu rfl (pick_step rfl rfl rfl) rfl (ltb rfl) ?_
            refine run_ops_nil ?_
            refine run_sub_code (σ' := ⟨[(0, .optr (.bor 0) 0 0), (3, .optr (.loc 3) 0 0), (4, .bool false), (60, .bool true)], [(3, ⟨74, 4, true, [[.int .i64 k4, .int .i64 n4, .imm p4 3 e4 (fcellss fs4), .imm q4 4 f4 (pcellss ks4)]]⟩)], [⟨101, 2, true, [[.int .i64 c12, .bool c13]]⟩], O, tk7⟩) (Sub.trans (Sub.drop (k := 5) rfl) (Sub.env [(0, .optr (.bor 0) 0 0), (3, .optr (.loc 3) 0 0), (4, .bool false), (60, .bool true)] ⟨rfl, rfl, rfl, rfl, trivial⟩)) ?_
            refine run_if rfl rfl (fun _ => ?_) (fun h => by cases h)
            refine run_seq ?_
            refine run_region ?_
            refine run_pu rfl (move_step (.inr rfl) rfl) rfl (ltb rfl) ?_
            refine run_ops_nil ?_
            refine run_ret_to ?_
            obtain rfl := some_t hM
            refine fin_x hG rfl rfl rfl (v' := .bool false) (by rfl) ⟨_, ⟨101, 2, true, [[.int .i64 c12, .bool c13]]⟩, rfl, rfl, (show tk ≤ tk7 by omega), ⟨_, c12, c13, rfl, rfl, rfl⟩⟩
          · replace hM := ite_f hb32 hM
            refine run_puG (on_of rfl rfl rfl rfl) (fieldAddr_step hG rfl rfl rfl rfl rfl) rfl (ltb rfl) ?_
            refine run_rdG (on_of rfl rfl rfl rfl) (aload_rd hG rfl rfl rfl (by simp [ldok])) rfl (ltb rfl) ?_
            refine run_puG (on_of rfl rfl rfl rfl) (lenImm_step hG rfl rfl rfl rfl (plen _)) rfl (ltb rfl) ?_
            refine run_puG (on_of rfl rfl rfl rfl) (fieldAddr_step hG rfl rfl rfl rfl rfl) rfl (ltb rfl) ?_
            refine run_rdG (on_of rfl rfl rfl rfl) (aload_rd hG rfl rfl rfl (by simp [ldok])) rfl (ltb rfl) ?_
            refine run_puG (on_of rfl rfl rfl rfl) (abin_step rfl rfl rfl rfl (fun _ h => by cases h)) rfl (ltb rfl) ?_
            refine run_pu rfl (pick_step rfl rfl rfl) rfl (ltb rfl) ?_
            refine run_ops_nil ?_
            refine run_sub_code (σ' := ⟨[(0, .optr (.bor 0) 0 0), (3, .optr (.loc 3) 0 0), (4, .bool false), (60, .bool ((((pers ks4)).length : Int) != 2))], [(3, ⟨74, 4, true, [[.int .i64 k4, .int .i64 n4, .imm p4 3 e4 (fcellss fs4), .imm q4 4 f4 (pcellss ks4)]]⟩)], [⟨101, 2, true, [[.int .i64 c12, .bool c13]]⟩], O, tk7⟩) (Sub.trans (Sub.drop (k := 5) rfl) (Sub.env [(0, .optr (.bor 0) 0 0), (3, .optr (.loc 3) 0 0), (4, .bool false), (60, .bool ((((pers ks4)).length : Int) != 2))] ⟨rfl, rfl, rfl, rfl, trivial⟩)) ?_
            refine run_ifb rfl rfl (fun hb33 => ?_) (fun hb33 => ?_)
            · replace hM := ite_t hb33 hM
              refine run_seq ?_
              refine run_region ?_
              refine run_pu rfl (move_step (.inr rfl) rfl) rfl (ltb rfl) ?_
              refine run_ops_nil ?_
              refine run_ret_to ?_
              obtain rfl := some_t hM
              refine fin_x hG rfl rfl rfl (v' := .bool false) (by rfl) ⟨_, ⟨101, 2, true, [[.int .i64 c12, .bool c13]]⟩, rfl, rfl, (show tk ≤ tk7 by omega), ⟨_, c12, c13, rfl, rfl, rfl⟩⟩
            · replace hM := ite_f hb33 hM
              refine run_skip ?_
              refine run_seq ?_
              refine run_seq ?_
              refine run_region ?_
              refine run_pu rfl (fieldAddr_step hG rfl rfl rfl rfl rfl) rfl (ltb rfl) ?_
              refine run_rd rfl (aload_rd hG rfl rfl rfl (by simp [ldok])) rfl (ltb rfl) ?_
              refine run_pu rfl (lenImm_step hG rfl rfl rfl rfl (flen _)) rfl (ltb rfl) ?_
              refine run_pu rfl (move_step (.inl rfl) rfl) rfl (ltb rfl) ?_
              refine run_ops_nil ?_
              refine run_block ?_
              refine run_rounds (fun m σ => ∃ (i34 : Int) (i35 : Int) (b36 : Bool) (tki_looker_proof_L1 : Nat), tk7 ≤ tki_looker_proof_L1 ∧ i_looker_proof_L1 (i_looker_proof n) n (Pf.mk k4 n4 (fers fs4) (pers ks4)) m i34 i35 b36 = some r ∧ σ = ⟨[(0, .optr (.bor 0) 0 0), (3, .optr (.loc 3) 0 0), (4, .bool false), (62, .imm p4 3 e4 (fcellss fs4)), (63, .int .i64 (((fers fs4)).length : Int)), (64, .int .i64 i34)], [(3, ⟨74, 4, true, [[.int .i64 k4, .int .i64 n4, .imm p4 3 e4 (fcellss fs4), .imm q4 4 f4 (pcellss ks4)]]⟩)], [⟨101, 2, true, [[.int .i64 i35, .bool b36]]⟩], O, tki_looker_proof_L1⟩) n (Sub.env [(0, .optr (.bor 0) 0 0), (3, .optr (.loc 3) 0 0), (4, .bool false), (62, .imm p4 3 e4 (fcellss fs4)), (63, .int .i64 (((fers fs4)).length : Int)), (64, .int .i64 0)] ⟨rfl, rfl, rfl, rfl, rfl, rfl, trivial⟩) ⟨0, c12, c13, tk7, Nat.le_refl _, hM, rfl⟩ (fun m σ hI => ?_)
              clear hM
              obtain ⟨i34, i35, b36, tki_looker_proof_L1, hle75, hM, rfl⟩ := hI
              obtain _ | m := m
              · exact absurd hM (by rw [i_looker_proof_L1]; exact fun h => by cases h)
              rw [i_looker_proof_L1] at hM
              refine run_seq ?_
              refine run_region ?_
              refine run_pu rfl (abin_step rfl rfl rfl rfl (fun _ h => by cases h)) rfl (ltb rfl) ?_
              refine run_ops_nil ?_
              refine run_seq ?_
              refine run_ifd rfl rfl (fun hb37 => ?_) (fun hb37 => ?_)
              · replace hM := ite_t hb37 hM
                refine run_skip ?_
                refine run_seq ?_
                refine run_block ?_
                refine run_seq ?_
                refine run_region ?_
                obtain ⟨y38, hy39, hM⟩ := bind_t hM
                obtain ⟨k40, n40, q40, f40, ks40, rfl, hc41, hi42⟩ := fidx hy39
                refine run_pu rfl (indexImm_step hG rfl rfl rfl hi42 rfl rfl rfl rfl hc41) rfl (ltb rfl) ?_
                refine run_rd rfl (aload_rd hG rfl rfl rfl (by simp [ldok])) rfl (ltb rfl) ?_
                refine run_op rfl (alloc_step (d := 8) hG rfl rfl rfl) rfl (ltb rfl) ?_
                refine run_op0 rfl (store_step hG rfl rfl rfl rfl rfl rfl rfl rfl) rfl ?_
                refine run_ops_nil ?_
                refine run_seq ?_
                refine run_region ?_
                refine run_pu rfl (move_step (.inl rfl) rfl) rfl (ltb rfl) ?_
                refine run_rd rfl (aload_rd hG rfl rfl rfl (by simp [ldok])) rfl (ltb rfl) ?_
                obtain ⟨r43, hg44, hM⟩ := bind_t hM
                refine run_call rfl rfl rfl (ltb rfl) rfl rfl rfl (fun _ h => absurd h List.not_mem_nil) (i_looker_form_ok n (.bor 0) i35 b36 k40 n40 q40 f40 ks40 hg44 _ _ rfl) (callK_retV_bor (k := 0) rfl (fun v o' tk' h => by obtain ⟨_, _, _, rfl, rfl, _⟩ := h; rfl) (fun v o' tk45 (hle46 : tki_looker_proof_L1 ≤ tk45) h47 => ?_))
                obtain ⟨ra52, c50, c51, rfl, rfl, rfl⟩ := h47
                refine run_pu rfl (aun_step rfl rfl rfl) rfl (ltb rfl) ?_
                refine run_ops_nil ?_
                refine run_ifb rfl rfl (fun hb53 => ?_) (fun hb53 => ?_)
                · replace hM := ite_t hb53 hM
                  refine run_seq ?_
                  refine run_region ?_
                  refine run_pu rfl (move_step (.inr rfl) rfl) rfl (ltb rfl) ?_
                  refine run_ops_nil ?_
                  refine run_ret_to ?_
                  obtain rfl := some_t hM
                  refine fin_x hG rfl rfl rfl (v' := .bool false) (by rfl) ⟨_, ⟨101, 2, true, [[.int .i64 c50, .bool c51]]⟩, rfl, rfl, (show tk ≤ tk45 by omega), ⟨_, c50, c51, rfl, rfl, rfl⟩⟩
                · replace hM := ite_f hb53 hM
                  refine run_skip ?_
                  refine run_blk ?_
                  refine run_region ?_
                  refine run_pu rfl (abin_step rfl rfl rfl rfl (fun _ h => by cases h)) rfl (ltb rfl) ?_
                  refine run_pu rfl (move_step (.inl rfl) rfl) rfl (ltb rfl) ?_
                  refine run_ops_nil ?_
                  exact run_loop_end ⟨m, _, Nat.lt_succ_self _, ⟨(IntKind.i64.wrap (i34 + 1)), c50, c51, tk45, (show tk7 ≤ tk45 by omega), hM, rfl⟩, Sub.trans (Sub.drop (k := 8) rfl) (Sub.env [(0, .optr (.bor 0) 0 0), (3, .optr (.loc 3) 0 0), (4, .bool false), (62, .imm p4 3 e4 (fcellss fs4)), (63, .int .i64 (((fers fs4)).length : Int)), (64, .int .i64 (IntKind.i64.wrap (i34 + 1)))] ⟨rfl, rfl, rfl, rfl, rfl, rfl, trivial⟩)⟩
              · replace hM := ite_f hb37 hM
                refine run_exit_to rfl ?_
                refine run_seq ?_
                refine run_seq ?_
                refine run_region ?_
                refine run_pu rfl (fieldAddr_step hG rfl rfl rfl rfl rfl) rfl (ltb rfl) ?_
                refine run_rd rfl (aload_rd hG rfl rfl rfl (by simp [ldok])) rfl (ltb rfl) ?_
                refine run_pu rfl (lenImm_step hG rfl rfl rfl rfl (plen _)) rfl (ltb rfl) ?_
                refine run_pu rfl (move_step (.inl rfl) rfl) rfl (ltb rfl) ?_
                refine run_ops_nil ?_
                refine run_block ?_
                refine run_rounds (fun m σ => ∃ (i54 : Int) (i55 : Int) (b56 : Bool) (tki_looker_proof_L2 : Nat), tki_looker_proof_L1 ≤ tki_looker_proof_L2 ∧ i_looker_proof_L2 (i_looker_proof n) (Pf.mk k4 n4 (fers fs4) (pers ks4)) m i54 i55 b56 = some r ∧ σ = ⟨[(0, .optr (.bor 0) 0 0), (4, .bool false), (74, .imm q4 4 f4 (pcellss ks4)), (75, .int .i64 (((pers ks4)).length : Int)), (76, .int .i64 i54)], [(3, ⟨74, 4, true, [[.int .i64 k4, .int .i64 n4, .imm p4 3 e4 (fcellss fs4), .imm q4 4 f4 (pcellss ks4)]]⟩)], [⟨101, 2, true, [[.int .i64 i55, .bool b56]]⟩], O, tki_looker_proof_L2⟩) n (Sub.env [(0, .optr (.bor 0) 0 0), (4, .bool false), (74, .imm q4 4 f4 (pcellss ks4)), (75, .int .i64 (((pers ks4)).length : Int)), (76, .int .i64 0)] ⟨rfl, rfl, rfl, rfl, rfl, trivial⟩) ⟨0, i35, b36, tki_looker_proof_L1, Nat.le_refl _, hM, rfl⟩ (fun m σ hI => ?_)
                clear hM
                obtain ⟨i54, i55, b56, tki_looker_proof_L2, hle74, hM, rfl⟩ := hI
                obtain _ | m := m
                · exact absurd hM (by rw [i_looker_proof_L2]; exact fun h => by cases h)
                rw [i_looker_proof_L2] at hM
                refine run_seq ?_
                refine run_region ?_
                refine run_pu rfl (abin_step rfl rfl rfl rfl (fun _ h => by cases h)) rfl (ltb rfl) ?_
                refine run_ops_nil ?_
                refine run_seq ?_
                refine run_ifd rfl rfl (fun hb57 => ?_) (fun hb57 => ?_)
                · replace hM := ite_t hb57 hM
                  refine run_skip ?_
                  refine run_seq ?_
                  refine run_block ?_
                  refine run_seq ?_
                  refine run_region ?_
                  obtain ⟨y58, hy59, hM⟩ := bind_t hM
                  obtain ⟨k60, n60, p60, e60, fs60, q60, f60, ks60, rfl, hc61, hi62⟩ := pidx hy59
                  refine run_pu rfl (indexImm_step hG rfl rfl rfl hi62 rfl rfl rfl rfl hc61) rfl (ltb rfl) ?_
                  refine run_rd rfl (aload_rd hG rfl rfl rfl (by simp [ldok])) rfl (ltb rfl) ?_
                  refine run_op rfl (alloc_step (d := 10) hG rfl rfl rfl) rfl (ltb rfl) ?_
                  refine run_op0 rfl (store_step hG rfl rfl rfl rfl rfl rfl rfl rfl) rfl ?_
                  refine run_ops_nil ?_
                  refine run_seq ?_
                  refine run_region ?_
                  refine run_pu rfl (move_step (.inl rfl) rfl) rfl (ltb rfl) ?_
                  refine run_rd rfl (aload_rd hG rfl rfl rfl (by simp [ldok])) rfl (ltb rfl) ?_
                  obtain ⟨r63, hg64, hM⟩ := bind_t hM
                  refine run_call rfl rfl rfl (ltb rfl) rfl rfl rfl (fun _ h => absurd h List.not_mem_nil) (ih_i_looker_proof (.bor 0) i55 b56 k60 n60 p60 e60 fs60 q60 f60 ks60 hg64 _ _ rfl) (callK_retV_bor (k := 0) rfl (fun v o' tk' h => by obtain ⟨_, _, _, rfl, rfl, _⟩ := h; rfl) (fun v o' tk65 (hle66 : tki_looker_proof_L2 ≤ tk65) h67 => ?_))
                  obtain ⟨ra72, c70, c71, rfl, rfl, rfl⟩ := h67
                  refine run_pu rfl (aun_step rfl rfl rfl) rfl (ltb rfl) ?_
                  refine run_ops_nil ?_
                  refine run_ifb rfl rfl (fun hb73 => ?_) (fun hb73 => ?_)
                  · replace hM := ite_t hb73 hM
                    refine run_seq ?_
                    refine run_region ?_
                    refine run_pu rfl (move_step (.inr rfl) rfl) rfl (ltb rfl) ?_
                    refine run_ops_nil ?_
                    refine run_ret_to ?_
                    obtain rfl := some_t hM
                    refine fin_x hG rfl rfl rfl (v' := .bool false) (by rfl) ⟨_, ⟨101, 2, true, [[.int .i64 c70, .bool c71]]⟩, rfl, rfl, (show tk ≤ tk65 by omega), ⟨_, c70, c71, rfl, rfl, rfl⟩⟩
                  · replace hM := ite_f hb73 hM
                    refine run_skip ?_
                    refine run_blk ?_
                    refine run_region ?_
                    refine run_pu rfl (abin_step rfl rfl rfl rfl (fun _ h => by cases h)) rfl (ltb rfl) ?_
                    refine run_pu rfl (move_step (.inl rfl) rfl) rfl (ltb rfl) ?_
                    refine run_ops_nil ?_
                    exact run_loop_end ⟨m, _, Nat.lt_succ_self _, ⟨(IntKind.i64.wrap (i54 + 1)), c70, c71, tk65, (show tki_looker_proof_L1 ≤ tk65 by omega), hM, rfl⟩, Sub.trans (Sub.drop (k := 10) rfl) (Sub.env [(0, .optr (.bor 0) 0 0), (4, .bool false), (74, .imm q4 4 f4 (pcellss ks4)), (75, .int .i64 (((pers ks4)).length : Int)), (76, .int .i64 (IntKind.i64.wrap (i54 + 1)))] ⟨rfl, rfl, rfl, rfl, rfl, trivial⟩)⟩
                · replace hM := ite_f hb57 hM
                  refine run_exit_to rfl ?_
                  refine run_seq ?_
                  refine run_region ?_
                  refine run_pu rfl (move_step (.inr rfl) rfl) rfl (ltb rfl) ?_
                  refine run_ops_nil ?_
                  refine run_ret_to ?_
                  obtain rfl := some_t hM
                  refine fin_x hG rfl rfl rfl (v' := .bool true) (by rfl) ⟨_, ⟨101, 2, true, [[.int .i64 i55, .bool b56]]⟩, rfl, rfl, (show tk ≤ tki_looker_proof_L2 by omega), ⟨_, i55, b56, rfl, rfl, rfl⟩⟩
      · replace hM := ite_f hb30 hM
        by_cases hb76 : k4 = 3
        · replace hM := ite_t hb76 hM
          refine run_call rfl rfl rfl (ltb rfl) rfl rfl rfl (fun _ h => absurd h List.not_mem_nil) (i_ruleOf_ex1 k4 hb30 hb76 _ _) (callK_retN ?_)
          refine run_pu rfl (move_step (.inl rfl) rfl) rfl (ltb rfl) ?_
          refine run_pu rfl (extract_step rfl rfl rfl) rfl (ltb rfl) ?_
          refine run_pu rfl (extract_step rfl rfl rfl) rfl (ltb rfl) ?_
          refine run_op rfl (alloc_step (d := 5) hG rfl rfl rfl) rfl (ltb rfl) ?_
          refine run_op0 rfl (store_step hG rfl rfl rfl rfl rfl rfl rfl rfl) rfl ?_
          refine run_pu rfl (move_step (.inr rfl) rfl) rfl (ltb rfl) ?_
          refine run_ops_nil ?_
          refine run_sub_code (σ' := ⟨[(0, .optr (.bor 0) 0 0), (3, .optr (.loc 3) 0 0), (4, .bool false), (5, .optr (.loc 5) 0 0), (6, .bool true)], [(5, ⟨108, 5, true, [[.int .i64 2, .int .i64 1, .str ⟨#[102, 115, 116]⟩, .fn (.func 67) [] [], .fn (.func 69) [] []]]⟩), (3, ⟨74, 4, true, [[.int .i64 k4, .int .i64 n4, .imm p4 3 e4 (fcellss fs4), .imm q4 4 f4 (pcellss ks4)]]⟩)], [⟨101, 2, true, [[.int .i64 c12, .bool c13]]⟩], O, tk7⟩) (Sub.env [(0, .optr (.bor 0) 0 0), (3, .optr (.loc 3) 0 0), (4, .bool false), (5, .optr (.loc 5) 0 0), (6, .bool true)] ⟨rfl, rfl, rfl, rfl, rfl, trivial⟩) ?_
          refine run_seq ?_
          refine run_seq ?_
          refine run_region ?_
          refine run_pu rfl (move_step (.inl rfl) rfl) rfl (ltb rfl) ?_
          refine run_pu rfl (aun_step rfl rfl rfl) rfl (ltb rfl) ?_
          refine run_pu rfl (move_step (.inl rfl) rfl) rfl (ltb rfl) ?_
          refine run_puG (on_of rfl rfl rfl rfl) (fieldAddr_step hG rfl rfl rfl rfl rfl) rfl (ltb rfl) ?_
          refine run_rdG (on_of rfl rfl rfl rfl) (aload_rd hG rfl rfl rfl (by simp [ldok])) rfl (ltb rfl) ?_
          refine run_puG (on_of rfl rfl rfl rfl) (abin_step rfl rfl rfl rfl (fun _ h => by cases h)) rfl (ltb rfl) ?_
          refine run_pu rfl (pick_step rfl rfl rfl) rfl (ltb rfl) ?_
          refine run_pu rfl (move_step (.inl rfl) rfl) rfl (ltb rfl) ?_
          refine run_splitb (i := 45) rfl (fun hb77 => ?_) (fun hb77 => ?_)
          · replace hM := ite_t hb77 hM
            refine run_off (on_of rfl rfl rfl rfl) rfl (ltb rfl) ?_
            refine run_off (on_of rfl rfl rfl rfl) rfl (ltb rfl) ?_
            refine run_off (on_of rfl rfl rfl rfl) rfl (ltb rfl) ?_
            refine run_off (on_of rfl rfl rfl rfl) rfl (ltb rfl) ?_
            refine run_off (on_of rfl rfl rfl rfl) rfl (ltb rfl) ?_
            refine run_off (on_of rfl rfl rfl rfl) rfl (ltb rfl) ?_
            refine run_pu rfl (pick_step rfl rfl rfl) rfl (ltb rfl) ?_
            refine run_pu rfl (move_step (.inl rfl) rfl) rfl (ltb rfl) ?_
            refine run_off (on_of rfl rfl rfl rfl) rfl (ltb rfl) ?_
            refine run_off (on_of rfl rfl rfl rfl) rfl (ltb rfl) ?_
            refine run_off (on_of rfl rfl rfl rfl) rfl (ltb rfl) ?_
            refine run_off (on_of rfl rfl rfl rfl) rfl (ltb rfl) ?_
            refine run_off (on_of rfl rfl rfl rfl) rfl (ltb rfl) ?_
            refine run_off (on_of rfl rfl rfl rfl) rfl (ltb rfl) ?_
            refine run_pu rfl (pick_step rfl rfl rfl) rfl (ltb rfl) ?_
            refine run_ops_nil ?_
            refine run_if rfl rfl (fun _ => ?_) (fun h => by cases h)
            refine run_seq ?_
            refine run_region ?_
            refine run_pu rfl (move_step (.inr rfl) rfl) rfl (ltb rfl) ?_
            refine run_ops_nil ?_
            refine run_ret_to ?_
            obtain rfl := some_t hM
            refine fin_x hG rfl rfl rfl (v' := .bool false) (by rfl) ⟨_, ⟨101, 2, true, [[.int .i64 c12, .bool c13]]⟩, rfl, rfl, (show tk ≤ tk7 by omega), ⟨_, c12, c13, rfl, rfl, rfl⟩⟩
          · replace hM := ite_f hb77 hM
            refine run_puG (on_of rfl rfl rfl rfl) (fieldAddr_step hG rfl rfl rfl rfl rfl) rfl (ltb rfl) ?_
            refine run_rdG (on_of rfl rfl rfl rfl) (aload_rd hG rfl rfl rfl (by simp [ldok])) rfl (ltb rfl) ?_
            refine run_puG (on_of rfl rfl rfl rfl) (lenImm_step hG rfl rfl rfl rfl (flen _)) rfl (ltb rfl) ?_
            refine run_puG (on_of rfl rfl rfl rfl) (fieldAddr_step hG rfl rfl rfl rfl rfl) rfl (ltb rfl) ?_
            refine run_rdG (on_of rfl rfl rfl rfl) (aload_rd hG rfl rfl rfl (by simp [ldok])) rfl (ltb rfl) ?_
            refine run_puG (on_of rfl rfl rfl rfl) (abin_step rfl rfl rfl rfl (fun _ h => by cases h)) rfl (ltb rfl) ?_
            refine run_pu rfl (pick_step rfl rfl rfl) rfl (ltb rfl) ?_
            refine run_pu rfl (move_step (.inl rfl) rfl) rfl (ltb rfl) ?_
            refine run_splitb (i := 53) rfl (fun hb78 => ?_) (fun hb78 => ?_)
            · replace hM := ite_t hb78 hM
              refine run_off (on_of rfl rfl rfl rfl) rfl (ltb rfl) ?_
              refine run_off (on_of rfl rfl rfl rfl) rfl (ltb rfl) ?_
              refine run_off (on_of rfl rfl rfl rfl) rfl (ltb rfl) ?_
              refine run_off (on_of rfl rfl rfl rfl) rfl (ltb rfl) ?_
              refine run_off (on_of rfl rfl rfl rfl) rfl (ltb rfl) ?_
              refine run_off (on_of rfl rfl rfl rfl) rfl (ltb rfl) ?_
              refine run_pu rfl (pick_step rfl rfl rfl) rfl (ltb rfl) ?_
              refine run_ops_nil ?_
              refine run_sub_code (σ' := ⟨[(0, .optr (.bor 0) 0 0), (3, .optr (.loc 3) 0 0), (4, .bool false), (60, .bool true)], [(3, ⟨74, 4, true, [[.int .i64 k4, .int .i64 n4, .imm p4 3 e4 (fcellss fs4), .imm q4 4 f4 (pcellss ks4)]]⟩)], [⟨101, 2, true, [[.int .i64 c12, .bool c13]]⟩], O, tk7⟩) (Sub.trans (Sub.drop (k := 5) rfl) (Sub.env [(0, .optr (.bor 0) 0 0), (3, .optr (.loc 3) 0 0), (4, .bool false), (60, .bool true)] ⟨rfl, rfl, rfl, rfl, trivial⟩)) ?_
              refine run_if rfl rfl (fun _ => ?_) (fun h => by cases h)
              refine run_seq ?_
              refine run_region ?_
              refine run_pu rfl (move_step (.inr rfl) rfl) rfl (ltb rfl) ?_
              refine run_ops_nil ?_
              refine run_ret_to ?_
              obtain rfl := some_t hM
              refine fin_x hG rfl rfl rfl (v' := .bool false) (by rfl) ⟨_, ⟨101, 2, true, [[.int .i64 c12, .bool c13]]⟩, rfl, rfl, (show tk ≤ tk7 by omega), ⟨_, c12, c13, rfl, rfl, rfl⟩⟩
            · replace hM := ite_f hb78 hM
              refine run_puG (on_of rfl rfl rfl rfl) (fieldAddr_step hG rfl rfl rfl rfl rfl) rfl (ltb rfl) ?_
              refine run_rdG (on_of rfl rfl rfl rfl) (aload_rd hG rfl rfl rfl (by simp [ldok])) rfl (ltb rfl) ?_
              refine run_puG (on_of rfl rfl rfl rfl) (lenImm_step hG rfl rfl rfl rfl (plen _)) rfl (ltb rfl) ?_
              refine run_puG (on_of rfl rfl rfl rfl) (fieldAddr_step hG rfl rfl rfl rfl rfl) rfl (ltb rfl) ?_
              refine run_rdG (on_of rfl rfl rfl rfl) (aload_rd hG rfl rfl rfl (by simp [ldok])) rfl (ltb rfl) ?_
              refine run_puG (on_of rfl rfl rfl rfl) (abin_step rfl rfl rfl rfl (fun _ h => by cases h)) rfl (ltb rfl) ?_
              refine run_pu rfl (pick_step rfl rfl rfl) rfl (ltb rfl) ?_
              refine run_ops_nil ?_
              refine run_sub_code (σ' := ⟨[(0, .optr (.bor 0) 0 0), (3, .optr (.loc 3) 0 0), (4, .bool false), (60, .bool ((((pers ks4)).length : Int) != 1))], [(3, ⟨74, 4, true, [[.int .i64 k4, .int .i64 n4, .imm p4 3 e4 (fcellss fs4), .imm q4 4 f4 (pcellss ks4)]]⟩)], [⟨101, 2, true, [[.int .i64 c12, .bool c13]]⟩], O, tk7⟩) (Sub.trans (Sub.drop (k := 5) rfl) (Sub.env [(0, .optr (.bor 0) 0 0), (3, .optr (.loc 3) 0 0), (4, .bool false), (60, .bool ((((pers ks4)).length : Int) != 1))] ⟨rfl, rfl, rfl, rfl, trivial⟩)) ?_
              refine run_ifb rfl rfl (fun hb79 => ?_) (fun hb79 => ?_)
              · replace hM := ite_t hb79 hM
                refine run_seq ?_
                refine run_region ?_
                refine run_pu rfl (move_step (.inr rfl) rfl) rfl (ltb rfl) ?_
                refine run_ops_nil ?_
                refine run_ret_to ?_
                obtain rfl := some_t hM
                refine fin_x hG rfl rfl rfl (v' := .bool false) (by rfl) ⟨_, ⟨101, 2, true, [[.int .i64 c12, .bool c13]]⟩, rfl, rfl, (show tk ≤ tk7 by omega), ⟨_, c12, c13, rfl, rfl, rfl⟩⟩
              · replace hM := ite_f hb79 hM
                refine run_skip ?_
                refine run_seq ?_
                refine run_seq ?_
                refine run_region ?_
                refine run_pu rfl (fieldAddr_step hG rfl rfl rfl rfl rfl) rfl (ltb rfl) ?_
                refine run_rd rfl (aload_rd hG rfl rfl rfl (by simp [ldok])) rfl (ltb rfl) ?_
                refine run_pu rfl (lenImm_step hG rfl rfl rfl rfl (flen _)) rfl (ltb rfl) ?_
                refine run_pu rfl (move_step (.inl rfl) rfl) rfl (ltb rfl) ?_
                refine run_ops_nil ?_
                refine run_block ?_
                refine run_rounds (fun m σ => ∃ (i80 : Int) (i81 : Int) (b82 : Bool) (tki_looker_proof_L3 : Nat), tk7 ≤ tki_looker_proof_L3 ∧ i_looker_proof_L1 (i_looker_proof n) n (Pf.mk k4 n4 (fers fs4) (pers ks4)) m i80 i81 b82 = some r ∧ σ = ⟨[(0, .optr (.bor 0) 0 0), (3, .optr (.loc 3) 0 0), (4, .bool false), (62, .imm p4 3 e4 (fcellss fs4)), (63, .int .i64 (((fers fs4)).length : Int)), (64, .int .i64 i80)], [(3, ⟨74, 4, true, [[.int .i64 k4, .int .i64 n4, .imm p4 3 e4 (fcellss fs4), .imm q4 4 f4 (pcellss ks4)]]⟩)], [⟨101, 2, true, [[.int .i64 i81, .bool b82]]⟩], O, tki_looker_proof_L3⟩) n (Sub.env [(0, .optr (.bor 0) 0 0), (3, .optr (.loc 3) 0 0), (4, .bool false), (62, .imm p4 3 e4 (fcellss fs4)), (63, .int .i64 (((fers fs4)).length : Int)), (64, .int .i64 0)] ⟨rfl, rfl, rfl, rfl, rfl, rfl, trivial⟩) ⟨0, c12, c13, tk7, Nat.le_refl _, hM, rfl⟩ (fun m σ hI => ?_)
                clear hM
                obtain ⟨i80, i81, b82, tki_looker_proof_L3, hle121, hM, rfl⟩ := hI
                obtain _ | m := m
                · exact absurd hM (by rw [i_looker_proof_L1]; exact fun h => by cases h)
                rw [i_looker_proof_L1] at hM
                refine run_seq ?_
                refine run_region ?_
                refine run_pu rfl (abin_step rfl rfl rfl rfl (fun _ h => by cases h)) rfl (ltb rfl) ?_
                refine run_ops_nil ?_
                refine run_seq ?_
                refine run_ifd rfl rfl (fun hb83 => ?_) (fun hb83 => ?_)
                · replace hM := ite_t hb83 hM
                  refine run_skip ?_
                  refine run_seq ?_
                  refine run_block ?_
                  refine run_seq ?_
                  refine run_region ?_
                  obtain ⟨y84, hy85, hM⟩ := bind_t hM
                  obtain ⟨k86, n86, q86, f86, ks86, rfl, hc87, hi88⟩ := fidx hy85
                  refine run_pu rfl (indexImm_step hG rfl rfl rfl hi88 rfl rfl rfl rfl hc87) rfl (ltb rfl) ?_
                  refine run_rd rfl (aload_rd hG rfl rfl rfl (by simp [ldok])) rfl (ltb rfl) ?_
                  refine run_op rfl (alloc_step (d := 8) hG rfl rfl rfl) rfl (ltb rfl) ?_
                  refine run_op0 rfl (store_step hG rfl rfl rfl rfl rfl rfl rfl rfl) rfl ?_
                  refine run_ops_nil ?_
                  refine run_seq ?_
                  refine run_region ?_
                  refine run_pu rfl (move_step (.inl rfl) rfl) rfl (ltb rfl) ?_
                  refine run_rd rfl (aload_rd hG rfl rfl rfl (by simp [ldok])) rfl (ltb rfl) ?_
                  obtain ⟨r89, hg90, hM⟩ := bind_t hM
                  refine run_call rfl rfl rfl (ltb rfl) rfl rfl rfl (fun _ h => absurd h List.not_mem_nil) (i_looker_form_ok n (.bor 0) i81 b82 k86 n86 q86 f86 ks86 hg90 _ _ rfl) (callK_retV_bor (k := 0) rfl (fun v o' tk' h => by obtain ⟨_, _, _, rfl, rfl, _⟩ := h; rfl) (fun v o' tk91 (hle92 : tki_looker_proof_L3 ≤ tk91) h93 => ?_))
                  obtain ⟨ra98, c96, c97, rfl, rfl, rfl⟩ := h93
                  refine run_pu rfl (aun_step rfl rfl rfl) rfl (ltb rfl) ?_
                  refine run_ops_nil ?_
                  refine run_ifb rfl rfl (fun hb99 => ?_) (fun hb99 => ?_)
                  · replace hM := ite_t hb99 hM
                    refine run_seq ?_
                    refine run_region ?_
                    refine run_pu rfl (move_step (.inr rfl) rfl) rfl (ltb rfl) ?_
                    refine run_ops_nil ?_
                    refine run_ret_to ?_
                    obtain rfl := some_t hM
                    refine fin_x hG rfl rfl rfl (v' := .bool false) (by rfl) ⟨_, ⟨101, 2, true, [[.int .i64 c96, .bool c97]]⟩, rfl, rfl, (show tk ≤ tk91 by omega), ⟨_, c96, c97, rfl, rfl, rfl⟩⟩
                  · replace hM := ite_f hb99 hM
                    refine run_skip ?_
                    refine run_blk ?_
                    refine run_region ?_
                    refine run_pu rfl (abin_step rfl rfl rfl rfl (fun _ h => by cases h)) rfl (ltb rfl) ?_
                    refine run_pu rfl (move_step (.inl rfl) rfl) rfl (ltb rfl) ?_
                    refine run_ops_nil ?_
                    exact run_loop_end ⟨m, _, Nat.lt_succ_self _, ⟨(IntKind.i64.wrap (i80 + 1)), c96, c97, tk91, (show tk7 ≤ tk91 by omega), hM, rfl⟩, Sub.trans (Sub.drop (k := 8) rfl) (Sub.env [(0, .optr (.bor 0) 0 0), (3, .optr (.loc 3) 0 0), (4, .bool false), (62, .imm p4 3 e4 (fcellss fs4)), (63, .int .i64 (((fers fs4)).length : Int)), (64, .int .i64 (IntKind.i64.wrap (i80 + 1)))] ⟨rfl, rfl, rfl, rfl, rfl, rfl, trivial⟩)⟩
                · replace hM := ite_f hb83 hM
                  refine run_exit_to rfl ?_
                  refine run_seq ?_
                  refine run_seq ?_
                  refine run_region ?_
                  refine run_pu rfl (fieldAddr_step hG rfl rfl rfl rfl rfl) rfl (ltb rfl) ?_
                  refine run_rd rfl (aload_rd hG rfl rfl rfl (by simp [ldok])) rfl (ltb rfl) ?_
                  refine run_pu rfl (lenImm_step hG rfl rfl rfl rfl (plen _)) rfl (ltb rfl) ?_
                  refine run_pu rfl (move_step (.inl rfl) rfl) rfl (ltb rfl) ?_
                  refine run_ops_nil ?_
                  refine run_block ?_
                  refine run_rounds (fun m σ => ∃ (i100 : Int) (i101 : Int) (b102 : Bool) (tki_looker_proof_L4 : Nat), tki_looker_proof_L3 ≤ tki_looker_proof_L4 ∧ i_looker_proof_L2 (i_looker_proof n) (Pf.mk k4 n4 (fers fs4) (pers ks4)) m i100 i101 b102 = some r ∧ σ = ⟨[(0, .optr (.bor 0) 0 0), (4, .bool false), (74, .imm q4 4 f4 (pcellss ks4)), (75, .int .i64 (((pers ks4)).length : Int)), (76, .int .i64 i100)], [(3, ⟨74, 4, true, [[.int .i64 k4, .int .i64 n4, .imm p4 3 e4 (fcellss fs4), .imm q4 4 f4 (pcellss ks4)]]⟩)], [⟨101, 2, true, [[.int .i64 i101, .bool b102]]⟩], O, tki_looker_proof_L4⟩) n (Sub.env [(0, .optr (.bor 0) 0 0), (4, .bool false), (74, .imm q4 4 f4 (pcellss ks4)), (75, .int .i64 (((pers ks4)).length : Int)), (76, .int .i64 0)] ⟨rfl, rfl, rfl, rfl, rfl, trivial⟩) ⟨0, i81, b82, tki_looker_proof_L3, Nat.le_refl _, hM, rfl⟩ (fun m σ hI => ?_)
                  clear hM
                  obtain ⟨i100, i101, b102, tki_looker_proof_L4, hle120, hM, rfl⟩ := hI
                  obtain _ | m := m
                  · exact absurd hM (by rw [i_looker_proof_L2]; exact fun h => by cases h)
                  rw [i_looker_proof_L2] at hM
                  refine run_seq ?_
                  refine run_region ?_
                  refine run_pu rfl (abin_step rfl rfl rfl rfl (fun _ h => by cases h)) rfl (ltb rfl) ?_
                  refine run_ops_nil ?_
                  refine run_seq ?_
                  refine run_ifd rfl rfl (fun hb103 => ?_) (fun hb103 => ?_)
                  · replace hM := ite_t hb103 hM
                    refine run_skip ?_
                    refine run_seq ?_
                    refine run_block ?_
                    refine run_seq ?_
                    refine run_region ?_
                    obtain ⟨y104, hy105, hM⟩ := bind_t hM
                    obtain ⟨k106, n106, p106, e106, fs106, q106, f106, ks106, rfl, hc107, hi108⟩ := pidx hy105
                    refine run_pu rfl (indexImm_step hG rfl rfl rfl hi108 rfl rfl rfl rfl hc107) rfl (ltb rfl) ?_
                    refine run_rd rfl (aload_rd hG rfl rfl rfl (by simp [ldok])) rfl (ltb rfl) ?_
                    refine run_op rfl (alloc_step (d := 10) hG rfl rfl rfl) rfl (ltb rfl) ?_
                    refine run_op0 rfl (store_step hG rfl rfl rfl rfl rfl rfl rfl rfl) rfl ?_
                    refine run_ops_nil ?_
                    refine run_seq ?_
                    refine run_region ?_
                    refine run_pu rfl (move_step (.inl rfl) rfl) rfl (ltb rfl) ?_
                    refine run_rd rfl (aload_rd hG rfl rfl rfl (by simp [ldok])) rfl (ltb rfl) ?_
                    obtain ⟨r109, hg110, hM⟩ := bind_t hM
                    refine run_call rfl rfl rfl (ltb rfl) rfl rfl rfl (fun _ h => absurd h List.not_mem_nil) (ih_i_looker_proof (.bor 0) i101 b102 k106 n106 p106 e106 fs106 q106 f106 ks106 hg110 _ _ rfl) (callK_retV_bor (k := 0) rfl (fun v o' tk' h => by obtain ⟨_, _, _, rfl, rfl, _⟩ := h; rfl) (fun v o' tk111 (hle112 : tki_looker_proof_L4 ≤ tk111) h113 => ?_))
                    obtain ⟨ra118, c116, c117, rfl, rfl, rfl⟩ := h113
                    refine run_pu rfl (aun_step rfl rfl rfl) rfl (ltb rfl) ?_
                    refine run_ops_nil ?_
                    refine run_ifb rfl rfl (fun hb119 => ?_) (fun hb119 => ?_)
                    · replace hM := ite_t hb119 hM
                      refine run_seq ?_
                      refine run_region ?_
                      refine run_pu rfl (move_step (.inr rfl) rfl) rfl (ltb rfl) ?_
                      refine run_ops_nil ?_
                      refine run_ret_to ?_
                      obtain rfl := some_t hM
                      refine fin_x hG rfl rfl rfl (v' := .bool false) (by rfl) ⟨_, ⟨101, 2, true, [[.int .i64 c116, .bool c117]]⟩, rfl, rfl, (show tk ≤ tk111 by omega), ⟨_, c116, c117, rfl, rfl, rfl⟩⟩
                    · replace hM := ite_f hb119 hM
                      refine run_skip ?_
                      refine run_blk ?_
                      refine run_region ?_
                      refine run_pu rfl (abin_step rfl rfl rfl rfl (fun _ h => by cases h)) rfl (ltb rfl) ?_
                      refine run_pu rfl (move_step (.inl rfl) rfl) rfl (ltb rfl) ?_
                      refine run_ops_nil ?_
                      exact run_loop_end ⟨m, _, Nat.lt_succ_self _, ⟨(IntKind.i64.wrap (i100 + 1)), c116, c117, tk111, (show tki_looker_proof_L3 ≤ tk111 by omega), hM, rfl⟩, Sub.trans (Sub.drop (k := 10) rfl) (Sub.env [(0, .optr (.bor 0) 0 0), (4, .bool false), (74, .imm q4 4 f4 (pcellss ks4)), (75, .int .i64 (((pers ks4)).length : Int)), (76, .int .i64 (IntKind.i64.wrap (i100 + 1)))] ⟨rfl, rfl, rfl, rfl, rfl, trivial⟩)⟩
                  · replace hM := ite_f hb103 hM
                    refine run_exit_to rfl ?_
                    refine run_seq ?_
                    refine run_region ?_
                    refine run_pu rfl (move_step (.inr rfl) rfl) rfl (ltb rfl) ?_
                    refine run_ops_nil ?_
                    refine run_ret_to ?_
                    obtain rfl := some_t hM
                    refine fin_x hG rfl rfl rfl (v' := .bool true) (by rfl) ⟨_, ⟨101, 2, true, [[.int .i64 i101, .bool b102]]⟩, rfl, rfl, (show tk ≤ tki_looker_proof_L4 by omega), ⟨_, i101, b102, rfl, rfl, rfl⟩⟩
        · replace hM := ite_f hb76 hM
          by_cases hb122 : k4 = 4
          · replace hM := ite_t hb122 hM
            refine run_call rfl rfl rfl (ltb rfl) rfl rfl rfl (fun _ h => absurd h List.not_mem_nil) (i_ruleOf_ex2 k4 hb30 hb76 hb122 _ _) (callK_retN ?_)
            refine run_pu rfl (move_step (.inl rfl) rfl) rfl (ltb rfl) ?_
            refine run_pu rfl (extract_step rfl rfl rfl) rfl (ltb rfl) ?_
            refine run_pu rfl (extract_step rfl rfl rfl) rfl (ltb rfl) ?_
            refine run_op rfl (alloc_step (d := 5) hG rfl rfl rfl) rfl (ltb rfl) ?_
            refine run_op0 rfl (store_step hG rfl rfl rfl rfl rfl rfl rfl rfl) rfl ?_
            refine run_pu rfl (move_step (.inr rfl) rfl) rfl (ltb rfl) ?_
            refine run_ops_nil ?_
            refine run_sub_code (σ' := ⟨[(0, .optr (.bor 0) 0 0), (3, .optr (.loc 3) 0 0), (4, .bool false), (5, .optr (.loc 5) 0 0), (6, .bool true)], [(5, ⟨108, 5, true, [[.int .i64 2, .int .i64 1, .str ⟨#[115, 110, 100]⟩, .fn (.func 67) [] [], .fn (.func 70) [] []]]⟩), (3, ⟨74, 4, true, [[.int .i64 k4, .int .i64 n4, .imm p4 3 e4 (fcellss fs4), .imm q4 4 f4 (pcellss ks4)]]⟩)], [⟨101, 2, true, [[.int .i64 c12, .bool c13]]⟩], O, tk7⟩) (Sub.env [(0, .optr (.bor 0) 0 0), (3, .optr (.loc 3) 0 0), (4, .bool false), (5, .optr (.loc 5) 0 0), (6, .bool true)] ⟨rfl, rfl, rfl, rfl, rfl, trivial⟩) ?_
            refine run_seq ?_
            refine run_seq ?_
            refine run_region ?_
            refine run_pu rfl (move_step (.inl rfl) rfl) rfl (ltb rfl) ?_
            refine run_pu rfl (aun_step rfl rfl rfl) rfl (ltb rfl) ?_
            refine run_pu rfl (move_step (.inl rfl) rfl) rfl (ltb rfl) ?_
            refine run_puG (on_of rfl rfl rfl rfl) (fieldAddr_step hG rfl rfl rfl rfl rfl) rfl (ltb rfl) ?_
            refine run_rdG (on_of rfl rfl rfl rfl) (aload_rd hG rfl rfl rfl (by simp [ldok])) rfl (ltb rfl) ?_
            refine run_puG (on_of rfl rfl rfl rfl) (abin_step rfl rfl rfl rfl (fun _ h => by cases h)) rfl (ltb rfl) ?_
            refine run_pu rfl (pick_step rfl rfl rfl) rfl (ltb rfl) ?_
            refine run_pu rfl (move_step (.inl rfl) rfl) rfl (ltb rfl) ?_
            refine run_splitb (i := 45) rfl (fun hb123 => ?_) (fun hb123 => ?_)
            · replace hM := ite_t hb123 hM
              refine run_off (on_of rfl rfl rfl rfl) rfl (ltb rfl) ?_
              refine run_off (on_of rfl rfl rfl rfl) rfl (ltb rfl) ?_
              refine run_off (on_of rfl rfl rfl rfl) rfl (ltb rfl) ?_
              refine run_off (on_of rfl rfl rfl rfl) rfl (ltb rfl) ?_
              refine run_off (on_of rfl rfl rfl rfl) rfl (ltb rfl) ?_
              refine run_off (on_of rfl rfl rfl rfl) rfl (ltb rfl) ?_
              refine run_pu rfl (pick_step rfl rfl rfl) rfl (ltb rfl) ?_
              refine run_pu rfl (move_step (.inl rfl) rfl) rfl (ltb rfl) ?_
              refine run_off (on_of rfl rfl rfl rfl) rfl (ltb rfl) ?_
              refine run_off (on_of rfl rfl rfl rfl) rfl (ltb rfl) ?_
              refine run_off (on_of rfl rfl rfl rfl) rfl (ltb rfl) ?_
              refine run_off (on_of rfl rfl rfl rfl) rfl (ltb rfl) ?_
              refine run_off (on_of rfl rfl rfl rfl) rfl (ltb rfl) ?_
              refine run_off (on_of rfl rfl rfl rfl) rfl (ltb rfl) ?_
              refine run_pu rfl (pick_step rfl rfl rfl) rfl (ltb rfl) ?_
              refine run_ops_nil ?_
              refine run_if rfl rfl (fun _ => ?_) (fun h => by cases h)
              refine run_seq ?_
              refine run_region ?_
              refine run_pu rfl (move_step (.inr rfl) rfl) rfl (ltb rfl) ?_
              refine run_ops_nil ?_
              refine run_ret_to ?_
              obtain rfl := some_t hM
              refine fin_x hG rfl rfl rfl (v' := .bool false) (by rfl) ⟨_, ⟨101, 2, true, [[.int .i64 c12, .bool c13]]⟩, rfl, rfl, (show tk ≤ tk7 by omega), ⟨_, c12, c13, rfl, rfl, rfl⟩⟩
            · replace hM := ite_f hb123 hM
              refine run_puG (on_of rfl rfl rfl rfl) (fieldAddr_step hG rfl rfl rfl rfl rfl) rfl (ltb rfl) ?_
              refine run_rdG (on_of rfl rfl rfl rfl) (aload_rd hG rfl rfl rfl (by simp [ldok])) rfl (ltb rfl) ?_
              refine run_puG (on_of rfl rfl rfl rfl) (lenImm_step hG rfl rfl rfl rfl (flen _)) rfl (ltb rfl) ?_
              refine run_puG (on_of rfl rfl rfl rfl) (fieldAddr_step hG rfl rfl rfl rfl rfl) rfl (ltb rfl) ?_
              refine run_rdG (on_of rfl rfl rfl rfl) (aload_rd hG rfl rfl rfl (by simp [ldok])) rfl (ltb rfl) ?_
              refine run_puG (on_of rfl rfl rfl rfl) (abin_step rfl rfl rfl rfl (fun _ h => by cases h)) rfl (ltb rfl) ?_
              refine run_pu rfl (pick_step rfl rfl rfl) rfl (ltb rfl) ?_
              refine run_pu rfl (move_step (.inl rfl) rfl) rfl (ltb rfl) ?_
              refine run_splitb (i := 53) rfl (fun hb124 => ?_) (fun hb124 => ?_)
              · replace hM := ite_t hb124 hM
                refine run_off (on_of rfl rfl rfl rfl) rfl (ltb rfl) ?_
                refine run_off (on_of rfl rfl rfl rfl) rfl (ltb rfl) ?_
                refine run_off (on_of rfl rfl rfl rfl) rfl (ltb rfl) ?_
                refine run_off (on_of rfl rfl rfl rfl) rfl (ltb rfl) ?_
                refine run_off (on_of rfl rfl rfl rfl) rfl (ltb rfl) ?_
                refine run_off (on_of rfl rfl rfl rfl) rfl (ltb rfl) ?_
                refine run_pu rfl (pick_step rfl rfl rfl) rfl (ltb rfl) ?_
                refine run_ops_nil ?_
                refine run_sub_code (σ' := ⟨[(0, .optr (.bor 0) 0 0), (3, .optr (.loc 3) 0 0), (4, .bool false), (60, .bool true)], [(3, ⟨74, 4, true, [[.int .i64 k4, .int .i64 n4, .imm p4 3 e4 (fcellss fs4), .imm q4 4 f4 (pcellss ks4)]]⟩)], [⟨101, 2, true, [[.int .i64 c12, .bool c13]]⟩], O, tk7⟩) (Sub.trans (Sub.drop (k := 5) rfl) (Sub.env [(0, .optr (.bor 0) 0 0), (3, .optr (.loc 3) 0 0), (4, .bool false), (60, .bool true)] ⟨rfl, rfl, rfl, rfl, trivial⟩)) ?_
                refine run_if rfl rfl (fun _ => ?_) (fun h => by cases h)
                refine run_seq ?_
                refine run_region ?_
                refine run_pu rfl (move_step (.inr rfl) rfl) rfl (ltb rfl) ?_
                refine run_ops_nil ?_
                refine run_ret_to ?_
                obtain rfl := some_t hM
                refine fin_x hG rfl rfl rfl (v' := .bool false) (by rfl) ⟨_, ⟨101, 2, true, [[.int .i64 c12, .bool c13]]⟩, rfl, rfl, (show tk ≤ tk7 by omega), ⟨_, c12, c13, rfl, rfl, rfl⟩⟩
              · replace hM := ite_f hb124 hM
                refine run_puG (on_of rfl rfl rfl rfl) (fieldAddr_step hG rfl rfl rfl rfl rfl) rfl (ltb rfl) ?_
                refine run_rdG (on_of rfl rfl rfl rfl) (aload_rd hG rfl rfl rfl (by simp [ldok])) rfl (ltb rfl) ?_
                refine run_puG (on_of rfl rfl rfl rfl) (lenImm_step hG rfl rfl rfl rfl (plen _)) rfl (ltb rfl) ?_
                refine run_puG (on_of rfl rfl rfl rfl) (fieldAddr_step hG rfl rfl rfl rfl rfl) rfl (ltb rfl) ?_
                refine run_rdG (on_of rfl rfl rfl rfl) (aload_rd hG rfl rfl rfl (by simp [ldok])) rfl (ltb rfl) ?_
                refine run_puG (on_of rfl rfl rfl rfl) (abin_step rfl rfl rfl rfl (fun _ h => by cases h)) rfl (ltb rfl) ?_
                refine run_pu rfl (pick_step rfl rfl rfl) rfl (ltb rfl) ?_
                refine run_ops_nil ?_
                refine run_sub_code (σ' := ⟨[(0, .optr (.bor 0) 0 0), (3, .optr (.loc 3) 0 0), (4, .bool false), (60, .bool ((((pers ks4)).length : Int) != 1))], [(3, ⟨74, 4, true, [[.int .i64 k4, .int .i64 n4, .imm p4 3 e4 (fcellss fs4), .imm q4 4 f4 (pcellss ks4)]]⟩)], [⟨101, 2, true, [[.int .i64 c12, .bool c13]]⟩], O, tk7⟩) (Sub.trans (Sub.drop (k := 5) rfl) (Sub.env [(0, .optr (.bor 0) 0 0), (3, .optr (.loc 3) 0 0), (4, .bool false), (60, .bool ((((pers ks4)).length : Int) != 1))] ⟨rfl, rfl, rfl, rfl, trivial⟩)) ?_
                refine run_ifb rfl rfl (fun hb125 => ?_) (fun hb125 => ?_)
                · replace hM := ite_t hb125 hM
                  refine run_seq ?_
                  refine run_region ?_
                  refine run_pu rfl (move_step (.inr rfl) rfl) rfl (ltb rfl) ?_
                  refine run_ops_nil ?_
                  refine run_ret_to ?_
                  obtain rfl := some_t hM
                  refine fin_x hG rfl rfl rfl (v' := .bool false) (by rfl) ⟨_, ⟨101, 2, true, [[.int .i64 c12, .bool c13]]⟩, rfl, rfl, (show tk ≤ tk7 by omega), ⟨_, c12, c13, rfl, rfl, rfl⟩⟩
                · replace hM := ite_f hb125 hM
                  refine run_skip ?_
                  refine run_seq ?_
                  refine run_seq ?_
                  refine run_region ?_
                  refine run_pu rfl (fieldAddr_step hG rfl rfl rfl rfl rfl) rfl (ltb rfl) ?_
                  refine run_rd rfl (aload_rd hG rfl rfl rfl (by simp [ldok])) rfl (ltb rfl) ?_
                  refine run_pu rfl (lenImm_step hG rfl rfl rfl rfl (flen _)) rfl (ltb rfl) ?_
                  refine run_pu rfl (move_step (.inl rfl) rfl) rfl (ltb rfl) ?_
                  refine run_ops_nil ?_
                  refine run_block ?_
                  refine run_rounds (fun m σ => ∃ (i126 : Int) (i127 : Int) (b128 : Bool) (tki_looker_proof_L5 : Nat), tk7 ≤ tki_looker_proof_L5 ∧ i_looker_proof_L1 (i_looker_proof n) n (Pf.mk k4 n4 (fers fs4) (pers ks4)) m i126 i127 b128 = some r ∧ σ = ⟨[(0, .optr (.bor 0) 0 0), (3, .optr (.loc 3) 0 0), (4, .bool false), (62, .imm p4 3 e4 (fcellss fs4)), (63, .int .i64 (((fers fs4)).length : Int)), (64, .int .i64 i126)], [(3, ⟨74, 4, true, [[.int .i64 k4, .int .i64 n4, .imm p4 3 e4 (fcellss fs4), .imm q4 4 f4 (pcellss ks4)]]⟩)], [⟨101, 2, true, [[.int .i64 i127, .bool b128]]⟩], O, tki_looker_proof_L5⟩) n (Sub.env [(0, .optr (.bor 0) 0 0), (3, .optr (.loc 3) 0 0), (4, .bool false), (62, .imm p4 3 e4 (fcellss fs4)), (63, .int .i64 (((fers fs4)).length : Int)), (64, .int .i64 0)] ⟨rfl, rfl, rfl, rfl, rfl, rfl, trivial⟩) ⟨0, c12, c13, tk7, Nat.le_refl _, hM, rfl⟩ (fun m σ hI => ?_)
                  clear hM
                  obtain ⟨i126, i127, b128, tki_looker_proof_L5, hle167, hM, rfl⟩ := hI
                  obtain _ | m := m
                  · exact absurd hM (by rw [i_looker_proof_L1]; exact fun h => by cases h)
                  rw [i_looker_proof_L1] at hM
                  refine run_seq ?_
                  refine run_region ?_
                  refine run_pu rfl (abin_step rfl rfl rfl rfl (fun _ h => by cases h)) rfl (ltb rfl) ?_
                  refine run_ops_nil ?_
                  refine run_seq ?_
                  refine run_ifd rfl rfl (fun hb129 => ?_) (fun hb129 => ?_)
                  · replace hM := ite_t hb129 hM
                    refine run_skip ?_
                    refine run_seq ?_
                    refine run_block ?_
                    refine run_seq ?_
                    refine run_region ?_
                    obtain ⟨y130, hy131, hM⟩ := bind_t hM
                    obtain ⟨k132, n132, q132, f132, ks132, rfl, hc133, hi134⟩ := fidx hy131
                    refine run_pu rfl (indexImm_step hG rfl rfl rfl hi134 rfl rfl rfl rfl hc133) rfl (ltb rfl) ?_
                    refine run_rd rfl (aload_rd hG rfl rfl rfl (by simp [ldok])) rfl (ltb rfl) ?_
                    refine run_op rfl (alloc_step (d := 8) hG rfl rfl rfl) rfl (ltb rfl) ?_
                    refine run_op0 rfl (store_step hG rfl rfl rfl rfl rfl rfl rfl rfl) rfl ?_
                    refine run_ops_nil ?_
                    refine run_seq ?_
                    refine run_region ?_
                    refine run_pu rfl (move_step (.inl rfl) rfl) rfl (ltb rfl) ?_
                    refine run_rd rfl (aload_rd hG rfl rfl rfl (by simp [ldok])) rfl (ltb rfl) ?_
                    obtain ⟨r135, hg136, hM⟩ := bind_t hM
                    refine run_call rfl rfl rfl (ltb rfl) rfl rfl rfl (fun _ h => absurd h List.not_mem_nil) (i_looker_form_ok n (.bor 0) i127 b128 k132 n132 q132 f132 ks132 hg136 _ _ rfl) (callK_retV_bor (k := 0) rfl (fun v o' tk' h => by obtain ⟨_, _, _, rfl, rfl, _⟩ := h; rfl) (fun v o' tk137 (hle138 : tki_looker_proof_L5 ≤ tk137) h139 => ?_))
                    obtain ⟨ra144, c142, c143, rfl, rfl, rfl⟩ := h139
                    refine run_pu rfl (aun_step rfl rfl rfl) rfl (ltb rfl) ?_
                    refine run_ops_nil ?_
                    refine run_ifb rfl rfl (fun hb145 => ?_) (fun hb145 => ?_)
                    · replace hM := ite_t hb145 hM
                      refine run_seq ?_
                      refine run_region ?_
                      refine run_pu rfl (move_step (.inr rfl) rfl) rfl (ltb rfl) ?_
                      refine run_ops_nil ?_
                      refine run_ret_to ?_
                      obtain rfl := some_t hM
                      refine fin_x hG rfl rfl rfl (v' := .bool false) (by rfl) ⟨_, ⟨101, 2, true, [[.int .i64 c142, .bool c143]]⟩, rfl, rfl, (show tk ≤ tk137 by omega), ⟨_, c142, c143, rfl, rfl, rfl⟩⟩
                    · replace hM := ite_f hb145 hM
                      refine run_skip ?_
                      refine run_blk ?_
                      refine run_region ?_
                      refine run_pu rfl (abin_step rfl rfl rfl rfl (fun _ h => by cases h)) rfl (ltb rfl) ?_
                      refine run_pu rfl (move_step (.inl rfl) rfl) rfl (ltb rfl) ?_
                      refine run_ops_nil ?_
                      exact run_loop_end ⟨m, _, Nat.lt_succ_self _, ⟨(IntKind.i64.wrap (i126 + 1)), c142, c143, tk137, (show tk7 ≤ tk137 by omega), hM, rfl⟩, Sub.trans (Sub.drop (k := 8) rfl) (Sub.env [(0, .optr (.bor 0) 0 0), (3, .optr (.loc 3) 0 0), (4, .bool false), (62, .imm p4 3 e4 (fcellss fs4)), (63, .int .i64 (((fers fs4)).length : Int)), (64, .int .i64 (IntKind.i64.wrap (i126 + 1)))] ⟨rfl, rfl, rfl, rfl, rfl, rfl, trivial⟩)⟩
                  · replace hM := ite_f hb129 hM
                    refine run_exit_to rfl ?_
                    refine run_seq ?_
                    refine run_seq ?_
                    refine run_region ?_
                    refine run_pu rfl (fieldAddr_step hG rfl rfl rfl rfl rfl) rfl (ltb rfl) ?_
                    refine run_rd rfl (aload_rd hG rfl rfl rfl (by simp [ldok])) rfl (ltb rfl) ?_
                    refine run_pu rfl (lenImm_step hG rfl rfl rfl rfl (plen _)) rfl (ltb rfl) ?_
                    refine run_pu rfl (move_step (.inl rfl) rfl) rfl (ltb rfl) ?_
                    refine run_ops_nil ?_
                    refine run_block ?_
                    refine run_rounds (fun m σ => ∃ (i146 : Int) (i147 : Int) (b148 : Bool) (tki_looker_proof_L6 : Nat), tki_looker_proof_L5 ≤ tki_looker_proof_L6 ∧ i_looker_proof_L2 (i_looker_proof n) (Pf.mk k4 n4 (fers fs4) (pers ks4)) m i146 i147 b148 = some r ∧ σ = ⟨[(0, .optr (.bor 0) 0 0), (4, .bool false), (74, .imm q4 4 f4 (pcellss ks4)), (75, .int .i64 (((pers ks4)).length : Int)), (76, .int .i64 i146)], [(3, ⟨74, 4, true, [[.int .i64 k4, .int .i64 n4, .imm p4 3 e4 (fcellss fs4), .imm q4 4 f4 (pcellss ks4)]]⟩)], [⟨101, 2, true, [[.int .i64 i147, .bool b148]]⟩], O, tki_looker_proof_L6⟩) n (Sub.env [(0, .optr (.bor 0) 0 0), (4, .bool false), (74, .imm q4 4 f4 (pcellss ks4)), (75, .int .i64 (((pers ks4)).length : Int)), (76, .int .i64 0)] ⟨rfl, rfl, rfl, rfl, rfl, trivial⟩) ⟨0, i127, b128, tki_looker_proof_L5, Nat.le_refl _, hM, rfl⟩ (fun m σ hI => ?_)
                    clear hM
                    obtain ⟨i146, i147, b148, tki_looker_proof_L6, hle166, hM, rfl⟩ := hI
                    obtain _ | m := m
                    · exact absurd hM (by rw [i_looker_proof_L2]; exact fun h => by cases h)
                    rw [i_looker_proof_L2] at hM
                    refine run_seq ?_
                    refine run_region ?_
                    refine run_pu rfl (abin_step rfl rfl rfl rfl (fun _ h => by cases h)) rfl (ltb rfl) ?_
                    refine run_ops_nil ?_
                    refine run_seq ?_
                    refine run_ifd rfl rfl (fun hb149 => ?_) (fun hb149 => ?_)
                    · replace hM := ite_t hb149 hM
                      refine run_skip ?_
                      refine run_seq ?_
                      refine run_block ?_
                      refine run_seq ?_
                      refine run_region ?_
                      obtain ⟨y150, hy151, hM⟩ := bind_t hM
                      obtain ⟨k152, n152, p152, e152, fs152, q152, f152, ks152, rfl, hc153, hi154⟩ := pidx hy151
                      refine run_pu rfl (indexImm_step hG rfl rfl rfl hi154 rfl rfl rfl rfl hc153) rfl (ltb rfl) ?_
                      refine run_rd rfl (aload_rd hG rfl rfl rfl (by simp [ldok])) rfl (ltb rfl) ?_
                      refine run_op rfl (alloc_step (d := 10) hG rfl rfl rfl) rfl (ltb rfl) ?_
                      refine run_op0 rfl (store_step hG rfl rfl rfl rfl rfl rfl rfl rfl) rfl ?_
                      refine run_ops_nil ?_
                      refine run_seq ?_
                      refine run_region ?_
                      refine run_pu rfl (move_step (.inl rfl) rfl) rfl (ltb rfl) ?_
                      refine run_rd rfl (aload_rd hG rfl rfl rfl (by simp [ldok])) rfl (ltb rfl) ?_
                      obtain ⟨r155, hg156, hM⟩ := bind_t hM
                      refine run_call rfl rfl rfl (ltb rfl) rfl rfl rfl (fun _ h => absurd h List.not_mem_nil) (ih_i_looker_proof (.bor 0) i147 b148 k152 n152 p152 e152 fs152 q152 f152 ks152 hg156 _ _ rfl) (callK_retV_bor (k := 0) rfl (fun v o' tk' h => by obtain ⟨_, _, _, rfl, rfl, _⟩ := h; rfl) (fun v o' tk157 (hle158 : tki_looker_proof_L6 ≤ tk157) h159 => ?_))
                      obtain ⟨ra164, c162, c163, rfl, rfl, rfl⟩ := h159
                      refine run_pu rfl (aun_step rfl rfl rfl) rfl (ltb rfl) ?_
                      refine run_ops_nil ?_
                      refine run_ifb rfl rfl (fun hb165 => ?_) (fun hb165 => ?_)
                      · replace hM := ite_t hb165 hM
                        refine run_seq ?_
                        refine run_region ?_
                        refine run_pu rfl (move_step (.inr rfl) rfl) rfl (ltb rfl) ?_
                        refine run_ops_nil ?_
                        refine run_ret_to ?_
                        obtain rfl := some_t hM
                        refine fin_x hG rfl rfl rfl (v' := .bool false) (by rfl) ⟨_, ⟨101, 2, true, [[.int .i64 c162, .bool c163]]⟩, rfl, rfl, (show tk ≤ tk157 by omega), ⟨_, c162, c163, rfl, rfl, rfl⟩⟩
                      · replace hM := ite_f hb165 hM
                        refine run_skip ?_
                        refine run_blk ?_
                        refine run_region ?_
                        refine run_pu rfl (abin_step rfl rfl rfl rfl (fun _ h => by cases h)) rfl (ltb rfl) ?_
                        refine run_pu rfl (move_step (.inl rfl) rfl) rfl (ltb rfl) ?_
                        refine run_ops_nil ?_
                        exact run_loop_end ⟨m, _, Nat.lt_succ_self _, ⟨(IntKind.i64.wrap (i146 + 1)), c162, c163, tk157, (show tki_looker_proof_L5 ≤ tk157 by omega), hM, rfl⟩, Sub.trans (Sub.drop (k := 10) rfl) (Sub.env [(0, .optr (.bor 0) 0 0), (4, .bool false), (74, .imm q4 4 f4 (pcellss ks4)), (75, .int .i64 (((pers ks4)).length : Int)), (76, .int .i64 (IntKind.i64.wrap (i146 + 1)))] ⟨rfl, rfl, rfl, rfl, rfl, trivial⟩)⟩
                    · replace hM := ite_f hb149 hM
                      refine run_exit_to rfl ?_
                      refine run_seq ?_
                      refine run_region ?_
                      refine run_pu rfl (move_step (.inr rfl) rfl) rfl (ltb rfl) ?_
                      refine run_ops_nil ?_
                      refine run_ret_to ?_
                      obtain rfl := some_t hM
                      refine fin_x hG rfl rfl rfl (v' := .bool true) (by rfl) ⟨_, ⟨101, 2, true, [[.int .i64 i147, .bool b148]]⟩, rfl, rfl, (show tk ≤ tki_looker_proof_L6 by omega), ⟨_, i147, b148, rfl, rfl, rfl⟩⟩
          · replace hM := ite_f hb122 hM
            by_cases hb168 : k4 = 5
            · replace hM := ite_t hb168 hM
              refine run_call rfl rfl rfl (ltb rfl) rfl rfl rfl (fun _ h => absurd h List.not_mem_nil) (i_ruleOf_ex3 k4 hb30 hb76 hb122 hb168 _ _) (callK_retN ?_)
              refine run_pu rfl (move_step (.inl rfl) rfl) rfl (ltb rfl) ?_
              refine run_pu rfl (extract_step rfl rfl rfl) rfl (ltb rfl) ?_
              refine run_pu rfl (extract_step rfl rfl rfl) rfl (ltb rfl) ?_
              refine run_op rfl (alloc_step (d := 5) hG rfl rfl rfl) rfl (ltb rfl) ?_
              refine run_op0 rfl (store_step hG rfl rfl rfl rfl rfl rfl rfl rfl) rfl ?_
              refine run_pu rfl (move_step (.inr rfl) rfl) rfl (ltb rfl) ?_
              refine run_ops_nil ?_
              refine run_sub_code (σ' := ⟨[(0, .optr (.bor 0) 0 0), (3, .optr (.loc 3) 0 0), (4, .bool false), (5, .optr (.loc 5) 0 0), (6, .bool true)], [(5, ⟨108, 5, true, [[.int .i64 2, .int .i64 1, .str ⟨#[102, 117, 110, 73]⟩, .fn (.func 73) [] [], .fn (.func 74) [] []]]⟩), (3, ⟨74, 4, true, [[.int .i64 k4, .int .i64 n4, .imm p4 3 e4 (fcellss fs4), .imm q4 4 f4 (pcellss ks4)]]⟩)], [⟨101, 2, true, [[.int .i64 c12, .bool c13]]⟩], O, tk7⟩) (Sub.env [(0, .optr (.bor 0) 0 0), (3, .optr (.loc 3) 0 0), (4, .bool false), (5, .optr (.loc 5) 0 0), (6, .bool true)] ⟨rfl, rfl, rfl, rfl, rfl, trivial⟩) ?_
              refine run_seq ?_
              refine run_seq ?_
              refine run_region ?_
              refine run_pu rfl (move_step (.inl rfl) rfl) rfl (ltb rfl) ?_
              refine run_pu rfl (aun_step rfl rfl rfl) rfl (ltb rfl) ?_
              refine run_pu rfl (move_step (.inl rfl) rfl) rfl (ltb rfl) ?_
              refine run_puG (on_of rfl rfl rfl rfl) (fieldAddr_step hG rfl rfl rfl rfl rfl) rfl (ltb rfl) ?_
              refine run_rdG (on_of rfl rfl rfl rfl) (aload_rd hG rfl rfl rfl (by simp [ldok])) rfl (ltb rfl) ?_
              refine run_puG (on_of rfl rfl rfl rfl) (abin_step rfl rfl rfl rfl (fun _ h => by cases h)) rfl (ltb rfl) ?_
              refine run_pu rfl (pick_step rfl rfl rfl) rfl (ltb rfl) ?_
              refine run_pu rfl (move_step (.inl rfl) rfl) rfl (ltb rfl) ?_
              refine run_splitb (i := 45) rfl (fun hb169 => ?_) (fun hb169 => ?_)
              · replace hM := ite_t hb169 hM
                refine run_off (on_of rfl rfl rfl rfl) rfl (ltb rfl) ?_
                refine run_off (on_of rfl rfl rfl rfl) rfl (ltb rfl) ?_
                refine run_off (on_of rfl rfl rfl rfl) rfl (ltb rfl) ?_
                refine run_off (on_of rfl rfl rfl rfl) rfl (ltb rfl) ?_
                refine run_off (on_of rfl rfl rfl rfl) rfl (ltb rfl) ?_
                refine run_off (on_of rfl rfl rfl rfl) rfl (ltb rfl) ?_
                refine run_pu rfl (pick_step rfl rfl rfl) rfl (ltb rfl) ?_
                refine run_pu rfl (move_step (.inl rfl) rfl) rfl (ltb rfl) ?_
                refine run_off (on_of rfl rfl rfl rfl) rfl (ltb rfl) ?_
                refine run_off (on_of rfl rfl rfl rfl) rfl (ltb rfl) ?_
                refine run_off (on_of rfl rfl rfl rfl) rfl (ltb rfl) ?_
                refine run_off (on_of rfl rfl rfl rfl) rfl (ltb rfl) ?_
                refine run_off (on_of rfl rfl rfl rfl) rfl (ltb rfl) ?_
                refine run_off (on_of rfl rfl rfl rfl) rfl (ltb rfl) ?_
                refine run_pu rfl (pick_step rfl rfl rfl) rfl (ltb rfl) ?_
                refine run_ops_nil ?_
                refine run_if rfl rfl (fun _ => ?_) (fun h => by cases h)
                refine run_seq ?_
                refine run_region ?_
                refine run_pu rfl (move_step (.inr rfl) rfl) rfl (ltb rfl) ?_
                refine run_ops_nil ?_
                refine run_ret_to ?_
                obtain rfl := some_t hM
                refine fin_x hG rfl rfl rfl (v' := .bool false) (by rfl) ⟨_, ⟨101, 2, true, [[.int .i64 c12, .bool c13]]⟩, rfl, rfl, (show tk ≤ tk7 by omega), ⟨_, c12, c13, rfl, rfl, rfl⟩⟩
              · replace hM := ite_f hb169 hM
                refine run_puG (on_of rfl rfl rfl rfl) (fieldAddr_step hG rfl rfl rfl rfl rfl) rfl (ltb rfl) ?_
                refine run_rdG (on_of rfl rfl rfl rfl) (aload_rd hG rfl rfl rfl (by simp [ldok])) rfl (ltb rfl) ?_
                refine run_puG (on_of rfl rfl rfl rfl) (lenImm_step hG rfl rfl rfl rfl (flen _)) rfl (ltb rfl) ?_
                refine run_puG (on_of rfl rfl rfl rfl) (fieldAddr_step hG rfl rfl rfl rfl rfl) rfl (ltb rfl) ?_
                refine run_rdG (on_of rfl rfl rfl rfl) (aload_rd hG rfl rfl rfl (by simp [ldok])) rfl (ltb rfl) ?_
                refine run_puG (on_of rfl rfl rfl rfl) (abin_step rfl rfl rfl rfl (fun _ h => by cases h)) rfl (ltb rfl) ?_
                refine run_pu rfl (pick_step rfl rfl rfl) rfl (ltb rfl) ?_
                refine run_pu rfl (move_step (.inl rfl) rfl) rfl (ltb rfl) ?_
                refine run_splitb (i := 53) rfl (fun hb170 => ?_) (fun hb170 => ?_)
                · replace hM := ite_t hb170 hM
                  refine run_off (on_of rfl rfl rfl rfl) rfl (ltb rfl) ?_
                  refine run_off (on_of rfl rfl rfl rfl) rfl (ltb rfl) ?_
                  refine run_off (on_of rfl rfl rfl rfl) rfl (ltb rfl) ?_
                  refine run_off (on_of rfl rfl rfl rfl) rfl (ltb rfl) ?_
                  refine run_off (on_of rfl rfl rfl rfl) rfl (ltb rfl) ?_
                  refine run_off (on_of rfl rfl rfl rfl) rfl (ltb rfl) ?_
                  refine run_pu rfl (pick_step rfl rfl rfl) rfl (ltb rfl) ?_
                  refine run_ops_nil ?_
                  refine run_sub_code (σ' := ⟨[(0, .optr (.bor 0) 0 0), (3, .optr (.loc 3) 0 0), (4, .bool false), (60, .bool true)], [(3, ⟨74, 4, true, [[.int .i64 k4, .int .i64 n4, .imm p4 3 e4 (fcellss fs4), .imm q4 4 f4 (pcellss ks4)]]⟩)], [⟨101, 2, true, [[.int .i64 c12, .bool c13]]⟩], O, tk7⟩) (Sub.trans (Sub.drop (k := 5) rfl) (Sub.env [(0, .optr (.bor 0) 0 0), (3, .optr (.loc 3) 0 0), (4, .bool false), (60, .bool true)] ⟨rfl, rfl, rfl, rfl, trivial⟩)) ?_
                  refine run_if rfl rfl (fun _ => ?_) (fun h => by cases h)
                  refine run_seq ?_
                  refine run_region ?_
                  refine run_pu rfl (move_step (.inr rfl) rfl) rfl (ltb rfl) ?_
                  refine run_ops_nil ?_
                  refine run_ret_to ?_
                  obtain rfl := some_t hM
                  refine fin_x hG rfl rfl rfl (v' := .bool false) (by rfl) ⟨_, ⟨101, 2, true, [[.int .i64 c12, .bool c13]]⟩, rfl, rfl, (show tk ≤ tk7 by omega), ⟨_, c12, c13, rfl, rfl, rfl⟩⟩
                · replace hM := ite_f hb170 hM
                  refine run_puG (on_of rfl rfl rfl rfl) (fieldAddr_step hG rfl rfl rfl rfl rfl) rfl (ltb rfl) ?_
                  refine run_rdG (on_of rfl rfl rfl rfl) (aload_rd hG rfl rfl rfl (by simp [ldok])) rfl (ltb rfl) ?_
                  refine run_puG (on_of rfl rfl rfl rfl) (lenImm_step hG rfl rfl rfl rfl (plen _)) rfl (ltb rfl) ?_
                  refine run_puG (on_of rfl rfl rfl rfl) (fieldAddr_step hG rfl rfl rfl rfl rfl) rfl (ltb rfl) ?_
                  refine run_rdG (on_of rfl rfl rfl rfl) (aload_rd hG rfl rfl rfl (by simp [ldok])) rfl (ltb rfl) ?_
                  refine run_puG (on_of rfl rfl rfl rfl) (abin_step rfl rfl rfl rfl (fun _ h => by cases h)) rfl (ltb rfl) ?_
                  refine run_pu rfl (pick_step rfl rfl rfl) rfl (ltb rfl) ?_
                  refine run_ops_nil ?_
                  refine run_sub_code (σ' := ⟨[(0, .optr (.bor 0) 0 0), (3, .optr (.loc 3) 0 0), (4, .bool false), (60, .bool ((((pers ks4)).length : Int) != 1))], [(3, ⟨74, 4, true, [[.int .i64 k4, .int .i64 n4, .imm p4 3 e4 (fcellss fs4), .imm q4 4 f4 (pcellss ks4)]]⟩)], [⟨101, 2, true, [[.int .i64 c12, .bool c13]]⟩], O, tk7⟩) (Sub.trans (Sub.drop (k := 5) rfl) (Sub.env [(0, .optr (.bor 0) 0 0), (3, .optr (.loc 3) 0 0), (4, .bool false), (60, .bool ((((pers ks4)).length : Int) != 1))] ⟨rfl, rfl, rfl, rfl, trivial⟩)) ?_
                  refine run_ifb rfl rfl (fun hb171 => ?_) (fun hb171 => ?_)
                  · replace hM := ite_t hb171 hM
                    refine run_seq ?_
                    refine run_region ?_
                    refine run_pu rfl (move_step (.inr rfl) rfl) rfl (ltb rfl) ?_
                    refine run_ops_nil ?_
                    refine run_ret_to ?_
                    obtain rfl := some_t hM
                    refine fin_x hG rfl rfl rfl (v' := .bool false) (by rfl) ⟨_, ⟨101, 2, true, [[.int .i64 c12, .bool c13]]⟩, rfl, rfl, (show tk ≤ tk7 by omega), ⟨_, c12, c13, rfl, rfl, rfl⟩⟩
                  · replace hM := ite_f hb171 hM
                    refine run_skip ?_
                    refine run_seq ?_
                    refine run_seq ?_
                    refine run_region ?_
                    refine run_pu rfl (fieldAddr_step hG rfl rfl rfl rfl rfl) rfl (ltb rfl) ?_
                    refine run_rd rfl (aload_rd hG rfl rfl rfl (by simp [ldok])) rfl (ltb rfl) ?_
                    refine run_pu rfl (lenImm_step hG rfl rfl rfl rfl (flen _)) rfl (ltb rfl) ?_
                    refine run_pu rfl (move_step (.inl rfl) rfl) rfl (ltb rfl) ?_
                    refine run_ops_nil ?_
                    refine run_block ?_
                    refine run_rounds (fun m σ => ∃ (i172 : Int) (i173 : Int) (b174 : Bool) (tki_looker_proof_L7 : Nat), tk7 ≤ tki_looker_proof_L7 ∧ i_looker_proof_L1 (i_looker_proof n) n (Pf.mk k4 n4 (fers fs4) (pers ks4)) m i172 i173 b174 = some r ∧ σ = ⟨[(0, .optr (.bor 0) 0 0), (3, .optr (.loc 3) 0 0), (4, .bool false), (62, .imm p4 3 e4 (fcellss fs4)), (63, .int .i64 (((fers fs4)).length : Int)), (64, .int .i64 i172)], [(3, ⟨74, 4, true, [[.int .i64 k4, .int .i64 n4, .imm p4 3 e4 (fcellss fs4), .imm q4 4 f4 (pcellss ks4)]]⟩)], [⟨101, 2, true, [[.int .i64 i173, .bool b174]]⟩], O, tki_looker_proof_L7⟩) n (Sub.env [(0, .optr (.bor 0) 0 0), (3, .optr (.loc 3) 0 0), (4, .bool false), (62, .imm p4 3 e4 (fcellss fs4)), (63, .int .i64 (((fers fs4)).length : Int)), (64, .int .i64 0)] ⟨rfl, rfl, rfl, rfl, rfl, rfl, trivial⟩) ⟨0, c12, c13, tk7, Nat.le_refl _, hM, rfl⟩ (fun m σ hI => ?_)
                    clear hM
                    obtain ⟨i172, i173, b174, tki_looker_proof_L7, hle213, hM, rfl⟩ := hI
                    obtain _ | m := m
                    · exact absurd hM (by rw [i_looker_proof_L1]; exact fun h => by cases h)
                    rw [i_looker_proof_L1] at hM
                    refine run_seq ?_
                    refine run_region ?_
                    refine run_pu rfl (abin_step rfl rfl rfl rfl (fun _ h => by cases h)) rfl (ltb rfl) ?_
                    refine run_ops_nil ?_
                    refine run_seq ?_
                    refine run_ifd rfl rfl (fun hb175 => ?_) (fun hb175 => ?_)
                    · replace hM := ite_t hb175 hM
                      refine run_skip ?_
                      refine run_seq ?_
                      refine run_block ?_
                      refine run_seq ?_
                      refine run_region ?_
                      obtain ⟨y176, hy177, hM⟩ := bind_t hM
                      obtain ⟨k178, n178, q178, f178, ks178, rfl, hc179, hi180⟩ := fidx hy177
                      refine run_pu rfl (indexImm_step hG rfl rfl rfl hi180 rfl rfl rfl rfl hc179) rfl (ltb rfl) ?_
                      refine run_rd rfl (aload_rd hG rfl rfl rfl (by simp [ldok])) rfl (ltb rfl) ?_
                      refine run_op rfl (alloc_step (d := 8) hG rfl rfl rfl) rfl (ltb rfl) ?_
                      refine run_op0 rfl (store_step hG rfl rfl rfl rfl rfl rfl rfl rfl) rfl ?_
                      refine run_ops_nil ?_
                      refine run_seq ?_
                      refine run_region ?_
                      refine run_pu rfl (move_step (.inl rfl) rfl) rfl (ltb rfl) ?_
                      refine run_rd rfl (aload_rd hG rfl rfl rfl (by simp [ldok])) rfl (ltb rfl) ?_
                      obtain ⟨r181, hg182, hM⟩ := bind_t hM
                      refine run_call rfl rfl rfl (ltb rfl) rfl rfl rfl (fun _ h => absurd h List.not_mem_nil) (i_looker_form_ok n (.bor 0) i173 b174 k178 n178 q178 f178 ks178 hg182 _ _ rfl) (callK_retV_bor (k := 0) rfl (fun v o' tk' h => by obtain ⟨_, _, _, rfl, rfl, _⟩ := h; rfl) (fun v o' tk183 (hle184 : tki_looker_proof_L7 ≤ tk183) h185 => ?_))
                      obtain ⟨ra190, c188, c189, rfl, rfl, rfl⟩ := h185
                      refine run_pu rfl (aun_step rfl rfl rfl) rfl (ltb rfl) ?_
                      refine run_ops_nil ?_
                      refine run_ifb rfl rfl (fun hb191 => ?_) (fun hb191 => ?_)
                      · replace hM := ite_t hb191 hM
                        refine run_seq ?_
                        refine run_region ?_
                        refine run_pu rfl (move_step (.inr rfl) rfl) rfl (ltb rfl) ?_
                        refine run_ops_nil ?_
                        refine run_ret_to ?_
                        obtain rfl := some_t hM
                        refine fin_x hG rfl rfl rfl (v' := .bool false) (by rfl) ⟨_, ⟨101, 2, true, [[.int .i64 c188, .bool c189]]⟩, rfl, rfl, (show tk ≤ tk183 by omega), ⟨_, c188, c189, rfl, rfl, rfl⟩⟩
                      · replace hM := ite_f hb191 hM
                        refine run_skip ?_
                        refine run_blk ?_
                        refine run_region ?_
                        refine run_pu rfl (abin_step rfl rfl rfl rfl (fun _ h => by cases h)) rfl (ltb rfl) ?_
                        refine run_pu rfl (move_step (.inl rfl) rfl) rfl (ltb rfl) ?_
                        refine run_ops_nil ?_
                        exact run_loop_end ⟨m, _, Nat.lt_succ_self _, ⟨(IntKind.i64.wrap (i172 + 1)), c188, c189, tk183, (show tk7 ≤ tk183 by omega), hM, rfl⟩, Sub.trans (Sub.drop (k := 8) rfl) (Sub.env [(0, .optr (.bor 0) 0 0), (3, .optr (.loc 3) 0 0), (4, .bool false), (62, .imm p4 3 e4 (fcellss fs4)), (63, .int .i64 (((fers fs4)).length : Int)), (64, .int .i64 (IntKind.i64.wrap (i172 + 1)))] ⟨rfl, rfl, rfl, rfl, rfl, rfl, trivial⟩)⟩
                    · replace hM := ite_f hb175 hM
                      refine run_exit_to rfl ?_
                      refine run_seq ?_
                      refine run_seq ?_
                      refine run_region ?_
                      refine run_pu rfl (fieldAddr_step hG rfl rfl rfl rfl rfl) rfl (ltb rfl) ?_
                      refine run_rd rfl (aload_rd hG rfl rfl rfl (by simp [ldok])) rfl (ltb rfl) ?_
                      refine run_pu rfl (lenImm_step hG rfl rfl rfl rfl (plen _)) rfl (ltb rfl) ?_
                      refine run_pu rfl (move_step (.inl rfl) rfl) rfl (ltb rfl) ?_
                      refine run_ops_nil ?_
                      refine run_block ?_
                      refine run_rounds (fun m σ => ∃ (i192 : Int) (i193 : Int) (b194 : Bool) (tki_looker_proof_L8 : Nat), tki_looker_proof_L7 ≤ tki_looker_proof_L8 ∧ i_looker_proof_L2 (i_looker_proof n) (Pf.mk k4 n4 (fers fs4) (pers ks4)) m i192 i193 b194 = some r ∧ σ = ⟨[(0, .optr (.bor 0) 0 0), (4, .bool false), (74, .imm q4 4 f4 (pcellss ks4)), (75, .int .i64 (((pers ks4)).length : Int)), (76, .int .i64 i192)], [(3, ⟨74, 4, true, [[.int .i64 k4, .int .i64 n4, .imm p4 3 e4 (fcellss fs4), .imm q4 4 f4 (pcellss ks4)]]⟩)], [⟨101, 2, true, [[.int .i64 i193, .bool b194]]⟩], O, tki_looker_proof_L8⟩) n (Sub.env [(0, .optr (.bor 0) 0 0), (4, .bool false), (74, .imm q4 4 f4 (pcellss ks4)), (75, .int .i64 (((pers ks4)).length : Int)), (76, .int .i64 0)] ⟨rfl, rfl, rfl, rfl, rfl, trivial⟩) ⟨0, i173, b174, tki_looker_proof_L7, Nat.le_refl _, hM, rfl⟩ (fun m σ hI => ?_)
                      clear hM
                      obtain ⟨i192, i193, b194, tki_looker_proof_L8, hle212, hM, rfl⟩ := hI
                      obtain _ | m := m
                      · exact absurd hM (by rw [i_looker_proof_L2]; exact fun h => by cases h)
                      rw [i_looker_proof_L2] at hM
                      refine run_seq ?_
                      refine run_region ?_
                      refine run_pu rfl (abin_step rfl rfl rfl rfl (fun _ h => by cases h)) rfl (ltb rfl) ?_
                      refine run_ops_nil ?_
                      refine run_seq ?_
                      refine run_ifd rfl rfl (fun hb195 => ?_) (fun hb195 => ?_)
                      · replace hM := ite_t hb195 hM
                        refine run_skip ?_
                        refine run_seq ?_
                        refine run_block ?_
                        refine run_seq ?_
                        refine run_region ?_
                        obtain ⟨y196, hy197, hM⟩ := bind_t hM
                        obtain ⟨k198, n198, p198, e198, fs198, q198, f198, ks198, rfl, hc199, hi200⟩ := pidx hy197
                        refine run_pu rfl (indexImm_step hG rfl rfl rfl hi200 rfl rfl rfl rfl hc199) rfl (ltb rfl) ?_
                        refine run_rd rfl (aload_rd hG rfl rfl rfl (by simp [ldok])) rfl (ltb rfl) ?_
                        refine run_op rfl (alloc_step (d := 10) hG rfl rfl rfl) rfl (ltb rfl) ?_
                        refine run_op0 rfl (store_step hG rfl rfl rfl rfl rfl rfl rfl rfl) rfl ?_
                        refine run_ops_nil ?_
                        refine run_seq ?_
                        refine run_region ?_
                        refine run_pu rfl (move_step (.inl rfl) rfl) rfl (ltb rfl) ?_
                        refine run_rd rfl (aload_rd hG rfl rfl rfl (by simp [ldok])) rfl (ltb rfl) ?_
                        obtain ⟨r201, hg202, hM⟩ := bind_t hM
                        refine run_call rfl rfl rfl (ltb rfl) rfl rfl rfl (fun _ h => absurd h List.not_mem_nil) (ih_i_looker_proof (.bor 0) i193 b194 k198 n198 p198 e198 fs198 q198 f198 ks198 hg202 _ _ rfl) (callK_retV_bor (k := 0) rfl (fun v o' tk' h => by obtain ⟨_, _, _, rfl, rfl, _⟩ := h; rfl) (fun v o' tk203 (hle204 : tki_looker_proof_L8 ≤ tk203) h205 => ?_))
                        obtain ⟨ra210, c208, c209, rfl, rfl, rfl⟩ := h205
                        refine run_pu rfl (aun_step rfl rfl rfl) rfl (ltb rfl) ?_
                        refine run_ops_nil ?_
                        refine run_ifb rfl rfl (fun hb211 => ?_) (fun hb211 => ?_)
                        · replace hM := ite_t hb211 hM
                          refine run_seq ?_
                          refine run_region ?_
                          refine run_pu rfl (move_step (.inr rfl) rfl) rfl (ltb rfl) ?_
                          refine run_ops_nil ?_
                          refine run_ret_to ?_
                          obtain rfl := some_t hM
                          refine fin_x hG rfl rfl rfl (v' := .bool false) (by rfl) ⟨_, ⟨101, 2, true, [[.int .i64 c208, .bool c209]]⟩, rfl, rfl, (show tk ≤ tk203 by omega), ⟨_, c208, c209, rfl, rfl, rfl⟩⟩
                        · replace hM := ite_f hb211 hM
                          refine run_skip ?_
                          refine run_blk ?_
                          refine run_region ?_
                          refine run_pu rfl (abin_step rfl rfl rfl rfl (fun _ h => by cases h)) rfl (ltb rfl) ?_
                          refine run_pu rfl (move_step (.inl rfl) rfl) rfl (ltb rfl) ?_
                          refine run_ops_nil ?_
                          exact run_loop_end ⟨m, _, Nat.lt_succ_self _, ⟨(IntKind.i64.wrap (i192 + 1)), c208, c209, tk203, (show tki_looker_proof_L7 ≤ tk203 by omega), hM, rfl⟩, Sub.trans (Sub.drop (k := 10) rfl) (Sub.env [(0, .optr (.bor 0) 0 0), (4, .bool false), (74, .imm q4 4 f4 (pcellss ks4)), (75, .int .i64 (((pers ks4)).length : Int)), (76, .int .i64 (IntKind.i64.wrap (i192 + 1)))] ⟨rfl, rfl, rfl, rfl, rfl, trivial⟩)⟩
                      · replace hM := ite_f hb195 hM
                        refine run_exit_to rfl ?_
                        refine run_seq ?_
                        refine run_region ?_
                        refine run_pu rfl (move_step (.inr rfl) rfl) rfl (ltb rfl) ?_
                        refine run_ops_nil ?_
                        refine run_ret_to ?_
                        obtain rfl := some_t hM
                        refine fin_x hG rfl rfl rfl (v' := .bool true) (by rfl) ⟨_, ⟨101, 2, true, [[.int .i64 i193, .bool b194]]⟩, rfl, rfl, (show tk ≤ tki_looker_proof_L8 by omega), ⟨_, i193, b194, rfl, rfl, rfl⟩⟩
            · replace hM := ite_f hb168 hM
              by_cases hb214 : k4 = 6
              · replace hM := ite_t hb214 hM
                refine run_call rfl rfl rfl (ltb rfl) rfl rfl rfl (fun _ h => absurd h List.not_mem_nil) (i_ruleOf_ex4 k4 hb30 hb76 hb122 hb168 hb214 _ _) (callK_retN ?_)
                refine run_pu rfl (move_step (.inl rfl) rfl) rfl (ltb rfl) ?_
                refine run_pu rfl (extract_step rfl rfl rfl) rfl (ltb rfl) ?_
                refine run_pu rfl (extract_step rfl rfl rfl) rfl (ltb rfl) ?_
                refine run_op rfl (alloc_step (d := 5) hG rfl rfl rfl) rfl (ltb rfl) ?_
                refine run_op0 rfl (store_step hG rfl rfl rfl rfl rfl rfl rfl rfl) rfl ?_
                refine run_pu rfl (move_step (.inr rfl) rfl) rfl (ltb rfl) ?_
                refine run_ops_nil ?_
                refine run_sub_code (σ' := ⟨[(0, .optr (.bor 0) 0 0), (3, .optr (.loc 3) 0 0), (4, .bool false), (5, .optr (.loc 5) 0 0), (6, .bool true)], [(5, ⟨108, 5, true, [[.int .i64 2, .int .i64 2, .str ⟨#[117, 115, 101]⟩, .fn (.func 76) [] [], .fn (.func 70) [] []]]⟩), (3, ⟨74, 4, true, [[.int .i64 k4, .int .i64 n4, .imm p4 3 e4 (fcellss fs4), .imm q4 4 f4 (pcellss ks4)]]⟩)], [⟨101, 2, true, [[.int .i64 c12, .bool c13]]⟩], O, tk7⟩) (Sub.env [(0, .optr (.bor 0) 0 0), (3, .optr (.loc 3) 0 0), (4, .bool false), (5, .optr (.loc 5) 0 0), (6, .bool true)] ⟨rfl, rfl, rfl, rfl, rfl, trivial⟩) ?_
                refine run_seq ?_
                refine run_seq ?_
                refine run_region ?_
                refine run_pu rfl (move_step (.inl rfl) rfl) rfl (ltb rfl) ?_
                refine run_pu rfl (aun_step rfl rfl rfl) rfl (ltb rfl) ?_
                refine run_pu rfl (move_step (.inl rfl) rfl) rfl (ltb rfl) ?_
                refine run_puG (on_of rfl rfl rfl rfl) (fieldAddr_step hG rfl rfl rfl rfl rfl) rfl (ltb rfl) ?_
                refine run_rdG (on_of rfl rfl rfl rfl) (aload_rd hG rfl rfl rfl (by simp [ldok])) rfl (ltb rfl) ?_
                refine run_puG (on_of rfl rfl rfl rfl) (abin_step rfl rfl rfl rfl (fun _ h => by cases h)) rfl (ltb rfl) ?_
                refine run_pu rfl (pick_step rfl rfl rfl) rfl (ltb rfl) ?_
                refine run_pu rfl (move_step (.inl rfl) rfl) rfl (ltb rfl) ?_
                refine run_splitb (i := 45) rfl (fun hb215 => ?_) (fun hb215 => ?_)
                · replace hM := ite_t hb215 hM
                  refine run_off (on_of rfl rfl rfl rfl) rfl (ltb rfl) ?_
                  refine run_off (on_of rfl rfl rfl rfl) rfl (ltb rfl) ?_
                  refine run_off (on_of rfl rfl rfl rfl) rfl (ltb rfl) ?_
                  refine run_off (on_of rfl rfl rfl rfl) rfl (ltb rfl) ?_
                  refine run_off (on_of rfl rfl rfl rfl) rfl (ltb rfl) ?_
                  refine run_off (on_of rfl rfl rfl rfl) rfl (ltb rfl) ?_
                  refine run_pu rfl (pick_step rfl rfl rfl) rfl (ltb rfl) ?_
                  refine run_pu rfl (move_step (.inl rfl) rfl) rfl (ltb rfl) ?_
                  refine run_off (on_of rfl rfl rfl rfl) rfl (ltb rfl) ?_
                  refine run_off (on_of rfl rfl rfl rfl) rfl (ltb rfl) ?_
                  refine run_off (on_of rfl rfl rfl rfl) rfl (ltb rfl) ?_
                  refine run_off (on_of rfl rfl rfl rfl) rfl (ltb rfl) ?_
                  refine run_off (on_of rfl rfl rfl rfl) rfl (ltb rfl) ?_
                  refine run_off (on_of rfl rfl rfl rfl) rfl (ltb rfl) ?_
                  refine run_pu rfl (pick_step rfl rfl rfl) rfl (ltb rfl) ?_
                  refine run_ops_nil ?_
                  refine run_if rfl rfl (fun _ => ?_) (fun h => by cases h)
                  refine run_seq ?_
                  refine run_region ?_
                  refine run_pu rfl (move_step (.inr rfl) rfl) rfl (ltb rfl) ?_
                  refine run_ops_nil ?_
                  refine run_ret_to ?_
                  obtain rfl := some_t hM
                  refine fin_x hG rfl rfl rfl (v' := .bool false) (by rfl) ⟨_, ⟨101, 2, true, [[.int .i64 c12, .bool c13]]⟩, rfl, rfl, (show tk ≤ tk7 by omega), ⟨_, c12, c13, rfl, rfl, rfl⟩⟩
                · replace hM := ite_f hb215 hM
                  refine run_puG (on_of rfl rfl rfl rfl) (fieldAddr_step hG rfl rfl rfl rfl rfl) rfl (ltb rfl) ?_
                  refine run_rdG (on_of rfl rfl rfl rfl) (aload_rd hG rfl rfl rfl (by simp [ldok])) rfl (ltb rfl) ?_
                  refine run_puG (on_of rfl rfl rfl rfl) (lenImm_step hG rfl rfl rfl rfl (flen _)) rfl (ltb rfl) ?_
                  refine run_puG (on_of rfl rfl rfl rfl) (fieldAddr_step hG rfl rfl rfl rfl rfl) rfl (ltb rfl) ?_
                  refine run_rdG (on_of rfl rfl rfl rfl) (aload_rd hG rfl rfl rfl (by simp [ldok])) rfl (ltb rfl) ?_
                  refine run_puG (on_of rfl rfl rfl rfl) (abin_step rfl rfl rfl rfl (fun _ h => by cases h)) rfl (ltb rfl) ?_
                  refine run_pu rfl (pick_step rfl rfl rfl) rfl (ltb rfl) ?_
                  refine run_pu rfl (move_step (.inl rfl) rfl) rfl (ltb rfl) ?_
                  refine run_splitb (i := 53) rfl (fun hb216 => ?_) (fun hb216 => ?_)
                  · replace hM := ite_t hb216 hM
                    refine run_off (on_of rfl rfl rfl rfl) rfl (ltb rfl) ?_
                    refine run_off (on_of rfl rfl rfl rfl) rfl (ltb rfl) ?_
                    refine run_off (on_of rfl rfl rfl rfl) rfl (ltb rfl) ?_
                    refine run_off (on_of rfl rfl rfl rfl) rfl (ltb rfl) ?_
                    refine run_off (on_of rfl rfl rfl rfl) rfl (ltb rfl) ?_
                    refine run_off (on_of rfl rfl rfl rfl) rfl (ltb rfl) ?_
                    refine run_pu rfl (pick_step rfl rfl rfl) rfl (ltb rfl) ?_
                    refine run_ops_nil ?_
                    refine run_sub_code (σ' := ⟨[(0, .optr (.bor 0) 0 0), (3, .optr (.loc 3) 0 0), (4, .bool false), (60, .bool true)], [(3, ⟨74, 4, true, [[.int .i64 k4, .int .i64 n4, .imm p4 3 e4 (fcellss fs4), .imm q4 4 f4 (pcellss ks4)]]⟩)], [⟨101, 2, true, [[.int .i64 c12, .bool c13]]⟩], O, tk7⟩) (Sub.trans (Sub.drop (k := 5) rfl) (Sub.env [(0, .optr (.bor 0) 0 0), (3, .optr (.loc 3) 0 0), (4, .bool false), (60, .bool true)] ⟨rfl, rfl, rfl, rfl, trivial⟩)) ?_
                    refine run_if rfl rfl (fun _ => ?_) (fun h => by cases h)
                    refine run_seq ?_
                    refine run_region ?_
                    refine run_pu rfl (move_step (.inr rfl) rfl) rfl (ltb rfl) ?_
                    refine run_ops_nil ?_
                    refine run_ret_to ?_
                    obtain rfl := some_t hM
                    refine fin_x hG rfl rfl rfl (v' := .bool false) (by rfl) ⟨_, ⟨101, 2, true, [[.int .i64 c12, .bool c13]]⟩, rfl, rfl, (show tk ≤ tk7 by omega), ⟨_, c12, c13, rfl, rfl, rfl⟩⟩
                  · replace hM := ite_f hb216 hM
                    refine run_puG (on_of rfl rfl rfl rfl) (fieldAddr_step hG rfl rfl rfl rfl rfl) rfl (ltb rfl) ?_
                    refine run_rdG (on_of rfl rfl rfl rfl) (aload_rd hG rfl rfl rfl (by simp [ldok])) rfl (ltb rfl) ?_
                    refine run_puG (on_of rfl rfl rfl rfl) (lenImm_step hG rfl rfl rfl rfl (plen _)) rfl (ltb rfl) ?_
                    refine run_puG (on_of rfl rfl rfl rfl) (fieldAddr_step hG rfl rfl rfl rfl rfl) rfl (ltb rfl) ?_
                    refine run_rdG (on_of rfl rfl rfl rfl) (aload_rd hG rfl rfl rfl (by simp [ldok])) rfl (ltb rfl) ?_
                    refine run_puG (on_of rfl rfl rfl rfl) (abin_step rfl rfl rfl rfl (fun _ h => by cases h)) rfl (ltb rfl) ?_
                    refine run_pu rfl (pick_step rfl rfl rfl) rfl (ltb rfl) ?_
                    refine run_ops_nil ?_
                    refine run_sub_code (σ' := ⟨[(0, .optr (.bor 0) 0 0), (3, .optr (.loc 3) 0 0), (4, .bool false), (60, .bool ((((pers ks4)).length : Int) != 2))], [(3, ⟨74, 4, true, [[.int .i64 k4, .int .i64 n4, .imm p4 3 e4 (fcellss fs4), .imm q4 4 f4 (pcellss ks4)]]⟩)], [⟨101, 2, true, [[.int .i64 c12, .bool c13]]⟩], O, tk7⟩) (Sub.trans (Sub.drop (k := 5) rfl) (Sub.env [(0, .optr (.bor 0) 0 0), (3, .optr (.loc 3) 0 0), (4, .bool false), (60, .bool ((((pers ks4)).length : Int) != 2))] ⟨rfl, rfl, rfl, rfl, trivial⟩)) ?_
                    refine run_ifb rfl rfl (fun hb217 => ?_) (fun hb217 => ?_)
                    · replace hM := ite_t hb217 hM
                      refine run_seq ?_
                      refine run_region ?_
                      refine run_pu rfl (move_step (.inr rfl) rfl) rfl (ltb rfl) ?_
                      refine run_ops_nil ?_
                      refine run_ret_to ?_
                      obtain rfl := some_t hM
                      refine fin_x hG rfl rfl rfl (v' := .bool false) (by rfl) ⟨_, ⟨101, 2, true, [[.int .i64 c12, .bool c13]]⟩, rfl, rfl, (show tk ≤ tk7 by omega), ⟨_, c12, c13, rfl, rfl, rfl⟩⟩
                    · replace hM := ite_f hb217 hM
                      refine run_skip ?_
                      refine run_seq ?_
                      refine run_seq ?_
                      refine run_region ?_
                      refine run_pu rfl (fieldAddr_step hG rfl rfl rfl rfl rfl) rfl (ltb rfl) ?_
                      refine run_rd rfl (aload_rd hG rfl rfl rfl (by simp [ldok])) rfl (ltb rfl) ?_
                      refine run_pu rfl (lenImm_step hG rfl rfl rfl rfl (flen _)) rfl (ltb rfl) ?_
                      refine run_pu rfl (move_step (.inl rfl) rfl) rfl (ltb rfl) ?_
                      refine run_ops_nil ?_
                      refine run_block ?_
                      refine run_rounds (fun m σ => ∃ (i218 : Int) (i219 : Int) (b220 : Bool) (tki_looker_proof_L9 : Nat), tk7 ≤ tki_looker_proof_L9 ∧ i_looker_proof_L1 (i_looker_proof n) n (Pf.mk k4 n4 (fers fs4) (pers ks4)) m i218 i219 b220 = some r ∧ σ = ⟨[(0, .optr (.bor 0) 0 0), (3, .optr (.loc 3) 0 0), (4, .bool false), (62, .imm p4 3 e4 (fcellss fs4)), (63, .int .i64 (((fers fs4)).length : Int)), (64, .int .i64 i218)], [(3, ⟨74, 4, true, [[.int .i64 k4, .int .i64 n4, .imm p4 3 e4 (fcellss fs4), .imm q4 4 f4 (pcellss ks4)]]⟩)], [⟨101, 2, true, [[.int .i64 i219, .bool b220]]⟩], O, tki_looker_proof_L9⟩) n (Sub.env [(0, .optr (.bor 0) 0 0), (3, .optr (.loc 3) 0 0), (4, .bool false), (62, .imm p4 3 e4 (fcellss fs4)), (63, .int .i64 (((fers fs4)).length : Int)), (64, .int .i64 0)] ⟨rfl, rfl, rfl, rfl, rfl, rfl, trivial⟩) ⟨0, c12, c13, tk7, Nat.le_refl _, hM, rfl⟩ (fun m σ hI => ?_)
                      clear hM
                      obtain ⟨i218, i219, b220, tki_looker_proof_L9, hle259, hM, rfl⟩ := hI
                      obtain _ | m := m
                      · exact absurd hM (by rw [i_looker_proof_L1]; exact fun h => by cases h)
                      rw [i_looker_proof_L1] at hM
                      refine run_seq ?_
                      refine run_region ?_
                      refine run_pu rfl (abin_step rfl rfl rfl rfl (fun _ h => by cases h)) rfl (ltb rfl) ?_
                      refine run_ops_nil ?_
                      refine run_seq ?_
                      refine run_ifd rfl rfl (fun hb221 => ?_) (fun hb221 => ?_)
                      · replace hM := ite_t hb221 hM
                        refine run_skip ?_
                        refine run_seq ?_
                        refine run_block ?_
                        refine run_seq ?_
                        refine run_region ?_
                        obtain ⟨y222, hy223, hM⟩ := bind_t hM
                        obtain ⟨k224, n224, q224, f224, ks224, rfl, hc225, hi226⟩ := fidx hy223
                        refine run_pu rfl (indexImm_step hG rfl rfl rfl hi226 rfl rfl rfl rfl hc225) rfl (ltb rfl) ?_
                        refine run_rd rfl (aload_rd hG rfl rfl rfl (by simp [ldok])) rfl (ltb rfl) ?_
                        refine run_op rfl (alloc_step (d := 8) hG rfl rfl rfl) rfl (ltb rfl) ?_
                        refine run_op0 rfl (store_step hG rfl rfl rfl rfl rfl rfl rfl rfl) rfl ?_
                        refine run_ops_nil ?_
                        refine run_seq ?_
                        refine run_region ?_
                        refine run_pu rfl (move_step (.inl rfl) rfl) rfl (ltb rfl) ?_
                        refine run_rd rfl (aload_rd hG rfl rfl rfl (by simp [ldok])) rfl (ltb rfl) ?_
                        obtain ⟨r227, hg228, hM⟩ := bind_t hM
                        refine run_call rfl rfl rfl (ltb rfl) rfl rfl rfl (fun _ h => absurd h List.not_mem_nil) (i_looker_form_ok n (.bor 0) i219 b220 k224 n224 q224 f224 ks224 hg228 _ _ rfl) (callK_retV_bor (k := 0) rfl (fun v o' tk' h => by obtain ⟨_, _, _, rfl, rfl, _⟩ := h; rfl) (fun v o' tk229 (hle230 : tki_looker_proof_L9 ≤ tk229) h231 => ?_))
                        obtain ⟨ra236, c234, c235, rfl, rfl, rfl⟩ := h231
                        refine run_pu rfl (aun_step rfl rfl rfl) rfl (ltb rfl) ?_
                        refine run_ops_nil ?_
                        refine run_ifb rfl rfl (fun hb237 => ?_) (fun hb237 => ?_)
                        · replace hM := ite_t hb237 hM
                          refine run_seq ?_
                          refine run_region ?_
                          refine run_pu rfl (move_step (.inr rfl) rfl) rfl (ltb rfl) ?_
                          refine run_ops_nil ?_
                          refine run_ret_to ?_
                          obtain rfl := some_t hM
                          refine fin_x hG rfl rfl rfl (v' := .bool false) (by rfl) ⟨_, ⟨101, 2, true, [[.int .i64 c234, .bool c235]]⟩, rfl, rfl, (show tk ≤ tk229 by omega), ⟨_, c234, c235, rfl, rfl, rfl⟩⟩
                        · replace hM := ite_f hb237 hM
                          refine run_skip ?_
                          refine run_blk ?_
                          refine run_region ?_
                          refine run_pu rfl (abin_step rfl rfl rfl rfl (fun _ h => by cases h)) rfl (ltb rfl) ?_
                          refine run_pu rfl (move_step (.inl rfl) rfl) rfl (ltb rfl) ?_
                          refine run_ops_nil ?_
                          exact run_loop_end ⟨m, _, Nat.lt_succ_self _, ⟨(IntKind.i64.wrap (i218 + 1)), c234, c235, tk229, (show tk7 ≤ tk229 by omega), hM, rfl⟩, Sub.trans (Sub.drop (k := 8) rfl) (Sub.env [(0, .optr (.bor 0) 0 0), (3, .optr (.loc 3) 0 0), (4, .bool false), (62, .imm p4 3 e4 (fcellss fs4)), (63, .int .i64 (((fers fs4)).length : Int)), (64, .int .i64 (IntKind.i64.wrap (i218 + 1)))] ⟨rfl, rfl, rfl, rfl, rfl, rfl, trivial⟩)⟩
                      · replace hM := ite_f hb221 hM
                        refine run_exit_to rfl ?_
                        refine run_seq ?_
                        refine run_seq ?_
                        refine run_region ?_
                        refine run_pu rfl (fieldAddr_step hG rfl rfl rfl rfl rfl) rfl (ltb rfl) ?_
                        refine run_rd rfl (aload_rd hG rfl rfl rfl (by simp [ldok])) rfl (ltb rfl) ?_
                        refine run_pu rfl (lenImm_step hG rfl rfl rfl rfl (plen _)) rfl (ltb rfl) ?_
                        refine run_pu rfl (move_step (.inl rfl) rfl) rfl (ltb rfl) ?_
                        refine run_ops_nil ?_
                        refine run_block ?_
                        refine run_rounds (fun m σ => ∃ (i238 : Int) (i239 : Int) (b240 : Bool) (tki_looker_proof_L10 : Nat), tki_looker_proof_L9 ≤ tki_looker_proof_L10 ∧ i_looker_proof_L2 (i_looker_proof n) (Pf.mk k4 n4 (fers fs4) (pers ks4)) m i238 i239 b240 = some r ∧ σ = ⟨[(0, .optr (.bor 0) 0 0), (4, .bool false), (74, .imm q4 4 f4 (pcellss ks4)), (75, .int .i64 (((pers ks4)).length : Int)), (76, .int .i64 i238)], [(3, ⟨74, 4, true, [[.int .i64 k4, .int .i64 n4, .imm p4 3 e4 (fcellss fs4), .imm q4 4 f4 (pcellss ks4)]]⟩)], [⟨101, 2, true, [[.int .i64 i239, .bool b240]]⟩], O, tki_looker_proof_L10⟩) n (Sub.env [(0, .optr (.bor 0) 0 0), (4, .bool false), (74, .imm q4 4 f4 (pcellss ks4)), (75, .int .i64 (((pers ks4)).length : Int)), (76, .int .i64 0)] ⟨rfl, rfl, rfl, rfl, rfl, trivial⟩) ⟨0, i219, b220, tki_looker_proof_L9, Nat.le_refl _, hM, rfl⟩ (fun m σ hI => ?_)
                        clear hM
                        obtain ⟨i238, i239, b240, tki_looker_proof_L10, hle258, hM, rfl⟩ := hI
                        obtain _ | m := m
                        · exact absurd hM (by rw [i_looker_proof_L2]; exact fun h => by cases h)
                        rw [i_looker_proof_L2] at hM
                        refine run_seq ?_
                        refine run_region ?_
                        refine run_pu rfl (abin_step rfl rfl rfl rfl (fun _ h => by cases h)) rfl (ltb rfl) ?_
                        refine run_ops_nil ?_
                        refine run_seq ?_
                        refine run_ifd rfl rfl (fun hb241 => ?_) (fun hb241 => ?_)
                        · replace hM := ite_t hb241 hM
                          refine run_skip ?_
                          refine run_seq ?_
                          refine run_block ?_
                          refine run_seq ?_
                          refine run_region ?_
                          obtain ⟨y242, hy243, hM⟩ := bind_t hM
                          obtain ⟨k244, n244, p244, e244, fs244, q244, f244, ks244, rfl, hc245, hi246⟩ := pidx hy243
                          refine run_pu rfl (indexImm_step hG rfl rfl rfl hi246 rfl rfl rfl rfl hc245) rfl (ltb rfl) ?_
                          refine run_rd rfl (aload_rd hG rfl rfl rfl (by simp [ldok])) rfl (ltb rfl) ?_
                          refine run_op rfl (alloc_step (d := 10) hG rfl rfl rfl) rfl (ltb rfl) ?_
                          refine run_op0 rfl (store_step hG rfl rfl rfl rfl rfl rfl rfl rfl) rfl ?_
                          refine run_ops_nil ?_
                          refine run_seq ?_
                          refine run_region ?_
                          refine run_pu rfl (move_step (.inl rfl) rfl) rfl (ltb rfl) ?_
                          refine run_rd rfl (aload_rd hG rfl rfl rfl (by simp [ldok])) rfl (ltb rfl) ?_
                          obtain ⟨r247, hg248, hM⟩ := bind_t hM
                          refine run_call rfl rfl rfl (ltb rfl) rfl rfl rfl (fun _ h => absurd h List.not_mem_nil) (ih_i_looker_proof (.bor 0) i239 b240 k244 n244 p244 e244 fs244 q244 f244 ks244 hg248 _ _ rfl) (callK_retV_bor (k := 0) rfl (fun v o' tk' h => by obtain ⟨_, _, _, rfl, rfl, _⟩ := h; rfl) (fun v o' tk249 (hle250 : tki_looker_proof_L10 ≤ tk249) h251 => ?_))
                          obtain ⟨ra256, c254, c255, rfl, rfl, rfl⟩ := h251
                          refine run_pu rfl (aun_step rfl rfl rfl) rfl (ltb rfl) ?_
                          refine run_ops_nil ?_
                          refine run_ifb rfl rfl (fun hb257 => ?_) (fun hb257 => ?_)
                          · replace hM := ite_t hb257 hM
                            refine run_seq ?_
                            refine run_region ?_
                            refine run_pu rfl (move_step (.inr rfl) rfl) rfl (ltb rfl) ?_
                            refine run_ops_nil ?_
                            refine run_ret_to ?_
                            obtain rfl := some_t hM
                            refine fin_x hG rfl rfl rfl (v' := .bool false) (by rfl) ⟨_, ⟨101, 2, true, [[.int .i64 c254, .bool c255]]⟩, rfl, rfl, (show tk ≤ tk249 by omega), ⟨_, c254, c255, rfl, rfl, rfl⟩⟩
                          · replace hM := ite_f hb257 hM
                            refine run_skip ?_
                            refine run_blk ?_
                            refine run_region ?_
                            refine run_pu rfl (abin_step rfl rfl rfl rfl (fun _ h => by cases h)) rfl (ltb rfl) ?_
                            refine run_pu rfl (move_step (.inl rfl) rfl) rfl (ltb rfl) ?_
                            refine run_ops_nil ?_
                            exact run_loop_end ⟨m, _, Nat.lt_succ_self _, ⟨(IntKind.i64.wrap (i238 + 1)), c254, c255, tk249, (show tki_looker_proof_L9 ≤ tk249 by omega), hM, rfl⟩, Sub.trans (Sub.drop (k := 10) rfl) (Sub.env [(0, .optr (.bor 0) 0 0), (4, .bool false), (74, .imm q4 4 f4 (pcellss ks4)), (75, .int .i64 (((pers ks4)).length : Int)), (76, .int .i64 (IntKind.i64.wrap (i238 + 1)))] ⟨rfl, rfl, rfl, rfl, rfl, trivial⟩)⟩
                        · replace hM := ite_f hb241 hM
                          refine run_exit_to rfl ?_
                          refine run_seq ?_
                          refine run_region ?_
                          refine run_pu rfl (move_step (.inr rfl) rfl) rfl (ltb rfl) ?_
                          refine run_ops_nil ?_
                          refine run_ret_to ?_
                          obtain rfl := some_t hM
                          refine fin_x hG rfl rfl rfl (v' := .bool true) (by rfl) ⟨_, ⟨101, 2, true, [[.int .i64 i239, .bool b240]]⟩, rfl, rfl, (show tk ≤ tki_looker_proof_L10 by omega), ⟨_, i239, b240, rfl, rfl, rfl⟩⟩
              · replace hM := ite_f hb214 hM
                by_cases hb260 : k4 = 7
                · replace hM := ite_t hb260 hM
                  refine run_call rfl rfl rfl (ltb rfl) rfl rfl rfl (fun _ h => absurd h List.not_mem_nil) (i_ruleOf_ex5 k4 hb30 hb76 hb122 hb168 hb214 hb260 _ _) (callK_retN ?_)
                  refine run_pu rfl (move_step (.inl rfl) rfl) rfl (ltb rfl) ?_
                  refine run_pu rfl (extract_step rfl rfl rfl) rfl (ltb rfl) ?_
                  refine run_pu rfl (extract_step rfl rfl rfl) rfl (ltb rfl) ?_
                  refine run_op rfl (alloc_step (d := 5) hG rfl rfl rfl) rfl (ltb rfl) ?_
                  refine run_op0 rfl (store_step hG rfl rfl rfl rfl rfl rfl rfl rfl) rfl ?_
                  refine run_pu rfl (move_step (.inr rfl) rfl) rfl (ltb rfl) ?_
                  refine run_ops_nil ?_
                  refine run_sub_code (σ' := ⟨[(0, .optr (.bor 0) 0 0), (3, .optr (.loc 3) 0 0), (4, .bool false), (5, .optr (.loc 5) 0 0), (6, .bool true)], [(5, ⟨108, 5, true, [[.int .i64 1, .int .i64 1, .str ⟨#[98, 111, 116, 69]⟩, .fn (.func 77) [] [], .fn (.func 69) [] []]]⟩), (3, ⟨74, 4, true, [[.int .i64 k4, .int .i64 n4, .imm p4 3 e4 (fcellss fs4), .imm q4 4 f4 (pcellss ks4)]]⟩)], [⟨101, 2, true, [[.int .i64 c12, .bool c13]]⟩], O, tk7⟩) (Sub.env [(0, .optr (.bor 0) 0 0), (3, .optr (.loc 3) 0 0), (4, .bool false), (5, .optr (.loc 5) 0 0), (6, .bool true)] ⟨rfl, rfl, rfl, rfl, rfl, trivial⟩) ?_
                  refine run_seq ?_
                  refine run_seq ?_
                  refine run_region ?_
                  refine run_pu rfl (move_step (.inl rfl) rfl) rfl (ltb rfl) ?_
                  refine run_pu rfl (aun_step rfl rfl rfl) rfl (ltb rfl) ?_
                  refine run_pu rfl (move_step (.inl rfl) rfl) rfl (ltb rfl) ?_
                  refine run_puG (on_of rfl rfl rfl rfl) (fieldAddr_step hG rfl rfl rfl rfl rfl) rfl (ltb rfl) ?_
                  refine run_rdG (on_of rfl rfl rfl rfl) (aload_rd hG rfl rfl rfl (by simp [ldok])) rfl (ltb rfl) ?_
                  refine run_puG (on_of rfl rfl rfl rfl) (abin_step rfl rfl rfl rfl (fun _ h => by cases h)) rfl (ltb rfl) ?_
                  refine run_pu rfl (pick_step rfl rfl rfl) rfl (ltb rfl) ?_
                  refine run_pu rfl (move_step (.inl rfl) rfl) rfl (ltb rfl) ?_
                  refine run_splitb (i := 45) rfl (fun hb261 => ?_) (fun hb261 => ?_)
                  · replace hM := ite_t hb261 hM
                    refine run_off (on_of rfl rfl rfl rfl) rfl (ltb rfl) ?_
                    refine run_off (on_of rfl rfl rfl rfl) rfl (ltb rfl) ?_
                    refine run_off (on_of rfl rfl rfl rfl) rfl (ltb rfl) ?_
                    refine run_off (on_of rfl rfl rfl rfl) rfl (ltb rfl) ?_
                    refine run_off (on_of rfl rfl rfl rfl) rfl (ltb rfl) ?_
                    refine run_off (on_of rfl rfl rfl rfl) rfl (ltb rfl) ?_
                    refine run_pu rfl (pick_step rfl rfl rfl) rfl (ltb rfl) ?_
                    refine run_pu rfl (move_step (.inl rfl) rfl) rfl (ltb rfl) ?_
                    refine run_off (on_of rfl rfl rfl rfl) rfl (ltb rfl) ?_
                    refine run_off (on_of rfl rfl rfl rfl) rfl (ltb rfl) ?_
                    refine run_off (on_of rfl rfl rfl rfl) rfl (ltb rfl) ?_
                    refine run_off (on_of rfl rfl rfl rfl) rfl (ltb rfl) ?_
                    refine run_off (on_of rfl rfl rfl rfl) rfl (ltb rfl) ?_
                    refine run_off (on_of rfl rfl rfl rfl) rfl (ltb rfl) ?_
                    refine run_pu rfl (pick_step rfl rfl rfl) rfl (ltb rfl) ?_
                    refine run_ops_nil ?_
                    refine run_if rfl rfl (fun _ => ?_) (fun h => by cases h)
                    refine run_seq ?_
                    refine run_region ?_
                    refine run_pu rfl (move_step (.inr rfl) rfl) rfl (ltb rfl) ?_
                    refine run_ops_nil ?_
                    refine run_ret_to ?_
                    obtain rfl := some_t hM
                    refine fin_x hG rfl rfl rfl (v' := .bool false) (by rfl) ⟨_, ⟨101, 2, true, [[.int .i64 c12, .bool c13]]⟩, rfl, rfl, (show tk ≤ tk7 by omega), ⟨_, c12, c13, rfl, rfl, rfl⟩⟩
                  · replace hM := ite_f hb261 hM
                    refine run_puG (on_of rfl rfl rfl rfl) (fieldAddr_step hG rfl rfl rfl rfl rfl) rfl (ltb rfl) ?_
                    refine run_rdG (on_of rfl rfl rfl rfl) (aload_rd hG rfl rfl rfl (by simp [ldok])) rfl (ltb rfl) ?_
                    refine run_puG (on_of rfl rfl rfl rfl) (lenImm_step hG rfl rfl rfl rfl (flen _)) rfl (ltb rfl) ?_
                    refine run_puG (on_of rfl rfl rfl rfl) (fieldAddr_step hG rfl rfl rfl rfl rfl) rfl (ltb rfl) ?_
                    refine run_rdG (on_of rfl rfl rfl rfl) (aload_rd hG rfl rfl rfl (by simp [ldok])) rfl (ltb rfl) ?_
                    refine run_puG (on_of rfl rfl rfl rfl) (abin_step rfl rfl rfl rfl (fun _ h => by cases h)) rfl (ltb rfl) ?_
                    refine run_pu rfl (pick_step rfl rfl rfl) rfl (ltb rfl) ?_
                    refine run_pu rfl (move_step (.inl rfl) rfl) rfl (ltb rfl) ?_
                    refine run_splitb (i := 53) rfl (fun hb262 => ?_) (fun hb262 => ?_)
                    · replace hM := ite_t hb262 hM
                      refine run_off (on_of rfl rfl rfl rfl) rfl (ltb rfl) ?_
                      refine run_off (on_of rfl rfl rfl rfl) rfl (ltb rfl) ?_
                      refine run_off (on_of rfl rfl rfl rfl) rfl (ltb rfl) ?_
                      refine run_off (on_of rfl rfl rfl rfl) rfl (ltb rfl) ?_
                      refine run_off (on_of rfl rfl rfl rfl) rfl (ltb rfl) ?_
                      refine run_off (on_of rfl rfl rfl rfl) rfl (ltb rfl) ?_
                      refine run_pu rfl (pick_step rfl rfl rfl) rfl (ltb rfl) ?_
                      refine run_ops_nil ?_
                      refine run_sub_code (σ' := ⟨[(0, .optr (.bor 0) 0 0), (3, .optr (.loc 3) 0 0), (4, .bool false), (60, .bool true)], [(3, ⟨74, 4, true, [[.int .i64 k4, .int .i64 n4, .imm p4 3 e4 (fcellss fs4), .imm q4 4 f4 (pcellss ks4)]]⟩)], [⟨101, 2, true, [[.int .i64 c12, .bool c13]]⟩], O, tk7⟩) (Sub.trans (Sub.drop (k := 5) rfl) (Sub.env [(0, .optr (.bor 0) 0 0), (3, .optr (.loc 3) 0 0), (4, .bool false), (60, .bool true)] ⟨rfl, rfl, rfl, rfl, trivial⟩)) ?_
                      refine run_if rfl rfl (fun _ => ?_) (fun h => by cases h)
                      refine run_seq ?_
                      refine run_region ?_
                      refine run_pu rfl (move_step (.inr rfl) rfl) rfl (ltb rfl) ?_
                      refine run_ops_nil ?_
                      refine run_ret_to ?_
                      obtain rfl := some_t hM
                      refine fin_x hG rfl rfl rfl (v' := .bool false) (by rfl) ⟨_, ⟨101, 2, true, [[.int .i64 c12, .bool c13]]⟩, rfl, rfl, (show tk ≤ tk7 by omega), ⟨_, c12, c13, rfl, rfl, rfl⟩⟩
                    · replace hM := ite_f hb262 hM
                      refine run_puG (on_of rfl rfl rfl rfl) (fieldAddr_step hG rfl rfl rfl rfl rfl) rfl (ltb rfl) ?_
                      refine run_rdG (on_of rfl rfl rfl rfl) (aload_rd hG rfl rfl rfl (by simp [ldok])) rfl (ltb rfl) ?_
                      refine run_puG (on_of rfl rfl rfl rfl) (lenImm_step hG rfl rfl rfl rfl (plen _)) rfl (ltb rfl) ?_
                      refine run_puG (on_of rfl rfl rfl rfl) (fieldAddr_step hG rfl rfl rfl rfl rfl) rfl (ltb rfl) ?_
                      refine run_rdG (on_of rfl rfl rfl rfl) (aload_rd hG rfl rfl rfl (by simp [ldok])) rfl (ltb rfl) ?_
                      refine run_puG (on_of rfl rfl rfl rfl) (abin_step rfl rfl rfl rfl (fun _ h => by cases h)) rfl (ltb rfl) ?_
                      refine run_pu rfl (pick_step rfl rfl rfl) rfl (ltb rfl) ?_
                      refine run_ops_nil ?_
                      refine run_sub_code (σ' := ⟨[(0, .optr (.bor 0) 0 0), (3, .optr (.loc 3) 0 0), (4, .bool false), (60, .bool ((((pers ks4)).length : Int) != 1))], [(3, ⟨74, 4, true, [[.int .i64 k4, .int .i64 n4, .imm p4 3 e4 (fcellss fs4), .imm q4 4 f4 (pcellss ks4)]]⟩)], [⟨101, 2, true, [[.int .i64 c12, .bool c13]]⟩], O, tk7⟩) (Sub.trans (Sub.drop (k := 5) rfl) (Sub.env [(0, .optr (.bor 0) 0 0), (3, .optr (.loc 3) 0 0), (4, .bool false), (60, .bool ((((pers ks4)).length : Int) != 1))] ⟨rfl, rfl, rfl, rfl, trivial⟩)) ?_
                      refine run_ifb rfl rfl (fun hb263 => ?_) (fun hb263 => ?_)
                      · replace hM := ite_t hb263 hM
                        refine run_seq ?_
                        refine run_region ?_
                        refine run_pu rfl (move_step (.inr rfl) rfl) rfl (ltb rfl) ?_
                        refine run_ops_nil ?_
                        refine run_ret_to ?_
                        obtain rfl := some_t hM
                        refine fin_x hG rfl rfl rfl (v' := .bool false) (by rfl) ⟨_, ⟨101, 2, true, [[.int .i64 c12, .bool c13]]⟩, rfl, rfl, (show tk ≤ tk7 by omega), ⟨_, c12, c13, rfl, rfl, rfl⟩⟩
                      · replace hM := ite_f hb263 hM
                        refine run_skip ?_
                        refine run_seq ?_
                        refine run_seq ?_
                        refine run_region ?_
                        refine run_pu rfl (fieldAddr_step hG rfl rfl rfl rfl rfl) rfl (ltb rfl) ?_
                        refine run_rd rfl (aload_rd hG rfl rfl rfl (by simp [ldok])) rfl (ltb rfl) ?_
                        refine run_pu rfl (lenImm_step hG rfl rfl rfl rfl (flen _)) rfl (ltb rfl) ?_
                        refine run_pu rfl (move_step (.inl rfl) rfl) rfl (ltb rfl) ?_
                        refine run_ops_nil ?_
                        refine run_block ?_
                        refine run_rounds (fun m σ => ∃ (i264 : Int) (i265 : Int) (b266 : Bool) (tki_looker_proof_L11 : Nat), tk7 ≤ tki_looker_proof_L11 ∧ i_looker_proof_L1 (i_looker_proof n) n (Pf.mk k4 n4 (fers fs4) (pers ks4)) m i264 i265 b266 = some r ∧ σ = ⟨[(0, .optr (.bor 0) 0 0), (3, .optr (.loc 3) 0 0), (4, .bool false), (62, .imm p4 3 e4 (fcellss fs4)), (63, .int .i64 (((fers fs4)).length : Int)), (64, .int .i64 i264)], [(3, ⟨74, 4, true, [[.int .i64 k4, .int .i64 n4, .imm p4 3 e4 (fcellss fs4), .imm q4 4 f4 (pcellss ks4)]]⟩)], [⟨101, 2, true, [[.int .i64 i265, .bool b266]]⟩], O, tki_looker_proof_L11⟩) n (Sub.env [(0, .optr (.bor 0) 0 0), (3, .optr (.loc 3) 0 0), (4, .bool false), (62, .imm p4 3 e4 (fcellss fs4)), (63, .int .i64 (((fers fs4)).length : Int)), (64, .int .i64 0)] ⟨rfl, rfl, rfl, rfl, rfl, rfl, trivial⟩) ⟨0, c12, c13, tk7, Nat.le_refl _, hM, rfl⟩ (fun m σ hI => ?_)
                        clear hM
                        obtain ⟨i264, i265, b266, tki_looker_proof_L11, hle305, hM, rfl⟩ := hI
                        obtain _ | m := m
                        · exact absurd hM (by rw [i_looker_proof_L1]; exact fun h => by cases h)
                        rw [i_looker_proof_L1] at hM
                        refine run_seq ?_
                        refine run_region ?_
                        refine run_pu rfl (abin_step rfl rfl rfl rfl (fun _ h => by cases h)) rfl (ltb rfl) ?_
                        refine run_ops_nil ?_
                        refine run_seq ?_
                        refine run_ifd rfl rfl (fun hb267 => ?_) (fun hb267 => ?_)
                        · replace hM := ite_t hb267 hM
                          refine run_skip ?_
                          refine run_seq ?_
                          refine run_block ?_
                          refine run_seq ?_
                          refine run_region ?_
                          obtain ⟨y268, hy269, hM⟩ := bind_t hM
                          obtain ⟨k270, n270, q270, f270, ks270, rfl, hc271, hi272⟩ := fidx hy269
                          refine run_pu rfl (indexImm_step hG rfl rfl rfl hi272 rfl rfl rfl rfl hc271) rfl (ltb rfl) ?_
                          refine run_rd rfl (aload_rd hG rfl rfl rfl (by simp [ldok])) rfl (ltb rfl) ?_
                          refine run_op rfl (alloc_step (d := 8) hG rfl rfl rfl) rfl (ltb rfl) ?_
                          refine run_op0 rfl (store_step hG rfl rfl rfl rfl rfl rfl rfl rfl) rfl ?_
                          refine run_ops_nil ?_
                          refine run_seq ?_
                          refine run_region ?_
                          refine run_pu rfl (move_step (.inl rfl) rfl) rfl (ltb rfl) ?_
                          refine run_rd rfl (aload_rd hG rfl rfl rfl (by simp [ldok])) rfl (ltb rfl) ?_
                          obtain ⟨r273, hg274, hM⟩ := bind_t hM
                          refine run_call rfl rfl rfl (ltb rfl) rfl rfl rfl (fun _ h => absurd h List.not_mem_nil) (i_looker_form_ok n (.bor 0) i265 b266 k270 n270 q270 f270 ks270 hg274 _ _ rfl) (callK_retV_bor (k := 0) rfl (fun v o' tk' h => by obtain ⟨_, _, _, rfl, rfl, _⟩ := h; rfl) (fun v o' tk275 (hle276 : tki_looker_proof_L11 ≤ tk275) h277 => ?_))
                          obtain ⟨ra282, c280, c281, rfl, rfl, rfl⟩ := h277
                          refine run_pu rfl (aun_step rfl rfl rfl) rfl (ltb rfl) ?_
                          refine run_ops_nil ?_
                          refine run_ifb rfl rfl (fun hb283 => ?_) (fun hb283 => ?_)
                          · replace hM := ite_t hb283 hM
                            refine run_seq ?_
                            refine run_region ?_
                            refine run_pu rfl (move_step (.inr rfl) rfl) rfl (ltb rfl) ?_
                            refine run_ops_nil ?_
                            refine run_ret_to ?_
                            obtain rfl := some_t hM
                            refine fin_x hG rfl rfl rfl (v' := .bool false) (by rfl) ⟨_, ⟨101, 2, true, [[.int .i64 c280, .bool c281]]⟩, rfl, rfl, (show tk ≤ tk275 by omega), ⟨_, c280, c281, rfl, rfl, rfl⟩⟩
                          · replace hM := ite_f hb283 hM
                            refine run_skip ?_
                            refine run_blk ?_
                            refine run_region ?_
                            refine run_pu rfl (abin_step rfl rfl rfl rfl (fun _ h => by cases h)) rfl (ltb rfl) ?_
                            refine run_pu rfl (move_step (.inl rfl) rfl) rfl (ltb rfl) ?_
                            refine run_ops_nil ?_
                            exact run_loop_end ⟨m, _, Nat.lt_succ_self _, ⟨(IntKind.i64.wrap (i264 + 1)), c280, c281, tk275, (show tk7 ≤ tk275 by omega), hM, rfl⟩, Sub.trans (Sub.drop (k := 8) rfl) (Sub.env [(0, .optr (.bor 0) 0 0), (3, .optr (.loc 3) 0 0), (4, .bool false), (62, .imm p4 3 e4 (fcellss fs4)), (63, .int .i64 (((fers fs4)).length : Int)), (64, .int .i64 (IntKind.i64.wrap (i264 + 1)))] ⟨rfl, rfl, rfl, rfl, rfl, rfl, trivial⟩)⟩
                        · replace hM := ite_f hb267 hM
                          refine run_exit_to rfl ?_
                          refine run_seq ?_
                          refine run_seq ?_
                          refine run_region ?_
                          refine run_pu rfl (fieldAddr_step hG rfl rfl rfl rfl rfl) rfl (ltb rfl) ?_
                          refine run_rd rfl (aload_rd hG rfl rfl rfl (by simp [ldok])) rfl (ltb rfl) ?_
                          refine run_pu rfl (lenImm_step hG rfl rfl rfl rfl (plen _)) rfl (ltb rfl) ?_
                          refine run_pu rfl (move_step (.inl rfl) rfl) rfl (ltb rfl) ?_
                          refine run_ops_nil ?_
                          refine run_block ?_
                          refine run_rounds (fun m σ => ∃ (i284 : Int) (i285 : Int) (b286 : Bool) (tki_looker_proof_L12 : Nat), tki_looker_proof_L11 ≤ tki_looker_proof_L12 ∧ i_looker_proof_L2 (i_looker_proof n) (Pf.mk k4 n4 (fers fs4) (pers ks4)) m i284 i285 b286 = some r ∧ σ = ⟨[(0, .optr (.bor 0) 0 0), (4, .bool false), (74, .imm q4 4 f4 (pcellss ks4)), (75, .int .i64 (((pers ks4)).length : Int)), (76, .int .i64 i284)], [(3, ⟨74, 4, true, [[.int .i64 k4, .int .i64 n4, .imm p4 3 e4 (fcellss fs4), .imm q4 4 f4 (pcellss ks4)]]⟩)], [⟨101, 2, true, [[.int .i64 i285, .bool b286]]⟩], O, tki_looker_proof_L12⟩) n (Sub.env [(0, .optr (.bor 0) 0 0), (4, .bool false), (74, .imm q4 4 f4 (pcellss ks4)), (75, .int .i64 (((pers ks4)).length : Int)), (76, .int .i64 0)] ⟨rfl, rfl, rfl, rfl, rfl, trivial⟩) ⟨0, i265, b266, tki_looker_proof_L11, Nat.le_refl _, hM, rfl⟩ (fun m σ hI => ?_)
                          clear hM
                          obtain ⟨i284, i285, b286, tki_looker_proof_L12, hle304, hM, rfl⟩ := hI
                          obtain _ | m := m
                          · exact absurd hM (by rw [i_looker_proof_L2]; exact fun h => by cases h)
                          rw [i_looker_proof_L2] at hM
                          refine run_seq ?_
                          refine run_region ?_
                          refine run_pu rfl (abin_step rfl rfl rfl rfl (fun _ h => by cases h)) rfl (ltb rfl) ?_
                          refine run_ops_nil ?_
                          refine run_seq ?_
                          refine run_ifd rfl rfl (fun hb287 => ?_) (fun hb287 => ?_)
                          · replace hM := ite_t hb287 hM
                            refine run_skip ?_
                            refine run_seq ?_
                            refine run_block ?_
                            refine run_seq ?_
                            refine run_region ?_
                            obtain ⟨y288, hy289, hM⟩ := bind_t hM
                            obtain ⟨k290, n290, p290, e290, fs290, q290, f290, ks290, rfl, hc291, hi292⟩ := pidx hy289
                            refine run_pu rfl (indexImm_step hG rfl rfl rfl hi292 rfl rfl rfl rfl hc291) rfl (ltb rfl) ?_
                            refine run_rd rfl (aload_rd hG rfl rfl rfl (by simp [ldok])) rfl (ltb rfl) ?_
                            refine run_op rfl (alloc_step (d := 10) hG rfl rfl rfl) rfl (ltb rfl) ?_
                            refine run_op0 rfl (store_step hG rfl rfl rfl rfl rfl rfl rfl rfl) rfl ?_
                            refine run_ops_nil ?_
                            refine run_seq ?_
                            refine run_region ?_
                            refine run_pu rfl (move_step (.inl rfl) rfl) rfl (ltb rfl) ?_
                            refine run_rd rfl (aload_rd hG rfl rfl rfl (by simp [ldok])) rfl (ltb rfl) ?_
                            obtain ⟨r293, hg294, hM⟩ := bind_t hM
                            refine run_call rfl rfl rfl (ltb rfl) rfl rfl rfl (fun _ h => absurd h List.not_mem_nil) (ih_i_looker_proof (.bor 0) i285 b286 k290 n290 p290 e290 fs290 q290 f290 ks290 hg294 _ _ rfl) (callK_retV_bor (k := 0) rfl (fun v o' tk' h => by obtain ⟨_, _, _, rfl, rfl, _⟩ := h; rfl) (fun v o' tk295 (hle296 : tki_looker_proof_L12 ≤ tk295) h297 => ?_))
                            obtain ⟨ra302, c300, c301, rfl, rfl, rfl⟩ := h297
                            refine run_pu rfl (aun_step rfl rfl rfl) rfl (ltb rfl) ?_
                            refine run_ops_nil ?_
                            refine run_ifb rfl rfl (fun hb303 => ?_) (fun hb303 => ?_)
                            · replace hM := ite_t hb303 hM
                              refine run_seq ?_
                              refine run_region ?_
                              refine run_pu rfl (move_step (.inr rfl) rfl) rfl (ltb rfl) ?_
                              refine run_ops_nil ?_
                              refine run_ret_to ?_
                              obtain rfl := some_t hM
                              refine fin_x hG rfl rfl rfl (v' := .bool false) (by rfl) ⟨_, ⟨101, 2, true, [[.int .i64 c300, .bool c301]]⟩, rfl, rfl, (show tk ≤ tk295 by omega), ⟨_, c300, c301, rfl, rfl, rfl⟩⟩
                            · replace hM := ite_f hb303 hM
                              refine run_skip ?_
                              refine run_blk ?_
                              refine run_region ?_
                              refine run_pu rfl (abin_step rfl rfl rfl rfl (fun _ h => by cases h)) rfl (ltb rfl) ?_
                              refine run_pu rfl (move_step (.inl rfl) rfl) rfl (ltb rfl) ?_
                              refine run_ops_nil ?_
                              exact run_loop_end ⟨m, _, Nat.lt_succ_self _, ⟨(IntKind.i64.wrap (i284 + 1)), c300, c301, tk295, (show tki_looker_proof_L11 ≤ tk295 by omega), hM, rfl⟩, Sub.trans (Sub.drop (k := 10) rfl) (Sub.env [(0, .optr (.bor 0) 0 0), (4, .bool false), (74, .imm q4 4 f4 (pcellss ks4)), (75, .int .i64 (((pers ks4)).length : Int)), (76, .int .i64 (IntKind.i64.wrap (i284 + 1)))] ⟨rfl, rfl, rfl, rfl, rfl, trivial⟩)⟩
                          · replace hM := ite_f hb287 hM
                            refine run_exit_to rfl ?_
                            refine run_seq ?_
                            refine run_region ?_
                            refine run_pu rfl (move_step (.inr rfl) rfl) rfl (ltb rfl) ?_
                            refine run_ops_nil ?_
                            refine run_ret_to ?_
                            obtain rfl := some_t hM
                            refine fin_x hG rfl rfl rfl (v' := .bool true) (by rfl) ⟨_, ⟨101, 2, true, [[.int .i64 i285, .bool b286]]⟩, rfl, rfl, (show tk ≤ tki_looker_proof_L12 by omega), ⟨_, i285, b286, rfl, rfl, rfl⟩⟩
                · replace hM := ite_f hb260 hM
                  refine run_call rfl rfl rfl (ltb rfl) rfl rfl rfl (fun _ h => absurd h List.not_mem_nil) (i_ruleOf_ex6 k4 hb30 hb76 hb122 hb168 hb214 hb260 _ _) (callK_retN ?_)
                  refine run_pu rfl (move_step (.inl rfl) rfl) rfl (ltb rfl) ?_
                  refine run_pu rfl (extract_step rfl rfl rfl) rfl (ltb rfl) ?_
                  refine run_pu rfl (extract_step rfl rfl rfl) rfl (ltb rfl) ?_
                  refine run_op rfl (alloc_step (d := 5) hG rfl rfl rfl) rfl (ltb rfl) ?_
                  refine run_op0 rfl (store_step hG rfl rfl rfl rfl rfl rfl rfl rfl) rfl ?_
                  refine run_pu rfl (move_step (.inr rfl) rfl) rfl (ltb rfl) ?_
                  refine run_ops_nil ?_
                  refine run_sub_code (σ' := ⟨[(0, .optr (.bor 0) 0 0), (3, .optr (.loc 3) 0 0), (4, .bool false), (5, .optr (.loc 5) 0 0), (6, .bool false)], [(5, ⟨108, 5, true, [[.int .i64 0, .int .i64 0, .str ⟨#[]⟩, .nilfn, .nilfn]]⟩), (3, ⟨74, 4, true, [[.int .i64 k4, .int .i64 n4, .imm p4 3 e4 (fcellss fs4), .imm q4 4 f4 (pcellss ks4)]]⟩)], [⟨101, 2, true, [[.int .i64 c12, .bool c13]]⟩], O, tk7⟩) (Sub.env [(0, .optr (.bor 0) 0 0), (3, .optr (.loc 3) 0 0), (4, .bool false), (5, .optr (.loc 5) 0 0), (6, .bool false)] ⟨rfl, rfl, rfl, rfl, rfl, trivial⟩) ?_
                  refine run_seq ?_
                  refine run_seq ?_
                  refine run_region ?_
                  refine run_pu rfl (move_step (.inl rfl) rfl) rfl (ltb rfl) ?_
                  refine run_pu rfl (aun_step rfl rfl rfl) rfl (ltb rfl) ?_
                  refine run_pu rfl (move_step (.inl rfl) rfl) rfl (ltb rfl) ?_
                  refine run_off (on_of rfl rfl rfl rfl) rfl (ltb rfl) ?_
                  refine run_off (on_of rfl rfl rfl rfl) rfl (ltb rfl) ?_
                  refine run_off (on_of rfl rfl rfl rfl) rfl (ltb rfl) ?_
                  refine run_pu rfl (pick_step rfl rfl rfl) rfl (ltb rfl) ?_
                  refine run_pu rfl (move_step (.inl rfl) rfl) rfl (ltb rfl) ?_
                  refine run_off (on_of rfl rfl rfl rfl) rfl (ltb rfl) ?_
                  refine run_off (on_of rfl rfl rfl rfl) rfl (ltb rfl) ?_
                  refine run_off (on_of rfl rfl rfl rfl) rfl (ltb rfl) ?_
                  refine run_off (on_of rfl rfl rfl rfl) rfl (ltb rfl) ?_
                  refine run_off (on_of rfl rfl rfl rfl) rfl (ltb rfl) ?_
                  refine run_off (on_of rfl rfl rfl rfl) rfl (ltb rfl) ?_
                  refine run_pu rfl (pick_step rfl rfl rfl) rfl (ltb rfl) ?_
                  refine run_pu rfl (move_step (.inl rfl) rfl) rfl (ltb rfl) ?_
                  refine run_off (on_of rfl rfl rfl rfl) rfl (ltb rfl) ?_
                  refine run_off (on_of rfl rfl rfl rfl) rfl (ltb rfl) ?_
                  refine run_off (on_of rfl rfl rfl rfl) rfl (ltb rfl) ?_
                  refine run_off (on_of rfl rfl rfl rfl) rfl (ltb rfl) ?_
                  refine run_off (on_of rfl rfl rfl rfl) rfl (ltb rfl) ?_
                  refine run_off (on_of rfl rfl rfl rfl) rfl (ltb rfl) ?_
                  refine run_pu rfl (pick_step rfl rfl rfl) rfl (ltb rfl) ?_
                  refine run_ops_nil ?_
                  refine run_if rfl rfl (fun _ => ?_) (fun h => by cases h)
                  refine run_seq ?_
                  refine run_region ?_
                  refine run_pu rfl (move_step (.inr rfl) rfl) rfl (ltb rfl) ?_
                  refine run_ops_nil ?_
                  refine run_ret_to ?_
                  obtain rfl := some_t hM
                  refine fin_x hG rfl rfl rfl (v' := .bool false) (by rfl) ⟨_, ⟨101, 2, true, [[.int .i64 c12, .bool c13]]⟩, rfl, rfl, (show tk ≤ tk7 by omega), ⟨_, c12, c13, rfl, rfl, rfl⟩⟩

theorem i_looker_proof_all : ∀ (n : Nat), (∀ (X0 : ID) (i2 : Int) (b3 : Bool) (k4 : Int) (n4 : Int) (p4 : Nat) (e4 : Bool) (fs4 : List LF) (q4 : Nat) (f4 : Bool) (ks4 : List LP) {r : (Bool × (Int × Bool))}, i_looker_proof n (i2, b3) (Pf.mk k4 n4 (fers fs4) (pers ks4)) = some r → ∀ (O : Heap) (tk : Nat), O X0 = some ⟨101, 2, true, [[.int .i64 i2, .bool b3]]⟩ → ACalls Go.Proofs.Try.prog 61 [.optr X0 0 0, .agg [.int .i64 k4, .int .i64 n4, .imm p4 3 e4 (fcellss fs4), .imm q4 4 f4 (pcellss ks4)]] O tk (RetV O X0 tk (fun v o' tk' => ∃ r0', ∃ (c0 : Int) (c1 : Bool) , r = (r0', (c0, c1)) ∧ o' = ⟨101, 2, true, [[.int .i64 c0, .bool c1]]⟩ ∧ v = .bool r0')))
  | 0 => by intro X0 i2 b3 k4 n4 p4 e4 fs4 q4 f4 ks4 r hM; rw [i_looker_proof] at hM; cases hM
  | n + 1 => have ih := i_looker_proof_all n; i_looker_proof_st n (ih)

theorem i_looker_proof_ok (n : Nat) : ∀ (X0 : ID) (i2 : Int) (b3 : Bool) (k4 : Int) (n4 : Int) (p4 : Nat) (e4 : Bool) (fs4 : List LF) (q4 : Nat) (f4 : Bool) (ks4 : List LP) {r : (Bool × (Int × Bool))}, i_looker_proof n (i2, b3) (Pf.mk k4 n4 (fers fs4) (pers ks4)) = some r → ∀ (O : Heap) (tk : Nat), O X0 = some ⟨101, 2, true, [[.int .i64 i2, .bool b3]]⟩ → ACalls Go.Proofs.Try.prog 61 [.optr X0 0 0, .agg [.int .i64 k4, .int .i64 n4, .imm p4 3 e4 (fcellss fs4), .imm q4 4 f4 (pcellss ks4)]] O tk (RetV O X0 tk (fun v o' tk' => ∃ r0', ∃ (c0 : Int) (c1 : Bool) , r = (r0', (c0, c1)) ∧ o' = ⟨101, 2, true, [[.int .i64 c0, .bool c1]]⟩ ∧ v = .bool r0')) := i_looker_proof_all n

def i_ProofOK (n : Nat) (x1 : Pf) : Option Bool :=
  (i_looker_proof n (150, false) x1).bind fun r2 =>
  some r2.1

set_option maxRecDepth 100000 in
theorem i_ProofOK_ok (n : Nat) : ∀ (k1 : Int) (n1 : Int) (p1 : Nat) (e1 : Bool) (fs1 : List LF) (q1 : Nat) (f1 : Bool) (ks1 : List LP) {r : Bool}, i_ProofOK n (Pf.mk k1 n1 (fers fs1) (pers ks1)) = some r → ∀ (O : Heap) (tk : Nat), ACalls Go.Proofs.Try.prog 32 [.agg [.int .i64 k1, .int .i64 n1, .imm p1 3 e1 (fcellss fs1), .imm q1 4 f1 (pcellss ks1)]] O tk (RetX O tk (fun v tk' => v = .bool r)) := by
  intro k1 n1 p1 e1 fs1 q1 f1 ks1 r hM O tk
  unfold i_ProofOK at hM
  refine acalls_of_run Go.Proofs.Try.func32 rfl rfl [] [] (Bor.nil _) [(0, .agg [.int .i64 k1, .int .i64 n1, .imm p1 3 e1 (fcellss fs1), .imm q1 4 f1 (pcellss ks1)])] (.cons (.agg _) (.nil _)) (leb rfl) (fun _ h => by cases h) (fun S0 hO htk hfz => ?_)
  refine run_seq ?_
  refine run_region ?_
  refine run_op rfl (box_step (d := 1) rfl rfl rfl rfl rfl) rfl (ltb rfl) ?_
  refine run_pu rfl (move_step (.inr rfl) rfl) rfl (ltb rfl) ?_
  refine run_ops_nil ?_
  refine run_seq ?_
  refine run_draw [] (n := 4) mixed rfl (fun _ h => absurd h List.not_mem_nil) ?_
  refine AAny.take (i := 1) rfl (by kernel_rfl) (by kernel_rfl) (by kernel_rfl) rfl rfl (ltb rfl) (aload_rd hG rfl rfl rfl (by simp [ldok])) ?_
  refine AAny.callBox (i := 0) (ob := ⟨101, 2, true, [[.int .i64 150, .bool false]]⟩) (by kernel_rfl) rfl rfl rfl rfl (ltb rfl) rfl rfl rfl rfl (i_fresh_box _ _) rfl (fun out O' tk' h => h) ?_
  obtain ⟨r2, hg3, hM⟩ := bind_t hM
  refine AAny.one (i := 2) (by kernel_rfl) (AOp.call rfl rfl rfl rfl (ltb rfl) rfl rfl rfl (fun _ h => absurd h List.not_mem_nil) (by intro x hx; simp only [tch, List.nil_append, List.append_nil, List.mem_cons, List.not_mem_nil, or_false] at hx; subst hx; simp) (i_looker_proof_ok n (.loc 3) 150 false k1 n1 p1 e1 fs1 q1 f1 ks1 hg3 _ _ rfl) (callK_retV_loc (k := 3) rfl (fun v o' tk4 (hle5 : tk ≤ tk4) h6 => ?_)))
  obtain ⟨ra11, c9, c10, rfl, rfl, rfl⟩ := h6
  refine AAny.take (i := 3) rfl (by kernel_rfl) (by kernel_rfl) (by kernel_rfl) rfl rfl (ltb rfl) ((move_step (.inr rfl) rfl).rd _) ?_
  refine AAny.done (by kernel_rfl) ?_
  refine run_ret_to ?_
  obtain rfl := some_t hM
  refine fin_x hG rfl rfl rfl (v' := .bool ra11) (by rfl) ⟨rfl, (show tk ≤ tk4 by omega), _, rfl, rfl⟩

def s_l08Count_L2 (rec_s_l08Count : Pf → Int → Option Int) (x1 : Pf) : Nat → Int → Int → Option Int
  | 0, _, _ => none
  | m + 1, i19, i20 =>
    if i20 < ((x1.kids).length : Int) then
      if i19 ≥ 0 then
        (idx x1.kids i20).bind fun y23 =>
        (rec_s_l08Count y23 i19).bind fun r28 =>
        s_l08Count_L2 rec_s_l08Count x1 m r28 (IntKind.i64.wrap (i20 + 1))
      else
        some i19
    else
      some i19

def s_l08Count_L1 (rec_s_l08Count : Pf → Int → Option Int) (n : Nat) (x1 : Pf) : Nat → Int → Int → Option Int
  | 0, _, _ => none
  | m + 1, i3, i4 =>
    if i4 < ((x1.forms).length : Int) then
      if i3 ≥ 0 then
        (idx x1.forms i4).bind fun y7 =>
        (s_l08FormCount n y7 i3).bind fun r12 =>
        s_l08Count_L1 rec_s_l08Count n x1 m r12 (IntKind.i64.wrap (i4 + 1))
      else
        s_l08Count_L2 rec_s_l08Count x1 n i3 0
    else
      s_l08Count_L2 rec_s_l08Count x1 n i3 0

def s_l08Count : Nat → Pf → Int → Option Int
  | 0, _, _ => none
  | n + 1, x1, i2 =>
    s_l08Count_L1 (s_l08Count n) n x1 n (IntKind.i64.wrap (i2 - 1)) 0

set_option maxRecDepth 100000 in
theorem s_l08Count_st (n : Nat) (ih_s_l08Count : ∀ (k1 : Int) (n1 : Int) (p1 : Nat) (e1 : Bool) (fs1 : List LF) (q1 : Nat) (f1 : Bool) (ks1 : List LP) (i2 : Int) {r : Int}, s_l08Count n (Pf.mk k1 n1 (fers fs1) (pers ks1)) i2 = some r → ∀ (O : Heap) (tk : Nat), ACalls Go.Proofs.Try.prog 58 [.agg [.int .i64 k1, .int .i64 n1, .imm p1 3 e1 (fcellss fs1), .imm q1 4 f1 (pcellss ks1)], .int .i64 i2] O tk (RetX O tk (fun v tk' => v = .int .i64 r))) : ∀ (k1 : Int) (n1 : Int) (p1 : Nat) (e1 : Bool) (fs1 : List LF) (q1 : Nat) (f1 : Bool) (ks1 : List LP) (i2 : Int) {r : Int}, s_l08Count (n + 1) (Pf.mk k1 n1 (fers fs1) (pers ks1)) i2 = some r → ∀ (O : Heap) (tk : Nat), ACalls Go.Proofs.Try.prog 58 [.agg [.int .i64 k1, .int .i64 n1, .imm p1 3 e1 (fcellss fs1), .imm q1 4 f1 (pcellss ks1)], .int .i64 i2] O tk (RetX O tk (fun v tk' => v = .int .i64 r)) := by
  intro k1 n1 p1 e1 fs1 q1 f1 ks1 i2 r hM O tk
  rw [s_l08Count] at hM
  refine acalls_of_run Go.Proofs.Try.func58 rfl rfl [] [] (Bor.nil _) [(0, .agg [.int .i64 k1, .int .i64 n1, .imm p1 3 e1 (fcellss fs1), .imm q1 4 f1 (pcellss ks1)]), (1, .int .i64 i2)] (.cons (.agg _) (.cons (entS rfl) (.nil _))) (leb rfl) (fun _ h => by cases h) (fun S0 hO htk hfz => ?_)
  refine run_seq ?_
  refine run_region ?_
  refine run_op rfl (box_step (d := 2) rfl rfl rfl rfl rfl) rfl (ltb rfl) ?_
  refine run_pu rfl (move_step (.inr rfl) rfl) rfl (ltb rfl) ?_
  refine run_ops_nil ?_
  refine run_seq ?_
  refine run_region ?_
  refine run_pu rfl (move_step (.inl rfl) rfl) rfl (ltb rfl) ?_
  refine run_pu rfl (abin_step rfl rfl rfl rfl (fun _ h => by cases h)) rfl (ltb rfl) ?_
  refine run_pu rfl (move_step (.inr rfl) rfl) rfl (ltb rfl) ?_
  refine run_ops_nil ?_
  refine run_seq ?_
  refine run_seq ?_
  refine run_region ?_
  refine run_pu rfl (move_step (.inr rfl) rfl) rfl (ltb rfl) ?_
  refine run_ops_nil ?_
  refine run_block ?_
  refine run_rounds (fun m σ => ∃ (i3 : Int) (i4 : Int) (tks_l08Count_L1 : Nat), tk ≤ tks_l08Count_L1 ∧ s_l08Count_L1 (s_l08Count n) n (Pf.mk k1 n1 (fers fs1) (pers ks1)) m i3 i4 = some r ∧ σ = ⟨[(1, .int .i64 i3), (2, .optr (.loc 2) 0 0), (4, .int .i64 0), (5, .int .i64 i4)], [(2, ⟨74, 4, true, [[.int .i64 k1, .int .i64 n1, .imm p1 3 e1 (fcellss fs1), .imm q1 4 f1 (pcellss ks1)]]⟩)], [], O, tks_l08Count_L1⟩) n (Sub.env [(1, .int .i64 (IntKind.i64.wrap (i2 - 1))), (2, .optr (.loc 2) 0 0), (4, .int .i64 0), (5, .int .i64 0)] ⟨rfl, rfl, rfl, rfl, trivial⟩) ⟨(IntKind.i64.wrap (i2 - 1)), 0, tk, Nat.le_refl _, hM, rfl⟩ (fun m σ hI => ?_)
  clear hM
  obtain ⟨i3, i4, tks_l08Count_L1, hle53, hM, rfl⟩ := hI
  obtain _ | m := m
  · exact absurd hM (by rw [s_l08Count_L1]; exact fun h => by cases h)
  rw [s_l08Count_L1] at hM
  refine run_seq ?_
  refine run_seq ?_
  refine run_region ?_
  refine run_pu rfl (move_step (.inl rfl) rfl) rfl (ltb rfl) ?_
  refine run_pu rfl (fieldAddr_step hG rfl rfl rfl rfl rfl) rfl (ltb rfl) ?_
  refine run_rd rfl (aload_rd hG rfl rfl rfl (by simp [ldok])) rfl (ltb rfl) ?_
  refine run_pu rfl (lenImm_step hG rfl rfl rfl rfl (flen _)) rfl (ltb rfl) ?_
  refine run_pu rfl (abin_step rfl rfl rfl rfl (fun _ h => by cases h)) rfl (ltb rfl) ?_
  refine run_pu rfl (move_step (.inl rfl) rfl) rfl (ltb rfl) ?_
  refine run_splitd (i := 14) rfl (fun hb5 => ?_) (fun hb5 => ?_)
  · replace hM := ite_t hb5 hM
    refine run_puG (on_of rfl rfl rfl rfl) (move_step (.inl rfl) rfl) rfl (ltb rfl) ?_
    refine run_puG (on_of rfl rfl rfl rfl) (abin_step rfl rfl rfl rfl (fun _ h => by cases h)) rfl (ltb rfl) ?_
    refine run_pu rfl (pick_step rfl rfl rfl) rfl (ltb rfl) ?_
    refine run_ops_nil ?_
    refine run_ifd rfl rfl (fun hb6 => ?_) (fun hb6 => ?_)
    · replace hM := ite_t hb6 hM
      refine run_skip ?_
      refine run_seq ?_
      refine run_block ?_
      refine run_region ?_
      refine run_pu rfl (fieldAddr_step hG rfl rfl rfl rfl rfl) rfl (ltb rfl) ?_
      refine run_rd rfl (aload_rd hG rfl rfl rfl (by simp [ldok])) rfl (ltb rfl) ?_
      refine run_pu rfl (move_step (.inl rfl) rfl) rfl (ltb rfl) ?_
      obtain ⟨y7, hy8, hM⟩ := bind_t hM
      obtain ⟨k9, n9, q9, f9, ks9, rfl, hc10, hi11⟩ := fidx hy8
      refine run_pu rfl (indexImm_step hG rfl rfl rfl hi11 rfl rfl rfl rfl hc10) rfl (ltb rfl) ?_
      refine run_rd rfl (aload_rd hG rfl rfl rfl (by simp [ldok])) rfl (ltb rfl) ?_
      refine run_pu rfl (move_step (.inl rfl) rfl) rfl (ltb rfl) ?_
      obtain ⟨r12, hg13, hM⟩ := bind_t hM
      refine run_call rfl rfl rfl (ltb rfl) rfl rfl rfl (fun _ h => absurd h List.not_mem_nil) (s_l08FormCount_ok n k9 n9 q9 f9 ks9 i3 hg13 _ _) (callK_retX (fun v tk14 (hle15 : tks_l08Count_L1 ≤ tk14) h16 => ?_))
      subst h16
      refine run_pu rfl (move_step (.inr rfl) rfl) rfl (ltb rfl) ?_
      refine run_ops_nil ?_
      refine run_blk ?_
      refine run_sub_code (σ' := ⟨[(1, .int .i64 r12), (2, .optr (.loc 2) 0 0), (4, .int .i64 0), (5, .int .i64 i4)], [(2, ⟨74, 4, true, [[.int .i64 k1, .int .i64 n1, .imm p1 3 e1 (fcellss fs1), .imm q1 4 f1 (pcellss ks1)]]⟩)], [], O, tk14⟩) (Sub.env [(1, .int .i64 r12), (2, .optr (.loc 2) 0 0), (4, .int .i64 0), (5, .int .i64 i4)] ⟨rfl, rfl, rfl, rfl, trivial⟩) ?_
      refine run_region ?_
      refine run_pu rfl (move_step (.inl rfl) rfl) rfl (ltb rfl) ?_
      refine run_pu rfl (abin_step rfl rfl rfl rfl (fun _ h => by cases h)) rfl (ltb rfl) ?_
      refine run_pu rfl (move_step (.inr rfl) rfl) rfl (ltb rfl) ?_
      refine run_ops_nil ?_
      exact run_loop_end ⟨m, _, Nat.lt_succ_self _, ⟨r12, (IntKind.i64.wrap (i4 + 1)), tk14, (show tk ≤ tk14 by omega), hM, rfl⟩, Sub.env [(1, .int .i64 r12), (2, .optr (.loc 2) 0 0), (4, .int .i64 0), (5, .int .i64 (IntKind.i64.wrap (i4 + 1)))] ⟨rfl, rfl, rfl, rfl, trivial⟩⟩
    · replace hM := ite_f hb6 hM
      refine run_exit_to rfl ?_
      refine run_seq ?_
      refine run_seq ?_
      refine run_region ?_
      refine run_pu rfl (move_step (.inr rfl) rfl) rfl (ltb rfl) ?_
      refine run_ops_nil ?_
      refine run_block ?_
      refine run_rounds (fun m σ => ∃ (i19 : Int) (i20 : Int) (tks_l08Count_L2 : Nat), tks_l08Count_L1 ≤ tks_l08Count_L2 ∧ s_l08Count_L2 (s_l08Count n) (Pf.mk k1 n1 (fers fs1) (pers ks1)) m i19 i20 = some r ∧ σ = ⟨[(1, .int .i64 i19), (2, .optr (.loc 2) 0 0), (4, .int .i64 0), (6, .int .i64 i20)], [(2, ⟨74, 4, true, [[.int .i64 k1, .int .i64 n1, .imm p1 3 e1 (fcellss fs1), .imm q1 4 f1 (pcellss ks1)]]⟩)], [], O, tks_l08Count_L2⟩) n (Sub.env [(1, .int .i64 i3), (2, .optr (.loc 2) 0 0), (4, .int .i64 0), (6, .int .i64 0)] ⟨rfl, rfl, rfl, rfl, trivial⟩) ⟨i3, 0, tks_l08Count_L1, Nat.le_refl _, hM, rfl⟩ (fun m σ hI => ?_)
      clear hM
      obtain ⟨i19, i20, tks_l08Count_L2, hle35, hM, rfl⟩ := hI
      obtain _ | m := m
      · exact absurd hM (by rw [s_l08Count_L2]; exact fun h => by cases h)
      rw [s_l08Count_L2] at hM
      refine run_seq ?_
      refine run_seq ?_
      refine run_region ?_
      refine run_pu rfl (move_step (.inl rfl) rfl) rfl (ltb rfl) ?_
      refine run_pu rfl (fieldAddr_step hG rfl rfl rfl rfl rfl) rfl (ltb rfl) ?_
      refine run_rd rfl (aload_rd hG rfl rfl rfl (by simp [ldok])) rfl (ltb rfl) ?_
      refine run_pu rfl (lenImm_step hG rfl rfl rfl rfl (plen _)) rfl (ltb rfl) ?_
      refine run_pu rfl (abin_step rfl rfl rfl rfl (fun _ h => by cases h)) rfl (ltb rfl) ?_
      refine run_pu rfl (move_step (.inl rfl) rfl) rfl (ltb rfl) ?_
      refine run_splitd (i := 32) rfl (fun hb21 => ?_) (fun hb21 => ?_)
      · replace hM := ite_t hb21 hM
        refine run_puG (on_of rfl rfl rfl rfl) (move_step (.inl rfl) rfl) rfl (ltb rfl) ?_
        refine run_puG (on_of rfl rfl rfl rfl) (abin_step rfl rfl rfl rfl (fun _ h => by cases h)) rfl (ltb rfl) ?_
        refine run_pu rfl (pick_step rfl rfl rfl) rfl (ltb rfl) ?_
        refine run_ops_nil ?_
        refine run_ifd rfl rfl (fun hb22 => ?_) (fun hb22 => ?_)
        · replace hM := ite_t hb22 hM
          refine run_skip ?_
          refine run_seq ?_
          refine run_block ?_
          refine run_region ?_
          refine run_pu rfl (fieldAddr_step hG rfl rfl rfl rfl rfl) rfl (ltb rfl) ?_
          refine run_rd rfl (aload_rd hG rfl rfl rfl (by simp [ldok])) rfl (ltb rfl) ?_
          refine run_pu rfl (move_step (.inl rfl) rfl) rfl (ltb rfl) ?_
          obtain ⟨y23, hy24, hM⟩ := bind_t hM
          obtain ⟨k25, n25, p25, e25, fs25, q25, f25, ks25, rfl, hc26, hi27⟩ := pidx hy24
          refine run_pu rfl (indexImm_step hG rfl rfl rfl hi27 rfl rfl rfl rfl hc26) rfl (ltb rfl) ?_
          refine run_rd rfl (aload_rd hG rfl rfl rfl (by simp [ldok])) rfl (ltb rfl) ?_
          refine run_pu rfl (move_step (.inl rfl) rfl) rfl (ltb rfl) ?_
          obtain ⟨r28, hg29, hM⟩ := bind_t hM
          refine run_call rfl rfl rfl (ltb rfl) rfl rfl rfl (fun _ h => absurd h List.not_mem_nil) (ih_s_l08Count k25 n25 p25 e25 fs25 q25 f25 ks25 i19 hg29 _ _) (callK_retX (fun v tk30 (hle31 : tks_l08Count_L2 ≤ tk30) h32 => ?_))
          subst h32
          refine run_pu rfl (move_step (.inr rfl) rfl) rfl (ltb rfl) ?_
          refine run_ops_nil ?_
          refine run_blk ?_
          refine run_sub_code (σ' := ⟨[(1, .int .i64 r28), (2, .optr (.loc 2) 0 0), (4, .int .i64 0), (6, .int .i64 i20)], [(2, ⟨74, 4, true, [[.int .i64 k1, .int .i64 n1, .imm p1 3 e1 (fcellss fs1), .imm q1 4 f1 (pcellss ks1)]]⟩)], [], O, tk30⟩) (Sub.env [(1, .int .i64 r28), (2, .optr (.loc 2) 0 0), (4, .int .i64 0), (6, .int .i64 i20)] ⟨rfl, rfl, rfl, rfl, trivial⟩) ?_
          refine run_region ?_
          refine run_pu rfl (move_step (.inl rfl) rfl) rfl (ltb rfl) ?_
          refine run_pu rfl (abin_step rfl rfl rfl rfl (fun _ h => by cases h)) rfl (ltb rfl) ?_
          refine run_pu rfl (move_step (.inr rfl) rfl) rfl (ltb rfl) ?_
          refine run_ops_nil ?_
          exact run_loop_end ⟨m, _, Nat.lt_succ_self _, ⟨r28, (IntKind.i64.wrap (i20 + 1)), tk30, (show tks_l08Count_L1 ≤ tk30 by omega), hM, rfl⟩, Sub.env [(1, .int .i64 r28), (2, .optr (.loc 2) 0 0), (4, .int .i64 0), (6, .int .i64 (IntKind.i64.wrap (i20 + 1)))] ⟨rfl, rfl, rfl, rfl, trivial⟩⟩
        · replace hM := ite_f hb22 hM
          refine run_exit_to rfl ?_
          refine run_seq ?_
          refine run_region ?_
          refine run_pu rfl (move_step (.inl rfl) rfl) rfl (ltb rfl) ?_
          refine run_pu rfl (move_step (.inr rfl) rfl) rfl (ltb rfl) ?_
          refine run_ops_nil ?_
          refine run_ret_to ?_
          obtain rfl := some_t hM
          refine fin_x hG rfl rfl rfl (v' := .int .i64 i19) (by rfl) ⟨rfl, (show tk ≤ tks_l08Count_L2 by omega), _, rfl, rfl⟩
      · replace hM := ite_f hb21 hM
        refine run_off (on_of rfl rfl rfl rfl) rfl (ltb rfl) ?_
        refine run_off (on_of rfl rfl rfl rfl) rfl (ltb rfl) ?_
        refine run_pu rfl (pick_step rfl rfl rfl) rfl (ltb rfl) ?_
        refine run_ops_nil ?_
        refine run_if rfl rfl (fun h => by cases h) (fun _ => ?_)
        refine run_exit_to rfl ?_
        refine run_seq ?_
        refine run_region ?_
        refine run_pu rfl (move_step (.inl rfl) rfl) rfl (ltb rfl) ?_
        refine run_pu rfl (move_step (.inr rfl) rfl) rfl (ltb rfl) ?_
        refine run_ops_nil ?_
        refine run_ret_to ?_
        obtain rfl := some_t hM
        refine fin_x hG rfl rfl rfl (v' := .int .i64 i19) (by rfl) ⟨rfl, (show tk ≤ tks_l08Count_L2 by omega), _, rfl, rfl⟩
  · replace hM := ite_f hb5 hM
    refine run_off (on_of rfl rfl rfl rfl) rfl (ltb rfl) ?_
    refine run_off (on_of rfl rfl rfl rfl) rfl (ltb rfl) ?_
    refine run_pu rfl (pick_step rfl rfl rfl) rfl (ltb rfl) ?_
    refine run_ops_nil ?_
    refine run_if rfl rfl (fun h => by cases h) (fun _ => ?_)
    refine run_exit_to rfl ?_
    refine run_seq ?_
    refine run_seq ?_
    refine run_region ?_
    refine run_pu rfl (move_step (.inr rfl) rfl) rfl (ltb rfl) ?_
    refine run_ops_nil ?_
    refine run_block ?_
    refine run_rounds (fun m σ => ∃ (i36 : Int) (i37 : Int) (tks_l08Count_L3 : Nat), tks_l08Count_L1 ≤ tks_l08Count_L3 ∧ s_l08Count_L2 (s_l08Count n) (Pf.mk k1 n1 (fers fs1) (pers ks1)) m i36 i37 = some r ∧ σ = ⟨[(1, .int .i64 i36), (2, .optr (.loc 2) 0 0), (4, .int .i64 0), (6, .int .i64 i37)], [(2, ⟨74, 4, true, [[.int .i64 k1, .int .i64 n1, .imm p1 3 e1 (fcellss fs1), .imm q1 4 f1 (pcellss ks1)]]⟩)], [], O, tks_l08Count_L3⟩) n (Sub.env [(1, .int .i64 i3), (2, .optr (.loc 2) 0 0), (4, .int .i64 0), (6, .int .i64 0)] ⟨rfl, rfl, rfl, rfl, trivial⟩) ⟨i3, 0, tks_l08Count_L1, Nat.le_refl _, hM, rfl⟩ (fun m σ hI => ?_)
    clear hM
    obtain ⟨i36, i37, tks_l08Count_L3, hle52, hM, rfl⟩ := hI
    obtain _ | m := m
    · exact absurd hM (by rw [s_l08Count_L2]; exact fun h => by cases h)
    rw [s_l08Count_L2] at hM
    refine run_seq ?_
    refine run_seq ?_
    refine run_region ?_
    refine run_pu rfl (move_step (.inl rfl) rfl) rfl (ltb rfl) ?_
    refine run_pu rfl (fieldAddr_step hG rfl rfl rfl rfl rfl) rfl (ltb rfl) ?_
    refine run_rd rfl (aload_rd hG rfl rfl rfl (by simp [ldok])) rfl (ltb rfl) ?_
    refine run_pu rfl (lenImm_step hG rfl rfl rfl rfl (plen _)) rfl (ltb rfl) ?_
    refine run_pu rfl (abin_step rfl rfl rfl rfl (fun _ h => by cases h)) rfl (ltb rfl) ?_
    refine run_pu rfl (move_step (.inl rfl) rfl) rfl (ltb rfl) ?_
    refine run_splitd (i := 32) rfl (fun hb38 => ?_) (fun hb38 => ?_)
    · replace hM := ite_t hb38 hM
      refine run_puG (on_of rfl rfl rfl rfl) (move_step (.inl rfl) rfl) rfl (ltb rfl) ?_
      refine run_puG (on_of rfl rfl rfl rfl) (abin_step rfl rfl rfl rfl (fun _ h => by cases h)) rfl (ltb rfl) ?_
      refine run_pu rfl (pick_step rfl rfl rfl) rfl (ltb rfl) ?_
      refine run_ops_nil ?_
      refine run_ifd rfl rfl (fun hb39 => ?_) (fun hb39 => ?_)
      · replace hM := ite_t hb39 hM
        refine run_skip ?_
        refine run_seq ?_
        refine run_block ?_
        refine run_region ?_
        refine run_pu rfl (fieldAddr_step hG rfl rfl rfl rfl rfl) rfl (ltb rfl) ?_
        refine run_rd rfl (aload_rd hG rfl rfl rfl (by simp [ldok])) rfl (ltb rfl) ?_
        refine run_pu rfl (move_step (.inl rfl) rfl) rfl (ltb rfl) ?_
        obtain ⟨y40, hy41, hM⟩ := bind_t hM
        obtain ⟨k42, n42, p42, e42, fs42, q42, f42, ks42, rfl, hc43, hi44⟩ := pidx hy41
        refine run_pu rfl (indexImm_step hG rfl rfl rfl hi44 rfl rfl rfl rfl hc43) rfl (ltb rfl) ?_
        refine run_rd rfl (aload_rd hG rfl rfl rfl (by simp [ldok])) rfl (ltb rfl) ?_
        refine run_pu rfl (move_step (.inl rfl) rfl) rfl (ltb rfl) ?_
        obtain ⟨r45, hg46, hM⟩ := bind_t hM
        refine run_call rfl rfl rfl (ltb rfl) rfl rfl rfl (fun _ h => absurd h List.not_mem_nil) (ih_s_l08Count k42 n42 p42 e42 fs42 q42 f42 ks42 i36 hg46 _ _) (callK_retX (fun v tk47 (hle48 : tks_l08Count_L3 ≤ tk47) h49 => ?_))
        subst h49
        refine run_pu rfl (move_step (.inr rfl) rfl) rfl (ltb rfl) ?_
        refine run_ops_nil ?_
        refine run_blk ?_
        refine run_sub_code (σ' := ⟨[(1, .int .i64 r45), (2, .optr (.loc 2) 0 0), (4, .int .i64 0), (6, .int .i64 i37)], [(2, ⟨74, 4, true, [[.int .i64 k1, .int .i64 n1, .imm p1 3 e1 (fcellss fs1), .imm q1 4 f1 (pcellss ks1)]]⟩)], [], O, tk47⟩) (Sub.env [(1, .int .i64 r45), (2, .optr (.loc 2) 0 0), (4, .int .i64 0), (6, .int .i64 i37)] ⟨rfl, rfl, rfl, rfl, trivial⟩) ?_
        refine run_region ?_
        refine run_pu rfl (move_step (.inl rfl) rfl) rfl (ltb rfl) ?_
        refine run_pu rfl (abin_step rfl rfl rfl rfl (fun _ h => by cases h)) rfl (ltb rfl) ?_
        refine run_pu rfl (move_step (.inr rfl) rfl) rfl (ltb rfl) ?_
        refine run_ops_nil ?_
        exact run_loop_end ⟨m, _, Nat.lt_succ_self _, ⟨r45, (IntKind.i64.wrap (i37 + 1)), tk47, (show tks_l08Count_L1 ≤ tk47 by omega), hM, rfl⟩, Sub.env [(1, .int .i64 r45), (2, .optr (.loc 2) 0 0), (4, .int .i64 0), (6, .int .i64 (IntKind.i64.wrap (i37 + 1)))] ⟨rfl, rfl, rfl, rfl, trivial⟩⟩
      · replace hM := ite_f hb39 hM
        refine run_exit_to rfl ?_
        refine run_seq ?_
        refine run_region ?_
        refine run_pu rfl (move_step (.inl rfl) rfl) rfl (ltb rfl) ?_
        refine run_pu rfl (move_step (.inr rfl) rfl) rfl (ltb rfl) ?_
        refine run_ops_nil ?_
        refine run_ret_to ?_
        obtain rfl := some_t hM
        refine fin_x hG rfl rfl rfl (v' := .int .i64 i36) (by rfl) ⟨rfl, (show tk ≤ tks_l08Count_L3 by omega), _, rfl, rfl⟩
    · replace hM := ite_f hb38 hM
      refine run_off (on_of rfl rfl rfl rfl) rfl (ltb rfl) ?_
      refine run_off (on_of rfl rfl rfl rfl) rfl (ltb rfl) ?_
      refine run_pu rfl (pick_step rfl rfl rfl) rfl (ltb rfl) ?_
      refine run_ops_nil ?_
      refine run_if rfl rfl (fun h => by cases h) (fun _ => ?_)
      refine run_exit_to rfl ?_
      refine run_seq ?_
      refine run_region ?_
      refine run_pu rfl (move_step (.inl rfl) rfl) rfl (ltb rfl) ?_
      refine run_pu rfl (move_step (.inr rfl) rfl) rfl (ltb rfl) ?_
      refine run_ops_nil ?_
      refine run_ret_to ?_
      obtain rfl := some_t hM
      refine fin_x hG rfl rfl rfl (v' := .int .i64 i36) (by rfl) ⟨rfl, (show tk ≤ tks_l08Count_L3 by omega), _, rfl, rfl⟩

theorem s_l08Count_all : ∀ (n : Nat), (∀ (k1 : Int) (n1 : Int) (p1 : Nat) (e1 : Bool) (fs1 : List LF) (q1 : Nat) (f1 : Bool) (ks1 : List LP) (i2 : Int) {r : Int}, s_l08Count n (Pf.mk k1 n1 (fers fs1) (pers ks1)) i2 = some r → ∀ (O : Heap) (tk : Nat), ACalls Go.Proofs.Try.prog 58 [.agg [.int .i64 k1, .int .i64 n1, .imm p1 3 e1 (fcellss fs1), .imm q1 4 f1 (pcellss ks1)], .int .i64 i2] O tk (RetX O tk (fun v tk' => v = .int .i64 r)))
  | 0 => by intro k1 n1 p1 e1 fs1 q1 f1 ks1 i2 r hM; rw [s_l08Count] at hM; cases hM
  | n + 1 => have ih := s_l08Count_all n; s_l08Count_st n (ih)

theorem s_l08Count_ok (n : Nat) : ∀ (k1 : Int) (n1 : Int) (p1 : Nat) (e1 : Bool) (fs1 : List LF) (q1 : Nat) (f1 : Bool) (ks1 : List LP) (i2 : Int) {r : Int}, s_l08Count n (Pf.mk k1 n1 (fers fs1) (pers ks1)) i2 = some r → ∀ (O : Heap) (tk : Nat), ACalls Go.Proofs.Try.prog 58 [.agg [.int .i64 k1, .int .i64 n1, .imm p1 3 e1 (fcellss fs1), .imm q1 4 f1 (pcellss ks1)], .int .i64 i2] O tk (RetX O tk (fun v tk' => v = .int .i64 r)) := s_l08Count_all n

def s_l08Shape (i1 : Int) : Option (Int × Int) :=
  if i1 = 1 then
    some (0, 0)
  else
    jn (fun (b4 : Bool) =>
      if b4 = true then
        some (2, 2)
      else
        if i1 = 3 then
          if i1 = 3 then
            some (2, 1)
          else
            if i1 = 7 then
              some (1, 1)
            else
              some ((-1), (-1))
        else
          if i1 = 4 then
            if i1 = 4 then
              some (2, 1)
            else
              if i1 = 7 then
                some (1, 1)
              else
                some ((-1), (-1))
          else
            if i1 = 5 then
              some (2, 1)
            else
              if i1 = 7 then
                some (1, 1)
              else
                some ((-1), (-1))) fun j3 =>
    if i1 = 2 then
      j3 (i1 == 2)
    else
      j3 (i1 == 6)

set_option maxRecDepth 100000 in
theorem s_l08Shape_ok : ∀ (i1 : Int) {r : (Int × Int)}, s_l08Shape i1 = some r → ∀ (O : Heap) (tk : Nat), ACalls Go.Proofs.Try.prog 65 [.int .i64 i1] O tk (RetX O tk (fun v tk' => ∃ r0' r1' v0' v1', r = (r0', r1') ∧ v = .tup [v0', v1'] ∧ v0' = .int .i64 r0' ∧ v1' = .int .i64 r1')) := by
  intro i1 r hM O tk
  unfold s_l08Shape at hM
  refine acalls_of_run Go.Proofs.Try.func65 rfl rfl [] [] (Bor.nil _) [(0, .int .i64 i1)] (.cons (entS rfl) (.nil _)) (leb rfl) (fun _ h => by cases h) (fun S0 hO htk hfz => ?_)
  refine run_seq ?_
  refine run_region ?_
  refine run_pu rfl (move_step (.inr rfl) rfl) rfl (ltb rfl) ?_
  refine run_pu rfl (move_step (.inr rfl) rfl) rfl (ltb rfl) ?_
  refine run_ops_nil ?_
  refine run_seq ?_
  refine run_seq ?_
  refine run_region ?_
  refine run_pu rfl (move_step (.inl rfl) rfl) rfl (ltb rfl) ?_
  refine run_ops_nil ?_
  refine run_block ?_
  refine run_seq ?_
  refine run_region ?_
  refine run_pu rfl (abin_step rfl rfl rfl rfl (fun _ h => by cases h)) rfl (ltb rfl) ?_
  refine run_pu rfl (move_step (.inr rfl) rfl) rfl (ltb rfl) ?_
  refine run_ops_nil ?_
  refine run_ifd rfl rfl (fun hb2 => ?_) (fun hb2 => ?_)
  · replace hM := ite_t hb2 hM
    refine run_seq ?_
    refine run_region ?_
    refine run_pu rfl (move_step (.inr rfl) rfl) rfl (ltb rfl) ?_
    refine run_pu rfl (move_step (.inr rfl) rfl) rfl (ltb rfl) ?_
    refine run_ops_nil ?_
    refine run_ret_to ?_
    obtain rfl := some_t hM
    refine fin_x hG rfl rfl rfl (v' := .tup [.int .i64 0, .int .i64 0]) (by rfl) ⟨rfl, (show tk ≤ tk by omega), _, rfl, ⟨_, _, _, _, rfl, rfl, rfl, rfl⟩⟩
  · replace hM := ite_f hb2 hM
    refine run_seq ?_
    refine run_seq ?_
    refine run_region ?_
    refine run_pu rfl (abin_step rfl rfl rfl rfl (fun _ h => by cases h)) rfl (ltb rfl) ?_
    refine run_pu rfl (move_step (.inr rfl) rfl) rfl (ltb rfl) ?_
    refine run_ops_nil ?_
    obtain ⟨j3, hj16, hM⟩ := jn_t hM
    refine run_cutL [.code _] (fun σ' => ∃ (b4 : Bool) (tkj3 : Nat), tk ≤ tkj3 ∧ j3 b4 = some r ∧ Sub ⟨Go.Proofs.Try.prog, S0, Go.Proofs.Try.f65.ntmps, []⟩ σ' ⟨[(2, .int .i64 0), (3, .int .i64 0), (4, .int .i64 i1), (7, .bool b4)], [], [], O, tkj3⟩) rfl ?_ ?_
    · refine run_ifd rfl rfl (fun hb5 => ?_) (fun hb5 => ?_)
      · replace hM := ite_t hb5 hM
        refine run_skip ?_
        exact ⟨(i1 == 2), tk, (show tk ≤ tk by omega), hM, Sub.env [(2, .int .i64 0), (3, .int .i64 0), (4, .int .i64 i1), (7, .bool (i1 == 2))] ⟨rfl, rfl, rfl, rfl, trivial⟩⟩
      · replace hM := ite_f hb5 hM
        refine run_region ?_
        refine run_pu rfl (abin_step rfl rfl rfl rfl (fun _ h => by cases h)) rfl (ltb rfl) ?_
        refine run_pu rfl (move_step (.inr rfl) rfl) rfl (ltb rfl) ?_
        refine run_ops_nil ?_
        exact ⟨(i1 == 6), tk, (show tk ≤ tk by omega), hM, Sub.env [(2, .int .i64 0), (3, .int .i64 0), (4, .int .i64 i1), (7, .bool (i1 == 6))] ⟨rfl, rfl, rfl, rfl, trivial⟩⟩
    · clear hM
      rintro σ' ⟨b4, tkj3, hle15, hM, hsub⟩
      rw [hj16] at hM
      clear hj16
      refine run_sub_code hsub ?_
      refine run_ifb rfl rfl (fun hb6 => ?_) (fun hb6 => ?_)
      · replace hM := ite_t hb6 hM
        refine run_seq ?_
        refine run_region ?_
        refine run_pu rfl (move_step (.inr rfl) rfl) rfl (ltb rfl) ?_
        refine run_pu rfl (move_step (.inr rfl) rfl) rfl (ltb rfl) ?_
        refine run_ops_nil ?_
        refine run_ret_to ?_
        obtain rfl := some_t hM
        refine fin_x hG rfl rfl rfl (v' := .tup [.int .i64 2, .int .i64 2]) (by rfl) ⟨rfl, (show tk ≤ tkj3 by omega), _, rfl, ⟨_, _, _, _, rfl, rfl, rfl, rfl⟩⟩
      · replace hM := ite_f hb6 hM
        refine run_seq ?_
        refine run_seq ?_
        refine run_region ?_
        refine run_pu rfl (abin_step rfl rfl rfl rfl (fun _ h => by cases h)) rfl (ltb rfl) ?_
        refine run_pu rfl (move_step (.inr rfl) rfl) rfl (ltb rfl) ?_
        refine run_ops_nil ?_
        refine run_ifd rfl rfl (fun hb7 => ?_) (fun hb7 => ?_)
        · replace hM := ite_t hb7 hM
          refine run_skip ?_
          refine run_ifd rfl rfl (fun hb8 => ?_) (fun hb8 => ?_)
          · replace hM := ite_t hb8 hM
            refine run_seq ?_
            refine run_region ?_
            refine run_pu rfl (move_step (.inr rfl) rfl) rfl (ltb rfl) ?_
            refine run_pu rfl (move_step (.inr rfl) rfl) rfl (ltb rfl) ?_
            refine run_ops_nil ?_
            refine run_ret_to ?_
            obtain rfl := some_t hM
            refine fin_x hG rfl rfl rfl (v' := .tup [.int .i64 2, .int .i64 1]) (by rfl) ⟨rfl, (show tk ≤ tkj3 by omega), _, rfl, ⟨_, _, _, _, rfl, rfl, rfl, rfl⟩⟩
          · replace hM := ite_f hb8 hM
            refine run_seq ?_
            refine run_region ?_
            refine run_pu rfl (abin_step rfl rfl rfl rfl (fun _ h => by cases h)) rfl (ltb rfl) ?_
            refine run_pu rfl (move_step (.inr rfl) rfl) rfl (ltb rfl) ?_
            refine run_ops_nil ?_
            refine run_ifd rfl rfl (fun hb9 => ?_) (fun hb9 => ?_)
            · replace hM := ite_t hb9 hM
              refine run_seq ?_
              refine run_region ?_
              refine run_pu rfl (move_step (.inr rfl) rfl) rfl (ltb rfl) ?_
              refine run_pu rfl (move_step (.inr rfl) rfl) rfl (ltb rfl) ?_
              refine run_ops_nil ?_
              refine run_ret_to ?_
              obtain rfl := some_t hM
              refine fin_x hG rfl rfl rfl (v' := .tup [.int .i64 1, .int .i64 1]) (by rfl) ⟨rfl, (show tk ≤ tkj3 by omega), _, rfl, ⟨_, _, _, _, rfl, rfl, rfl, rfl⟩⟩
            · replace hM := ite_f hb9 hM
              refine run_skip ?_
              refine run_blk ?_
              refine run_seq ?_
              refine run_region ?_
              refine run_pu rfl (move_step (.inr rfl) rfl) rfl (ltb rfl) ?_
              refine run_pu rfl (move_step (.inr rfl) rfl) rfl (ltb rfl) ?_
              refine run_ops_nil ?_
              refine run_ret_to ?_
              obtain rfl := some_t hM
              refine fin_x hG rfl rfl rfl (v' := .tup [.int .i64 (-1), .int .i64 (-1)]) (by rfl) ⟨rfl, (show tk ≤ tkj3 by omega), _, rfl, ⟨_, _, _, _, rfl, rfl, rfl, rfl⟩⟩
        · replace hM := ite_f hb7 hM
          refine run_seq ?_
          refine run_region ?_
          refine run_pu rfl (abin_step rfl rfl rfl rfl (fun _ h => by cases h)) rfl (ltb rfl) ?_
          refine run_pu rfl (move_step (.inr rfl) rfl) rfl (ltb rfl) ?_
          refine run_ops_nil ?_
          refine run_ifd rfl rfl (fun hb10 => ?_) (fun hb10 => ?_)
          · replace hM := ite_t hb10 hM
            refine run_skip ?_
            refine run_ifd rfl rfl (fun hb11 => ?_) (fun hb11 => ?_)
            · replace hM := ite_t hb11 hM
              refine run_seq ?_
              refine run_region ?_
              refine run_pu rfl (move_step (.inr rfl) rfl) rfl (ltb rfl) ?_
              refine run_pu rfl (move_step (.inr rfl) rfl) rfl (ltb rfl) ?_
              refine run_ops_nil ?_
              refine run_ret_to ?_
              obtain rfl := some_t hM
              refine fin_x hG rfl rfl rfl (v' := .tup [.int .i64 2, .int .i64 1]) (by rfl) ⟨rfl, (show tk ≤ tkj3 by omega), _, rfl, ⟨_, _, _, _, rfl, rfl, rfl, rfl⟩⟩
            · replace hM := ite_f hb11 hM
              refine run_seq ?_
              refine run_region ?_
              refine run_pu rfl (abin_step rfl rfl rfl rfl (fun _ h => by cases h)) rfl (ltb rfl) ?_
              refine run_pu rfl (move_step (.inr rfl) rfl) rfl (ltb rfl) ?_
              refine run_ops_nil ?_
              refine run_ifd rfl rfl (fun hb12 => ?_) (fun hb12 => ?_)
              · replace hM := ite_t hb12 hM
                refine run_seq ?_
                refine run_region ?_
                refine run_pu rfl (move_step (.inr rfl) rfl) rfl (ltb rfl) ?_
                refine run_pu rfl (move_step (.inr rfl) rfl) rfl (ltb rfl) ?_
                refine run_ops_nil ?_
                refine run_ret_to ?_
                obtain rfl := some_t hM
                refine fin_x hG rfl rfl rfl (v' := .tup [.int .i64 1, .int .i64 1]) (by rfl) ⟨rfl, (show tk ≤ tkj3 by omega), _, rfl, ⟨_, _, _, _, rfl, rfl, rfl, rfl⟩⟩
              · replace hM := ite_f hb12 hM
                refine run_skip ?_
                refine run_blk ?_
                refine run_seq ?_
                refine run_region ?_
                refine run_pu rfl (move_step (.inr rfl) rfl) rfl (ltb rfl) ?_
                refine run_pu rfl (move_step (.inr rfl) rfl) rfl (ltb rfl) ?_
                refine run_ops_nil ?_
                refine run_ret_to ?_
                obtain rfl := some_t hM
                refine fin_x hG rfl rfl rfl (v' := .tup [.int .i64 (-1), .int .i64 (-1)]) (by rfl) ⟨rfl, (show tk ≤ tkj3 by omega), _, rfl, ⟨_, _, _, _, rfl, rfl, rfl, rfl⟩⟩
          · replace hM := ite_f hb10 hM
            refine run_region ?_
            refine run_pu rfl (abin_step rfl rfl rfl rfl (fun _ h => by cases h)) rfl (ltb rfl) ?_
            refine run_pu rfl (move_step (.inr rfl) rfl) rfl (ltb rfl) ?_
            refine run_ops_nil ?_
            refine run_ifd rfl rfl (fun hb13 => ?_) (fun hb13 => ?_)
            · replace hM := ite_t hb13 hM
              refine run_seq ?_
              refine run_region ?_
              refine run_pu rfl (move_step (.inr rfl) rfl) rfl (ltb rfl) ?_
              refine run_pu rfl (move_step (.inr rfl) rfl) rfl (ltb rfl) ?_
              refine run_ops_nil ?_
              refine run_ret_to ?_
              obtain rfl := some_t hM
              refine fin_x hG rfl rfl rfl (v' := .tup [.int .i64 2, .int .i64 1]) (by rfl) ⟨rfl, (show tk ≤ tkj3 by omega), _, rfl, ⟨_, _, _, _, rfl, rfl, rfl, rfl⟩⟩
            · replace hM := ite_f hb13 hM
              refine run_seq ?_
              refine run_region ?_
              refine run_pu rfl (abin_step rfl rfl rfl rfl (fun _ h => by cases h)) rfl (ltb rfl) ?_
              refine run_pu rfl (move_step (.inr rfl) rfl) rfl (ltb rfl) ?_
              refine run_ops_nil ?_
              refine run_ifd rfl rfl (fun hb14 => ?_) (fun hb14 => ?_)
              · replace hM := ite_t hb14 hM
                refine run_seq ?_
                refine run_region ?_
                refine run_pu rfl (move_step (.inr rfl) rfl) rfl (ltb rfl) ?_
                refine run_pu rfl (move_step (.inr rfl) rfl) rfl (ltb rfl) ?_
                refine run_ops_nil ?_
                refine run_ret_to ?_
                obtain rfl := some_t hM
                refine fin_x hG rfl rfl rfl (v' := .tup [.int .i64 1, .int .i64 1]) (by rfl) ⟨rfl, (show tk ≤ tkj3 by omega), _, rfl, ⟨_, _, _, _, rfl, rfl, rfl, rfl⟩⟩
              · replace hM := ite_f hb14 hM
                refine run_skip ?_
                refine run_blk ?_
                refine run_seq ?_
                refine run_region ?_
                refine run_pu rfl (move_step (.inr rfl) rfl) rfl (ltb rfl) ?_
                refine run_pu rfl (move_step (.inr rfl) rfl) rfl (ltb rfl) ?_
                refine run_ops_nil ?_
                refine run_ret_to ?_
                obtain rfl := some_t hM
                refine fin_x hG rfl rfl rfl (v' := .tup [.int .i64 (-1), .int .i64 (-1)]) (by rfl) ⟨rfl, (show tk ≤ tkj3 by omega), _, rfl, ⟨_, _, _, _, rfl, rfl, rfl, rfl⟩⟩

def s_l08Proof_L2 (rec_s_l08Proof : Pf → Option Bool) (x1 : Pf) (r2 : (Int × Int)) : Nat → Int → Option Bool
  | 0, _ => none
  | m + 1, i38 =>
    if i38 < r2.2 then
      (idx x1.kids i38).bind fun y40 =>
      (rec_s_l08Proof y40).bind fun r45 =>
      if (!r45) = true then
        some false
      else
        s_l08Proof_L2 rec_s_l08Proof x1 r2 m (IntKind.i64.wrap (i38 + 1))
    else
      some true

def s_l08Proof_L1 (rec_s_l08Proof : Pf → Option Bool) (n : Nat) (x1 : Pf) (r2 : (Int × Int)) : Nat → Int → Option Bool
  | 0, _ => none
  | m + 1, i23 =>
    if i23 < r2.1 then
      (idx x1.forms i23).bind fun y25 =>
      (s_l08Form n y25).bind fun r30 =>
      if (!r30) = true then
        some false
      else
        s_l08Proof_L1 rec_s_l08Proof n x1 r2 m (IntKind.i64.wrap (i23 + 1))
    else
      s_l08Proof_L2 rec_s_l08Proof x1 r2 n 0

def s_l08Proof : Nat → Pf → Option Bool
  | 0, _ => none
  | n + 1, x1 =>
    (s_l08Shape x1.kind).bind fun r2 =>
    jn (
      s_l08Proof_L1 (s_l08Proof n) n x1 r2 n 0) fun j15 =>
    if r2.1 < 0 then
      some false
    else
      if (((x1.forms).length : Int) != r2.1) = true then
        some false
      else
        if (((x1.kids).length : Int) != r2.2) = true then
          some false
        else
          if x1.n < 0 then
            some false
          else
            if x1.n > 100 then
              some false
            else
              if (x1.kind != 1) = true then
                if (x1.n != 0) = true then
                  some false
                else
                  j15
              else
                j15

set_option maxRecDepth 100000 in
theorem s_l08Proof_st (n : Nat) (ih_s_l08Proof : ∀ (k1 : Int) (n1 : Int) (p1 : Nat) (e1 : Bool) (fs1 : List LF) (q1 : Nat) (f1 : Bool) (ks1 : List LP) {r : Bool}, s_l08Proof n (Pf.mk k1 n1 (fers fs1) (pers ks1)) = some r → ∀ (O : Heap) (tk : Nat), ACalls Go.Proofs.Try.prog 59 [.agg [.int .i64 k1, .int .i64 n1, .imm p1 3 e1 (fcellss fs1), .imm q1 4 f1 (pcellss ks1)]] O tk (RetX O tk (fun v tk' => v = .bool r))) : ∀ (k1 : Int) (n1 : Int) (p1 : Nat) (e1 : Bool) (fs1 : List LF) (q1 : Nat) (f1 : Bool) (ks1 : List LP) {r : Bool}, s_l08Proof (n + 1) (Pf.mk k1 n1 (fers fs1) (pers ks1)) = some r → ∀ (O : Heap) (tk : Nat), ACalls Go.Proofs.Try.prog 59 [.agg [.int .i64 k1, .int .i64 n1, .imm p1 3 e1 (fcellss fs1), .imm q1 4 f1 (pcellss ks1)]] O tk (RetX O tk (fun v tk' => v = .bool r)) := by
  intro k1 n1 p1 e1 fs1 q1 f1 ks1 r hM O tk
  rw [s_l08Proof] at hM
  refine acalls_of_run Go.Proofs.Try.func59 rfl rfl [] [] (Bor.nil _) [(0, .agg [.int .i64 k1, .int .i64 n1, .imm p1 3 e1 (fcellss fs1), .imm q1 4 f1 (pcellss ks1)])] (.cons (.agg _) (.nil _)) (leb rfl) (fun _ h => by cases h) (fun S0 hO htk hfz => ?_)
  refine run_seq ?_
  refine run_region ?_
  refine run_op rfl (box_step (d := 1) rfl rfl rfl rfl rfl) rfl (ltb rfl) ?_
  refine run_pu rfl (move_step (.inr rfl) rfl) rfl (ltb rfl) ?_
  refine run_ops_nil ?_
  refine run_seq ?_
  refine run_region ?_
  refine run_pu rfl (fieldAddr_step hG rfl rfl rfl rfl rfl) rfl (ltb rfl) ?_
  refine run_rd rfl (aload_rd hG rfl rfl rfl (by simp [ldok])) rfl (ltb rfl) ?_
  obtain ⟨r2, hg3, hM⟩ := bind_t hM
  refine run_call rfl rfl rfl (ltb rfl) rfl rfl rfl (fun _ h => absurd h List.not_mem_nil) (s_l08Shape_ok k1 hg3 _ _) (callK_retX (fun v tk4 (hle5 : tk ≤ tk4) h6 => ?_))
  obtain ⟨ra11, ra12, va13, va14, rfl, rfl, rfl, rfl⟩ := h6
  refine run_pu rfl (move_step (.inl rfl) rfl) rfl (ltb rfl) ?_
  refine run_pu rfl (extract_step rfl rfl rfl) rfl (ltb rfl) ?_
  refine run_pu rfl (extract_step rfl rfl rfl) rfl (ltb rfl) ?_
  refine run_pu rfl (move_step (.inr rfl) rfl) rfl (ltb rfl) ?_
  refine run_pu rfl (move_step (.inr rfl) rfl) rfl (ltb rfl) ?_
  refine run_ops_nil ?_
  refine run_seq ?_
  refine run_seq ?_
  obtain ⟨j15, hj56, hM⟩ := jn_t hM
  refine run_cutL [.code _, .code _] (fun σ' => ∃ (tkj15 : Nat), tk4 ≤ tkj15 ∧ j15 = some r ∧ Sub ⟨Go.Proofs.Try.prog, S0, Go.Proofs.Try.f59.ntmps, []⟩ σ' ⟨[(1, .optr (.loc 1) 0 0), (2, .bool false), (3, .int .i64 ra11), (4, .int .i64 ra12)], [(1, ⟨74, 4, true, [[.int .i64 k1, .int .i64 n1, .imm p1 3 e1 (fcellss fs1), .imm q1 4 f1 (pcellss ks1)]]⟩)], [], O, tkj15⟩) rfl ?_ ?_
  · refine run_region ?_
    refine run_pu rfl (move_step (.inl rfl) rfl) rfl (ltb rfl) ?_
    refine run_pu rfl (abin_step rfl rfl rfl rfl (fun _ h => by cases h)) rfl (ltb rfl) ?_
    refine run_pu rfl (move_step (.inl rfl) rfl) rfl (ltb rfl) ?_
    refine run_splitd (i := 15) rfl (fun hb16 => ?_) (fun hb16 => ?_)
    · replace hM := ite_t hb16 hM
      refine run_off (on_of rfl rfl rfl rfl) rfl (ltb rfl) ?_
      refine run_off (on_of rfl rfl rfl rfl) rfl (ltb rfl) ?_
      refine run_off (on_of rfl rfl rfl rfl) rfl (ltb rfl) ?_
      refine run_off (on_of rfl rfl rfl rfl) rfl (ltb rfl) ?_
      refine run_off (on_of rfl rfl rfl rfl) rfl (ltb rfl) ?_
      refine run_pu rfl (pick_step rfl rfl rfl) rfl (ltb rfl) ?_
      refine run_pu rfl (move_step (.inl rfl) rfl) rfl (ltb rfl) ?_
      refine run_off (on_of rfl rfl rfl rfl) rfl (ltb rfl) ?_
      refine run_off (on_of rfl rfl rfl rfl) rfl (ltb rfl) ?_
      refine run_off (on_of rfl rfl rfl rfl) rfl (ltb rfl) ?_
      refine run_off (on_of rfl rfl rfl rfl) rfl (ltb rfl) ?_
      refine run_off (on_of rfl rfl rfl rfl) rfl (ltb rfl) ?_
      refine run_pu rfl (pick_step rfl rfl rfl) rfl (ltb rfl) ?_
      refine run_pu rfl (move_step (.inl rfl) rfl) rfl (ltb rfl) ?_
      refine run_off (on_of rfl rfl rfl rfl) rfl (ltb rfl) ?_
      refine run_off (on_of rfl rfl rfl rfl) rfl (ltb rfl) ?_
      refine run_off (on_of rfl rfl rfl rfl) rfl (ltb rfl) ?_
      refine run_pu rfl (pick_step rfl rfl rfl) rfl (ltb rfl) ?_
      refine run_pu rfl (move_step (.inl rfl) rfl) rfl (ltb rfl) ?_
      refine run_off (on_of rfl rfl rfl rfl) rfl (ltb rfl) ?_
      refine run_off (on_of rfl rfl rfl rfl) rfl (ltb rfl) ?_
      refine run_off (on_of rfl rfl rfl rfl) rfl (ltb rfl) ?_
      refine run_pu rfl (pick_step rfl rfl rfl) rfl (ltb rfl) ?_
      refine run_pu rfl (move_step (.inl rfl) rfl) rfl (ltb rfl) ?_
      refine run_off (on_of rfl rfl rfl rfl) rfl (ltb rfl) ?_
      refine run_off (on_of rfl rfl rfl rfl) rfl (ltb rfl) ?_
      refine run_off (on_of rfl rfl rfl rfl) rfl (ltb rfl) ?_
      refine run_off (on_of rfl rfl rfl rfl) rfl (ltb rfl) ?_
      refine run_off (off_un rfl rfl rfl) rfl (ltb rfl) ?_
      refine run_off (off_un rfl rfl rfl) rfl (ltb rfl) ?_
      refine run_off (off_un rfl rfl rfl) rfl (ltb rfl) ?_
      refine run_off (on_of rfl rfl rfl rfl) rfl (ltb rfl) ?_
      refine run_pu rfl (pick_step rfl rfl rfl) rfl (ltb rfl) ?_
      refine run_ops_nil ?_
      refine run_sub_code (σ' := ⟨[(1, .optr (.loc 1) 0 0), (2, .bool false), (3, .int .i64 ra11), (4, .int .i64 ra12), (48, .bool true)], [(1, ⟨74, 4, true, [[.int .i64 k1, .int .i64 n1, .imm p1 3 e1 (fcellss fs1), .imm q1 4 f1 (pcellss ks1)]]⟩)], [], O, tk4⟩) (Sub.env [(1, .optr (.loc 1) 0 0), (2, .bool false), (3, .int .i64 ra11), (4, .int .i64 ra12), (48, .bool true)] ⟨rfl, rfl, rfl, rfl, rfl, trivial⟩) ?_
      refine run_if rfl rfl (fun _ => ?_) (fun h => by cases h)
      refine run_seq ?_
      refine run_region ?_
      refine run_pu rfl (move_step (.inr rfl) rfl) rfl (ltb rfl) ?_
      refine run_ops_nil ?_
      refine run_ret_to ?_
      refine cut_ret ?_
      obtain rfl := some_t hM
      refine fin_x hG rfl rfl rfl (v' := .bool false) (by rfl) ⟨rfl, (show tk ≤ tk4 by omega), _, rfl, rfl⟩
    · replace hM := ite_f hb16 hM
      refine run_puG (on_of rfl rfl rfl rfl) (fieldAddr_step hG rfl rfl rfl rfl rfl) rfl (ltb rfl) ?_
      refine run_rdG (on_of rfl rfl rfl rfl) (aload_rd hG rfl rfl rfl (by simp [ldok])) rfl (ltb rfl) ?_
      refine run_puG (on_of rfl rfl rfl rfl) (lenImm_step hG rfl rfl rfl rfl (flen _)) rfl (ltb rfl) ?_
      refine run_puG (on_of rfl rfl rfl rfl) (move_step (.inl rfl) rfl) rfl (ltb rfl) ?_
      refine run_puG (on_of rfl rfl rfl rfl) (abin_step rfl rfl rfl rfl (fun _ h => by cases h)) rfl (ltb rfl) ?_
      refine run_pu rfl (pick_step rfl rfl rfl) rfl (ltb rfl) ?_
      refine run_pu rfl (move_step (.inl rfl) rfl) rfl (ltb rfl) ?_
      refine run_splitb (i := 22) rfl (fun hb17 => ?_) (fun hb17 => ?_)
      · replace hM := ite_t hb17 hM
        refine run_off (on_of rfl rfl rfl rfl) rfl (ltb rfl) ?_
        refine run_off (on_of rfl rfl rfl rfl) rfl (ltb rfl) ?_
        refine run_off (on_of rfl rfl rfl rfl) rfl (ltb rfl) ?_
        refine run_off (on_of rfl rfl rfl rfl) rfl (ltb rfl) ?_
        refine run_off (on_of rfl rfl rfl rfl) rfl (ltb rfl) ?_
        refine run_pu rfl (pick_step rfl rfl rfl) rfl (ltb rfl) ?_
        refine run_pu rfl (move_step (.inl rfl) rfl) rfl (ltb rfl) ?_
        refine run_off (on_of rfl rfl rfl rfl) rfl (ltb rfl) ?_
        refine run_off (on_of rfl rfl rfl rfl) rfl (ltb rfl) ?_
        refine run_off (on_of rfl rfl rfl rfl) rfl (ltb rfl) ?_
        refine run_pu rfl (pick_step rfl rfl rfl) rfl (ltb rfl) ?_
        refine run_pu rfl (move_step (.inl rfl) rfl) rfl (ltb rfl) ?_
        refine run_off (on_of rfl rfl rfl rfl) rfl (ltb rfl) ?_
        refine run_off (on_of rfl rfl rfl rfl) rfl (ltb rfl) ?_
        refine run_off (on_of rfl rfl rfl rfl) rfl (ltb rfl) ?_
        refine run_pu rfl (pick_step rfl rfl rfl) rfl (ltb rfl) ?_
        refine run_pu rfl (move_step (.inl rfl) rfl) rfl (ltb rfl) ?_
        refine run_off (on_of rfl rfl rfl rfl) rfl (ltb rfl) ?_
        refine run_off (on_of rfl rfl rfl rfl) rfl (ltb rfl) ?_
        refine run_off (on_of rfl rfl rfl rfl) rfl (ltb rfl) ?_
        refine run_off (on_of rfl rfl rfl rfl) rfl (ltb rfl) ?_
        refine run_off (off_un rfl rfl rfl) rfl (ltb rfl) ?_
        refine run_off (off_un rfl rfl rfl) rfl (ltb rfl) ?_
        refine run_off (off_un rfl rfl rfl) rfl (ltb rfl) ?_
        refine run_off (on_of rfl rfl rfl rfl) rfl (ltb rfl) ?_
        refine run_pu rfl (pick_step rfl rfl rfl) rfl (ltb rfl) ?_
        refine run_ops_nil ?_
        refine run_sub_code (σ' := ⟨[(1, .optr (.loc 1) 0 0), (2, .bool false), (3, .int .i64 ra11), (4, .int .i64 ra12), (48, .bool true)], [(1, ⟨74, 4, true, [[.int .i64 k1, .int .i64 n1, .imm p1 3 e1 (fcellss fs1), .imm q1 4 f1 (pcellss ks1)]]⟩)], [], O, tk4⟩) (Sub.env [(1, .optr (.loc 1) 0 0), (2, .bool false), (3, .int .i64 ra11), (4, .int .i64 ra12), (48, .bool true)] ⟨rfl, rfl, rfl, rfl, rfl, trivial⟩) ?_
        refine run_if rfl rfl (fun _ => ?_) (fun h => by cases h)
        refine run_seq ?_
        refine run_region ?_
        refine run_pu rfl (move_step (.inr rfl) rfl) rfl (ltb rfl) ?_
        refine run_ops_nil ?_
        refine run_ret_to ?_
        refine cut_ret ?_
        obtain rfl := some_t hM
        refine fin_x hG rfl rfl rfl (v' := .bool false) (by rfl) ⟨rfl, (show tk ≤ tk4 by omega), _, rfl, rfl⟩
      · replace hM := ite_f hb17 hM
        refine run_puG (on_of rfl rfl rfl rfl) (fieldAddr_step hG rfl rfl rfl rfl rfl) rfl (ltb rfl) ?_
        refine run_rdG (on_of rfl rfl rfl rfl) (aload_rd hG rfl rfl rfl (by simp [ldok])) rfl (ltb rfl) ?_
        refine run_puG (on_of rfl rfl rfl rfl) (lenImm_step hG rfl rfl rfl rfl (plen _)) rfl (ltb rfl) ?_
        refine run_puG (on_of rfl rfl rfl rfl) (move_step (.inl rfl) rfl) rfl (ltb rfl) ?_
        refine run_puG (on_of rfl rfl rfl rfl) (abin_step rfl rfl rfl rfl (fun _ h => by cases h)) rfl (ltb rfl) ?_
        refine run_pu rfl (pick_step rfl rfl rfl) rfl (ltb rfl) ?_
        refine run_pu rfl (move_step (.inl rfl) rfl) rfl (ltb rfl) ?_
        refine run_splitb (i := 29) rfl (fun hb18 => ?_) (fun hb18 => ?_)
        · replace hM := ite_t hb18 hM
          refine run_off (on_of rfl rfl rfl rfl) rfl (ltb rfl) ?_
          refine run_off (on_of rfl rfl rfl rfl) rfl (ltb rfl) ?_
          refine run_off (on_of rfl rfl rfl rfl) rfl (ltb rfl) ?_
          refine run_pu rfl (pick_step rfl rfl rfl) rfl (ltb rfl) ?_
          refine run_pu rfl (move_step (.inl rfl) rfl) rfl (ltb rfl) ?_
          refine run_off (on_of rfl rfl rfl rfl) rfl (ltb rfl) ?_
          refine run_off (on_of rfl rfl rfl rfl) rfl (ltb rfl) ?_
          refine run_off (on_of rfl rfl rfl rfl) rfl (ltb rfl) ?_
          refine run_pu rfl (pick_step rfl rfl rfl) rfl (ltb rfl) ?_
          refine run_pu rfl (move_step (.inl rfl) rfl) rfl (ltb rfl) ?_
          refine run_off (on_of rfl rfl rfl rfl) rfl (ltb rfl) ?_
          refine run_off (on_of rfl rfl rfl rfl) rfl (ltb rfl) ?_
          refine run_off (on_of rfl rfl rfl rfl) rfl (ltb rfl) ?_
          refine run_off (on_of rfl rfl rfl rfl) rfl (ltb rfl) ?_
          refine run_off (off_un rfl rfl rfl) rfl (ltb rfl) ?_
          refine run_off (off_un rfl rfl rfl) rfl (ltb rfl) ?_
          refine run_off (off_un rfl rfl rfl) rfl (ltb rfl) ?_
          refine run_off (on_of rfl rfl rfl rfl) rfl (ltb rfl) ?_
          refine run_pu rfl (pick_step rfl rfl rfl) rfl (ltb rfl) ?_
          refine run_ops_nil ?_
          refine run_sub_code (σ' := ⟨[(1, .optr (.loc 1) 0 0), (2, .bool false), (3, .int .i64 ra11), (4, .int .i64 ra12), (48, .bool true)], [(1, ⟨74, 4, true, [[.int .i64 k1, .int .i64 n1, .imm p1 3 e1 (fcellss fs1), .imm q1 4 f1 (pcellss ks1)]]⟩)], [], O, tk4⟩) (Sub.env [(1, .optr (.loc 1) 0 0), (2, .bool false), (3, .int .i64 ra11), (4, .int .i64 ra12), (48, .bool true)] ⟨rfl, rfl, rfl, rfl, rfl, trivial⟩) ?_
          refine run_if rfl rfl (fun _ => ?_) (fun h => by cases h)
          refine run_seq ?_
          refine run_region ?_
          refine run_pu rfl (move_step (.inr rfl) rfl) rfl (ltb rfl) ?_
          refine run_ops_nil ?_
          refine run_ret_to ?_
          refine cut_ret ?_
          obtain rfl := some_t hM
          refine fin_x hG rfl rfl rfl (v' := .bool false) (by rfl) ⟨rfl, (show tk ≤ tk4 by omega), _, rfl, rfl⟩
        · replace hM := ite_f hb18 hM
          refine run_puG (on_of rfl rfl rfl rfl) (fieldAddr_step hG rfl rfl rfl rfl rfl) rfl (ltb rfl) ?_
          refine run_rdG (on_of rfl rfl rfl rfl) (aload_rd hG rfl rfl rfl (by simp [ldok])) rfl (ltb rfl) ?_
          refine run_puG (on_of rfl rfl rfl rfl) (abin_step rfl rfl rfl rfl (fun _ h => by cases h)) rfl (ltb rfl) ?_
          refine run_pu rfl (pick_step rfl rfl rfl) rfl (ltb rfl) ?_
          refine run_pu rfl (move_step (.inl rfl) rfl) rfl (ltb rfl) ?_
          refine run_splitd (i := 34) rfl (fun hb19 => ?_) (fun hb19 => ?_)
          · replace hM := ite_t hb19 hM
            refine run_off (on_of rfl rfl rfl rfl) rfl (ltb rfl) ?_
            refine run_off (on_of rfl rfl rfl rfl) rfl (ltb rfl) ?_
            refine run_off (on_of rfl rfl rfl rfl) rfl (ltb rfl) ?_
            refine run_pu rfl (pick_step rfl rfl rfl) rfl (ltb rfl) ?_
            refine run_pu rfl (move_step (.inl rfl) rfl) rfl (ltb rfl) ?_
            refine run_off (on_of rfl rfl rfl rfl) rfl (ltb rfl) ?_
            refine run_off (on_of rfl rfl rfl rfl) rfl (ltb rfl) ?_
            refine run_off (on_of rfl rfl rfl rfl) rfl (ltb rfl) ?_
            refine run_off (on_of rfl rfl rfl rfl) rfl (ltb rfl) ?_
            refine run_off (off_un rfl rfl rfl) rfl (ltb rfl) ?_
            refine run_off (off_un rfl rfl rfl) rfl (ltb rfl) ?_
            refine run_off (off_un rfl rfl rfl) rfl (ltb rfl) ?_
            refine run_off (on_of rfl rfl rfl rfl) rfl (ltb rfl) ?_
            refine run_pu rfl (pick_step rfl rfl rfl) rfl (ltb rfl) ?_
            refine run_ops_nil ?_
            refine run_sub_code (σ' := ⟨[(1, .optr (.loc 1) 0 0), (2, .bool false), (3, .int .i64 ra11), (4, .int .i64 ra12), (48, .bool true)], [(1, ⟨74, 4, true, [[.int .i64 k1, .int .i64 n1, .imm p1 3 e1 (fcellss fs1), .imm q1 4 f1 (pcellss ks1)]]⟩)], [], O, tk4⟩) (Sub.env [(1, .optr (.loc 1) 0 0), (2, .bool false), (3, .int .i64 ra11), (4, .int .i64 ra12), (48, .bool true)] ⟨rfl, rfl, rfl, rfl, rfl, trivial⟩) ?_
            refine run_if rfl rfl (fun _ => ?_) (fun h => by cases h)
            refine run_seq ?_
            refine run_region ?_
            refine run_pu rfl (move_step (.inr rfl) rfl) rfl (ltb rfl) ?_
            refine run_ops_nil ?_
            refine run_ret_to ?_
            refine cut_ret ?_
            obtain rfl := some_t hM
            refine fin_x hG rfl rfl rfl (v' := .bool false) (by rfl) ⟨rfl, (show tk ≤ tk4 by omega), _, rfl, rfl⟩
          · replace hM := ite_f hb19 hM
            refine run_puG (on_of rfl rfl rfl rfl) (fieldAddr_step hG rfl rfl rfl rfl rfl) rfl (ltb rfl) ?_
            refine run_rdG (on_of rfl rfl rfl rfl) (aload_rd hG rfl rfl rfl (by simp [ldok])) rfl (ltb rfl) ?_
            refine run_puG (on_of rfl rfl rfl rfl) (abin_step rfl rfl rfl rfl (fun _ h => by cases h)) rfl (ltb rfl) ?_
            refine run_pu rfl (pick_step rfl rfl rfl) rfl (ltb rfl) ?_
            refine run_pu rfl (move_step (.inl rfl) rfl) rfl (ltb rfl) ?_
            refine run_splitd (i := 39) rfl (fun hb20 => ?_) (fun hb20 => ?_)
            · replace hM := ite_t hb20 hM
              refine run_off (on_of rfl rfl rfl rfl) rfl (ltb rfl) ?_
              refine run_off (on_of rfl rfl rfl rfl) rfl (ltb rfl) ?_
              refine run_off (on_of rfl rfl rfl rfl) rfl (ltb rfl) ?_
              refine run_off (on_of rfl rfl rfl rfl) rfl (ltb rfl) ?_
              refine run_off (off_un rfl rfl rfl) rfl (ltb rfl) ?_
              refine run_off (off_un rfl rfl rfl) rfl (ltb rfl) ?_
              refine run_off (off_un rfl rfl rfl) rfl (ltb rfl) ?_
              refine run_off (on_of rfl rfl rfl rfl) rfl (ltb rfl) ?_
              refine run_pu rfl (pick_step rfl rfl rfl) rfl (ltb rfl) ?_
              refine run_ops_nil ?_
              refine run_sub_code (σ' := ⟨[(1, .optr (.loc 1) 0 0), (2, .bool false), (3, .int .i64 ra11), (4, .int .i64 ra12), (48, .bool true)], [(1, ⟨74, 4, true, [[.int .i64 k1, .int .i64 n1, .imm p1 3 e1 (fcellss fs1), .imm q1 4 f1 (pcellss ks1)]]⟩)], [], O, tk4⟩) (Sub.env [(1, .optr (.loc 1) 0 0), (2, .bool false), (3, .int .i64 ra11), (4, .int .i64 ra12), (48, .bool true)] ⟨rfl, rfl, rfl, rfl, rfl, trivial⟩) ?_
              refine run_if rfl rfl (fun _ => ?_) (fun h => by cases h)
              refine run_seq ?_
              refine run_region ?_
              refine run_pu rfl (move_step (.inr rfl) rfl) rfl (ltb rfl) ?_
              refine run_ops_nil ?_
              refine run_ret_to ?_
              refine cut_ret ?_
              obtain rfl := some_t hM
              refine fin_x hG rfl rfl rfl (v' := .bool false) (by rfl) ⟨rfl, (show tk ≤ tk4 by omega), _, rfl, rfl⟩
            · replace hM := ite_f hb20 hM
              refine run_puG (on_of rfl rfl rfl rfl) (fieldAddr_step hG rfl rfl rfl rfl rfl) rfl (ltb rfl) ?_
              refine run_rdG (on_of rfl rfl rfl rfl) (aload_rd hG rfl rfl rfl (by simp [ldok])) rfl (ltb rfl) ?_
              refine run_puG (on_of rfl rfl rfl rfl) (abin_step rfl rfl rfl rfl (fun _ h => by cases h)) rfl (ltb rfl) ?_
              refine run_puG (on_of rfl rfl rfl rfl) (move_step (.inl rfl) rfl) rfl (ltb rfl) ?_
              refine run_splitb (i := 43) rfl (fun hb21 => ?_) (fun hb21 => ?_)
              · replace hM := ite_t hb21 hM
                refine run_puG (on_of rfl rfl rfl rfl) (fieldAddr_step hG rfl rfl rfl rfl rfl) rfl (ltb rfl) ?_
                refine run_rdG (on_of rfl rfl rfl rfl) (aload_rd hG rfl rfl rfl (by simp [ldok])) rfl (ltb rfl) ?_
                refine run_puG (on_of rfl rfl rfl rfl) (abin_step rfl rfl rfl rfl (fun _ h => by cases h)) rfl (ltb rfl) ?_
                refine run_puG (on_of rfl rfl rfl rfl) (pick_step rfl rfl rfl) rfl (ltb rfl) ?_
                refine run_pu rfl (pick_step rfl rfl rfl) rfl (ltb rfl) ?_
                refine run_ops_nil ?_
                refine run_sub_code (σ' := ⟨[(1, .optr (.loc 1) 0 0), (2, .bool false), (3, .int .i64 ra11), (4, .int .i64 ra12), (48, .bool (n1 != 0))], [(1, ⟨74, 4, true, [[.int .i64 k1, .int .i64 n1, .imm p1 3 e1 (fcellss fs1), .imm q1 4 f1 (pcellss ks1)]]⟩)], [], O, tk4⟩) (Sub.env [(1, .optr (.loc 1) 0 0), (2, .bool false), (3, .int .i64 ra11), (4, .int .i64 ra12), (48, .bool (n1 != 0))] ⟨rfl, rfl, rfl, rfl, rfl, trivial⟩) ?_
                refine run_ifb rfl rfl (fun hb22 => ?_) (fun hb22 => ?_)
                · replace hM := ite_t hb22 hM
                  refine run_seq ?_
                  refine run_region ?_
                  refine run_pu rfl (move_step (.inr rfl) rfl) rfl (ltb rfl) ?_
                  refine run_ops_nil ?_
                  refine run_ret_to ?_
                  refine cut_ret ?_
                  obtain rfl := some_t hM
                  refine fin_x hG rfl rfl rfl (v' := .bool false) (by rfl) ⟨rfl, (show tk ≤ tk4 by omega), _, rfl, rfl⟩
                · replace hM := ite_f hb22 hM
                  refine run_skip ?_
                  exact ⟨tk4, (show tk4 ≤ tk4 by omega), hM, Sub.env [(1, .optr (.loc 1) 0 0), (2, .bool false), (3, .int .i64 ra11), (4, .int .i64 ra12)] ⟨rfl, rfl, rfl, rfl, trivial⟩⟩
              · replace hM := ite_f hb21 hM
                refine run_off (on_of rfl rfl rfl rfl) rfl (ltb rfl) ?_
                refine run_off (on_of rfl rfl rfl rfl) rfl (ltb rfl) ?_
                refine run_off (on_of rfl rfl rfl rfl) rfl (ltb rfl) ?_
                refine run_puG (on_of rfl rfl rfl rfl) (pick_step rfl rfl rfl) rfl (ltb rfl) ?_
                refine run_pu rfl (pick_step rfl rfl rfl) rfl (ltb rfl) ?_
                refine run_ops_nil ?_
                refine run_sub_code (σ' := ⟨[(1, .optr (.loc 1) 0 0), (2, .bool false), (3, .int .i64 ra11), (4, .int .i64 ra12), (48, .bool false)], [(1, ⟨74, 4, true, [[.int .i64 k1, .int .i64 n1, .imm p1 3 e1 (fcellss fs1), .imm q1 4 f1 (pcellss ks1)]]⟩)], [], O, tk4⟩) (Sub.env [(1, .optr (.loc 1) 0 0), (2, .bool false), (3, .int .i64 ra11), (4, .int .i64 ra12), (48, .bool false)] ⟨rfl, rfl, rfl, rfl, rfl, trivial⟩) ?_
                refine run_if rfl rfl (fun h => by cases h) (fun _ => ?_)
                refine run_skip ?_
                exact ⟨tk4, (show tk4 ≤ tk4 by omega), hM, Sub.env [(1, .optr (.loc 1) 0 0), (2, .bool false), (3, .int .i64 ra11), (4, .int .i64 ra12)] ⟨rfl, rfl, rfl, rfl, trivial⟩⟩
  · clear hM
    rintro σ' ⟨tkj15, hle55, hM, hsub⟩
    rw [hj56] at hM
    clear hj56
    refine run_sub_code hsub ?_
    refine run_seq ?_
    refine run_seq ?_
    refine run_region ?_
    refine run_pu rfl (move_step (.inr rfl) rfl) rfl (ltb rfl) ?_
    refine run_ops_nil ?_
    refine run_block ?_
    refine run_rounds (fun m σ => ∃ (i23 : Int) (tks_l08Proof_L1 : Nat), tkj15 ≤ tks_l08Proof_L1 ∧ s_l08Proof_L1 (s_l08Proof n) n (Pf.mk k1 n1 (fers fs1) (pers ks1)) (ra11, ra12) m i23 = some r ∧ σ = ⟨[(1, .optr (.loc 1) 0 0), (2, .bool false), (3, .int .i64 ra11), (4, .int .i64 ra12), (5, .int .i64 i23)], [(1, ⟨74, 4, true, [[.int .i64 k1, .int .i64 n1, .imm p1 3 e1 (fcellss fs1), .imm q1 4 f1 (pcellss ks1)]]⟩)], [], O, tks_l08Proof_L1⟩) n (Sub.env [(1, .optr (.loc 1) 0 0), (2, .bool false), (3, .int .i64 ra11), (4, .int .i64 ra12), (5, .int .i64 0)] ⟨rfl, rfl, rfl, rfl, rfl, trivial⟩) ⟨0, tkj15, Nat.le_refl _, hM, rfl⟩ (fun m σ hI => ?_)
    clear hM
    obtain ⟨i23, tks_l08Proof_L1, hle54, hM, rfl⟩ := hI
    obtain _ | m := m
    · exact absurd hM (by rw [s_l08Proof_L1]; exact fun h => by cases h)
    rw [s_l08Proof_L1] at hM
    refine run_seq ?_
    refine run_seq ?_
    refine run_region ?_
    refine run_pu rfl (move_step (.inl rfl) rfl) rfl (ltb rfl) ?_
    refine run_pu rfl (move_step (.inl rfl) rfl) rfl (ltb rfl) ?_
    refine run_pu rfl (abin_step rfl rfl rfl rfl (fun _ h => by cases h)) rfl (ltb rfl) ?_
    refine run_ops_nil ?_
    refine run_ifd rfl rfl (fun hb24 => ?_) (fun hb24 => ?_)
    · replace hM := ite_t hb24 hM
      refine run_skip ?_
      refine run_seq ?_
      refine run_block ?_
      refine run_seq ?_
      refine run_region ?_
      refine run_pu rfl (fieldAddr_step hG rfl rfl rfl rfl rfl) rfl (ltb rfl) ?_
      refine run_rd rfl (aload_rd hG rfl rfl rfl (by simp [ldok])) rfl (ltb rfl) ?_
      refine run_pu rfl (move_step (.inl rfl) rfl) rfl (ltb rfl) ?_
      obtain ⟨y25, hy26, hM⟩ := bind_t hM
      obtain ⟨k27, n27, q27, f27, ks27, rfl, hc28, hi29⟩ := fidx hy26
      refine run_pu rfl (indexImm_step hG rfl rfl rfl hi29 rfl rfl rfl rfl hc28) rfl (ltb rfl) ?_
      refine run_rd rfl (aload_rd hG rfl rfl rfl (by simp [ldok])) rfl (ltb rfl) ?_
      obtain ⟨r30, hg31, hM⟩ := bind_t hM
      refine run_call rfl rfl rfl (ltb rfl) rfl rfl rfl (fun _ h => absurd h List.not_mem_nil) (s_l08Form_ok n k27 n27 q27 f27 ks27 hg31 _ _) (callK_retX (fun v tk32 (hle33 : tks_l08Proof_L1 ≤ tk32) h34 => ?_))
      subst h34
      refine run_pu rfl (aun_step rfl rfl rfl) rfl (ltb rfl) ?_
      refine run_ops_nil ?_
      refine run_ifb rfl rfl (fun hb37 => ?_) (fun hb37 => ?_)
      · replace hM := ite_t hb37 hM
        refine run_seq ?_
        refine run_region ?_
        refine run_pu rfl (move_step (.inr rfl) rfl) rfl (ltb rfl) ?_
        refine run_ops_nil ?_
        refine run_ret_to ?_
        obtain rfl := some_t hM
        refine fin_x hG rfl rfl rfl (v' := .bool false) (by rfl) ⟨rfl, (show tk ≤ tk32 by omega), _, rfl, rfl⟩
      · replace hM := ite_f hb37 hM
        refine run_skip ?_
        refine run_blk ?_
        refine run_region ?_
        refine run_pu rfl (move_step (.inl rfl) rfl) rfl (ltb rfl) ?_
        refine run_pu rfl (abin_step rfl rfl rfl rfl (fun _ h => by cases h)) rfl (ltb rfl) ?_
        refine run_pu rfl (move_step (.inr rfl) rfl) rfl (ltb rfl) ?_
        refine run_ops_nil ?_
        exact run_loop_end ⟨m, _, Nat.lt_succ_self _, ⟨(IntKind.i64.wrap (i23 + 1)), tk32, (show tkj15 ≤ tk32 by omega), hM, rfl⟩, Sub.env [(1, .optr (.loc 1) 0 0), (2, .bool false), (3, .int .i64 ra11), (4, .int .i64 ra12), (5, .int .i64 (IntKind.i64.wrap (i23 + 1)))] ⟨rfl, rfl, rfl, rfl, rfl, trivial⟩⟩
    · replace hM := ite_f hb24 hM
      refine run_exit_to rfl ?_
      refine run_seq ?_
      refine run_seq ?_
      refine run_region ?_
      refine run_pu rfl (move_step (.inr rfl) rfl) rfl (ltb rfl) ?_
      refine run_ops_nil ?_
      refine run_block ?_
      refine run_rounds (fun m σ => ∃ (i38 : Int) (tks_l08Proof_L2 : Nat), tks_l08Proof_L1 ≤ tks_l08Proof_L2 ∧ s_l08Proof_L2 (s_l08Proof n) (Pf.mk k1 n1 (fers fs1) (pers ks1)) (ra11, ra12) m i38 = some r ∧ σ = ⟨[(1, .optr (.loc 1) 0 0), (2, .bool false), (4, .int .i64 ra12), (6, .int .i64 i38)], [(1, ⟨74, 4, true, [[.int .i64 k1, .int .i64 n1, .imm p1 3 e1 (fcellss fs1), .imm q1 4 f1 (pcellss ks1)]]⟩)], [], O, tks_l08Proof_L2⟩) n (Sub.env [(1, .optr (.loc 1) 0 0), (2, .bool false), (4, .int .i64 ra12), (6, .int .i64 0)] ⟨rfl, rfl, rfl, rfl, trivial⟩) ⟨0, tks_l08Proof_L1, Nat.le_refl _, hM, rfl⟩ (fun m σ hI => ?_)
      clear hM
      obtain ⟨i38, tks_l08Proof_L2, hle53, hM, rfl⟩ := hI
      obtain _ | m := m
      · exact absurd hM (by rw [s_l08Proof_L2]; exact fun h => by cases h)
      rw [s_l08Proof_L2] at hM
      refine run_seq ?_
      refine run_seq ?_
      refine run_region ?_
      refine run_pu rfl (move_step (.inl rfl) rfl) rfl (ltb rfl) ?_
      refine run_pu rfl (move_step (.inl rfl) rfl) rfl (ltb rfl) ?_
      refine run_pu rfl (abin_step rfl rfl rfl rfl (fun _ h => by cases h)) rfl (ltb rfl) ?_
      refine run_ops_nil ?_
      refine run_ifd rfl rfl (fun hb39 => ?_) (fun hb39 => ?_)
      · replace hM := ite_t hb39 hM
        refine run_skip ?_
        refine run_seq ?_
        refine run_block ?_
        refine run_seq ?_
        refine run_region ?_
        refine run_pu rfl (fieldAddr_step hG rfl rfl rfl rfl rfl) rfl (ltb rfl) ?_
        refine run_rd rfl (aload_rd hG rfl rfl rfl (by simp [ldok])) rfl (ltb rfl) ?_
        refine run_pu rfl (move_step (.inl rfl) rfl) rfl (ltb rfl) ?_
        obtain ⟨y40, hy41, hM⟩ := bind_t hM
        obtain ⟨k42, n42, p42, e42, fs42, q42, f42, ks42, rfl, hc43, hi44⟩ := pidx hy41
        refine run_pu rfl (indexImm_step hG rfl rfl rfl hi44 rfl rfl rfl rfl hc43) rfl (ltb rfl) ?_
        refine run_rd rfl (aload_rd hG rfl rfl rfl (by simp [ldok])) rfl (ltb rfl) ?_
        obtain ⟨r45, hg46, hM⟩ := bind_t hM
        refine run_call rfl rfl rfl (ltb rfl) rfl rfl rfl (fun _ h => absurd h List.not_mem_nil) (ih_s_l08Proof k42 n42 p42 e42 fs42 q42 f42 ks42 hg46 _ _) (callK_retX (fun v tk47 (hle48 : tks_l08Proof_L2 ≤ tk47) h49 => ?_))
        subst h49
        refine run_pu rfl (aun_step rfl rfl rfl) rfl (ltb rfl) ?_
        refine run_ops_nil ?_
        refine run_ifb rfl rfl (fun hb52 => ?_) (fun hb52 => ?_)
        · replace hM := ite_t hb52 hM
          refine run_seq ?_
          refine run_region ?_
          refine run_pu rfl (move_step (.inr rfl) rfl) rfl (ltb rfl) ?_
          refine run_ops_nil ?_
          refine run_ret_to ?_
          obtain rfl := some_t hM
          refine fin_x hG rfl rfl rfl (v' := .bool false) (by rfl) ⟨rfl, (show tk ≤ tk47 by omega), _, rfl, rfl⟩
        · replace hM := ite_f hb52 hM
          refine run_skip ?_
          refine run_blk ?_
          refine run_region ?_
          refine run_pu rfl (move_step (.inl rfl) rfl) rfl (ltb rfl) ?_
          refine run_pu rfl (abin_step rfl rfl rfl rfl (fun _ h => by cases h)) rfl (ltb rfl) ?_
          refine run_pu rfl (move_step (.inr rfl) rfl) rfl (ltb rfl) ?_
          refine run_ops_nil ?_
          exact run_loop_end ⟨m, _, Nat.lt_succ_self _, ⟨(IntKind.i64.wrap (i38 + 1)), tk47, (show tks_l08Proof_L1 ≤ tk47 by omega), hM, rfl⟩, Sub.env [(1, .optr (.loc 1) 0 0), (2, .bool false), (4, .int .i64 ra12), (6, .int .i64 (IntKind.i64.wrap (i38 + 1)))] ⟨rfl, rfl, rfl, rfl, trivial⟩⟩
      · replace hM := ite_f hb39 hM
        refine run_exit_to rfl ?_
        refine run_seq ?_
        refine run_region ?_
        refine run_pu rfl (move_step (.inr rfl) rfl) rfl (ltb rfl) ?_
        refine run_ops_nil ?_
        refine run_ret_to ?_
        obtain rfl := some_t hM
        refine fin_x hG rfl rfl rfl (v' := .bool true) (by rfl) ⟨rfl, (show tk ≤ tks_l08Proof_L2 by omega), _, rfl, rfl⟩

theorem s_l08Proof_all : ∀ (n : Nat), (∀ (k1 : Int) (n1 : Int) (p1 : Nat) (e1 : Bool) (fs1 : List LF) (q1 : Nat) (f1 : Bool) (ks1 : List LP) {r : Bool}, s_l08Proof n (Pf.mk k1 n1 (fers fs1) (pers ks1)) = some r → ∀ (O : Heap) (tk : Nat), ACalls Go.Proofs.Try.prog 59 [.agg [.int .i64 k1, .int .i64 n1, .imm p1 3 e1 (fcellss fs1), .imm q1 4 f1 (pcellss ks1)]] O tk (RetX O tk (fun v tk' => v = .bool r)))
  | 0 => by intro k1 n1 p1 e1 fs1 q1 f1 ks1 r hM; rw [s_l08Proof] at hM; cases hM
  | n + 1 => have ih := s_l08Proof_all n; s_l08Proof_st n (ih)

theorem s_l08Proof_ok (n : Nat) : ∀ (k1 : Int) (n1 : Int) (p1 : Nat) (e1 : Bool) (fs1 : List LF) (q1 : Nat) (f1 : Bool) (ks1 : List LP) {r : Bool}, s_l08Proof n (Pf.mk k1 n1 (fers fs1) (pers ks1)) = some r → ∀ (O : Heap) (tk : Nat), ACalls Go.Proofs.Try.prog 59 [.agg [.int .i64 k1, .int .i64 n1, .imm p1 3 e1 (fcellss fs1), .imm q1 4 f1 (pcellss ks1)]] O tk (RetX O tk (fun v tk' => v = .bool r)) := s_l08Proof_all n

def s_ProofOK (n : Nat) (x1 : Pf) : Option Bool :=
  (s_l08Count n x1 150).bind fun r2 =>
  if r2 ≥ 0 then
    (s_l08Proof n x1).bind fun r10 =>
    some r10
  else
    some false

set_option maxRecDepth 100000 in
theorem s_ProofOK_ok (n : Nat) : ∀ (k1 : Int) (n1 : Int) (p1 : Nat) (e1 : Bool) (fs1 : List LF) (q1 : Nat) (f1 : Bool) (ks1 : List LP) {r : Bool}, s_ProofOK n (Pf.mk k1 n1 (fers fs1) (pers ks1)) = some r → ∀ (O : Heap) (tk : Nat), ACalls Go.Proofs.Try.prog 30 [.agg [.int .i64 k1, .int .i64 n1, .imm p1 3 e1 (fcellss fs1), .imm q1 4 f1 (pcellss ks1)]] O tk (RetX O tk (fun v tk' => v = .bool r)) := by
  intro k1 n1 p1 e1 fs1 q1 f1 ks1 r hM O tk
  unfold s_ProofOK at hM
  refine acalls_of_run Go.Proofs.Try.func30 rfl rfl [] [] (Bor.nil _) [(0, .agg [.int .i64 k1, .int .i64 n1, .imm p1 3 e1 (fcellss fs1), .imm q1 4 f1 (pcellss ks1)])] (.cons (.agg _) (.nil _)) (leb rfl) (fun _ h => by cases h) (fun S0 hO htk hfz => ?_)
  refine run_seq ?_
  refine run_region ?_
  refine run_op rfl (box_step (d := 1) rfl rfl rfl rfl rfl) rfl (ltb rfl) ?_
  refine run_pu rfl (move_step (.inr rfl) rfl) rfl (ltb rfl) ?_
  refine run_ops_nil ?_
  refine run_seq ?_
  refine run_region ?_
  refine run_rd rfl (aload_rd hG rfl rfl rfl (by simp [ldok])) rfl (ltb rfl) ?_
  obtain ⟨r2, hg3, hM⟩ := bind_t hM
  refine run_call rfl rfl rfl (ltb rfl) rfl rfl rfl (fun _ h => absurd h List.not_mem_nil) (s_l08Count_ok n k1 n1 p1 e1 fs1 q1 f1 ks1 150 hg3 _ _) (callK_retX (fun v tk4 (hle5 : tk ≤ tk4) h6 => ?_))
  subst h6
  refine run_pu rfl (abin_step rfl rfl rfl rfl (fun _ h => by cases h)) rfl (ltb rfl) ?_
  refine run_pu rfl (move_step (.inl rfl) rfl) rfl (ltb rfl) ?_
  refine run_splitd (i := 6) rfl (fun hb9 => ?_) (fun hb9 => ?_)
  · replace hM := ite_t hb9 hM
    refine run_rdG (on_of rfl rfl rfl rfl) (aload_rd hG rfl rfl rfl (by simp [ldok])) rfl (ltb rfl) ?_
    obtain ⟨r10, hg11, hM⟩ := bind_t hM
    refine run_callG (on_of rfl rfl rfl rfl) rfl rfl (ltb rfl) rfl rfl rfl (fun _ h => absurd h List.not_mem_nil) (s_l08Proof_ok n k1 n1 p1 e1 fs1 q1 f1 ks1 hg11 _ _) (callK_retX (fun v tk12 (hle13 : tk4 ≤ tk12) h14 => ?_))
    subst h14
    refine run_pu rfl (pick_step rfl rfl rfl) rfl (ltb rfl) ?_
    refine run_pu rfl (move_step (.inr rfl) rfl) rfl (ltb rfl) ?_
    refine run_ops_nil ?_
    refine run_ret_to ?_
    obtain rfl := some_t hM
    refine fin_x hG rfl rfl rfl (v' := .bool r10) (by rfl) ⟨rfl, (show tk ≤ tk12 by omega), _, rfl, rfl⟩
  · replace hM := ite_f hb9 hM
    refine run_off (on_of rfl rfl rfl rfl) rfl (ltb rfl) ?_
    refine run_off (on_of rfl rfl rfl rfl) rfl (ltb rfl) ?_
    refine run_pu rfl (pick_step rfl rfl rfl) rfl (ltb rfl) ?_
    refine run_pu rfl (move_step (.inr rfl) rfl) rfl (ltb rfl) ?_
    refine run_ops_nil ?_
    refine run_ret_to ?_
    obtain rfl := some_t hM
    refine fin_x hG rfl rfl rfl (v' := .bool false) (by rfl) ⟨rfl, (show tk ≤ tk4 by omega), _, rfl, rfl⟩

end Go.Am.Ytklchmkanhpeeaa
