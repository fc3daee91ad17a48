/- Printed by a program of ours: Lean functions that do what the Go functions do, and the contracts. -/
import Derived.Test.YtpkeophkdemcpaaMi3
import Derived.Test.YtpkeophkdemcpaaTypes
import Derived.Test.YtpkeophkdemcpaaMkForm
import Derived.Test.YtpkeophkdemcpaaMz
-- packed
namespace Go.Am.Ytpkeophkdemcpaa
open Go Go.Am

set_option maxRecDepth 100000 in
theorem i_ruleOf_ex0 (i1 : Int) (h0' : i1 = 2) (O : Heap) (tk : Nat) : ACalls Go.Proofs.Try.prog 133 [.int .i64 i1] O tk (RetN O (.tup [.agg [.int .i64 2, .int .i64 2, .str ⟨#[97, 110, 100, 73]⟩, .fn (.func 189) [] [], .fn (.func 190) [] []], .bool true]) tk) := by
 refine acalls_of_run Go.Proofs.Try.func133 rfl rfl [] [] (Bor.nil _) [(0, .int .i64 i1)] (.cons (entS rfl) (.nil _)) (leb rfl) (fun _ h => by cases h) (fun S0 hO htk hfz => ?_)
 refine run_sr ?_
 refine run_op rfl (alloc_step (d := 2) hG rfl rfl rfl) rfl (ltb rfl) ?_
 refine yR rfl ?_
 refine yN ?_
 refine run_sr ?_
 refine yR rfl ?_
 refine yN ?_
 refine run_sr ?_
 refine yR rfl ?_
 refine yN ?_
 refine run_sr ?_
 refine yR rfl ?_
 refine yN ?_
 refine run_seq ?_
 refine run_sr ?_
 refine yL rfl ?_
 refine yN ?_
 refine run_block ?_
 refine run_sr ?_
 refine yB rfl ?_
 refine yR rfl ?_
 refine yN ?_
 refine run_ifd rfl rfl (fun _ => ?_) (fun h => absurd h0' h)
 refine run_sr ?_
 refine run_pu rfl (build_step hG rfl (by rfl) rfl (fun h => by cases h) (by rfl)) rfl (ltb rfl) ?_
 refine yS hG rfl ?_
 refine yR rfl ?_
 refine yN ?_
 refine run_ret_to ?_
 refine fin_x hG rfl rfl rfl (v' := .tup [.agg [.int .i64 2, .int .i64 2, .str ⟨#[97, 110, 100, 73]⟩, .fn (.func 189) [] [], .fn (.func 190) [] []], .bool true]) (by rfl) ⟨rfl, rfl, rfl⟩

set_option maxRecDepth 100000 in
theorem i_ruleOf_ex1 (i1 : Int) (h0' : ¬ (i1 = 2)) (h1' : i1 = 3) (O : Heap) (tk : Nat) : ACalls Go.Proofs.Try.prog 133 [.int .i64 i1] O tk (RetN O (.tup [.agg [.int .i64 2, .int .i64 1, .str ⟨#[102, 115, 116]⟩, .fn (.func 185) [] [], .fn (.func 187) [] []], .bool true]) tk) := by
 refine acalls_of_run Go.Proofs.Try.func133 rfl rfl [] [] (Bor.nil _) [(0, .int .i64 i1)] (.cons (entS rfl) (.nil _)) (leb rfl) (fun _ h => by cases h) (fun S0 hO htk hfz => ?_)
 refine run_sr ?_
 refine run_op rfl (alloc_step (d := 2) hG rfl rfl rfl) rfl (ltb rfl) ?_
 refine yR rfl ?_
 refine yN ?_
 refine run_sr ?_
 refine yR rfl ?_
 refine yN ?_
 refine run_sr ?_
 refine yR rfl ?_
 refine yN ?_
 refine run_sr ?_
 refine yR rfl ?_
 refine yN ?_
 refine run_seq ?_
 refine run_sr ?_
 refine yL rfl ?_
 refine yN ?_
 refine run_block ?_
 refine run_sr ?_
 refine yB rfl ?_
 refine yR rfl ?_
 refine yN ?_
 refine run_ifd rfl rfl (fun h => absurd h h0') (fun _ => ?_)
 refine run_sr ?_
 refine yB rfl ?_
 refine yR rfl ?_
 refine yN ?_
 refine run_ifd rfl rfl (fun _ => ?_) (fun h => absurd h1' h)
 refine run_sr ?_
 refine yL rfl ?_
 refine yL rfl ?_
 refine run_pu rfl (build_step hG rfl (by rfl) rfl (fun h => by cases h) (by rfl)) rfl (ltb rfl) ?_
 refine yS hG rfl ?_
 refine yR rfl ?_
 refine yN ?_
 refine run_ret_to ?_
 refine fin_x hG rfl rfl rfl (v' := .tup [.agg [.int .i64 2, .int .i64 1, .str ⟨#[102, 115, 116]⟩, .fn (.func 185) [] [], .fn (.func 187) [] []], .bool true]) (by rfl) ⟨rfl, rfl, rfl⟩

set_option maxRecDepth 100000 in
theorem i_ruleOf_ex2 (i1 : Int) (h0' : ¬ (i1 = 2)) (h1' : ¬ (i1 = 3)) (h2' : i1 = 4) (O : Heap) (tk : Nat) : ACalls Go.Proofs.Try.prog 133 [.int .i64 i1] O tk (RetN O (.tup [.agg [.int .i64 2, .int .i64 1, .str ⟨#[115, 110, 100]⟩, .fn (.func 185) [] [], .fn (.func 188) [] []], .bool true]) tk) := by
 refine acalls_of_run Go.Proofs.Try.func133 rfl rfl [] [] (Bor.nil _) [(0, .int .i64 i1)] (.cons (entS rfl) (.nil _)) (leb rfl) (fun _ h => by cases h) (fun S0 hO htk hfz => ?_)
 refine run_sr ?_
 refine run_op rfl (alloc_step (d := 2) hG rfl rfl rfl) rfl (ltb rfl) ?_
 refine yR rfl ?_
 refine yN ?_
 refine run_sr ?_
 refine yR rfl ?_
 refine yN ?_
 refine run_sr ?_
 refine yR rfl ?_
 refine yN ?_
 refine run_sr ?_
 refine yR rfl ?_
 refine yN ?_
 refine run_seq ?_
 refine run_sr ?_
 refine yL rfl ?_
 refine yN ?_
 refine run_block ?_
 refine run_sr ?_
 refine yB rfl ?_
 refine yR rfl ?_
 refine yN ?_
 refine run_ifd rfl rfl (fun h => absurd h h0') (fun _ => ?_)
 refine run_sr ?_
 refine yB rfl ?_
 refine yR rfl ?_
 refine yN ?_
 refine run_ifd rfl rfl (fun h => absurd h h1') (fun _ => ?_)
 refine run_sr ?_
 refine yB rfl ?_
 refine yR rfl ?_
 refine yN ?_
 refine run_ifd rfl rfl (fun _ => ?_) (fun h => absurd h2' h)
 refine run_sr ?_
 refine yL rfl ?_
 refine yL rfl ?_
 refine run_pu rfl (build_step hG rfl (by rfl) rfl (fun h => by cases h) (by rfl)) rfl (ltb rfl) ?_
 refine yS hG rfl ?_
 refine yR rfl ?_
 refine yN ?_
 refine run_ret_to ?_
 refine fin_x hG rfl rfl rfl (v' := .tup [.agg [.int .i64 2, .int .i64 1, .str ⟨#[115, 110, 100]⟩, .fn (.func 185) [] [], .fn (.func 188) [] []], .bool true]) (by rfl) ⟨rfl, rfl, rfl⟩

set_option maxRecDepth 100000 in
theorem i_ruleOf_ex3 (i1 : Int) (h0' : ¬ (i1 = 2)) (h1' : ¬ (i1 = 3)) (h2' : ¬ (i1 = 4)) (h3' : i1 = 5) (O : Heap) (tk : Nat) : ACalls Go.Proofs.Try.prog 133 [.int .i64 i1] O tk (RetN O (.tup [.agg [.int .i64 2, .int .i64 1, .str ⟨#[102, 117, 110, 73]⟩, .fn (.func 191) [] [], .fn (.func 192) [] []], .bool true]) tk) := by
 refine acalls_of_run Go.Proofs.Try.func133 rfl rfl [] [] (Bor.nil _) [(0, .int .i64 i1)] (.cons (entS rfl) (.nil _)) (leb rfl) (fun _ h => by cases h) (fun S0 hO htk hfz => ?_)
 refine run_sr ?_
 refine run_op rfl (alloc_step (d := 2) hG rfl rfl rfl) rfl (ltb rfl) ?_
 refine yR rfl ?_
 refine yN ?_
 refine run_sr ?_
 refine yR rfl ?_
 refine yN ?_
 refine run_sr ?_
 refine yR rfl ?_
 refine yN ?_
 refine run_sr ?_
 refine yR rfl ?_
 refine yN ?_
 refine run_seq ?_
 refine run_sr ?_
 refine yL rfl ?_
 refine yN ?_
 refine run_block ?_
 refine run_sr ?_
 refine yB rfl ?_
 refine yR rfl ?_
 refine yN ?_
 refine run_ifd rfl rfl (fun h => absurd h h0') (fun _ => ?_)
 refine run_sr ?_
 refine yB rfl ?_
 refine yR rfl ?_
 refine yN ?_
 refine run_ifd rfl rfl (fun h => absurd h h1') (fun _ => ?_)
 refine run_sr ?_
 refine yB rfl ?_
 refine yR rfl ?_
 refine yN ?_
 refine run_ifd rfl rfl (fun h => absurd h h2') (fun _ => ?_)
 refine run_sr ?_
 refine yB rfl ?_
 refine yR rfl ?_
 refine yN ?_
 refine run_ifd rfl rfl (fun _ => ?_) (fun h => absurd h3' h)
 refine run_sr ?_
 refine run_pu rfl (build_step hG rfl (by rfl) rfl (fun h => by cases h) (by rfl)) rfl (ltb rfl) ?_
 refine yS hG rfl ?_
 refine yR rfl ?_
 refine yN ?_
 refine run_ret_to ?_
 refine fin_x hG rfl rfl rfl (v' := .tup [.agg [.int .i64 2, .int .i64 1, .str ⟨#[102, 117, 110, 73]⟩, .fn (.func 191) [] [], .fn (.func 192) [] []], .bool true]) (by rfl) ⟨rfl, rfl, rfl⟩

set_option maxRecDepth 100000 in
theorem i_ruleOf_ex4 (i1 : Int) (h0' : ¬ (i1 = 2)) (h1' : ¬ (i1 = 3)) (h2' : ¬ (i1 = 4)) (h3' : ¬ (i1 = 5)) (h4' : i1 = 6) (O : Heap) (tk : Nat) : ACalls Go.Proofs.Try.prog 133 [.int .i64 i1] O tk (RetN O (.tup [.agg [.int .i64 2, .int .i64 2, .str ⟨#[117, 115, 101]⟩, .fn (.func 194) [] [], .fn (.func 188) [] []], .bool true]) tk) := by
 refine acalls_of_run Go.Proofs.Try.func133 rfl rfl [] [] (Bor.nil _) [(0, .int .i64 i1)] (.cons (entS rfl) (.nil _)) (leb rfl) (fun _ h => by cases h) (fun S0 hO htk hfz => ?_)
 refine run_sr ?_
 refine run_op rfl (alloc_step (d := 2) hG rfl rfl rfl) rfl (ltb rfl) ?_
 refine yR rfl ?_
 refine yN ?_
 refine run_sr ?_
 refine yR rfl ?_
 refine yN ?_
 refine run_sr ?_
 refine yR rfl ?_
 refine yN ?_
 refine run_sr ?_
 refine yR rfl ?_
 refine yN ?_
 refine run_seq ?_
 refine run_sr ?_
 refine yL rfl ?_
 refine yN ?_
 refine run_block ?_
 refine run_sr ?_
 refine yB rfl ?_
 refine yR rfl ?_
 refine yN ?_
 refine run_ifd rfl rfl (fun h => absurd h h0') (fun _ => ?_)
 refine run_sr ?_
 refine yB rfl ?_
 refine yR rfl ?_
 refine yN ?_
 refine run_ifd rfl rfl (fun h => absurd h h1') (fun _ => ?_)
 refine run_sr ?_
 refine yB rfl ?_
 refine yR rfl ?_
 refine yN ?_
 refine run_ifd rfl rfl (fun h => absurd h h2') (fun _ => ?_)
 refine run_sr ?_
 refine yB rfl ?_
 refine yR rfl ?_
 refine yN ?_
 refine run_ifd rfl rfl (fun h => absurd h h3') (fun _ => ?_)
 refine run_sr ?_
 refine yB rfl ?_
 refine yR rfl ?_
 refine yN ?_
 refine run_ifd rfl rfl (fun _ => ?_) (fun h => absurd h4' h)
 refine run_sr ?_
 refine yL rfl ?_
 refine run_pu rfl (build_step hG rfl (by rfl) rfl (fun h => by cases h) (by rfl)) rfl (ltb rfl) ?_
 refine yS hG rfl ?_
 refine yR rfl ?_
 refine yN ?_
 refine run_ret_to ?_
 refine fin_x hG rfl rfl rfl (v' := .tup [.agg [.int .i64 2, .int .i64 2, .str ⟨#[117, 115, 101]⟩, .fn (.func 194) [] [], .fn (.func 188) [] []], .bool true]) (by rfl) ⟨rfl, rfl, rfl⟩

set_option maxRecDepth 100000 in
theorem i_ruleOf_ex5 (i1 : Int) (h0' : ¬ (i1 = 2)) (h1' : ¬ (i1 = 3)) (h2' : ¬ (i1 = 4)) (h3' : ¬ (i1 = 5)) (h4' : ¬ (i1 = 6)) (h5' : i1 = 7) (O : Heap) (tk : Nat) : ACalls Go.Proofs.Try.prog 133 [.int .i64 i1] O tk (RetN O (.tup [.agg [.int .i64 1, .int .i64 1, .str ⟨#[98, 111, 116, 69]⟩, .fn (.func 195) [] [], .fn (.func 187) [] []], .bool true]) tk) := by
 refine acalls_of_run Go.Proofs.Try.func133 rfl rfl [] [] (Bor.nil _) [(0, .int .i64 i1)] (.cons (entS rfl) (.nil _)) (leb rfl) (fun _ h => by cases h) (fun S0 hO htk hfz => ?_)
 refine run_sr ?_
 refine run_op rfl (alloc_step (d := 2) hG rfl rfl rfl) rfl (ltb rfl) ?_
 refine yR rfl ?_
 refine yN ?_
 refine run_sr ?_
 refine yR rfl ?_
 refine yN ?_
 refine run_sr ?_
 refine yR rfl ?_
 refine yN ?_
 refine run_sr ?_
 refine yR rfl ?_
 refine yN ?_
 refine run_seq ?_
 refine run_sr ?_
 refine yL rfl ?_
 refine yN ?_
 refine run_block ?_
 refine run_sr ?_
 refine yB rfl ?_
 refine yR rfl ?_
 refine yN ?_
 refine run_ifd rfl rfl (fun h => absurd h h0') (fun _ => ?_)
 refine run_sr ?_
 refine yB rfl ?_
 refine yR rfl ?_
 refine yN ?_
 refine run_ifd rfl rfl (fun h => absurd h h1') (fun _ => ?_)
 refine run_sr ?_
 refine yB rfl ?_
 refine yR rfl ?_
 refine yN ?_
 refine run_ifd rfl rfl (fun h => absurd h h2') (fun _ => ?_)
 refine run_sr ?_
 refine yB rfl ?_
 refine yR rfl ?_
 refine yN ?_
 refine run_ifd rfl rfl (fun h => absurd h h3') (fun _ => ?_)
 refine run_sr ?_
 refine yB rfl ?_
 refine yR rfl ?_
 refine yN ?_
 refine run_ifd rfl rfl (fun h => absurd h h4') (fun _ => ?_)
 refine run_sr ?_
 refine yB rfl ?_
 refine yR rfl ?_
 refine yN ?_
 refine run_ifd rfl rfl (fun _ => ?_) (fun h => absurd h5' h)
 refine run_sr ?_
 refine yL rfl ?_
 refine run_pu rfl (build_step hG rfl (by rfl) rfl (fun h => by cases h) (by rfl)) rfl (ltb rfl) ?_
 refine yS hG rfl ?_
 refine yR rfl ?_
 refine yN ?_
 refine run_ret_to ?_
 refine fin_x hG rfl rfl rfl (v' := .tup [.agg [.int .i64 1, .int .i64 1, .str ⟨#[98, 111, 116, 69]⟩, .fn (.func 195) [] [], .fn (.func 187) [] []], .bool true]) (by rfl) ⟨rfl, rfl, rfl⟩

set_option maxRecDepth 100000 in
theorem i_ruleOf_ex6 (i1 : Int) (h0' : ¬ (i1 = 2)) (h1' : ¬ (i1 = 3)) (h2' : ¬ (i1 = 4)) (h3' : ¬ (i1 = 5)) (h4' : ¬ (i1 = 6)) (h5' : ¬ (i1 = 7)) (O : Heap) (tk : Nat) : ACalls Go.Proofs.Try.prog 133 [.int .i64 i1] O tk (RetN O (.tup [.agg [.int .i64 0, .int .i64 0, .str ⟨#[]⟩, .nilfn, .nilfn], .bool false]) tk) := by
 refine acalls_of_run Go.Proofs.Try.func133 rfl rfl [] [] (Bor.nil _) [(0, .int .i64 i1)] (.cons (entS rfl) (.nil _)) (leb rfl) (fun _ h => by cases h) (fun S0 hO htk hfz => ?_)
 refine run_sr ?_
 refine run_op rfl (alloc_step (d := 2) hG rfl rfl rfl) rfl (ltb rfl) ?_
 refine yR rfl ?_
 refine yN ?_
 refine run_sr ?_
 refine yR rfl ?_
 refine yN ?_
 refine run_sr ?_
 refine yR rfl ?_
 refine yN ?_
 refine run_sr ?_
 refine yR rfl ?_
 refine yN ?_
 refine run_seq ?_
 refine run_sr ?_
 refine yL rfl ?_
 refine yN ?_
 refine run_block ?_
 refine run_sr ?_
 refine yB rfl ?_
 refine yR rfl ?_
 refine yN ?_
 refine run_ifd rfl rfl (fun h => absurd h h0') (fun _ => ?_)
 refine run_sr ?_
 refine yB rfl ?_
 refine yR rfl ?_
 refine yN ?_
 refine run_ifd rfl rfl (fun h => absurd h h1') (fun _ => ?_)
 refine run_sr ?_
 refine yB rfl ?_
 refine yR rfl ?_
 refine yN ?_
 refine run_ifd rfl rfl (fun h => absurd h h2') (fun _ => ?_)
 refine run_sr ?_
 refine yB rfl ?_
 refine yR rfl ?_
 refine yN ?_
 refine run_ifd rfl rfl (fun h => absurd h h3') (fun _ => ?_)
 refine run_sr ?_
 refine yB rfl ?_
 refine yR rfl ?_
 refine yN ?_
 refine run_ifd rfl rfl (fun h => absurd h h4') (fun _ => ?_)
 refine run_sr ?_
 refine yB rfl ?_
 refine yR rfl ?_
 refine yN ?_
 refine run_ifd rfl rfl (fun h => absurd h h5') (fun _ => ?_)
 refine run_skip ?_
 refine run_blk ?_
 refine run_sr ?_
 refine run_pu rfl (build_step hG rfl (by rfl) rfl (fun h => by cases h) (by rfl)) rfl (ltb rfl) ?_
 refine yS hG rfl ?_
 refine yR rfl ?_
 refine yN ?_
 refine run_ret_to ?_
 refine fin_x hG rfl rfl rfl (v' := .tup [.agg [.int .i64 0, .int .i64 0, .str ⟨#[]⟩, .nilfn, .nilfn], .bool false]) (by rfl) ⟨rfl, rfl, rfl⟩

def i_looker_proof_L2 (rec_i_looker_proof : (Int × Bool) → Pf → Option (Bool × (Int × Bool))) (x4 : Pf) : Nat → Int → Int → Bool → Option (Bool × (Int × Bool))
 | 0, _, _, _ => none
 | m + 1, i65, i66, b67 =>
  if i65 < ((x4.kids).length : Int) then
   (idx x4.kids i65).bind fun y69 =>
   (rec_i_looker_proof (i66, b67) y69).bind fun r74 =>
   if (!r74.1) = true then
    some (false, (r74.2.1, r74.2.2))
   else
    i_looker_proof_L2 rec_i_looker_proof x4 m (IntKind.i64.wrap (i65 + 1)) r74.2.1 r74.2.2
  else
   some (true, (i66, b67))

def i_looker_proof_L1 (rec_i_looker_proof : (Int × Bool) → Pf → Option (Bool × (Int × Bool))) (n : Nat) (x4 : Pf) : Nat → Int → Int → Bool → Option (Bool × (Int × Bool))
 | 0, _, _, _ => none
 | m + 1, i45, i46, b47 =>
  if i45 < ((x4.forms).length : Int) then
   (idx x4.forms i45).bind fun y49 =>
   (i_looker_form n (i46, b47) y49).bind fun r54 =>
   if (!r54.1) = true then
    some (false, (r54.2.1, r54.2.2))
   else
    i_looker_proof_L1 rec_i_looker_proof n x4 m (IntKind.i64.wrap (i45 + 1)) r54.2.1 r54.2.2
  else
   i_looker_proof_L2 rec_i_looker_proof x4 n 0 i46 b47

def i_looker_proof : Nat → (Int × Bool) → Pf → Option (Bool × (Int × Bool))
 | 0, _, _ => none
 | n + 1, z1, x4 =>
  (i_looker_node (z1.1, z1.2)).bind fun r5 =>
  if (!r5.1) = true then
   some (false, (r5.2.1, r5.2.2))
  else
   if x4.kind = 1 then
    jn (fun (b18 : Bool) =>
     some (b18, (r5.2.1, r5.2.2))) fun j17 =>
    (i_in x4.n 0 100).bind fun r19 =>
    if r19 = true then
     if ((x4.forms).length : Int) = 0 then
      j17 (((x4.kids).length : Int) == 0)
     else
      j17 false
    else
     j17 false
   else
    jn (fun (b31 : Bool) (i32 : Int) (i33 : Int) (t34 : ByteArray) =>
     if (!b31) = true then
      some (false, (r5.2.1, r5.2.2))
     else
      if (x4.n != 0) = true then
       some (false, (r5.2.1, r5.2.2))
      else
       if (((x4.forms).length : Int) != i32) = true then
        some (false, (r5.2.1, r5.2.2))
       else
        if (((x4.kids).length : Int) != i33) = true then
         some (false, (r5.2.1, r5.2.2))
        else
         i_looker_proof_L1 (i_looker_proof n) n x4 n 0 r5.2.1 r5.2.2) fun j30 =>
    if x4.kind = 2 then
     j30 true 2 2 (⟨#[97, 110, 100, 73]⟩)
    else
     if x4.kind = 3 then
      j30 true 2 1 (⟨#[102, 115, 116]⟩)
     else
      if x4.kind = 4 then
       j30 true 2 1 (⟨#[115, 110, 100]⟩)
      else
       if x4.kind = 5 then
        j30 true 2 1 (⟨#[102, 117, 110, 73]⟩)
       else
        if x4.kind = 6 then
         j30 true 2 2 (⟨#[117, 115, 101]⟩)
        else
         if x4.kind = 7 then
          j30 true 1 1 (⟨#[98, 111, 116, 69]⟩)
         else
          j30 false 0 0 (⟨#[]⟩)

def i_looker_proof_P (n : Nat) : Prop := ∀ (X0 : ID) (i2 : Int) (b3 : Bool) (k4 : Int) (n4 : Int) (p4 : Nat) (e4 : Bool) (fs4 : List LF) (q4 : Nat) (f4 : Bool) (ks4 : List LP) {r : (Bool × (Int × Bool))}, i_looker_proof n (i2, b3) (Pf.mk k4 n4 (fers fs4) (pers ks4)) = some r → ∀ (O : Heap) (tk : Nat), O X0 = some ⟨200, 2, true, [[.int .i64 i2, .bool b3]]⟩ → ACalls Go.Proofs.Try.prog 130 [.optr X0 0 0, .agg [.int .i64 k4, .int .i64 n4, .imm p4 3 e4 (fcellss fs4), .imm q4 4 f4 (pcellss ks4)]] O tk (RetV O X0 tk (fun v o' tk' => ∃ r0', ∃ (c0 : Int) (c1 : Bool) , r = (r0', (c0, c1)) ∧ o' = ⟨200, 2, true, [[.int .i64 c0, .bool c1]]⟩ ∧ v = .bool r0'))

set_option maxHeartbeats 20000000 in
set_option maxRecDepth 100000 in
theorem i_looker_proof_st (n : Nat) (ih_i_looker_proof : i_looker_proof_P n) : i_looker_proof_P (n + 1) := by
 intro X0 i2 b3 k4 n4 p4 e4 fs4 q4 f4 ks4 r hM O tk hX0
 rw [i_looker_proof] at hM
 refine acalls_of_run Go.Proofs.Try.func130 rfl rfl [X0] [⟨200, 2, true, [[.int .i64 i2, .bool b3]]⟩] (Bor.one hX0 rfl) [(0, .optr (.bor 0) 0 0), (1, .agg [.int .i64 k4, .int .i64 n4, .imm p4 3 e4 (fcellss fs4), .imm q4 4 f4 (pcellss ks4)])] (.cons (.bor 0 _ _ _ rfl) (.cons (.agg _) (.nil _))) (leb rfl) (by intro y h; simp only [List.mem_cons, List.not_mem_nil, or_false] at h; rcases h with rfl <;> simp [tch, tch0]) (fun S0 hO htk hfz => ?_)
 refine run_sr ?_
 refine run_op rfl (box_step (d := 3) rfl rfl rfl rfl rfl) rfl (ltb rfl) ?_
 refine yR rfl ?_
 refine yN ?_
 refine run_seq ?_
 refine run_sr ?_
 refine yL rfl ?_
 obtain ⟨r5, hg6, hM⟩ := bind_t hM
 refine yK rfl (i_looker_node_ok (.bor 0) i2 b3 hg6 _ _ rfl) (callK_retV_bor (k := 0) rfl (fun v o' tk' h => by obtain ⟨_, _, _, rfl, rfl, _⟩ := h; rfl) (fun v o' tk7 (hle8 : tk ≤ tk7) h9 => ?_))
 obtain ⟨ra14, c12, c13, rfl, rfl, rfl⟩ := h9
 refine run_pu rfl (aun_step rfl rfl rfl) rfl (ltb rfl) ?_
 refine yN ?_
 refine run_ifb rfl rfl (fun hb15 => ?_) (fun hb15 => ?_)
 ·replace hM := ite_t hb15 hM
  refine run_sr ?_
  refine yR rfl ?_
  refine yN ?_
  refine run_ret_to ?_
  obtain rfl := some_t hM
  refine fin_x hG rfl rfl rfl (v' := .bool false) (by rfl) ⟨_, ⟨200, 2, true, [[.int .i64 c12, .bool c13]]⟩, rfl, rfl, (show tk ≤ tk7 by omega), ⟨_, c12, c13, rfl, rfl, rfl⟩⟩
 replace hM := ite_f hb15 hM
 refine run_skip ?_
 refine run_seq ?_
 refine run_sr ?_
 refine yF hG rfl ?_
 refine yD hG rfl ?_
 refine yB rfl ?_
 refine yN ?_
 refine run_ifd rfl rfl (fun hb16 => ?_) (fun hb16 => ?_)
 ·replace hM := ite_t hb16 hM
  refine run_seq ?_
  obtain ⟨j17, hj29, hM⟩ := jn_t hM
  refine run_cutL [.code _] (fun σ' => ∃ (b18 : Bool) (tkj17 : Nat), tk7 ≤ tkj17 ∧ j17 b18 = some r ∧ Sub ⟨Go.Proofs.Try.prog, S0, Go.Proofs.Try.f130.ntmps, [X0], fun _ => False, []⟩ σ' ⟨[(0, .optr (.bor 0) 0 0), (3, .optr (.loc 3) 0 0), (4, .bool b18)], [(3, ⟨26, 4, true, [[.int .i64 k4, .int .i64 n4, .imm p4 3 e4 (fcellss fs4), .imm q4 4 f4 (pcellss ks4)]]⟩)], [⟨200, 2, true, [[.int .i64 c12, .bool c13]]⟩], O, tkj17⟩) rfl ?_ ?_
  ·refine run_region ?_
   refine yF hG rfl ?_
   refine yD hG rfl ?_
   obtain ⟨r19, hg20, hM⟩ := bind_t hM
   refine yK rfl (i_in_ok n4 0 100 hg20 _ _) (callK_retX (fun v tk21 (hle22 : tk7 ≤ tk21) h23 => ?_))
   subst h23
   refine yL rfl ?_
   refine run_splitb (i := 20) rfl (fun hb26 => ?_) (fun hb26 => ?_)
   ·replace hM := ite_t hb26 hM
    refine run_puG (on_of rfl rfl rfl rfl) (fieldAddr_step hG rfl rfl rfl rfl rfl) rfl (ltb rfl) ?_
    refine run_rdG (on_of rfl rfl rfl rfl) (aload_rd hG rfl rfl rfl (by simp [ldok])) rfl (ltb rfl) ?_
    refine run_puG (on_of rfl rfl rfl rfl) (lenImm_step hG rfl rfl rfl rfl (flen _)) rfl (ltb rfl) ?_
    refine run_puG (on_of rfl rfl rfl rfl) (abin_step rfl rfl rfl rfl (fun _ h => by cases h)) rfl (ltb rfl) ?_
    refine yP rfl ?_
    refine yL rfl ?_
    refine run_splitd (i := 26) rfl (fun hb27 => ?_) (fun hb27 => ?_)
    ·replace hM := ite_t hb27 hM
     refine run_puG (on_of rfl rfl rfl rfl) (fieldAddr_step hG rfl rfl rfl rfl rfl) rfl (ltb rfl) ?_
     refine run_rdG (on_of rfl rfl rfl rfl) (aload_rd hG rfl rfl rfl (by simp [ldok])) rfl (ltb rfl) ?_
     refine run_puG (on_of rfl rfl rfl rfl) (lenImm_step hG rfl rfl rfl rfl (plen _)) rfl (ltb rfl) ?_
     refine run_puG (on_of rfl rfl rfl rfl) (abin_step rfl rfl rfl rfl (fun _ h => by cases h)) rfl (ltb rfl) ?_
     refine yP rfl ?_
     refine yR rfl ?_
     refine yN ?_
     exact ⟨((((pers ks4)).length : Int) == 0), tk21, (show tk7 ≤ tk21 by omega), hM, Sub.pk [0, 3, 4] rfl⟩
    replace hM := ite_f hb27 hM
    refine yO rfl ?_
    refine yO rfl ?_
    refine yO rfl ?_
    refine yO rfl ?_
    refine yP rfl ?_
    refine yR rfl ?_
    refine yN ?_
    exact ⟨false, tk21, (show tk7 ≤ tk21 by omega), hM, Sub.pk [0, 3, 4] rfl⟩
   replace hM := ite_f hb26 hM
   refine yO rfl ?_
   refine yO rfl ?_
   refine yO rfl ?_
   refine yO rfl ?_
   refine yP rfl ?_
   refine yL rfl ?_
   refine yO rfl ?_
   refine yO rfl ?_
   refine yO rfl ?_
   refine yO rfl ?_
   refine yP rfl ?_
   refine yR rfl ?_
   refine yN ?_
   exact ⟨false, tk21, (show tk7 ≤ tk21 by omega), hM, Sub.pk [0, 3, 4] rfl⟩
  clear hM
  rintro σ' ⟨b18, tkj17, hle28, hM, hsub⟩
  rw [hj29] at hM
  clear hj29
  refine run_sub_code hsub ?_
  refine run_ret_to ?_
  obtain rfl := some_t hM
  refine fin_x hG rfl rfl rfl (v' := .bool b18) (by rfl) ⟨_, ⟨200, 2, true, [[.int .i64 c12, .bool c13]]⟩, rfl, rfl, (show tk ≤ tkj17 by omega), ⟨_, c12, c13, rfl, rfl, rfl⟩⟩
 replace hM := ite_f hb16 hM
 refine run_skip ?_
 refine run_seq ?_
 obtain ⟨j30, hj88, hM⟩ := jn_t hM
 refine run_cutL [.code _] (fun σ' => ∃ (b31 : Bool) (i32 : Int) (i33 : Int) (t34 : ByteArray) (tkj30 : Nat), tk7 ≤ tkj30 ∧ j30 b31 i32 i33 t34 = some r ∧ Sub ⟨Go.Proofs.Try.prog, S0, Go.Proofs.Try.f130.ntmps, [X0], fun _ => False, []⟩ σ' ⟨[(0, .optr (.bor 0) 0 0), (3, .optr (.loc 3) 0 0), (4, .bool false), (5, .optr (.loc 5) 0 0), (6, .bool b31)], [(5, ⟨170, 5, true, [[.int .i64 i32, .int .i64 i33, .str t34, .jnk, .jnk]]⟩), (3, ⟨26, 4, true, [[.int .i64 k4, .int .i64 n4, .imm p4 3 e4 (fcellss fs4), .imm q4 4 f4 (pcellss ks4)]]⟩)], [⟨200, 2, true, [[.int .i64 c12, .bool c13]]⟩], O, tkj30⟩) rfl ?_ ?_
 ·refine run_region ?_
  refine yF hG rfl ?_
  refine yD hG rfl ?_
  by_cases hb35 : k4 = 2
  ·replace hM := ite_t hb35 hM
   refine yK rfl (i_ruleOf_ex0 k4 hb35 _ _) (callK_retN ?_)
   refine yL rfl ?_
   refine run_pu rfl (extract_step rfl rfl rfl) rfl (ltb rfl) ?_
   refine run_pu rfl (extract_step rfl rfl rfl) rfl (ltb rfl) ?_
   refine run_op rfl (alloc_step (d := 5) hG rfl rfl rfl) rfl (ltb rfl) ?_
   refine yS hG rfl ?_
   refine yR rfl ?_
   refine yN ?_
   exact ⟨true, 2, 2, ⟨#[97, 110, 100, 73]⟩, tk7, (show tk7 ≤ tk7 by omega), hM, Sub.trans (Sub.jnk (k := 5) rfl (.keep (.keep (.keep (.jnk (.jnk .nil)))))) (Sub.pk [0, 3, 4, 5, 6] rfl)⟩
  replace hM := ite_f hb35 hM
  by_cases hb36 : k4 = 3
  ·replace hM := ite_t hb36 hM
   refine yK rfl (i_ruleOf_ex1 k4 hb35 hb36 _ _) (callK_retN ?_)
   refine yL rfl ?_
   refine run_pu rfl (extract_step rfl rfl rfl) rfl (ltb rfl) ?_
   refine run_pu rfl (extract_step rfl rfl rfl) rfl (ltb rfl) ?_
   refine run_op rfl (alloc_step (d := 5) hG rfl rfl rfl) rfl (ltb rfl) ?_
   refine yS hG rfl ?_
   refine yR rfl ?_
   refine yN ?_
   exact ⟨true, 2, 1, ⟨#[102, 115, 116]⟩, tk7, (show tk7 ≤ tk7 by omega), hM, Sub.trans (Sub.jnk (k := 5) rfl (.keep (.keep (.keep (.jnk (.jnk .nil)))))) (Sub.pk [0, 3, 4, 5, 6] rfl)⟩
  replace hM := ite_f hb36 hM
  by_cases hb37 : k4 = 4
  ·replace hM := ite_t hb37 hM
   refine yK rfl (i_ruleOf_ex2 k4 hb35 hb36 hb37 _ _) (callK_retN ?_)
   refine yL rfl ?_
   refine run_pu rfl (extract_step rfl rfl rfl) rfl (ltb rfl) ?_
   refine run_pu rfl (extract_step rfl rfl rfl) rfl (ltb rfl) ?_
   refine run_op rfl (alloc_step (d := 5) hG rfl rfl rfl) rfl (ltb rfl) ?_
   refine yS hG rfl ?_
   refine yR rfl ?_
   refine yN ?_
   exact ⟨true, 2, 1, ⟨#[115, 110, 100]⟩, tk7, (show tk7 ≤ tk7 by omega), hM, Sub.trans (Sub.jnk (k := 5) rfl (.keep (.keep (.keep (.jnk (.jnk .nil)))))) (Sub.pk [0, 3, 4, 5, 6] rfl)⟩
  replace hM := ite_f hb37 hM
  by_cases hb38 : k4 = 5
  ·replace hM := ite_t hb38 hM
   refine yK rfl (i_ruleOf_ex3 k4 hb35 hb36 hb37 hb38 _ _) (callK_retN ?_)
   refine yL rfl ?_
   refine run_pu rfl (extract_step rfl rfl rfl) rfl (ltb rfl) ?_
   refine run_pu rfl (extract_step rfl rfl rfl) rfl (ltb rfl) ?_
   refine run_op rfl (alloc_step (d := 5) hG rfl rfl rfl) rfl (ltb rfl) ?_
   refine yS hG rfl ?_
   refine yR rfl ?_
   refine yN ?_
   exact ⟨true, 2, 1, ⟨#[102, 117, 110, 73]⟩, tk7, (show tk7 ≤ tk7 by omega), hM, Sub.trans (Sub.jnk (k := 5) rfl (.keep (.keep (.keep (.jnk (.jnk .nil)))))) (Sub.pk [0, 3, 4, 5, 6] rfl)⟩
  replace hM := ite_f hb38 hM
  by_cases hb39 : k4 = 6
  ·replace hM := ite_t hb39 hM
   refine yK rfl (i_ruleOf_ex4 k4 hb35 hb36 hb37 hb38 hb39 _ _) (callK_retN ?_)
   refine yL rfl ?_
   refine run_pu rfl (extract_step rfl rfl rfl) rfl (ltb rfl) ?_
   refine run_pu rfl (extract_step rfl rfl rfl) rfl (ltb rfl) ?_
   refine run_op rfl (alloc_step (d := 5) hG rfl rfl rfl) rfl (ltb rfl) ?_
   refine yS hG rfl ?_
   refine yR rfl ?_
   refine yN ?_
   exact ⟨true, 2, 2, ⟨#[117, 115, 101]⟩, tk7, (show tk7 ≤ tk7 by omega), hM, Sub.trans (Sub.jnk (k := 5) rfl (.keep (.keep (.keep (.jnk (.jnk .nil)))))) (Sub.pk [0, 3, 4, 5, 6] rfl)⟩
  replace hM := ite_f hb39 hM
  by_cases hb40 : k4 = 7
  ·replace hM := ite_t hb40 hM
   refine yK rfl (i_ruleOf_ex5 k4 hb35 hb36 hb37 hb38 hb39 hb40 _ _) (callK_retN ?_)
   refine yL rfl ?_
   refine run_pu rfl (extract_step rfl rfl rfl) rfl (ltb rfl) ?_
   refine run_pu rfl (extract_step rfl rfl rfl) rfl (ltb rfl) ?_
   refine run_op rfl (alloc_step (d := 5) hG rfl rfl rfl) rfl (ltb rfl) ?_
   refine yS hG rfl ?_
   refine yR rfl ?_
   refine yN ?_
   exact ⟨true, 1, 1, ⟨#[98, 111, 116, 69]⟩, tk7, (show tk7 ≤ tk7 by omega), hM, Sub.trans (Sub.jnk (k := 5) rfl (.keep (.keep (.keep (.jnk (.jnk .nil)))))) (Sub.pk [0, 3, 4, 5, 6] rfl)⟩
  replace hM := ite_f hb40 hM
  refine yK rfl (i_ruleOf_ex6 k4 hb35 hb36 hb37 hb38 hb39 hb40 _ _) (callK_retN ?_)
  refine yL rfl ?_
  refine run_pu rfl (extract_step rfl rfl rfl) rfl (ltb rfl) ?_
  refine run_pu rfl (extract_step rfl rfl rfl) rfl (ltb rfl) ?_
  refine run_op rfl (alloc_step (d := 5) hG rfl rfl rfl) rfl (ltb rfl) ?_
  refine yS hG rfl ?_
  refine yR rfl ?_
  refine yN ?_
  exact ⟨false, 0, 0, ⟨#[]⟩, tk7, (show tk7 ≤ tk7 by omega), hM, Sub.trans (Sub.jnk (k := 5) rfl (.keep (.keep (.keep (.jnk (.jnk .nil)))))) (Sub.pk [0, 3, 4, 5, 6] rfl)⟩
 clear hM
 rintro σ' ⟨b31, i32, i33, t34, tkj30, hle87, hM, hsub⟩
 rw [hj88] at hM
 clear hj88
 refine run_sub_code hsub ?_
 refine run_seq ?_
 refine run_sr ?_
 refine yL rfl ?_
 refine run_pu rfl (aun_step rfl rfl rfl) rfl (ltb rfl) ?_
 refine yL rfl ?_
 refine run_splitb (i := 40) rfl (fun hb41 => ?_) (fun hb41 => ?_)
 ·replace hM := ite_t hb41 hM
  refine yO rfl ?_
  refine yO rfl ?_
  refine yO rfl ?_
  refine yP rfl ?_
  refine yL rfl ?_
  refine yO rfl ?_
  refine yO rfl ?_
  refine yO rfl ?_
  refine yO rfl ?_
  refine yO rfl ?_
  refine yO rfl ?_
  refine yP rfl ?_
  refine yL rfl ?_
  refine yO rfl ?_
  refine yO rfl ?_
  refine yO rfl ?_
  refine yO rfl ?_
  refine yO rfl ?_
  refine yO rfl ?_
  refine yP rfl ?_
  refine yN ?_
  refine run_if rfl rfl (fun _ => ?_) (fun h => by cases h)
  refine run_sr ?_
  refine yR rfl ?_
  refine yN ?_
  refine run_ret_to ?_
  obtain rfl := some_t hM
  refine fin_x hG rfl rfl rfl (v' := .bool false) (by rfl) ⟨_, ⟨200, 2, true, [[.int .i64 c12, .bool c13]]⟩, rfl, rfl, (show tk ≤ tkj30 by omega), ⟨_, c12, c13, rfl, rfl, rfl⟩⟩
 replace hM := ite_f hb41 hM
 refine run_puG (on_of rfl rfl rfl rfl) (fieldAddr_step hG rfl rfl rfl rfl rfl) rfl (ltb rfl) ?_
 refine run_rdG (on_of rfl rfl rfl rfl) (aload_rd hG rfl rfl rfl (by simp [ldok])) rfl (ltb rfl) ?_
 refine run_puG (on_of rfl rfl rfl rfl) (abin_step rfl rfl rfl rfl (fun _ h => by cases h)) rfl (ltb rfl) ?_
 refine yP rfl ?_
 refine yL rfl ?_
 refine run_splitb (i := 45) rfl (fun hb42 => ?_) (fun hb42 => ?_)
 ·replace hM := ite_t hb42 hM
  refine yO rfl ?_
  refine yO rfl ?_
  refine yO rfl ?_
  refine yO rfl ?_
  refine yO rfl ?_
  refine yO rfl ?_
  refine yP rfl ?_
  refine yL rfl ?_
  refine yO rfl ?_
  refine yO rfl ?_
  refine yO rfl ?_
  refine yO rfl ?_
  refine yO rfl ?_
  refine yO rfl ?_
  refine yP rfl ?_
  refine yN ?_
  refine run_if rfl rfl (fun _ => ?_) (fun h => by cases h)
  refine run_sr ?_
  refine yR rfl ?_
  refine yN ?_
  refine run_ret_to ?_
  obtain rfl := some_t hM
  refine fin_x hG rfl rfl rfl (v' := .bool false) (by rfl) ⟨_, ⟨200, 2, true, [[.int .i64 c12, .bool c13]]⟩, rfl, rfl, (show tk ≤ tkj30 by omega), ⟨_, c12, c13, rfl, rfl, rfl⟩⟩
 replace hM := ite_f hb42 hM
 refine run_puG (on_of rfl rfl rfl rfl) (fieldAddr_step hG rfl rfl rfl rfl rfl) rfl (ltb rfl) ?_
 refine run_rdG (on_of rfl rfl rfl rfl) (aload_rd hG rfl rfl rfl (by simp [ldok])) rfl (ltb rfl) ?_
 refine run_puG (on_of rfl rfl rfl rfl) (lenImm_step hG rfl rfl rfl rfl (flen _)) rfl (ltb rfl) ?_
 refine run_puG (on_of rfl rfl rfl rfl) (fieldAddr_step hG rfl rfl rfl rfl rfl) rfl (ltb rfl) ?_
 refine run_rdG (on_of rfl rfl rfl rfl) (aload_rd hG rfl rfl rfl (by simp [ldok])) rfl (ltb rfl) ?_
 refine run_puG (on_of rfl rfl rfl rfl) (abin_step rfl rfl rfl rfl (fun _ h => by cases h)) rfl (ltb rfl) ?_
 refine yP rfl ?_
 refine yL rfl ?_
 refine run_splitb (i := 53) rfl (fun hb43 => ?_) (fun hb43 => ?_)
 ·replace hM := ite_t hb43 hM
  refine yO rfl ?_
  refine yO rfl ?_
  refine yO rfl ?_
  refine yO rfl ?_
  refine yO rfl ?_
  refine yO rfl ?_
  refine yP rfl ?_
  refine yN ?_
  refine run_sub_code (σ' := ⟨[(0, .optr (.bor 0) 0 0), (3, .optr (.loc 3) 0 0), (4, .bool false), (60, .bool true)], [(3, ⟨26, 4, true, [[.int .i64 k4, .int .i64 n4, .imm p4 3 e4 (fcellss fs4), .imm q4 4 f4 (pcellss ks4)]]⟩)], [⟨200, 2, true, [[.int .i64 c12, .bool c13]]⟩], O, tkj30⟩) (Sub.trans (Sub.drop (k := 5) rfl) (Sub.env _ ⟨rfl, rfl, rfl, rfl, trivial⟩)) ?_
  refine run_if rfl rfl (fun _ => ?_) (fun h => by cases h)
  refine run_sr ?_
  refine yR rfl ?_
  refine yN ?_
  refine run_ret_to ?_
  obtain rfl := some_t hM
  refine fin_x hG rfl rfl rfl (v' := .bool false) (by rfl) ⟨_, ⟨200, 2, true, [[.int .i64 c12, .bool c13]]⟩, rfl, rfl, (show tk ≤ tkj30 by omega), ⟨_, c12, c13, rfl, rfl, rfl⟩⟩
 replace hM := ite_f hb43 hM
 refine run_puG (on_of rfl rfl rfl rfl) (fieldAddr_step hG rfl rfl rfl rfl rfl) rfl (ltb rfl) ?_
 refine run_rdG (on_of rfl rfl rfl rfl) (aload_rd hG rfl rfl rfl (by simp [ldok])) rfl (ltb rfl) ?_
 refine run_puG (on_of rfl rfl rfl rfl) (lenImm_step hG rfl rfl rfl rfl (plen _)) rfl (ltb rfl) ?_
 refine run_puG (on_of rfl rfl rfl rfl) (fieldAddr_step hG rfl rfl rfl rfl rfl) rfl (ltb rfl) ?_
 refine run_rdG (on_of rfl rfl rfl rfl) (aload_rd hG rfl rfl rfl (by simp [ldok])) rfl (ltb rfl) ?_
 refine run_puG (on_of rfl rfl rfl rfl) (abin_step rfl rfl rfl rfl (fun _ h => by cases h)) rfl (ltb rfl) ?_
 refine yP rfl ?_
 refine yN ?_
 refine run_sub_code (σ' := ⟨[(0, .optr (.bor 0) 0 0), (3, .optr (.loc 3) 0 0), (4, .bool false), (60, .bool ((((pers ks4)).length : Int) != i33))], [(3, ⟨26, 4, true, [[.int .i64 k4, .int .i64 n4, .imm p4 3 e4 (fcellss fs4), .imm q4 4 f4 (pcellss ks4)]]⟩)], [⟨200, 2, true, [[.int .i64 c12, .bool c13]]⟩], O, tkj30⟩) (Sub.trans (Sub.drop (k := 5) rfl) (Sub.env _ ⟨rfl, rfl, rfl, rfl, trivial⟩)) ?_
 refine run_ifb rfl rfl (fun hb44 => ?_) (fun hb44 => ?_)
 ·replace hM := ite_t hb44 hM
  refine run_sr ?_
  refine yR rfl ?_
  refine yN ?_
  refine run_ret_to ?_
  obtain rfl := some_t hM
  refine fin_x hG rfl rfl rfl (v' := .bool false) (by rfl) ⟨_, ⟨200, 2, true, [[.int .i64 c12, .bool c13]]⟩, rfl, rfl, (show tk ≤ tkj30 by omega), ⟨_, c12, c13, rfl, rfl, rfl⟩⟩
 replace hM := ite_f hb44 hM
 refine run_skip ?_
 refine run_seq ?_
 refine run_sr ?_
 refine yF hG rfl ?_
 refine yD hG rfl ?_
 refine run_pu rfl (lenImm_step hG rfl rfl rfl rfl (flen _)) rfl (ltb rfl) ?_
 refine yL rfl ?_
 refine yN ?_
 refine run_block ?_
 refine run_rounds (fun m σ => ∃ (i45 : Int) (i46 : Int) (b47 : Bool) (tki_looker_proof_L1 : Nat), tkj30 ≤ tki_looker_proof_L1 ∧ i_looker_proof_L1 (i_looker_proof n) n (Pf.mk k4 n4 (fers fs4) (pers ks4)) m i45 i46 b47 = some r ∧ σ = ⟨[(0, .optr (.bor 0) 0 0), (3, .optr (.loc 3) 0 0), (4, .bool false), (62, .imm p4 3 e4 (fcellss fs4)), (63, .int .i64 (((fers fs4)).length : Int)), (64, .int .i64 i45)], [(3, ⟨26, 4, true, [[.int .i64 k4, .int .i64 n4, .imm p4 3 e4 (fcellss fs4), .imm q4 4 f4 (pcellss ks4)]]⟩)], [⟨200, 2, true, [[.int .i64 i46, .bool b47]]⟩], O, tki_looker_proof_L1⟩) n (Sub.pk [0, 3, 4, 62, 63, 64] rfl) ⟨0, c12, c13, tkj30, Nat.le_refl _, hM, rfl⟩ (fun m σ hI => ?_)
 clear hM
 obtain ⟨i45, i46, b47, tki_looker_proof_L1, hle86, hM, rfl⟩ := hI
 obtain _ | m := m
 ·exact absurd hM (by rw [i_looker_proof_L1]; exact fun h => by cases h)
 rw [i_looker_proof_L1] at hM
 refine run_sr ?_
 refine yB rfl ?_
 refine yN ?_
 refine run_seq ?_
 refine run_ifd rfl rfl (fun hb48 => ?_) (fun hb48 => ?_)
 ·replace hM := ite_t hb48 hM
  refine run_skip ?_
  refine run_seq ?_
  refine run_block ?_
  refine run_sr ?_
  obtain ⟨y49, hy50, hM⟩ := bind_t hM
  obtain ⟨k51, n51, q51, f51, ks51, rfl, hc52, hi53⟩ := fidx hy50
  refine run_pu rfl (indexImm_step hG rfl rfl rfl hi53 rfl rfl rfl rfl hc52) rfl (ltb rfl) ?_
  refine yD hG rfl ?_
  refine run_op rfl (alloc_step (d := 8) hG rfl rfl rfl) rfl (ltb rfl) ?_
  refine yS hG rfl ?_
  refine yN ?_
  refine run_sr ?_
  refine yL rfl ?_
  refine yD hG rfl ?_
  obtain ⟨r54, hg55, hM⟩ := bind_t hM
  refine yK rfl (i_looker_form_ok n (.bor 0) i46 b47 k51 n51 q51 f51 ks51 hg55 _ _ rfl) (callK_retV_bor (k := 0) rfl (fun v o' tk' h => by obtain ⟨_, _, _, rfl, rfl, _⟩ := h; rfl) (fun v o' tk56 (hle57 : tki_looker_proof_L1 ≤ tk56) h58 => ?_))
  obtain ⟨ra63, c61, c62, rfl, rfl, rfl⟩ := h58
  refine run_pu rfl (aun_step rfl rfl rfl) rfl (ltb rfl) ?_
  refine yN ?_
  refine run_ifb rfl rfl (fun hb64 => ?_) (fun hb64 => ?_)
  ·replace hM := ite_t hb64 hM
   refine run_sr ?_
   refine yR rfl ?_
   refine yN ?_
   refine run_ret_to ?_
   obtain rfl := some_t hM
   refine fin_x hG rfl rfl rfl (v' := .bool false) (by rfl) ⟨_, ⟨200, 2, true, [[.int .i64 c61, .bool c62]]⟩, rfl, rfl, (show tk ≤ tk56 by omega), ⟨_, c61, c62, rfl, rfl, rfl⟩⟩
  replace hM := ite_f hb64 hM
  refine run_skip ?_
  refine run_blk ?_
  refine run_region ?_
  refine yB rfl ?_
  refine yL rfl ?_
  refine yN ?_
  exact run_loop_end ⟨m, _, Nat.lt_succ_self _, ⟨(IntKind.i64.wrap (i45 + 1)), c61, c62, tk56, (show tkj30 ≤ tk56 by omega), hM, rfl⟩, Sub.trans (Sub.drop (k := 8) rfl) (Sub.pk [0, 3, 4, 62, 63, 64] rfl)⟩
 replace hM := ite_f hb48 hM
 refine run_exit_to rfl ?_
 refine run_seq ?_
 refine run_sr ?_
 refine yF hG rfl ?_
 refine yD hG rfl ?_
 refine run_pu rfl (lenImm_step hG rfl rfl rfl rfl (plen _)) rfl (ltb rfl) ?_
 refine yL rfl ?_
 refine yN ?_
 refine run_block ?_
 refine run_rounds (fun m σ => ∃ (i65 : Int) (i66 : Int) (b67 : Bool) (tki_looker_proof_L2 : Nat), tki_looker_proof_L1 ≤ tki_looker_proof_L2 ∧ i_looker_proof_L2 (i_looker_proof n) (Pf.mk k4 n4 (fers fs4) (pers ks4)) m i65 i66 b67 = some r ∧ σ = ⟨[(0, .optr (.bor 0) 0 0), (4, .bool false), (74, .imm q4 4 f4 (pcellss ks4)), (75, .int .i64 (((pers ks4)).length : Int)), (76, .int .i64 i65)], [(3, ⟨26, 4, true, [[.int .i64 k4, .int .i64 n4, .imm p4 3 e4 (fcellss fs4), .imm q4 4 f4 (pcellss ks4)]]⟩)], [⟨200, 2, true, [[.int .i64 i66, .bool b67]]⟩], O, tki_looker_proof_L2⟩) n (Sub.pk [0, 4, 74, 75, 76] rfl) ⟨0, i46, b47, tki_looker_proof_L1, Nat.le_refl _, hM, rfl⟩ (fun m σ hI => ?_)
 clear hM
 obtain ⟨i65, i66, b67, tki_looker_proof_L2, hle85, hM, rfl⟩ := hI
 obtain _ | m := m
 ·exact absurd hM (by rw [i_looker_proof_L2]; exact fun h => by cases h)
 rw [i_looker_proof_L2] at hM
 refine run_sr ?_
 refine yB rfl ?_
 refine yN ?_
 refine run_seq ?_
 refine run_ifd rfl rfl (fun hb68 => ?_) (fun hb68 => ?_)
 ·replace hM := ite_t hb68 hM
  refine run_skip ?_
  refine run_seq ?_
  refine run_block ?_
  refine run_sr ?_
  obtain ⟨y69, hy70, hM⟩ := bind_t hM
  obtain ⟨k71, n71, p71, e71, fs71, q71, f71, ks71, rfl, hc72, hi73⟩ := pidx hy70
  refine run_pu rfl (indexImm_step hG rfl rfl rfl hi73 rfl rfl rfl rfl hc72) rfl (ltb rfl) ?_
  refine yD hG rfl ?_
  refine run_op rfl (alloc_step (d := 10) hG rfl rfl rfl) rfl (ltb rfl) ?_
  refine yS hG rfl ?_
  refine yN ?_
  refine run_sr ?_
  refine yL rfl ?_
  refine yD hG rfl ?_
  obtain ⟨r74, hg75, hM⟩ := bind_t hM
  refine yK rfl (ih_i_looker_proof (.bor 0) i66 b67 k71 n71 p71 e71 fs71 q71 f71 ks71 hg75 _ _ rfl) (callK_retV_bor (k := 0) rfl (fun v o' tk' h => by obtain ⟨_, _, _, rfl, rfl, _⟩ := h; rfl) (fun v o' tk76 (hle77 : tki_looker_proof_L2 ≤ tk76) h78 => ?_))
  obtain ⟨ra83, c81, c82, rfl, rfl, rfl⟩ := h78
  refine run_pu rfl (aun_step rfl rfl rfl) rfl (ltb rfl) ?_
  refine yN ?_
  refine run_ifb rfl rfl (fun hb84 => ?_) (fun hb84 => ?_)
  ·replace hM := ite_t hb84 hM
   refine run_sr ?_
   refine yR rfl ?_
   refine yN ?_
   refine run_ret_to ?_
   obtain rfl := some_t hM
   refine fin_x hG rfl rfl rfl (v' := .bool false) (by rfl) ⟨_, ⟨200, 2, true, [[.int .i64 c81, .bool c82]]⟩, rfl, rfl, (show tk ≤ tk76 by omega), ⟨_, c81, c82, rfl, rfl, rfl⟩⟩
  replace hM := ite_f hb84 hM
  refine run_skip ?_
  refine run_blk ?_
  refine run_region ?_
  refine yB rfl ?_
  refine yL rfl ?_
  refine yN ?_
  exact run_loop_end ⟨m, _, Nat.lt_succ_self _, ⟨(IntKind.i64.wrap (i65 + 1)), c81, c82, tk76, (show tki_looker_proof_L1 ≤ tk76 by omega), hM, rfl⟩, Sub.trans (Sub.drop (k := 10) rfl) (Sub.pk [0, 4, 74, 75, 76] rfl)⟩
 replace hM := ite_f hb68 hM
 refine run_exit_to rfl ?_
 refine run_sr ?_
 refine yR rfl ?_
 refine yN ?_
 refine run_ret_to ?_
 obtain rfl := some_t hM
 refine fin_x hG rfl rfl rfl (v' := .bool true) (by rfl) ⟨_, ⟨200, 2, true, [[.int .i64 i66, .bool b67]]⟩, rfl, rfl, (show tk ≤ tki_looker_proof_L2 by omega), ⟨_, i66, b67, rfl, rfl, rfl⟩⟩

theorem i_looker_proof_all : ∀ (n : Nat), (i_looker_proof_P n)
 | 0 => by intro X0 i2 b3 k4 n4 p4 e4 fs4 q4 f4 ks4 r hM; rw [i_looker_proof] at hM; cases hM
 | n + 1 => have ih := i_looker_proof_all n; i_looker_proof_st n (ih)

theorem i_looker_proof_ok (n : Nat) : i_looker_proof_P n := i_looker_proof_all n

def i_ProofOK (n : Nat) (x1 : Pf) : Option Bool :=
 (i_looker_proof n (150, false) x1).bind fun r2 =>
 some r2.1

set_option maxRecDepth 100000 in
theorem i_ProofOK_ok (n : Nat) : ∀ (k1 : Int) (n1 : Int) (p1 : Nat) (e1 : Bool) (fs1 : List LF) (q1 : Nat) (f1 : Bool) (ks1 : List LP) {r : Bool}, i_ProofOK n (Pf.mk k1 n1 (fers fs1) (pers ks1)) = some r → ∀ (O : Heap) (tk : Nat), ACalls Go.Proofs.Try.prog 57 [.agg [.int .i64 k1, .int .i64 n1, .imm p1 3 e1 (fcellss fs1), .imm q1 4 f1 (pcellss ks1)]] O tk (RetX O tk (fun v tk' => v = .bool r)) := by
 intro k1 n1 p1 e1 fs1 q1 f1 ks1 r hM O tk
 unfold i_ProofOK at hM
 refine acalls_of_run Go.Proofs.Try.func57 rfl rfl [] [] (Bor.nil _) [(0, .agg [.int .i64 k1, .int .i64 n1, .imm p1 3 e1 (fcellss fs1), .imm q1 4 f1 (pcellss ks1)])] (.cons (.agg _) (.nil _)) (leb rfl) (fun _ h => by cases h) (fun S0 hO htk hfz => ?_)
 refine run_sr ?_
 refine run_op rfl (box_step (d := 1) rfl rfl rfl rfl rfl) rfl (ltb rfl) ?_
 refine yR rfl ?_
 refine yN ?_
 refine run_seq ?_
 refine run_draw [] (n := 4) mixed rfl yE ?_
 refine yTL hG 1 (by kernel_rfl) rfl ?_
 refine AAny.callBox (i := 0) (ob := ⟨200, 2, true, [[.int .i64 150, .bool false]]⟩) (by kernel_rfl) rfl rfl rfl rfl (ltb rfl) rfl rfl rfl rfl (i_fresh_box _ _) rfl (fun out O' tk' h => h) ?_
 obtain ⟨r2, hg3, hM⟩ := bind_t hM
 refine AAny.one (i := 2) (by kernel_rfl) (AOp.call rfl rfl rfl rfl (ltb rfl) rfl rfl rfl yE (by intro x hx; simp only [tch, tch0, List.nil_append, List.append_nil, List.mem_cons, List.not_mem_nil, or_false] at hx; subst hx; simp) (i_looker_proof_ok n (.loc 3) 150 false k1 n1 p1 e1 fs1 q1 f1 ks1 hg3 _ _ rfl) (callK_retV_loc (k := 3) rfl (fun v o' tk4 (hle5 : tk ≤ tk4) h6 => ?_)))
 obtain ⟨ra11, c9, c10, rfl, rfl, rfl⟩ := h6
 refine yTW 3 (by kernel_rfl) rfl ?_
 refine AAny.done (by kernel_rfl) ?_
 refine run_ret_to ?_
 obtain rfl := some_t hM
 refine fin_x hG rfl rfl rfl (v' := .bool ra11) (by rfl) ⟨rfl, (show tk ≤ tk4 by omega), _, rfl, rfl⟩

def s_l08Count_L2 (rec_s_l08Count : Pf → Int → Option Int) (x1 : Pf) : Nat → Int → Int → Option Int
 | 0, _, _ => none
 | m + 1, i19, i20 =>
  if i20 < ((x1.kids).length : Int) then
   if i19 ≥ 0 then
    (idx x1.kids i20).bind fun y23 =>
    (rec_s_l08Count y23 i19).bind fun r28 =>
    s_l08Count_L2 rec_s_l08Count x1 m r28 (IntKind.i64.wrap (i20 + 1))
   else
    some i19
  else
   some i19

def s_l08Count_L1 (rec_s_l08Count : Pf → Int → Option Int) (n : Nat) (x1 : Pf) : Nat → Int → Int → Option Int
 | 0, _, _ => none
 | m + 1, i3, i4 =>
  if i4 < ((x1.forms).length : Int) then
   if i3 ≥ 0 then
    (idx x1.forms i4).bind fun y7 =>
    (s_l08FormCount n y7 i3).bind fun r12 =>
    s_l08Count_L1 rec_s_l08Count n x1 m r12 (IntKind.i64.wrap (i4 + 1))
   else
    s_l08Count_L2 rec_s_l08Count x1 n i3 0
  else
   s_l08Count_L2 rec_s_l08Count x1 n i3 0

def s_l08Count : Nat → Pf → Int → Option Int
 | 0, _, _ => none
 | n + 1, x1, i2 =>
  s_l08Count_L1 (s_l08Count n) n x1 n (IntKind.i64.wrap (i2 - 1)) 0

def s_l08Count_P (n : Nat) : Prop := ∀ (k1 : Int) (n1 : Int) (p1 : Nat) (e1 : Bool) (fs1 : List LF) (q1 : Nat) (f1 : Bool) (ks1 : List LP) (i2 : Int) {r : Int}, s_l08Count n (Pf.mk k1 n1 (fers fs1) (pers ks1)) i2 = some r → ∀ (O : Heap) (tk : Nat), ACalls Go.Proofs.Try.prog 53 [.agg [.int .i64 k1, .int .i64 n1, .imm p1 3 e1 (fcellss fs1), .imm q1 4 f1 (pcellss ks1)], .int .i64 i2] O tk (RetX O tk (fun v tk' => v = .int .i64 r))

set_option maxHeartbeats 20000000 in
set_option maxRecDepth 100000 in
theorem s_l08Count_st (n : Nat) (ih_s_l08Count : s_l08Count_P n) : s_l08Count_P (n + 1) := by
 intro k1 n1 p1 e1 fs1 q1 f1 ks1 i2 r hM O tk
 rw [s_l08Count] at hM
 refine acalls_of_run Go.Proofs.Try.func53 rfl rfl [] [] (Bor.nil _) [(0, .agg [.int .i64 k1, .int .i64 n1, .imm p1 3 e1 (fcellss fs1), .imm q1 4 f1 (pcellss ks1)]), (1, .int .i64 i2)] (.cons (.agg _) (.cons (entS rfl) (.nil _))) (leb rfl) (fun _ h => by cases h) (fun S0 hO htk hfz => ?_)
 refine run_sr ?_
 refine run_op rfl (box_step (d := 2) rfl rfl rfl rfl rfl) rfl (ltb rfl) ?_
 refine yR rfl ?_
 refine yN ?_
 refine run_sr ?_
 refine yL rfl ?_
 refine yB rfl ?_
 refine yR rfl ?_
 refine yN ?_
 refine run_seq ?_
 refine run_sr ?_
 refine yR rfl ?_
 refine yN ?_
 refine run_block ?_
 refine run_rounds (fun m σ => ∃ (i3 : Int) (i4 : Int) (tks_l08Count_L1 : Nat), tk ≤ tks_l08Count_L1 ∧ s_l08Count_L1 (s_l08Count n) n (Pf.mk k1 n1 (fers fs1) (pers ks1)) m i3 i4 = some r ∧ σ = ⟨[(1, .int .i64 i3), (2, .optr (.loc 2) 0 0), (4, .int .i64 0), (5, .int .i64 i4)], [(2, ⟨26, 4, true, [[.int .i64 k1, .int .i64 n1, .imm p1 3 e1 (fcellss fs1), .imm q1 4 f1 (pcellss ks1)]]⟩)], [], O, tks_l08Count_L1⟩) n (Sub.pk [1, 2, 4, 5] rfl) ⟨(IntKind.i64.wrap (i2 - 1)), 0, tk, Nat.le_refl _, hM, rfl⟩ (fun m σ hI => ?_)
 clear hM
 obtain ⟨i3, i4, tks_l08Count_L1, hle53, hM, rfl⟩ := hI
 obtain _ | m := m
 ·exact absurd hM (by rw [s_l08Count_L1]; exact fun h => by cases h)
 rw [s_l08Count_L1] at hM
 refine run_seq ?_
 refine run_sr ?_
 refine yL rfl ?_
 refine yF hG rfl ?_
 refine yD hG rfl ?_
 refine run_pu rfl (lenImm_step hG rfl rfl rfl rfl (flen _)) rfl (ltb rfl) ?_
 refine yB rfl ?_
 refine yL rfl ?_
 refine run_splitd (i := 14) rfl (fun hb5 => ?_) (fun hb5 => ?_)
 ·replace hM := ite_t hb5 hM
  refine run_puG (on_of rfl rfl rfl rfl) (move_step (.inl rfl) rfl) rfl (ltb rfl) ?_
  refine run_puG (on_of rfl rfl rfl rfl) (abin_step rfl rfl rfl rfl (fun _ h => by cases h)) rfl (ltb rfl) ?_
  refine yP rfl ?_
  refine yN ?_
  refine run_ifd rfl rfl (fun hb6 => ?_) (fun hb6 => ?_)
  ·replace hM := ite_t hb6 hM
   refine run_skip ?_
   refine run_seq ?_
   refine run_block ?_
   refine run_region ?_
   refine yF hG rfl ?_
   refine yD hG rfl ?_
   refine yL rfl ?_
   obtain ⟨y7, hy8, hM⟩ := bind_t hM
   obtain ⟨k9, n9, q9, f9, ks9, rfl, hc10, hi11⟩ := fidx hy8
   refine run_pu rfl (indexImm_step hG rfl rfl rfl hi11 rfl rfl rfl rfl hc10) rfl (ltb rfl) ?_
   refine yD hG rfl ?_
   refine yL rfl ?_
   obtain ⟨r12, hg13, hM⟩ := bind_t hM
   refine yK rfl (s_l08FormCount_ok n k9 n9 q9 f9 ks9 i3 hg13 _ _) (callK_retX (fun v tk14 (hle15 : tks_l08Count_L1 ≤ tk14) h16 => ?_))
   subst h16
   refine yR rfl ?_
   refine yN ?_
   refine run_blk ?_
   refine run_sub_code (σ' := ⟨[(1, .int .i64 r12), (2, .optr (.loc 2) 0 0), (4, .int .i64 0), (5, .int .i64 i4)], [(2, ⟨26, 4, true, [[.int .i64 k1, .int .i64 n1, .imm p1 3 e1 (fcellss fs1), .imm q1 4 f1 (pcellss ks1)]]⟩)], [], O, tk14⟩) (Sub.env _ ⟨rfl, rfl, rfl, rfl, trivial⟩) ?_
   refine run_region ?_
   refine yL rfl ?_
   refine yB rfl ?_
   refine yR rfl ?_
   refine yN ?_
   exact run_loop_end ⟨m, _, Nat.lt_succ_self _, ⟨r12, (IntKind.i64.wrap (i4 + 1)), tk14, (show tk ≤ tk14 by omega), hM, rfl⟩, Sub.pk [1, 2, 4, 5] rfl⟩
  replace hM := ite_f hb6 hM
  refine run_exit_to rfl ?_
  refine run_seq ?_
  refine run_sr ?_
  refine yR rfl ?_
  refine yN ?_
  refine run_block ?_
  refine run_rounds (fun m σ => ∃ (i19 : Int) (i20 : Int) (tks_l08Count_L2 : Nat), tks_l08Count_L1 ≤ tks_l08Count_L2 ∧ s_l08Count_L2 (s_l08Count n) (Pf.mk k1 n1 (fers fs1) (pers ks1)) m i19 i20 = some r ∧ σ = ⟨[(1, .int .i64 i19), (2, .optr (.loc 2) 0 0), (4, .int .i64 0), (6, .int .i64 i20)], [(2, ⟨26, 4, true, [[.int .i64 k1, .int .i64 n1, .imm p1 3 e1 (fcellss fs1), .imm q1 4 f1 (pcellss ks1)]]⟩)], [], O, tks_l08Count_L2⟩) n (Sub.pk [1, 2, 4, 6] rfl) ⟨i3, 0, tks_l08Count_L1, Nat.le_refl _, hM, rfl⟩ (fun m σ hI => ?_)
  clear hM
  obtain ⟨i19, i20, tks_l08Count_L2, hle35, hM, rfl⟩ := hI
  obtain _ | m := m
  ·exact absurd hM (by rw [s_l08Count_L2]; exact fun h => by cases h)
  rw [s_l08Count_L2] at hM
  refine run_seq ?_
  refine run_sr ?_
  refine yL rfl ?_
  refine yF hG rfl ?_
  refine yD hG rfl ?_
  refine run_pu rfl (lenImm_step hG rfl rfl rfl rfl (plen _)) rfl (ltb rfl) ?_
  refine yB rfl ?_
  refine yL rfl ?_
  refine run_splitd (i := 32) rfl (fun hb21 => ?_) (fun hb21 => ?_)
  ·replace hM := ite_t hb21 hM
   refine run_puG (on_of rfl rfl rfl rfl) (move_step (.inl rfl) rfl) rfl (ltb rfl) ?_
   refine run_puG (on_of rfl rfl rfl rfl) (abin_step rfl rfl rfl rfl (fun _ h => by cases h)) rfl (ltb rfl) ?_
   refine yP rfl ?_
   refine yN ?_
   refine run_ifd rfl rfl (fun hb22 => ?_) (fun hb22 => ?_)
   ·replace hM := ite_t hb22 hM
    refine run_skip ?_
    refine run_seq ?_
    refine run_block ?_
    refine run_region ?_
    refine yF hG rfl ?_
    refine yD hG rfl ?_
    refine yL rfl ?_
    obtain ⟨y23, hy24, hM⟩ := bind_t hM
    obtain ⟨k25, n25, p25, e25, fs25, q25, f25, ks25, rfl, hc26, hi27⟩ := pidx hy24
    refine run_pu rfl (indexImm_step hG rfl rfl rfl hi27 rfl rfl rfl rfl hc26) rfl (ltb rfl) ?_
    refine yD hG rfl ?_
    refine yL rfl ?_
    obtain ⟨r28, hg29, hM⟩ := bind_t hM
    refine yK rfl (ih_s_l08Count k25 n25 p25 e25 fs25 q25 f25 ks25 i19 hg29 _ _) (callK_retX (fun v tk30 (hle31 : tks_l08Count_L2 ≤ tk30) h32 => ?_))
    subst h32
    refine yR rfl ?_
    refine yN ?_
    refine run_blk ?_
    refine run_sub_code (σ' := ⟨[(1, .int .i64 r28), (2, .optr (.loc 2) 0 0), (4, .int .i64 0), (6, .int .i64 i20)], [(2, ⟨26, 4, true, [[.int .i64 k1, .int .i64 n1, .imm p1 3 e1 (fcellss fs1), .imm q1 4 f1 (pcellss ks1)]]⟩)], [], O, tk30⟩) (Sub.env _ ⟨rfl, rfl, rfl, rfl, trivial⟩) ?_
    refine run_region ?_
    refine yL rfl ?_
    refine yB rfl ?_
    refine yR rfl ?_
    refine yN ?_
    exact run_loop_end ⟨m, _, Nat.lt_succ_self _, ⟨r28, (IntKind.i64.wrap (i20 + 1)), tk30, (show tks_l08Count_L1 ≤ tk30 by omega), hM, rfl⟩, Sub.pk [1, 2, 4, 6] rfl⟩
   replace hM := ite_f hb22 hM
   refine run_exit_to rfl ?_
   refine run_sr ?_
   refine yL rfl ?_
   refine yR rfl ?_
   refine yN ?_
   refine run_ret_to ?_
   obtain rfl := some_t hM
   refine fin_x hG rfl rfl rfl (v' := .int .i64 i19) (by rfl) ⟨rfl, (show tk ≤ tks_l08Count_L2 by omega), _, rfl, rfl⟩
  replace hM := ite_f hb21 hM
  refine yO rfl ?_
  refine yO rfl ?_
  refine yP rfl ?_
  refine yN ?_
  refine run_if rfl rfl (fun h => by cases h) (fun _ => ?_)
  refine run_exit_to rfl ?_
  refine run_sr ?_
  refine yL rfl ?_
  refine yR rfl ?_
  refine yN ?_
  refine run_ret_to ?_
  obtain rfl := some_t hM
  refine fin_x hG rfl rfl rfl (v' := .int .i64 i19) (by rfl) ⟨rfl, (show tk ≤ tks_l08Count_L2 by omega), _, rfl, rfl⟩
 replace hM := ite_f hb5 hM
 refine yO rfl ?_
 refine yO rfl ?_
 refine yP rfl ?_
 refine yN ?_
 refine run_if rfl rfl (fun h => by cases h) (fun _ => ?_)
 refine run_exit_to rfl ?_
 refine run_seq ?_
 refine run_sr ?_
 refine yR rfl ?_
 refine yN ?_
 refine run_block ?_
 refine run_rounds (fun m σ => ∃ (i36 : Int) (i37 : Int) (tks_l08Count_L3 : Nat), tks_l08Count_L1 ≤ tks_l08Count_L3 ∧ s_l08Count_L2 (s_l08Count n) (Pf.mk k1 n1 (fers fs1) (pers ks1)) m i36 i37 = some r ∧ σ = ⟨[(1, .int .i64 i36), (2, .optr (.loc 2) 0 0), (4, .int .i64 0), (6, .int .i64 i37)], [(2, ⟨26, 4, true, [[.int .i64 k1, .int .i64 n1, .imm p1 3 e1 (fcellss fs1), .imm q1 4 f1 (pcellss ks1)]]⟩)], [], O, tks_l08Count_L3⟩) n (Sub.pk [1, 2, 4, 6] rfl) ⟨i3, 0, tks_l08Count_L1, Nat.le_refl _, hM, rfl⟩ (fun m σ hI => ?_)
 clear hM
 obtain ⟨i36, i37, tks_l08Count_L3, hle52, hM, rfl⟩ := hI
 obtain _ | m := m
 ·exact absurd hM (by rw [s_l08Count_L2]; exact fun h => by cases h)
 rw [s_l08Count_L2] at hM
 refine run_seq ?_
 refine run_sr ?_
 refine yL rfl ?_
 refine yF hG rfl ?_
 refine yD hG rfl ?_
 refine run_pu rfl (lenImm_step hG rfl rfl rfl rfl (plen _)) rfl (ltb rfl) ?_
 refine yB rfl ?_
 refine yL rfl ?_
 refine run_splitd (i := 32) rfl (fun hb38 => ?_) (fun hb38 => ?_)
 ·replace hM := ite_t hb38 hM
  refine run_puG (on_of rfl rfl rfl rfl) (move_step (.inl rfl) rfl) rfl (ltb rfl) ?_
  refine run_puG (on_of rfl rfl rfl rfl) (abin_step rfl rfl rfl rfl (fun _ h => by cases h)) rfl (ltb rfl) ?_
  refine yP rfl ?_
  refine yN ?_
  refine run_ifd rfl rfl (fun hb39 => ?_) (fun hb39 => ?_)
  ·replace hM := ite_t hb39 hM
   refine run_skip ?_
   refine run_seq ?_
   refine run_block ?_
   refine run_region ?_
   refine yF hG rfl ?_
   refine yD hG rfl ?_
   refine yL rfl ?_
   obtain ⟨y40, hy41, hM⟩ := bind_t hM
   obtain ⟨k42, n42, p42, e42, fs42, q42, f42, ks42, rfl, hc43, hi44⟩ := pidx hy41
   refine run_pu rfl (indexImm_step hG rfl rfl rfl hi44 rfl rfl rfl rfl hc43) rfl (ltb rfl) ?_
   refine yD hG rfl ?_
   refine yL rfl ?_
   obtain ⟨r45, hg46, hM⟩ := bind_t hM
   refine yK rfl (ih_s_l08Count k42 n42 p42 e42 fs42 q42 f42 ks42 i36 hg46 _ _) (callK_retX (fun v tk47 (hle48 : tks_l08Count_L3 ≤ tk47) h49 => ?_))
   subst h49
   refine yR rfl ?_
   refine yN ?_
   refine run_blk ?_
   refine run_sub_code (σ' := ⟨[(1, .int .i64 r45), (2, .optr (.loc 2) 0 0), (4, .int .i64 0), (6, .int .i64 i37)], [(2, ⟨26, 4, true, [[.int .i64 k1, .int .i64 n1, .imm p1 3 e1 (fcellss fs1), .imm q1 4 f1 (pcellss ks1)]]⟩)], [], O, tk47⟩) (Sub.env _ ⟨rfl, rfl, rfl, rfl, trivial⟩) ?_
   refine run_region ?_
   refine yL rfl ?_
   refine yB rfl ?_
   refine yR rfl ?_
   refine yN ?_
   exact run_loop_end ⟨m, _, Nat.lt_succ_self _, ⟨r45, (IntKind.i64.wrap (i37 + 1)), tk47, (show tks_l08Count_L1 ≤ tk47 by omega), hM, rfl⟩, Sub.pk [1, 2, 4, 6] rfl⟩
  replace hM := ite_f hb39 hM
  refine run_exit_to rfl ?_
  refine run_sr ?_
  refine yL rfl ?_
  refine yR rfl ?_
  refine yN ?_
  refine run_ret_to ?_
  obtain rfl := some_t hM
  refine fin_x hG rfl rfl rfl (v' := .int .i64 i36) (by rfl) ⟨rfl, (show tk ≤ tks_l08Count_L3 by omega), _, rfl, rfl⟩
 replace hM := ite_f hb38 hM
 refine yO rfl ?_
 refine yO rfl ?_
 refine yP rfl ?_
 refine yN ?_
 refine run_if rfl rfl (fun h => by cases h) (fun _ => ?_)
 refine run_exit_to rfl ?_
 refine run_sr ?_
 refine yL rfl ?_
 refine yR rfl ?_
 refine yN ?_
 refine run_ret_to ?_
 obtain rfl := some_t hM
 refine fin_x hG rfl rfl rfl (v' := .int .i64 i36) (by rfl) ⟨rfl, (show tk ≤ tks_l08Count_L3 by omega), _, rfl, rfl⟩

theorem s_l08Count_all : ∀ (n : Nat), (s_l08Count_P n)
 | 0 => by intro k1 n1 p1 e1 fs1 q1 f1 ks1 i2 r hM; rw [s_l08Count] at hM; cases hM
 | n + 1 => have ih := s_l08Count_all n; s_l08Count_st n (ih)

theorem s_l08Count_ok (n : Nat) : s_l08Count_P n := s_l08Count_all n

def s_l08Shape (i1 : Int) : Option (Int × Int) :=
 if i1 = 1 then
  some (0, 0)
 else
  jn (fun (b4 : Bool) =>
   if b4 = true then
    some (2, 2)
   else
    if i1 = 3 then
     if i1 = 3 then
      some (2, 1)
     else
      if i1 = 7 then
       some (1, 1)
      else
       some ((-1), (-1))
    else
     if i1 = 4 then
      if i1 = 4 then
       some (2, 1)
      else
       if i1 = 7 then
        some (1, 1)
       else
        some ((-1), (-1))
     else
      if i1 = 5 then
       some (2, 1)
      else
       if i1 = 7 then
        some (1, 1)
       else
        some ((-1), (-1))) fun j3 =>
  if i1 = 2 then
   j3 (i1 == 2)
  else
   j3 (i1 == 6)

set_option maxRecDepth 100000 in
theorem s_l08Shape_ok : ∀ (i1 : Int) {r : (Int × Int)}, s_l08Shape i1 = some r → ∀ (O : Heap) (tk : Nat), ACalls Go.Proofs.Try.prog 124 [.int .i64 i1] O tk (RetX O tk (fun v tk' => ∃ r0' r1' v0' v1', r = (r0', r1') ∧ v = .tup [v0', v1'] ∧ v0' = .int .i64 r0' ∧ v1' = .int .i64 r1')) := by
 intro i1 r hM O tk
 unfold s_l08Shape at hM
 refine acalls_of_run Go.Proofs.Try.func124 rfl rfl [] [] (Bor.nil _) [(0, .int .i64 i1)] (.cons (entS rfl) (.nil _)) (leb rfl) (fun _ h => by cases h) (fun S0 hO htk hfz => ?_)
 refine run_sr ?_
 refine yR rfl ?_
 refine yR rfl ?_
 refine yN ?_
 refine run_seq ?_
 refine run_sr ?_
 refine yL rfl ?_
 refine yN ?_
 refine run_block ?_
 refine run_sr ?_
 refine yB rfl ?_
 refine yR rfl ?_
 refine yN ?_
 refine run_ifd rfl rfl (fun hb2 => ?_) (fun hb2 => ?_)
 ·replace hM := ite_t hb2 hM
  refine run_sr ?_
  refine yR rfl ?_
  refine yR rfl ?_
  refine yN ?_
  refine run_ret_to ?_
  obtain rfl := some_t hM
  refine fin_x hG rfl rfl rfl (v' := .tup [.int .i64 0, .int .i64 0]) (by rfl) ⟨rfl, (show tk ≤ tk by omega), _, rfl, ⟨_, _, _, _, rfl, rfl, rfl, rfl⟩⟩
 replace hM := ite_f hb2 hM
 refine run_seq ?_
 refine run_sr ?_
 refine yB rfl ?_
 refine yR rfl ?_
 refine yN ?_
 obtain ⟨j3, hj16, hM⟩ := jn_t hM
 refine run_cutL [.code _] (fun σ' => ∃ (b4 : Bool) (tkj3 : Nat), tk ≤ tkj3 ∧ j3 b4 = some r ∧ Sub ⟨Go.Proofs.Try.prog, S0, Go.Proofs.Try.f124.ntmps, [], fun _ => False, []⟩ σ' ⟨[(2, .int .i64 0), (3, .int .i64 0), (4, .int .i64 i1), (7, .bool b4)], [], [], O, tkj3⟩) rfl ?_ ?_
 ·refine run_ifd rfl rfl (fun hb5 => ?_) (fun hb5 => ?_)
  ·replace hM := ite_t hb5 hM
   refine run_skip ?_
   exact ⟨(i1 == 2), tk, (show tk ≤ tk by omega), hM, Sub.pk [2, 3, 4, 7] rfl⟩
  replace hM := ite_f hb5 hM
  refine run_region ?_
  refine yB rfl ?_
  refine yR rfl ?_
  refine yN ?_
  exact ⟨(i1 == 6), tk, (show tk ≤ tk by omega), hM, Sub.pk [2, 3, 4, 7] rfl⟩
 clear hM
 rintro σ' ⟨b4, tkj3, hle15, hM, hsub⟩
 rw [hj16] at hM
 clear hj16
 refine run_sub_code hsub ?_
 refine run_ifb rfl rfl (fun hb6 => ?_) (fun hb6 => ?_)
 ·replace hM := ite_t hb6 hM
  refine run_sr ?_
  refine yR rfl ?_
  refine yR rfl ?_
  refine yN ?_
  refine run_ret_to ?_
  obtain rfl := some_t hM
  refine fin_x hG rfl rfl rfl (v' := .tup [.int .i64 2, .int .i64 2]) (by rfl) ⟨rfl, (show tk ≤ tkj3 by omega), _, rfl, ⟨_, _, _, _, rfl, rfl, rfl, rfl⟩⟩
 replace hM := ite_f hb6 hM
 refine run_seq ?_
 refine run_sr ?_
 refine yB rfl ?_
 refine yR rfl ?_
 refine yN ?_
 refine run_ifd rfl rfl (fun hb7 => ?_) (fun hb7 => ?_)
 ·replace hM := ite_t hb7 hM
  refine run_skip ?_
  refine run_ifd rfl rfl (fun hb8 => ?_) (fun hb8 => ?_)
  ·replace hM := ite_t hb8 hM
   refine run_sr ?_
   refine yR rfl ?_
   refine yR rfl ?_
   refine yN ?_
   refine run_ret_to ?_
   obtain rfl := some_t hM
   refine fin_x hG rfl rfl rfl (v' := .tup [.int .i64 2, .int .i64 1]) (by rfl) ⟨rfl, (show tk ≤ tkj3 by omega), _, rfl, ⟨_, _, _, _, rfl, rfl, rfl, rfl⟩⟩
  replace hM := ite_f hb8 hM
  refine run_sr ?_
  refine yB rfl ?_
  refine yR rfl ?_
  refine yN ?_
  refine run_ifd rfl rfl (fun hb9 => ?_) (fun hb9 => ?_)
  ·replace hM := ite_t hb9 hM
   refine run_sr ?_
   refine yR rfl ?_
   refine yR rfl ?_
   refine yN ?_
   refine run_ret_to ?_
   obtain rfl := some_t hM
   refine fin_x hG rfl rfl rfl (v' := .tup [.int .i64 1, .int .i64 1]) (by rfl) ⟨rfl, (show tk ≤ tkj3 by omega), _, rfl, ⟨_, _, _, _, rfl, rfl, rfl, rfl⟩⟩
  replace hM := ite_f hb9 hM
  refine run_skip ?_
  refine run_blk ?_
  refine run_sr ?_
  refine yR rfl ?_
  refine yR rfl ?_
  refine yN ?_
  refine run_ret_to ?_
  obtain rfl := some_t hM
  refine fin_x hG rfl rfl rfl (v' := .tup [.int .i64 (-1), .int .i64 (-1)]) (by rfl) ⟨rfl, (show tk ≤ tkj3 by omega), _, rfl, ⟨_, _, _, _, rfl, rfl, rfl, rfl⟩⟩
 replace hM := ite_f hb7 hM
 refine run_sr ?_
 refine yB rfl ?_
 refine yR rfl ?_
 refine yN ?_
 refine run_ifd rfl rfl (fun hb10 => ?_) (fun hb10 => ?_)
 ·replace hM := ite_t hb10 hM
  refine run_skip ?_
  refine run_ifd rfl rfl (fun hb11 => ?_) (fun hb11 => ?_)
  ·replace hM := ite_t hb11 hM
   refine run_sr ?_
   refine yR rfl ?_
   refine yR rfl ?_
   refine yN ?_
   refine run_ret_to ?_
   obtain rfl := some_t hM
   refine fin_x hG rfl rfl rfl (v' := .tup [.int .i64 2, .int .i64 1]) (by rfl) ⟨rfl, (show tk ≤ tkj3 by omega), _, rfl, ⟨_, _, _, _, rfl, rfl, rfl, rfl⟩⟩
  replace hM := ite_f hb11 hM
  refine run_sr ?_
  refine yB rfl ?_
  refine yR rfl ?_
  refine yN ?_
  refine run_ifd rfl rfl (fun hb12 => ?_) (fun hb12 => ?_)
  ·replace hM := ite_t hb12 hM
   refine run_sr ?_
   refine yR rfl ?_
   refine yR rfl ?_
   refine yN ?_
   refine run_ret_to ?_
   obtain rfl := some_t hM
   refine fin_x hG rfl rfl rfl (v' := .tup [.int .i64 1, .int .i64 1]) (by rfl) ⟨rfl, (show tk ≤ tkj3 by omega), _, rfl, ⟨_, _, _, _, rfl, rfl, rfl, rfl⟩⟩
  replace hM := ite_f hb12 hM
  refine run_skip ?_
  refine run_blk ?_
  refine run_sr ?_
  refine yR rfl ?_
  refine yR rfl ?_
  refine yN ?_
  refine run_ret_to ?_
  obtain rfl := some_t hM
  refine fin_x hG rfl rfl rfl (v' := .tup [.int .i64 (-1), .int .i64 (-1)]) (by rfl) ⟨rfl, (show tk ≤ tkj3 by omega), _, rfl, ⟨_, _, _, _, rfl, rfl, rfl, rfl⟩⟩
 replace hM := ite_f hb10 hM
 refine run_region ?_
 refine yB rfl ?_
 refine yR rfl ?_
 refine yN ?_
 refine run_ifd rfl rfl (fun hb13 => ?_) (fun hb13 => ?_)
 ·replace hM := ite_t hb13 hM
  refine run_sr ?_
  refine yR rfl ?_
  refine yR rfl ?_
  refine yN ?_
  refine run_ret_to ?_
  obtain rfl := some_t hM
  refine fin_x hG rfl rfl rfl (v' := .tup [.int .i64 2, .int .i64 1]) (by rfl) ⟨rfl, (show tk ≤ tkj3 by omega), _, rfl, ⟨_, _, _, _, rfl, rfl, rfl, rfl⟩⟩
 replace hM := ite_f hb13 hM
 refine run_sr ?_
 refine yB rfl ?_
 refine yR rfl ?_
 refine yN ?_
 refine run_ifd rfl rfl (fun hb14 => ?_) (fun hb14 => ?_)
 ·replace hM := ite_t hb14 hM
  refine run_sr ?_
  refine yR rfl ?_
  refine yR rfl ?_
  refine yN ?_
  refine run_ret_to ?_
  obtain rfl := some_t hM
  refine fin_x hG rfl rfl rfl (v' := .tup [.int .i64 1, .int .i64 1]) (by rfl) ⟨rfl, (show tk ≤ tkj3 by omega), _, rfl, ⟨_, _, _, _, rfl, rfl, rfl, rfl⟩⟩
 replace hM := ite_f hb14 hM
 refine run_skip ?_
 refine run_blk ?_
 refine run_sr ?_
 refine yR rfl ?_
 refine yR rfl ?_
 refine yN ?_
 refine run_ret_to ?_
 obtain rfl := some_t hM
 refine fin_x hG rfl rfl rfl (v' := .tup [.int .i64 (-1), .int .i64 (-1)]) (by rfl) ⟨rfl, (show tk ≤ tkj3 by omega), _, rfl, ⟨_, _, _, _, rfl, rfl, rfl, rfl⟩⟩

def s_l08Proof_L2 (rec_s_l08Proof : Pf → Option Bool) (x1 : Pf) (r2 : (Int × Int)) : Nat → Int → Option Bool
 | 0, _ => none
 | m + 1, i38 =>
  if i38 < r2.2 then
   (idx x1.kids i38).bind fun y40 =>
   (rec_s_l08Proof y40).bind fun r45 =>
   if (!r45) = true then
    some false
   else
    s_l08Proof_L2 rec_s_l08Proof x1 r2 m (IntKind.i64.wrap (i38 + 1))
  else
   some true

def s_l08Proof_L1 (rec_s_l08Proof : Pf → Option Bool) (n : Nat) (x1 : Pf) (r2 : (Int × Int)) : Nat → Int → Option Bool
 | 0, _ => none
 | m + 1, i23 =>
  if i23 < r2.1 then
   (idx x1.forms i23).bind fun y25 =>
   (s_l08Form n y25).bind fun r30 =>
   if (!r30) = true then
    some false
   else
    s_l08Proof_L1 rec_s_l08Proof n x1 r2 m (IntKind.i64.wrap (i23 + 1))
  else
   s_l08Proof_L2 rec_s_l08Proof x1 r2 n 0

def s_l08Proof : Nat → Pf → Option Bool
 | 0, _ => none
 | n + 1, x1 =>
  (s_l08Shape x1.kind).bind fun r2 =>
  jn (
   s_l08Proof_L1 (s_l08Proof n) n x1 r2 n 0) fun j15 =>
  if r2.1 < 0 then
   some false
  else
   if (((x1.forms).length : Int) != r2.1) = true then
    some false
   else
    if (((x1.kids).length : Int) != r2.2) = true then
     some false
    else
     if x1.n < 0 then
      some false
     else
      if x1.n > 100 then
       some false
      else
       if (x1.kind != 1) = true then
        if (x1.n != 0) = true then
         some false
        else
         j15
       else
        j15

def s_l08Proof_P (n : Nat) : Prop := ∀ (k1 : Int) (n1 : Int) (p1 : Nat) (e1 : Bool) (fs1 : List LF) (q1 : Nat) (f1 : Bool) (ks1 : List LP) {r : Bool}, s_l08Proof n (Pf.mk k1 n1 (fers fs1) (pers ks1)) = some r → ∀ (O : Heap) (tk : Nat), ACalls Go.Proofs.Try.prog 54 [.agg [.int .i64 k1, .int .i64 n1, .imm p1 3 e1 (fcellss fs1), .imm q1 4 f1 (pcellss ks1)]] O tk (RetX O tk (fun v tk' => v = .bool r))

set_option maxHeartbeats 20000000 in
set_option maxRecDepth 100000 in
theorem s_l08Proof_st (n : Nat) (ih_s_l08Proof : s_l08Proof_P n) : s_l08Proof_P (n + 1) := by
 intro k1 n1 p1 e1 fs1 q1 f1 ks1 r hM O tk
 rw [s_l08Proof] at hM
 refine acalls_of_run Go.Proofs.Try.func54 rfl rfl [] [] (Bor.nil _) [(0, .agg [.int .i64 k1, .int .i64 n1, .imm p1 3 e1 (fcellss fs1), .imm q1 4 f1 (pcellss ks1)])] (.cons (.agg _) (.nil _)) (leb rfl) (fun _ h => by cases h) (fun S0 hO htk hfz => ?_)
 refine run_sr ?_
 refine run_op rfl (box_step (d := 1) rfl rfl rfl rfl rfl) rfl (ltb rfl) ?_
 refine yR rfl ?_
 refine yN ?_
 refine run_sr ?_
 refine yF hG rfl ?_
 refine yD hG rfl ?_
 obtain ⟨r2, hg3, hM⟩ := bind_t hM
 refine yK rfl (s_l08Shape_ok k1 hg3 _ _) (callK_retX (fun v tk4 (hle5 : tk ≤ tk4) h6 => ?_))
 obtain ⟨ra11, ra12, va13, va14, rfl, rfl, rfl, rfl⟩ := h6
 refine yL rfl ?_
 refine run_pu rfl (extract_step rfl rfl rfl) rfl (ltb rfl) ?_
 refine run_pu rfl (extract_step rfl rfl rfl) rfl (ltb rfl) ?_
 refine yR rfl ?_
 refine yR rfl ?_
 refine yN ?_
 refine run_seq ?_
 refine run_seq ?_
 obtain ⟨j15, hj56, hM⟩ := jn_t hM
 refine run_cutL [.code _, .code _] (fun σ' => ∃ (tkj15 : Nat), tk4 ≤ tkj15 ∧ j15 = some r ∧ Sub ⟨Go.Proofs.Try.prog, S0, Go.Proofs.Try.f54.ntmps, [], fun _ => False, []⟩ σ' ⟨[(1, .optr (.loc 1) 0 0), (2, .bool false), (3, .int .i64 ra11), (4, .int .i64 ra12)], [(1, ⟨26, 4, true, [[.int .i64 k1, .int .i64 n1, .imm p1 3 e1 (fcellss fs1), .imm q1 4 f1 (pcellss ks1)]]⟩)], [], O, tkj15⟩) rfl ?_ ?_
 ·refine run_region ?_
  refine yL rfl ?_
  refine yB rfl ?_
  refine yL rfl ?_
  refine run_splitd (i := 15) rfl (fun hb16 => ?_) (fun hb16 => ?_)
  ·replace hM := ite_t hb16 hM
   refine yO rfl ?_
   refine yO rfl ?_
   refine yO rfl ?_
   refine yO rfl ?_
   refine yO rfl ?_
   refine yP rfl ?_
   refine yL rfl ?_
   refine yO rfl ?_
   refine yO rfl ?_
   refine yO rfl ?_
   refine yO rfl ?_
   refine yO rfl ?_
   refine yP rfl ?_
   refine yL rfl ?_
   refine yO rfl ?_
   refine yO rfl ?_
   refine yO rfl ?_
   refine yP rfl ?_
   refine yL rfl ?_
   refine yO rfl ?_
   refine yO rfl ?_
   refine yO rfl ?_
   refine yP rfl ?_
   refine yL rfl ?_
   refine yO rfl ?_
   refine yO rfl ?_
   refine yO rfl ?_
   refine yO rfl ?_
   refine run_off (off_un rfl rfl rfl) rfl (ltb rfl) ?_
   refine run_off (off_un rfl rfl rfl) rfl (ltb rfl) ?_
   refine run_off (off_un rfl rfl rfl) rfl (ltb rfl) ?_
   refine yO rfl ?_
   refine yP rfl ?_
   refine yN ?_
   refine run_sub_code (σ' := ⟨[(1, .optr (.loc 1) 0 0), (2, .bool false), (3, .int .i64 ra11), (4, .int .i64 ra12), (48, .bool true)], [(1, ⟨26, 4, true, [[.int .i64 k1, .int .i64 n1, .imm p1 3 e1 (fcellss fs1), .imm q1 4 f1 (pcellss ks1)]]⟩)], [], O, tk4⟩) (Sub.env _ ⟨rfl, rfl, rfl, rfl, rfl, trivial⟩) ?_
   refine run_if rfl rfl (fun _ => ?_) (fun h => by cases h)
   refine run_sr ?_
   refine yR rfl ?_
   refine yN ?_
   refine run_ret_to ?_
   refine cut_ret ?_
   obtain rfl := some_t hM
   refine fin_x hG rfl rfl rfl (v' := .bool false) (by rfl) ⟨rfl, (show tk ≤ tk4 by omega), _, rfl, rfl⟩
  replace hM := ite_f hb16 hM
  refine run_puG (on_of rfl rfl rfl rfl) (fieldAddr_step hG rfl rfl rfl rfl rfl) rfl (ltb rfl) ?_
  refine run_rdG (on_of rfl rfl rfl rfl) (aload_rd hG rfl rfl rfl (by simp [ldok])) rfl (ltb rfl) ?_
  refine run_puG (on_of rfl rfl rfl rfl) (lenImm_step hG rfl rfl rfl rfl (flen _)) rfl (ltb rfl) ?_
  refine run_puG (on_of rfl rfl rfl rfl) (move_step (.inl rfl) rfl) rfl (ltb rfl) ?_
  refine run_puG (on_of rfl rfl rfl rfl) (abin_step rfl rfl rfl rfl (fun _ h => by cases h)) rfl (ltb rfl) ?_
  refine yP rfl ?_
  refine yL rfl ?_
  refine run_splitb (i := 22) rfl (fun hb17 => ?_) (fun hb17 => ?_)
  ·replace hM := ite_t hb17 hM
   refine yO rfl ?_
   refine yO rfl ?_
   refine yO rfl ?_
   refine yO rfl ?_
   refine yO rfl ?_
   refine yP rfl ?_
   refine yL rfl ?_
   refine yO rfl ?_
   refine yO rfl ?_
   refine yO rfl ?_
   refine yP rfl ?_
   refine yL rfl ?_
   refine yO rfl ?_
   refine yO rfl ?_
   refine yO rfl ?_
   refine yP rfl ?_
   refine yL rfl ?_
   refine yO rfl ?_
   refine yO rfl ?_
   refine yO rfl ?_
   refine yO rfl ?_
   refine run_off (off_un rfl rfl rfl) rfl (ltb rfl) ?_
   refine run_off (off_un rfl rfl rfl) rfl (ltb rfl) ?_
   refine run_off (off_un rfl rfl rfl) rfl (ltb rfl) ?_
   refine yO rfl ?_
   refine yP rfl ?_
   refine yN ?_
   refine run_sub_code (σ' := ⟨[(1, .optr (.loc 1) 0 0), (2, .bool false), (3, .int .i64 ra11), (4, .int .i64 ra12), (48, .bool true)], [(1, ⟨26, 4, true, [[.int .i64 k1, .int .i64 n1, .imm p1 3 e1 (fcellss fs1), .imm q1 4 f1 (pcellss ks1)]]⟩)], [], O, tk4⟩) (Sub.env _ ⟨rfl, rfl, rfl, rfl, rfl, trivial⟩) ?_
   refine run_if rfl rfl (fun _ => ?_) (fun h => by cases h)
   refine run_sr ?_
   refine yR rfl ?_
   refine yN ?_
   refine run_ret_to ?_
   refine cut_ret ?_
   obtain rfl := some_t hM
   refine fin_x hG rfl rfl rfl (v' := .bool false) (by rfl) ⟨rfl, (show tk ≤ tk4 by omega), _, rfl, rfl⟩
  replace hM := ite_f hb17 hM
  refine run_puG (on_of rfl rfl rfl rfl) (fieldAddr_step hG rfl rfl rfl rfl rfl) rfl (ltb rfl) ?_
  refine run_rdG (on_of rfl rfl rfl rfl) (aload_rd hG rfl rfl rfl (by simp [ldok])) rfl (ltb rfl) ?_
  refine run_puG (on_of rfl rfl rfl rfl) (lenImm_step hG rfl rfl rfl rfl (plen _)) rfl (ltb rfl) ?_
  refine run_puG (on_of rfl rfl rfl rfl) (move_step (.inl rfl) rfl) rfl (ltb rfl) ?_
  refine run_puG (on_of rfl rfl rfl rfl) (abin_step rfl rfl rfl rfl (fun _ h => by cases h)) rfl (ltb rfl) ?_
  refine yP rfl ?_
  refine yL rfl ?_
  refine run_splitb (i := 29) rfl (fun hb18 => ?_) (fun hb18 => ?_)
  ·replace hM := ite_t hb18 hM
   refine yO rfl ?_
   refine yO rfl ?_
   refine yO rfl ?_
   refine yP rfl ?_
   refine yL rfl ?_
   refine yO rfl ?_
   refine yO rfl ?_
   refine yO rfl ?_
   refine yP rfl ?_
   refine yL rfl ?_
   refine yO rfl ?_
   refine yO rfl ?_
   refine yO rfl ?_
   refine yO rfl ?_
   refine run_off (off_un rfl rfl rfl) rfl (ltb rfl) ?_
   refine run_off (off_un rfl rfl rfl) rfl (ltb rfl) ?_
   refine run_off (off_un rfl rfl rfl) rfl (ltb rfl) ?_
   refine yO rfl ?_
   refine yP rfl ?_
   refine yN ?_
   refine run_sub_code (σ' := ⟨[(1, .optr (.loc 1) 0 0), (2, .bool false), (3, .int .i64 ra11), (4, .int .i64 ra12), (48, .bool true)], [(1, ⟨26, 4, true, [[.int .i64 k1, .int .i64 n1, .imm p1 3 e1 (fcellss fs1), .imm q1 4 f1 (pcellss ks1)]]⟩)], [], O, tk4⟩) (Sub.env _ ⟨rfl, rfl, rfl, rfl, rfl, trivial⟩) ?_
   refine run_if rfl rfl (fun _ => ?_) (fun h => by cases h)
   refine run_sr ?_
   refine yR rfl ?_
   refine yN ?_
   refine run_ret_to ?_
   refine cut_ret ?_
   obtain rfl := some_t hM
   refine fin_x hG rfl rfl rfl (v' := .bool false) (by rfl) ⟨rfl, (show tk ≤ tk4 by omega), _, rfl, rfl⟩
  replace hM := ite_f hb18 hM
  refine run_puG (on_of rfl rfl rfl rfl) (fieldAddr_step hG rfl rfl rfl rfl rfl) rfl (ltb rfl) ?_
  refine run_rdG (on_of rfl rfl rfl rfl) (aload_rd hG rfl rfl rfl (by simp [ldok])) rfl (ltb rfl) ?_
  refine run_puG (on_of rfl rfl rfl rfl) (abin_step rfl rfl rfl rfl (fun _ h => by cases h)) rfl (ltb rfl) ?_
  refine yP rfl ?_
  refine yL rfl ?_
  refine run_splitd (i := 34) rfl (fun hb19 => ?_) (fun hb19 => ?_)
  ·replace hM := ite_t hb19 hM
   refine yO rfl ?_
   refine yO rfl ?_
   refine yO rfl ?_
   refine yP rfl ?_
   refine yL rfl ?_
   refine yO rfl ?_
   refine yO rfl ?_
   refine yO rfl ?_
   refine yO rfl ?_
   refine run_off (off_un rfl rfl rfl) rfl (ltb rfl) ?_
   refine run_off (off_un rfl rfl rfl) rfl (ltb rfl) ?_
   refine run_off (off_un rfl rfl rfl) rfl (ltb rfl) ?_
   refine yO rfl ?_
   refine yP rfl ?_
   refine yN ?_
   refine run_sub_code (σ' := ⟨[(1, .optr (.loc 1) 0 0), (2, .bool false), (3, .int .i64 ra11), (4, .int .i64 ra12), (48, .bool true)], [(1, ⟨26, 4, true, [[.int .i64 k1, .int .i64 n1, .imm p1 3 e1 (fcellss fs1), .imm q1 4 f1 (pcellss ks1)]]⟩)], [], O, tk4⟩) (Sub.env _ ⟨rfl, rfl, rfl, rfl, rfl, trivial⟩) ?_
   refine run_if rfl rfl (fun _ => ?_) (fun h => by cases h)
   refine run_sr ?_
   refine yR rfl ?_
   refine yN ?_
   refine run_ret_to ?_
   refine cut_ret ?_
   obtain rfl := some_t hM
   refine fin_x hG rfl rfl rfl (v' := .bool false) (by rfl) ⟨rfl, (show tk ≤ tk4 by omega), _, rfl, rfl⟩
  replace hM := ite_f hb19 hM
  refine run_puG (on_of rfl rfl rfl rfl) (fieldAddr_step hG rfl rfl rfl rfl rfl) rfl (ltb rfl) ?_
  refine run_rdG (on_of rfl rfl rfl rfl) (aload_rd hG rfl rfl rfl (by simp [ldok])) rfl (ltb rfl) ?_
  refine run_puG (on_of rfl rfl rfl rfl) (abin_step rfl rfl rfl rfl (fun _ h => by cases h)) rfl (ltb rfl) ?_
  refine yP rfl ?_
  refine yL rfl ?_
  refine run_splitd (i := 39) rfl (fun hb20 => ?_) (fun hb20 => ?_)
  ·replace hM := ite_t hb20 hM
   refine yO rfl ?_
   refine yO rfl ?_
   refine yO rfl ?_
   refine yO rfl ?_
   refine run_off (off_un rfl rfl rfl) rfl (ltb rfl) ?_
   refine run_off (off_un rfl rfl rfl) rfl (ltb rfl) ?_
   refine run_off (off_un rfl rfl rfl) rfl (ltb rfl) ?_
   refine yO rfl ?_
   refine yP rfl ?_
   refine yN ?_
   refine run_sub_code (σ' := ⟨[(1, .optr (.loc 1) 0 0), (2, .bool false), (3, .int .i64 ra11), (4, .int .i64 ra12), (48, .bool true)], [(1, ⟨26, 4, true, [[.int .i64 k1, .int .i64 n1, .imm p1 3 e1 (fcellss fs1), .imm q1 4 f1 (pcellss ks1)]]⟩)], [], O, tk4⟩) (Sub.env _ ⟨rfl, rfl, rfl, rfl, rfl, trivial⟩) ?_
   refine run_if rfl rfl (fun _ => ?_) (fun h => by cases h)
   refine run_sr ?_
   refine yR rfl ?_
   refine yN ?_
   refine run_ret_to ?_
   refine cut_ret ?_
   obtain rfl := some_t hM
   refine fin_x hG rfl rfl rfl (v' := .bool false) (by rfl) ⟨rfl, (show tk ≤ tk4 by omega), _, rfl, rfl⟩
  replace hM := ite_f hb20 hM
  refine run_puG (on_of rfl rfl rfl rfl) (fieldAddr_step hG rfl rfl rfl rfl rfl) rfl (ltb rfl) ?_
  refine run_rdG (on_of rfl rfl rfl rfl) (aload_rd hG rfl rfl rfl (by simp [ldok])) rfl (ltb rfl) ?_
  refine run_puG (on_of rfl rfl rfl rfl) (abin_step rfl rfl rfl rfl (fun _ h => by cases h)) rfl (ltb rfl) ?_
  refine run_puG (on_of rfl rfl rfl rfl) (move_step (.inl rfl) rfl) rfl (ltb rfl) ?_
  refine run_splitb (i := 43) rfl (fun hb21 => ?_) (fun hb21 => ?_)
  ·replace hM := ite_t hb21 hM
   refine run_puG (on_of rfl rfl rfl rfl) (fieldAddr_step hG rfl rfl rfl rfl rfl) rfl (ltb rfl) ?_
   refine run_rdG (on_of rfl rfl rfl rfl) (aload_rd hG rfl rfl rfl (by simp [ldok])) rfl (ltb rfl) ?_
   refine run_puG (on_of rfl rfl rfl rfl) (abin_step rfl rfl rfl rfl (fun _ h => by cases h)) rfl (ltb rfl) ?_
   refine run_puG (on_of rfl rfl rfl rfl) (pick_step rfl rfl rfl) rfl (ltb rfl) ?_
   refine yP rfl ?_
   refine yN ?_
   refine run_sub_code (σ' := ⟨[(1, .optr (.loc 1) 0 0), (2, .bool false), (3, .int .i64 ra11), (4, .int .i64 ra12), (48, .bool (n1 != 0))], [(1, ⟨26, 4, true, [[.int .i64 k1, .int .i64 n1, .imm p1 3 e1 (fcellss fs1), .imm q1 4 f1 (pcellss ks1)]]⟩)], [], O, tk4⟩) (Sub.env _ ⟨rfl, rfl, rfl, rfl, rfl, trivial⟩) ?_
   refine run_ifb rfl rfl (fun hb22 => ?_) (fun hb22 => ?_)
   ·replace hM := ite_t hb22 hM
    refine run_sr ?_
    refine yR rfl ?_
    refine yN ?_
    refine run_ret_to ?_
    refine cut_ret ?_
    obtain rfl := some_t hM
    refine fin_x hG rfl rfl rfl (v' := .bool false) (by rfl) ⟨rfl, (show tk ≤ tk4 by omega), _, rfl, rfl⟩
   replace hM := ite_f hb22 hM
   refine run_skip ?_
   exact ⟨tk4, (show tk4 ≤ tk4 by omega), hM, Sub.pk [1, 2, 3, 4] rfl⟩
  replace hM := ite_f hb21 hM
  refine yO rfl ?_
  refine yO rfl ?_
  refine yO rfl ?_
  refine run_puG (on_of rfl rfl rfl rfl) (pick_step rfl rfl rfl) rfl (ltb rfl) ?_
  refine yP rfl ?_
  refine yN ?_
  refine run_sub_code (σ' := ⟨[(1, .optr (.loc 1) 0 0), (2, .bool false), (3, .int .i64 ra11), (4, .int .i64 ra12), (48, .bool false)], [(1, ⟨26, 4, true, [[.int .i64 k1, .int .i64 n1, .imm p1 3 e1 (fcellss fs1), .imm q1 4 f1 (pcellss ks1)]]⟩)], [], O, tk4⟩) (Sub.env _ ⟨rfl, rfl, rfl, rfl, rfl, trivial⟩) ?_
  refine run_if rfl rfl (fun h => by cases h) (fun _ => ?_)
  refine run_skip ?_
  exact ⟨tk4, (show tk4 ≤ tk4 by omega), hM, Sub.pk [1, 2, 3, 4] rfl⟩
 clear hM
 rintro σ' ⟨tkj15, hle55, hM, hsub⟩
 rw [hj56] at hM
 clear hj56
 refine run_sub_code hsub ?_
 refine run_seq ?_
 refine run_sr ?_
 refine yR rfl ?_
 refine yN ?_
 refine run_block ?_
 refine run_rounds (fun m σ => ∃ (i23 : Int) (tks_l08Proof_L1 : Nat), tkj15 ≤ tks_l08Proof_L1 ∧ s_l08Proof_L1 (s_l08Proof n) n (Pf.mk k1 n1 (fers fs1) (pers ks1)) (ra11, ra12) m i23 = some r ∧ σ = ⟨[(1, .optr (.loc 1) 0 0), (2, .bool false), (3, .int .i64 ra11), (4, .int .i64 ra12), (5, .int .i64 i23)], [(1, ⟨26, 4, true, [[.int .i64 k1, .int .i64 n1, .imm p1 3 e1 (fcellss fs1), .imm q1 4 f1 (pcellss ks1)]]⟩)], [], O, tks_l08Proof_L1⟩) n (Sub.pk [1, 2, 3, 4, 5] rfl) ⟨0, tkj15, Nat.le_refl _, hM, rfl⟩ (fun m σ hI => ?_)
 clear hM
 obtain ⟨i23, tks_l08Proof_L1, hle54, hM, rfl⟩ := hI
 obtain _ | m := m
 ·exact absurd hM (by rw [s_l08Proof_L1]; exact fun h => by cases h)
 rw [s_l08Proof_L1] at hM
 refine run_seq ?_
 refine run_sr ?_
 refine yL rfl ?_
 refine yL rfl ?_
 refine yB rfl ?_
 refine yN ?_
 refine run_ifd rfl rfl (fun hb24 => ?_) (fun hb24 => ?_)
 ·replace hM := ite_t hb24 hM
  refine run_skip ?_
  refine run_seq ?_
  refine run_block ?_
  refine run_sr ?_
  refine yF hG rfl ?_
  refine yD hG rfl ?_
  refine yL rfl ?_
  obtain ⟨y25, hy26, hM⟩ := bind_t hM
  obtain ⟨k27, n27, q27, f27, ks27, rfl, hc28, hi29⟩ := fidx hy26
  refine run_pu rfl (indexImm_step hG rfl rfl rfl hi29 rfl rfl rfl rfl hc28) rfl (ltb rfl) ?_
  refine yD hG rfl ?_
  obtain ⟨r30, hg31, hM⟩ := bind_t hM
  refine yK rfl (s_l08Form_ok n k27 n27 q27 f27 ks27 hg31 _ _) (callK_retX (fun v tk32 (hle33 : tks_l08Proof_L1 ≤ tk32) h34 => ?_))
  subst h34
  refine run_pu rfl (aun_step rfl rfl rfl) rfl (ltb rfl) ?_
  refine yN ?_
  refine run_ifb rfl rfl (fun hb37 => ?_) (fun hb37 => ?_)
  ·replace hM := ite_t hb37 hM
   refine run_sr ?_
   refine yR rfl ?_
   refine yN ?_
   refine run_ret_to ?_
   obtain rfl := some_t hM
   refine fin_x hG rfl rfl rfl (v' := .bool false) (by rfl) ⟨rfl, (show tk ≤ tk32 by omega), _, rfl, rfl⟩
  replace hM := ite_f hb37 hM
  refine run_skip ?_
  refine run_blk ?_
  refine run_region ?_
  refine yL rfl ?_
  refine yB rfl ?_
  refine yR rfl ?_
  refine yN ?_
  exact run_loop_end ⟨m, _, Nat.lt_succ_self _, ⟨(IntKind.i64.wrap (i23 + 1)), tk32, (show tkj15 ≤ tk32 by omega), hM, rfl⟩, Sub.pk [1, 2, 3, 4, 5] rfl⟩
 replace hM := ite_f hb24 hM
 refine run_exit_to rfl ?_
 refine run_seq ?_
 refine run_sr ?_
 refine yR rfl ?_
 refine yN ?_
 refine run_block ?_
 refine run_rounds (fun m σ => ∃ (i38 : Int) (tks_l08Proof_L2 : Nat), tks_l08Proof_L1 ≤ tks_l08Proof_L2 ∧ s_l08Proof_L2 (s_l08Proof n) (Pf.mk k1 n1 (fers fs1) (pers ks1)) (ra11, ra12) m i38 = some r ∧ σ = ⟨[(1, .optr (.loc 1) 0 0), (2, .bool false), (4, .int .i64 ra12), (6, .int .i64 i38)], [(1, ⟨26, 4, true, [[.int .i64 k1, .int .i64 n1, .imm p1 3 e1 (fcellss fs1), .imm q1 4 f1 (pcellss ks1)]]⟩)], [], O, tks_l08Proof_L2⟩) n (Sub.pk [1, 2, 4, 6] rfl) ⟨0, tks_l08Proof_L1, Nat.le_refl _, hM, rfl⟩ (fun m σ hI => ?_)
 clear hM
 obtain ⟨i38, tks_l08Proof_L2, hle53, hM, rfl⟩ := hI
 obtain _ | m := m
 ·exact absurd hM (by rw [s_l08Proof_L2]; exact fun h => by cases h)
 rw [s_l08Proof_L2] at hM
 refine run_seq ?_
 refine run_sr ?_
 refine yL rfl ?_
 refine yL rfl ?_
 refine yB rfl ?_
 refine yN ?_
 refine run_ifd rfl rfl (fun hb39 => ?_) (fun hb39 => ?_)
 ·replace hM := ite_t hb39 hM
  refine run_skip ?_
  refine run_seq ?_
  refine run_block ?_
  refine run_sr ?_
  refine yF hG rfl ?_
  refine yD hG rfl ?_
  refine yL rfl ?_
  obtain ⟨y40, hy41, hM⟩ := bind_t hM
  obtain ⟨k42, n42, p42, e42, fs42, q42, f42, ks42, rfl, hc43, hi44⟩ := pidx hy41
  refine run_pu rfl (indexImm_step hG rfl rfl rfl hi44 rfl rfl rfl rfl hc43) rfl (ltb rfl) ?_
  refine yD hG rfl ?_
  obtain ⟨r45, hg46, hM⟩ := bind_t hM
  refine yK rfl (ih_s_l08Proof k42 n42 p42 e42 fs42 q42 f42 ks42 hg46 _ _) (callK_retX (fun v tk47 (hle48 : tks_l08Proof_L2 ≤ tk47) h49 => ?_))
  subst h49
  refine run_pu rfl (aun_step rfl rfl rfl) rfl (ltb rfl) ?_
  refine yN ?_
  refine run_ifb rfl rfl (fun hb52 => ?_) (fun hb52 => ?_)
  ·replace hM := ite_t hb52 hM
   refine run_sr ?_
   refine yR rfl ?_
   refine yN ?_
   refine run_ret_to ?_
   obtain rfl := some_t hM
   refine fin_x hG rfl rfl rfl (v' := .bool false) (by rfl) ⟨rfl, (show tk ≤ tk47 by omega), _, rfl, rfl⟩
  replace hM := ite_f hb52 hM
  refine run_skip ?_
  refine run_blk ?_
  refine run_region ?_
  refine yL rfl ?_
  refine yB rfl ?_
  refine yR rfl ?_
  refine yN ?_
  exact run_loop_end ⟨m, _, Nat.lt_succ_self _, ⟨(IntKind.i64.wrap (i38 + 1)), tk47, (show tks_l08Proof_L1 ≤ tk47 by omega), hM, rfl⟩, Sub.pk [1, 2, 4, 6] rfl⟩
 replace hM := ite_f hb39 hM
 refine run_exit_to rfl ?_
 refine run_sr ?_
 refine yR rfl ?_
 refine yN ?_
 refine run_ret_to ?_
 obtain rfl := some_t hM
 refine fin_x hG rfl rfl rfl (v' := .bool true) (by rfl) ⟨rfl, (show tk ≤ tks_l08Proof_L2 by omega), _, rfl, rfl⟩

theorem s_l08Proof_all : ∀ (n : Nat), (s_l08Proof_P n)
 | 0 => by intro k1 n1 p1 e1 fs1 q1 f1 ks1 r hM; rw [s_l08Proof] at hM; cases hM
 | n + 1 => have ih := s_l08Proof_all n; s_l08Proof_st n (ih)

theorem s_l08Proof_ok (n : Nat) : s_l08Proof_P n := s_l08Proof_all n

def s_ProofOK (n : Nat) (x1 : Pf) : Option Bool :=
 (s_l08Count n x1 150).bind fun r2 =>
 if r2 ≥ 0 then
  (s_l08Proof n x1).bind fun r10 =>
  some r10
 else
  some false

set_option maxRecDepth 100000 in
theorem s_ProofOK_ok (n : Nat) : ∀ (k1 : Int) (n1 : Int) (p1 : Nat) (e1 : Bool) (fs1 : List LF) (q1 : Nat) (f1 : Bool) (ks1 : List LP) {r : Bool}, s_ProofOK n (Pf.mk k1 n1 (fers fs1) (pers ks1)) = some r → ∀ (O : Heap) (tk : Nat), ACalls Go.Proofs.Try.prog 10 [.agg [.int .i64 k1, .int .i64 n1, .imm p1 3 e1 (fcellss fs1), .imm q1 4 f1 (pcellss ks1)]] O tk (RetX O tk (fun v tk' => v = .bool r)) := by
 intro k1 n1 p1 e1 fs1 q1 f1 ks1 r hM O tk
 unfold s_ProofOK at hM
 refine acalls_of_run Go.Proofs.Try.func10 rfl rfl [] [] (Bor.nil _) [(0, .agg [.int .i64 k1, .int .i64 n1, .imm p1 3 e1 (fcellss fs1), .imm q1 4 f1 (pcellss ks1)])] (.cons (.agg _) (.nil _)) (leb rfl) (fun _ h => by cases h) (fun S0 hO htk hfz => ?_)
 refine run_sr ?_
 refine run_op rfl (box_step (d := 1) rfl rfl rfl rfl rfl) rfl (ltb rfl) ?_
 refine yR rfl ?_
 refine yN ?_
 refine run_sr ?_
 refine yD hG rfl ?_
 obtain ⟨r2, hg3, hM⟩ := bind_t hM
 refine yK rfl (s_l08Count_ok n k1 n1 p1 e1 fs1 q1 f1 ks1 150 hg3 _ _) (callK_retX (fun v tk4 (hle5 : tk ≤ tk4) h6 => ?_))
 subst h6
 refine yB rfl ?_
 refine yL rfl ?_
 refine run_splitd (i := 6) rfl (fun hb9 => ?_) (fun hb9 => ?_)
 ·replace hM := ite_t hb9 hM
  refine run_rdG (on_of rfl rfl rfl rfl) (aload_rd hG rfl rfl rfl (by simp [ldok])) rfl (ltb rfl) ?_
  obtain ⟨r10, hg11, hM⟩ := bind_t hM
  refine yG (on_of rfl rfl rfl rfl) rfl (s_l08Proof_ok n k1 n1 p1 e1 fs1 q1 f1 ks1 hg11 _ _) (callK_retX (fun v tk12 (hle13 : tk4 ≤ tk12) h14 => ?_))
  subst h14
  refine yP rfl ?_
  refine yR rfl ?_
  refine yN ?_
  refine run_ret_to ?_
  obtain rfl := some_t hM
  refine fin_x hG rfl rfl rfl (v' := .bool r10) (by rfl) ⟨rfl, (show tk ≤ tk12 by omega), _, rfl, rfl⟩
 replace hM := ite_f hb9 hM
 refine yO rfl ?_
 refine yO rfl ?_
 refine yP rfl ?_
 refine yR rfl ?_
 refine yN ?_
 refine run_ret_to ?_
 obtain rfl := some_t hM
 refine fin_x hG rfl rfl rfl (v' := .bool false) (by rfl) ⟨rfl, (show tk ≤ tk4 by omega), _, rfl, rfl⟩

end Go.Am.Ytpkeophkdemcpaa
