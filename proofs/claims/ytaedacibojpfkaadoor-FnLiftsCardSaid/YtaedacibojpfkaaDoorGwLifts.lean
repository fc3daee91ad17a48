/- Printed by a program of ours: Lean functions that do what the Go functions do, and the contracts. -/
import Derived.Test.YtaedacibojpfkaaDoorMl0
import Derived.Test.YtaedacibojpfkaaDoorMb1
import Derived.Test.YtaedacibojpfkaaDoorTypes
import Derived.Test.YtaedacibojpfkaaDoorMi4
import Derived.Test.YtaedacibojpfkaaDoorMc1
import Derived.Test.YtaedacibojpfkaaDoorMb3
import Derived.Test.YtaedacibojpfkaaDoorGs0
import Derived.Test.YtaedacibojpfkaaDoorGsSize
import Derived.Test.YtaedacibojpfkaaDoorGsT
import Derived.Test.YtaedacibojpfkaaDoorDkLift
-- packed
namespace Go.Am.YtaedacibojpfkaaDoor
open Go Go.Am

def w_at (l1 : List Int) (i2 : Int) (i3 : Int) : Option Int :=
 if i3 ≤ 1 then
  some 0
 else
  if ((l1).length : Int) = 0 then
   chk (i3 ≠ 0) <|
   some (Int.tmod (IntKind.i64.wrap (i2 * 7)) i3)
  else
   chk (((l1).length : Int) ≠ 0) <|
   (idx l1 (Int.tmod i2 ((l1).length : Int))).bind fun y8 =>
   chk (((l1).length : Int) ≠ 0) <|
   (idx l1 (Int.tmod (IntKind.i64.wrap (i2 + 1)) ((l1).length : Int))).bind fun y14 =>
   chk (((l1).length : Int) ≠ 0) <|
   chk (i3 ≠ 0) <|
   some (Int.tmod (IntKind.i64.wrap ((IntKind.i64.wrap ((IntKind.i64.wrap ((IntKind.i64.wrap y8) * 31)) + (IntKind.i64.wrap y14))) + (IntKind.i64.wrap (Int.tdiv i2 ((l1).length : Int))))) i3)

set_option maxRecDepth 100000 in
theorem w_at_ok : ∀ (q1 : Nat) (f1 : Bool) (l1 : List Int) (i2 : Int) (i3 : Int) {r : Int}, w_at l1 i2 i3 = some r → ∀ (O : Heap) (tk : Nat), ACalls Go.Proofs.Tryd.prog 9 [.imm q1 1 f1 ((l1 : List Int).map fun n => [AV.int .u8 n]), .int .i64 i2, .int .i64 i3] O tk (RetX O tk (fun v tk' => v = .int .i64 r)) := by
 intro q1 f1 l1 i2 i3 r hM O tk
 unfold w_at at hM
 refine acalls_of_run Go.Proofs.Tryd.func9 rfl rfl [] [] (Bor.nil _) [(0, .imm q1 1 f1 ((l1 : List Int).map fun n => [AV.int .u8 n])), (1, .int .i64 i2), (2, .int .i64 i3)] (.cons (entS rfl) (.cons (entS rfl) (.cons (entS rfl) (.nil _)))) (leb rfl) (fun _ h => by cases h) (fun S0 hO htk hfz => ?_)
 refine run_sr ?_
 refine mvR rfl rfl rfl rfl (ltb rfl) ?_
 refine run_ops_nil ?_
 refine run_seq ?_
 refine run_sr ?_
 refine mvL rfl rfl rfl rfl (ltb rfl) ?_
 refine run_bin rfl rfl rfl rfl rfl rfl rfl (ltb rfl) ?_
 refine run_ops_nil ?_
 refine run_ifd rfl rfl (fun hb4 => ?_) (fun hb4 => ?_)
 ·replace hM := ite_t hb4 hM
  refine run_sr ?_
  refine mvR rfl rfl rfl rfl (ltb rfl) ?_
  refine run_ops_nil ?_
  refine run_ret_to ?_
  replace hM := some_t hM
  subst hM
  refine fin_x hG rfl rfl rfl (v' := .int .i64 0) (by rfl) ⟨rfl, (show tk ≤ tk by omega), _, rfl, rfl⟩
 ·replace hM := ite_f hb4 hM
  refine run_skip ?_
  refine run_seq ?_
  refine run_sr ?_
  refine mvL rfl rfl rfl rfl (ltb rfl) ?_
  refine run_pu rfl (lenImm_step hG rfl rfl rfl rfl (ilen _)) rfl (ltb rfl) ?_
  refine run_bin rfl rfl rfl rfl rfl rfl rfl (ltb rfl) ?_
  refine run_ops_nil ?_
  refine run_ifd rfl rfl (fun hb5 => ?_) (fun hb5 => ?_)
  ·replace hM := ite_t hb5 hM
   refine run_sr ?_
   refine mvL rfl rfl rfl rfl (ltb rfl) ?_
   refine run_bin rfl rfl rfl rfl rfl rfl rfl (ltb rfl) ?_
   refine mvL rfl rfl rfl rfl (ltb rfl) ?_
   obtain ⟨hc6, hM⟩ := chk_t hM
   refine run_pu rfl (abin_step rfl rfl rfl (rem_ne hc6) (fun _ h => by cases h)) rfl (ltb rfl) ?_
   refine mvR rfl rfl rfl rfl (ltb rfl) ?_
   refine run_ops_nil ?_
   refine run_ret_to ?_
   replace hM := some_t hM
   subst hM
   refine fin_x hG rfl rfl rfl (v' := .int .i64 (Int.tmod (IntKind.i64.wrap (i2 * 7)) i3)) (by rfl) ⟨rfl, (show tk ≤ tk by omega), _, rfl, rfl⟩
  ·replace hM := ite_f hb5 hM
   refine run_skip ?_
   refine run_seq ?_
   refine run_draw [] (n := 27) mixed rfl (fun _ h => absurd h List.not_mem_nil) ?_
   refine AAny.take (i := 0) rfl (by kernel_rfl) (by kernel_rfl) (by kernel_rfl) rfl rfl (ltb rfl) ((move_step (.inl rfl) rfl).rd _) ?_
   refine AAny.take (i := 1) rfl (by kernel_rfl) (by kernel_rfl) (by kernel_rfl) rfl rfl (ltb rfl) ((move_step (.inl rfl) rfl).rd _) ?_
   refine AAny.take (i := 2) rfl (by kernel_rfl) (by kernel_rfl) (by kernel_rfl) rfl rfl (ltb rfl) ((move_step (.inl rfl) rfl).rd _) ?_
   refine AAny.take (i := 3) rfl (by kernel_rfl) (by kernel_rfl) (by kernel_rfl) rfl rfl (ltb rfl) ((lenImm_step hG rfl rfl rfl rfl (ilen _)).rd _) ?_
   obtain ⟨hc7, hM⟩ := chk_t hM
   refine AAny.take (i := 4) rfl (by kernel_rfl) (by kernel_rfl) (by kernel_rfl) rfl rfl (ltb rfl) ((abin_step rfl rfl rfl (rem_ne hc7) (fun _ h => by cases h)).rd _) ?_
   obtain ⟨y8, hy9, hM⟩ := bind_t hM
   obtain ⟨hc11, hi12⟩ := iidx (k := .u8) hy9
   refine AAny.take (i := 5) rfl (by kernel_rfl) (by kernel_rfl) (by kernel_rfl) rfl rfl (ltb rfl) ((indexImm_step hG rfl rfl rfl hi12 rfl rfl rfl rfl hc11).rd _) ?_
   refine AAny.take (i := 6) rfl (by kernel_rfl) (by kernel_rfl) (by kernel_rfl) rfl rfl (ltb rfl) (aload_rd hG rfl rfl rfl (by first | (simp [ldok]; done) | exact List.not_mem_nil | trivial)) ?_
   refine AAny.take (i := 7) rfl (by kernel_rfl) (by kernel_rfl) (by kernel_rfl) rfl rfl (ltb rfl) ((convInt_step hG rfl rfl rfl rfl rfl).rd _) ?_
   refine AAny.take (i := 8) rfl (by kernel_rfl) (by kernel_rfl) (by kernel_rfl) rfl rfl (ltb rfl) ((abin_step rfl rfl rfl rfl (fun _ h => by cases h)).rd _) ?_
   refine AAny.take (i := 9) rfl (by kernel_rfl) (by kernel_rfl) (by kernel_rfl) rfl rfl (ltb rfl) ((move_step (.inl rfl) rfl).rd _) ?_
   refine AAny.take (i := 10) rfl (by kernel_rfl) (by kernel_rfl) (by kernel_rfl) rfl rfl (ltb rfl) ((move_step (.inl rfl) rfl).rd _) ?_
   refine AAny.take (i := 11) rfl (by kernel_rfl) (by kernel_rfl) (by kernel_rfl) rfl rfl (ltb rfl) ((abin_step rfl rfl rfl rfl (fun _ h => by cases h)).rd _) ?_
   refine AAny.take (i := 12) rfl (by kernel_rfl) (by kernel_rfl) (by kernel_rfl) rfl rfl (ltb rfl) ((move_step (.inl rfl) rfl).rd _) ?_
   refine AAny.take (i := 13) rfl (by kernel_rfl) (by kernel_rfl) (by kernel_rfl) rfl rfl (ltb rfl) ((lenImm_step hG rfl rfl rfl rfl (ilen _)).rd _) ?_
   obtain ⟨hc13, hM⟩ := chk_t hM
   refine AAny.take (i := 14) rfl (by kernel_rfl) (by kernel_rfl) (by kernel_rfl) rfl rfl (ltb rfl) ((abin_step rfl rfl rfl (rem_ne hc13) (fun _ h => by cases h)).rd _) ?_
   obtain ⟨y14, hy15, hM⟩ := bind_t hM
   obtain ⟨hc17, hi18⟩ := iidx (k := .u8) hy15
   refine AAny.take (i := 15) rfl (by kernel_rfl) (by kernel_rfl) (by kernel_rfl) rfl rfl (ltb rfl) ((indexImm_step hG rfl rfl rfl hi18 rfl rfl rfl rfl hc17).rd _) ?_
   refine AAny.take (i := 16) rfl (by kernel_rfl) (by kernel_rfl) (by kernel_rfl) rfl rfl (ltb rfl) (aload_rd hG rfl rfl rfl (by first | (simp [ldok]; done) | exact List.not_mem_nil | trivial)) ?_
   refine AAny.take (i := 17) rfl (by kernel_rfl) (by kernel_rfl) (by kernel_rfl) rfl rfl (ltb rfl) ((convInt_step hG rfl rfl rfl rfl rfl).rd _) ?_
   refine AAny.take (i := 18) rfl (by kernel_rfl) (by kernel_rfl) (by kernel_rfl) rfl rfl (ltb rfl) ((abin_step rfl rfl rfl rfl (fun _ h => by cases h)).rd _) ?_
   refine AAny.take (i := 19) rfl (by kernel_rfl) (by kernel_rfl) (by kernel_rfl) rfl rfl (ltb rfl) ((move_step (.inl rfl) rfl).rd _) ?_
   refine AAny.take (i := 20) rfl (by kernel_rfl) (by kernel_rfl) (by kernel_rfl) rfl rfl (ltb rfl) ((move_step (.inl rfl) rfl).rd _) ?_
   refine AAny.take (i := 21) rfl (by kernel_rfl) (by kernel_rfl) (by kernel_rfl) rfl rfl (ltb rfl) ((lenImm_step hG rfl rfl rfl rfl (ilen _)).rd _) ?_
   obtain ⟨hc19, hM⟩ := chk_t hM
   refine AAny.take (i := 22) rfl (by kernel_rfl) (by kernel_rfl) (by kernel_rfl) rfl rfl (ltb rfl) ((abin_step rfl rfl rfl (quo_ne hc19) (fun _ h => by cases h)).rd _) ?_
   refine AAny.take (i := 23) rfl (by kernel_rfl) (by kernel_rfl) (by kernel_rfl) rfl rfl (ltb rfl) ((abin_step rfl rfl rfl rfl (fun _ h => by cases h)).rd _) ?_
   refine AAny.take (i := 24) rfl (by kernel_rfl) (by kernel_rfl) (by kernel_rfl) rfl rfl (ltb rfl) ((move_step (.inl rfl) rfl).rd _) ?_
   obtain ⟨hc20, hM⟩ := chk_t hM
   refine AAny.take (i := 25) rfl (by kernel_rfl) (by kernel_rfl) (by kernel_rfl) rfl rfl (ltb rfl) ((abin_step rfl rfl rfl (rem_ne hc20) (fun _ h => by cases h)).rd _) ?_
   refine AAny.take (i := 26) rfl (by kernel_rfl) (by kernel_rfl) (by kernel_rfl) rfl rfl (ltb rfl) ((move_step (.inr rfl) rfl).rd _) ?_
   refine AAny.done (by kernel_rfl) ?_
   refine run_ret_to ?_
   replace hM := some_t hM
   subst hM
   refine fin_x hG rfl rfl rfl (v' := .int .i64 (Int.tmod (IntKind.i64.wrap ((IntKind.i64.wrap ((IntKind.i64.wrap ((IntKind.i64.wrap y8) * 31)) + (IntKind.i64.wrap y14))) + (IntKind.i64.wrap (Int.tdiv i2 ((l1).length : Int))))) i3)) (by rfl) ⟨rfl, (show tk ≤ tk by omega), _, rfl, rfl⟩

def w_same_L1 (rec_w_same : T → T → Option Bool) (x1 : T) (x2 : T) : Nat → Int → Option Bool
 | 0, _ => none
 | m + 1, i7 =>
  if i7 < ((x1.kids).length : Int) then
   (idx x1.kids i7).bind fun y9 =>
   (idx x2.kids i7).bind fun y14 =>
   (rec_w_same y9 y14).bind fun r19 =>
   if (!r19) = true then
    some false
   else
    w_same_L1 rec_w_same x1 x2 m (IntKind.i64.wrap (i7 + 1))
  else
   some true

def w_same : Nat → T → T → Option Bool
 | 0, _, _ => none
 | n + 1, x1, x2 =>
  if (x1.kind != x2.kind) = true then
   some false
  else
   if (x1.n != x2.n) = true then
    some false
   else
    if (!(x1.name.toList == x2.name.toList)) = true then
     some false
    else
     if (((x1.kids).length : Int) != ((x2.kids).length : Int)) = true then
      some false
     else
      w_same_L1 (w_same n) x1 x2 n 0

set_option maxHeartbeats 20000000 in
set_option maxRecDepth 100000 in
theorem w_same_st (n : Nat) (ih_w_same : ∀ (k1 : Int) (n1 : Int) (s1 : ByteArray) (q1 : Nat) (f1 : Bool) (ks1 : List LT) (k2 : Int) (n2 : Int) (s2 : ByteArray) (q2 : Nat) (f2 : Bool) (ks2 : List LT) {r : Bool}, w_same n (T.mk k1 n1 s1 (ers ks1)) (T.mk k2 n2 s2 (ers ks2)) = some r → ∀ (O : Heap) (tk : Nat), ACalls Go.Proofs.Tryd.prog 13 [.agg [.int .i64 k1, .int .i64 n1, .str s1, .imm q1 4 f1 (cellss ks1)], .agg [.int .i64 k2, .int .i64 n2, .str s2, .imm q2 4 f2 (cellss ks2)]] O tk (RetX O tk (fun v tk' => v = .bool r))) : ∀ (k1 : Int) (n1 : Int) (s1 : ByteArray) (q1 : Nat) (f1 : Bool) (ks1 : List LT) (k2 : Int) (n2 : Int) (s2 : ByteArray) (q2 : Nat) (f2 : Bool) (ks2 : List LT) {r : Bool}, w_same (n + 1) (T.mk k1 n1 s1 (ers ks1)) (T.mk k2 n2 s2 (ers ks2)) = some r → ∀ (O : Heap) (tk : Nat), ACalls Go.Proofs.Tryd.prog 13 [.agg [.int .i64 k1, .int .i64 n1, .str s1, .imm q1 4 f1 (cellss ks1)], .agg [.int .i64 k2, .int .i64 n2, .str s2, .imm q2 4 f2 (cellss ks2)]] O tk (RetX O tk (fun v tk' => v = .bool r)) := by
 intro k1 n1 s1 q1 f1 ks1 k2 n2 s2 q2 f2 ks2 r hM O tk
 rw [w_same] at hM
 refine acalls_of_run Go.Proofs.Tryd.func13 rfl rfl [] [] (Bor.nil _) [(0, .agg [.int .i64 k1, .int .i64 n1, .str s1, .imm q1 4 f1 (cellss ks1)]), (1, .agg [.int .i64 k2, .int .i64 n2, .str s2, .imm q2 4 f2 (cellss ks2)])] (.cons (.agg _) (.cons (.agg _) (.nil _))) (leb rfl) (fun _ h => by cases h) (fun S0 hO htk hfz => ?_)
 refine run_sr ?_
 refine run_op rfl (box_step (d := 2) rfl rfl rfl rfl rfl) rfl (ltb rfl) ?_
 refine run_op rfl (box_step (d := 3) rfl rfl rfl rfl rfl) rfl (ltb rfl) ?_
 refine mvR rfl rfl rfl rfl (ltb rfl) ?_
 refine run_ops_nil ?_
 refine run_seq ?_
 refine run_sr ?_
 refine run_pu rfl (fieldAddr_step hG rfl rfl rfl rfl rfl) rfl (ltb rfl) ?_
 refine run_ld hG rfl rfl rfl rfl rfl (ltb rfl) ?_
 refine run_pu rfl (fieldAddr_step hG rfl rfl rfl rfl rfl) rfl (ltb rfl) ?_
 refine run_ld hG rfl rfl rfl rfl rfl (ltb rfl) ?_
 refine run_bin rfl rfl rfl rfl rfl rfl rfl (ltb rfl) ?_
 refine mvL rfl rfl rfl rfl (ltb rfl) ?_
 refine run_splitb (i := 11) rfl (fun hb3 => ?_) (fun hb3 => ?_)
 ·replace hM := ite_t hb3 hM
  refine run_off (on_of rfl rfl rfl rfl) rfl (ltb rfl) ?_
  refine run_off (on_of rfl rfl rfl rfl) rfl (ltb rfl) ?_
  refine run_off (on_of rfl rfl rfl rfl) rfl (ltb rfl) ?_
  refine run_off (on_of rfl rfl rfl rfl) rfl (ltb rfl) ?_
  refine run_off (on_of rfl rfl rfl rfl) rfl (ltb rfl) ?_
  refine run_pu rfl (pick_step rfl rfl rfl) rfl (ltb rfl) ?_
  refine mvL rfl rfl rfl rfl (ltb rfl) ?_
  refine run_off (on_of rfl rfl rfl rfl) rfl (ltb rfl) ?_
  refine run_off (on_of rfl rfl rfl rfl) rfl (ltb rfl) ?_
  refine run_off (on_of rfl rfl rfl rfl) rfl (ltb rfl) ?_
  refine run_off (on_of rfl rfl rfl rfl) rfl (ltb rfl) ?_
  refine run_off (on_of rfl rfl rfl rfl) rfl (ltb rfl) ?_
  refine run_pu rfl (pick_step rfl rfl rfl) rfl (ltb rfl) ?_
  refine mvL rfl rfl rfl rfl (ltb rfl) ?_
  refine run_off (on_of rfl rfl rfl rfl) rfl (ltb rfl) ?_
  refine run_off (on_of rfl rfl rfl rfl) rfl (ltb rfl) ?_
  refine run_off (on_of rfl rfl rfl rfl) rfl (ltb rfl) ?_
  refine run_off (on_of rfl rfl rfl rfl) rfl (ltb rfl) ?_
  refine run_off (on_of rfl rfl rfl rfl) rfl (ltb rfl) ?_
  refine run_off (on_of rfl rfl rfl rfl) rfl (ltb rfl) ?_
  refine run_off (on_of rfl rfl rfl rfl) rfl (ltb rfl) ?_
  refine run_pu rfl (pick_step rfl rfl rfl) rfl (ltb rfl) ?_
  refine run_ops_nil ?_
  refine run_sub_code (σ' := ⟨[(2, .optr (.loc 2) 0 0), (3, .optr (.loc 3) 0 0), (4, .bool false), (33, .bool true)], [(3, ⟨25, 4, true, [[.int .i64 k2, .int .i64 n2, .str s2, .imm q2 4 f2 (cellss ks2)]]⟩), (2, ⟨25, 4, true, [[.int .i64 k1, .int .i64 n1, .str s1, .imm q1 4 f1 (cellss ks1)]]⟩)], [], O, tk⟩) (Sub.env _ ⟨rfl, rfl, rfl, rfl, trivial⟩) ?_
  refine run_if rfl rfl (fun _ => ?_) (fun h => by cases h)
  refine run_sr ?_
  refine mvR rfl rfl rfl rfl (ltb rfl) ?_
  refine run_ops_nil ?_
  refine run_ret_to ?_
  replace hM := some_t hM
  subst hM
  refine fin_x hG rfl rfl rfl (v' := .bool false) (by rfl) ⟨rfl, (show tk ≤ tk by omega), _, rfl, rfl⟩
 ·replace hM := ite_f hb3 hM
  refine run_puG (on_of rfl rfl rfl rfl) (fieldAddr_step hG rfl rfl rfl rfl rfl) rfl (ltb rfl) ?_
  refine run_rdG (on_of rfl rfl rfl rfl) (aload_rd hG rfl rfl rfl (by first | (simp [ldok]; done) | exact List.not_mem_nil | trivial)) rfl (ltb rfl) ?_
  refine run_puG (on_of rfl rfl rfl rfl) (fieldAddr_step hG rfl rfl rfl rfl rfl) rfl (ltb rfl) ?_
  refine run_rdG (on_of rfl rfl rfl rfl) (aload_rd hG rfl rfl rfl (by first | (simp [ldok]; done) | exact List.not_mem_nil | trivial)) rfl (ltb rfl) ?_
  refine run_puG (on_of rfl rfl rfl rfl) (abin_step rfl rfl rfl rfl (fun _ h => by cases h)) rfl (ltb rfl) ?_
  refine run_pu rfl (pick_step rfl rfl rfl) rfl (ltb rfl) ?_
  refine mvL rfl rfl rfl rfl (ltb rfl) ?_
  refine run_splitb (i := 18) rfl (fun hb4 => ?_) (fun hb4 => ?_)
  ·replace hM := ite_t hb4 hM
   refine run_off (on_of rfl rfl rfl rfl) rfl (ltb rfl) ?_
   refine run_off (on_of rfl rfl rfl rfl) rfl (ltb rfl) ?_
   refine run_off (on_of rfl rfl rfl rfl) rfl (ltb rfl) ?_
   refine run_off (on_of rfl rfl rfl rfl) rfl (ltb rfl) ?_
   refine run_off (on_of rfl rfl rfl rfl) rfl (ltb rfl) ?_
   refine run_pu rfl (pick_step rfl rfl rfl) rfl (ltb rfl) ?_
   refine mvL rfl rfl rfl rfl (ltb rfl) ?_
   refine run_off (on_of rfl rfl rfl rfl) rfl (ltb rfl) ?_
   refine run_off (on_of rfl rfl rfl rfl) rfl (ltb rfl) ?_
   refine run_off (on_of rfl rfl rfl rfl) rfl (ltb rfl) ?_
   refine run_off (on_of rfl rfl rfl rfl) rfl (ltb rfl) ?_
   refine run_off (on_of rfl rfl rfl rfl) rfl (ltb rfl) ?_
   refine run_off (on_of rfl rfl rfl rfl) rfl (ltb rfl) ?_
   refine run_off (on_of rfl rfl rfl rfl) rfl (ltb rfl) ?_
   refine run_pu rfl (pick_step rfl rfl rfl) rfl (ltb rfl) ?_
   refine run_ops_nil ?_
   refine run_sub_code (σ' := ⟨[(2, .optr (.loc 2) 0 0), (3, .optr (.loc 3) 0 0), (4, .bool false), (33, .bool true)], [(3, ⟨25, 4, true, [[.int .i64 k2, .int .i64 n2, .str s2, .imm q2 4 f2 (cellss ks2)]]⟩), (2, ⟨25, 4, true, [[.int .i64 k1, .int .i64 n1, .str s1, .imm q1 4 f1 (cellss ks1)]]⟩)], [], O, tk⟩) (Sub.env _ ⟨rfl, rfl, rfl, rfl, trivial⟩) ?_
   refine run_if rfl rfl (fun _ => ?_) (fun h => by cases h)
   refine run_sr ?_
   refine mvR rfl rfl rfl rfl (ltb rfl) ?_
   refine run_ops_nil ?_
   refine run_ret_to ?_
   replace hM := some_t hM
   subst hM
   refine fin_x hG rfl rfl rfl (v' := .bool false) (by rfl) ⟨rfl, (show tk ≤ tk by omega), _, rfl, rfl⟩
  ·replace hM := ite_f hb4 hM
   refine run_puG (on_of rfl rfl rfl rfl) (fieldAddr_step hG rfl rfl rfl rfl rfl) rfl (ltb rfl) ?_
   refine run_rdG (on_of rfl rfl rfl rfl) (aload_rd hG rfl rfl rfl (by first | (simp [ldok]; done) | exact List.not_mem_nil | trivial)) rfl (ltb rfl) ?_
   refine run_puG (on_of rfl rfl rfl rfl) (fieldAddr_step hG rfl rfl rfl rfl rfl) rfl (ltb rfl) ?_
   refine run_rdG (on_of rfl rfl rfl rfl) (aload_rd hG rfl rfl rfl (by first | (simp [ldok]; done) | exact List.not_mem_nil | trivial)) rfl (ltb rfl) ?_
   refine run_puG (on_of rfl rfl rfl rfl) (abin_step rfl rfl rfl rfl (fun _ h => by cases h)) rfl (ltb rfl) ?_
   refine run_pu rfl (pick_step rfl rfl rfl) rfl (ltb rfl) ?_
   refine mvL rfl rfl rfl rfl (ltb rfl) ?_
   refine run_splitb (i := 25) rfl (fun hb5 => ?_) (fun hb5 => ?_)
   ·replace hM := ite_t hb5 hM
    refine run_off (on_of rfl rfl rfl rfl) rfl (ltb rfl) ?_
    refine run_off (on_of rfl rfl rfl rfl) rfl (ltb rfl) ?_
    refine run_off (on_of rfl rfl rfl rfl) rfl (ltb rfl) ?_
    refine run_off (on_of rfl rfl rfl rfl) rfl (ltb rfl) ?_
    refine run_off (on_of rfl rfl rfl rfl) rfl (ltb rfl) ?_
    refine run_off (on_of rfl rfl rfl rfl) rfl (ltb rfl) ?_
    refine run_off (on_of rfl rfl rfl rfl) rfl (ltb rfl) ?_
    refine run_pu rfl (pick_step rfl rfl rfl) rfl (ltb rfl) ?_
    refine run_ops_nil ?_
    refine run_sub_code (σ' := ⟨[(2, .optr (.loc 2) 0 0), (3, .optr (.loc 3) 0 0), (4, .bool false), (33, .bool true)], [(3, ⟨25, 4, true, [[.int .i64 k2, .int .i64 n2, .str s2, .imm q2 4 f2 (cellss ks2)]]⟩), (2, ⟨25, 4, true, [[.int .i64 k1, .int .i64 n1, .str s1, .imm q1 4 f1 (cellss ks1)]]⟩)], [], O, tk⟩) (Sub.env _ ⟨rfl, rfl, rfl, rfl, trivial⟩) ?_
    refine run_if rfl rfl (fun _ => ?_) (fun h => by cases h)
    refine run_sr ?_
    refine mvR rfl rfl rfl rfl (ltb rfl) ?_
    refine run_ops_nil ?_
    refine run_ret_to ?_
    replace hM := some_t hM
    subst hM
    refine fin_x hG rfl rfl rfl (v' := .bool false) (by rfl) ⟨rfl, (show tk ≤ tk by omega), _, rfl, rfl⟩
   ·replace hM := ite_f hb5 hM
    refine run_puG (on_of rfl rfl rfl rfl) (fieldAddr_step hG rfl rfl rfl rfl rfl) rfl (ltb rfl) ?_
    refine run_rdG (on_of rfl rfl rfl rfl) (aload_rd hG rfl rfl rfl (by first | (simp [ldok]; done) | exact List.not_mem_nil | trivial)) rfl (ltb rfl) ?_
    refine run_puG (on_of rfl rfl rfl rfl) (lenImm_step hG rfl rfl rfl rfl (tlen _)) rfl (ltb rfl) ?_
    refine run_puG (on_of rfl rfl rfl rfl) (fieldAddr_step hG rfl rfl rfl rfl rfl) rfl (ltb rfl) ?_
    refine run_rdG (on_of rfl rfl rfl rfl) (aload_rd hG rfl rfl rfl (by first | (simp [ldok]; done) | exact List.not_mem_nil | trivial)) rfl (ltb rfl) ?_
    refine run_puG (on_of rfl rfl rfl rfl) (lenImm_step hG rfl rfl rfl rfl (tlen _)) rfl (ltb rfl) ?_
    refine run_puG (on_of rfl rfl rfl rfl) (abin_step rfl rfl rfl rfl (fun _ h => by cases h)) rfl (ltb rfl) ?_
    refine run_pu rfl (pick_step rfl rfl rfl) rfl (ltb rfl) ?_
    refine run_ops_nil ?_
    refine run_sub_code (σ' := ⟨[(2, .optr (.loc 2) 0 0), (3, .optr (.loc 3) 0 0), (4, .bool false), (33, .bool ((((ers ks1)).length : Int) != (((ers ks2)).length : Int)))], [(3, ⟨25, 4, true, [[.int .i64 k2, .int .i64 n2, .str s2, .imm q2 4 f2 (cellss ks2)]]⟩), (2, ⟨25, 4, true, [[.int .i64 k1, .int .i64 n1, .str s1, .imm q1 4 f1 (cellss ks1)]]⟩)], [], O, tk⟩) (Sub.env _ ⟨rfl, rfl, rfl, rfl, trivial⟩) ?_
    refine run_ifb rfl rfl (fun hb6 => ?_) (fun hb6 => ?_)
    ·replace hM := ite_t hb6 hM
     refine run_sr ?_
     refine mvR rfl rfl rfl rfl (ltb rfl) ?_
     refine run_ops_nil ?_
     refine run_ret_to ?_
     replace hM := some_t hM
     subst hM
     refine fin_x hG rfl rfl rfl (v' := .bool false) (by rfl) ⟨rfl, (show tk ≤ tk by omega), _, rfl, rfl⟩
    ·replace hM := ite_f hb6 hM
     refine run_skip ?_
     refine run_seq ?_
     refine run_sr ?_
     refine mvR rfl rfl rfl rfl (ltb rfl) ?_
     refine run_ops_nil ?_
     refine run_block ?_
     refine run_rounds (fun m σ => ∃ (i7 : Int) (tkw_same_L1 : Nat), tk ≤ tkw_same_L1 ∧ w_same_L1 (w_same n) (T.mk k1 n1 s1 (ers ks1)) (T.mk k2 n2 s2 (ers ks2)) m i7 = some r ∧ σ = ⟨[(2, .optr (.loc 2) 0 0), (3, .optr (.loc 3) 0 0), (4, .bool false), (5, .int .i64 i7)], [(3, ⟨25, 4, true, [[.int .i64 k2, .int .i64 n2, .str s2, .imm q2 4 f2 (cellss ks2)]]⟩), (2, ⟨25, 4, true, [[.int .i64 k1, .int .i64 n1, .str s1, .imm q1 4 f1 (cellss ks1)]]⟩)], [], O, tkw_same_L1⟩) n (Sub.env [(2, .optr (.loc 2) 0 0), (3, .optr (.loc 3) 0 0), (4, .bool false), (5, .int .i64 0)] ⟨rfl, rfl, rfl, rfl, trivial⟩) ⟨0, tk, Nat.le_refl _, hM, rfl⟩ (fun m σ hI => ?_)
     clear hM
     obtain ⟨i7, tkw_same_L1, hle27, hM, rfl⟩ := hI
     obtain _ | m := m
     ·exact absurd hM (by rw [w_same_L1]; exact fun h => by cases h)
     rw [w_same_L1] at hM
     refine run_seq ?_
     refine run_sr ?_
     refine mvL rfl rfl rfl rfl (ltb rfl) ?_
     refine run_pu rfl (fieldAddr_step hG rfl rfl rfl rfl rfl) rfl (ltb rfl) ?_
     refine run_ld hG rfl rfl rfl rfl rfl (ltb rfl) ?_
     refine run_pu rfl (lenImm_step hG rfl rfl rfl rfl (tlen _)) rfl (ltb rfl) ?_
     refine run_bin rfl rfl rfl rfl rfl rfl rfl (ltb rfl) ?_
     refine run_ops_nil ?_
     refine run_ifd rfl rfl (fun hb8 => ?_) (fun hb8 => ?_)
     ·replace hM := ite_t hb8 hM
      refine run_skip ?_
      refine run_seq ?_
      refine run_block ?_
      refine run_seq ?_
      refine run_draw [] (n := 12) mixed rfl (fun _ h => absurd h List.not_mem_nil) ?_
      refine AAny.take (i := 0) rfl (by kernel_rfl) (by kernel_rfl) (by kernel_rfl) rfl rfl (ltb rfl) ((fieldAddr_step hG rfl rfl rfl rfl rfl).rd _) ?_
      refine AAny.take (i := 1) rfl (by kernel_rfl) (by kernel_rfl) (by kernel_rfl) rfl rfl (ltb rfl) (aload_rd hG rfl rfl rfl (by first | (simp [ldok]; done) | exact List.not_mem_nil | trivial)) ?_
      refine AAny.take (i := 2) rfl (by kernel_rfl) (by kernel_rfl) (by kernel_rfl) rfl rfl (ltb rfl) ((move_step (.inl rfl) rfl).rd _) ?_
      obtain ⟨y9, hy10, hM⟩ := bind_t hM
      obtain ⟨k11, n11, s11, q11, f11, ks11, rfl, hc12, hi13⟩ := tidx (ks := ks1) hy10
      refine AAny.take (i := 3) rfl (by kernel_rfl) (by kernel_rfl) (by kernel_rfl) rfl rfl (ltb rfl) ((indexImm_step hG rfl rfl rfl hi13 rfl rfl rfl rfl hc12).rd _) ?_
      refine AAny.take (i := 4) rfl (by kernel_rfl) (by kernel_rfl) (by kernel_rfl) rfl rfl (ltb rfl) (aload_rd hG rfl rfl rfl (by first | (simp [ldok]; done) | exact List.not_mem_nil | trivial)) ?_
      refine AAny.take (i := 5) rfl (by kernel_rfl) (by kernel_rfl) (by kernel_rfl) rfl rfl (ltb rfl) ((fieldAddr_step hG rfl rfl rfl rfl rfl).rd _) ?_
      refine AAny.take (i := 6) rfl (by kernel_rfl) (by kernel_rfl) (by kernel_rfl) rfl rfl (ltb rfl) (aload_rd hG rfl rfl rfl (by first | (simp [ldok]; done) | exact List.not_mem_nil | trivial)) ?_
      refine AAny.take (i := 7) rfl (by kernel_rfl) (by kernel_rfl) (by kernel_rfl) rfl rfl (ltb rfl) ((move_step (.inl rfl) rfl).rd _) ?_
      obtain ⟨y14, hy15, hM⟩ := bind_t hM
      obtain ⟨k16, n16, s16, q16, f16, ks16, rfl, hc17, hi18⟩ := tidx (ks := ks2) hy15
      refine AAny.take (i := 8) rfl (by kernel_rfl) (by kernel_rfl) (by kernel_rfl) rfl rfl (ltb rfl) ((indexImm_step hG rfl rfl rfl hi18 rfl rfl rfl rfl hc17).rd _) ?_
      refine AAny.take (i := 9) rfl (by kernel_rfl) (by kernel_rfl) (by kernel_rfl) rfl rfl (ltb rfl) (aload_rd hG rfl rfl rfl (by first | (simp [ldok]; done) | exact List.not_mem_nil | trivial)) ?_
      obtain ⟨r19, hg20, hM⟩ := bind_t hM
      refine AAny.one (i := 10) (by kernel_rfl) (AOp.call rfl rfl rfl rfl (ltb rfl) rfl rfl rfl (fun _ h => absurd h List.not_mem_nil) (fun _ h => absurd h List.not_mem_nil) (ih_w_same k11 n11 s11 q11 f11 ks11 k16 n16 s16 q16 f16 ks16 hg20 _ _) (callK_retX (fun v tk21 (hle22 : tkw_same_L1 ≤ tk21) h23 => ?_)))
      subst h23
      refine AAny.take (i := 11) rfl (by kernel_rfl) (by kernel_rfl) (by kernel_rfl) rfl rfl (ltb rfl) ((aun_step rfl rfl rfl).rd _) ?_
      refine AAny.done (by kernel_rfl) ?_
      refine run_sub_code (σ' := ⟨[(2, .optr (.loc 2) 0 0), (3, .optr (.loc 3) 0 0), (4, .bool false), (5, .int .i64 i7), (52, .bool (!r19))], [(3, ⟨25, 4, true, [[.int .i64 k2, .int .i64 n2, .str s2, .imm q2 4 f2 (cellss ks2)]]⟩), (2, ⟨25, 4, true, [[.int .i64 k1, .int .i64 n1, .str s1, .imm q1 4 f1 (cellss ks1)]]⟩)], [], O, tk21⟩) (Sub.env _ ⟨rfl, rfl, rfl, rfl, rfl, trivial⟩) ?_
      refine run_ifb rfl rfl (fun hb26 => ?_) (fun hb26 => ?_)
      ·replace hM := ite_t hb26 hM
       refine run_sr ?_
       refine mvR rfl rfl rfl rfl (ltb rfl) ?_
       refine run_ops_nil ?_
       refine run_ret_to ?_
       replace hM := some_t hM
       subst hM
       refine fin_x hG rfl rfl rfl (v' := .bool false) (by rfl) ⟨rfl, (show tk ≤ tk21 by omega), _, rfl, rfl⟩
      ·replace hM := ite_f hb26 hM
       refine run_skip ?_
       refine run_blk ?_
       refine run_region ?_
       refine mvL rfl rfl rfl rfl (ltb rfl) ?_
       refine run_bin rfl rfl rfl rfl rfl rfl rfl (ltb rfl) ?_
       refine mvR rfl rfl rfl rfl (ltb rfl) ?_
       refine run_ops_nil ?_
       exact run_loop_end ⟨m, _, Nat.lt_succ_self _, ⟨(IntKind.i64.wrap (i7 + 1)), tk21, (show tk ≤ tk21 by omega), hM, rfl⟩, Sub.env [(2, .optr (.loc 2) 0 0), (3, .optr (.loc 3) 0 0), (4, .bool false), (5, .int .i64 (IntKind.i64.wrap (i7 + 1)))] ⟨rfl, rfl, rfl, rfl, trivial⟩⟩
     ·replace hM := ite_f hb8 hM
      refine run_exit_to rfl ?_
      refine run_sr ?_
      refine mvR rfl rfl rfl rfl (ltb rfl) ?_
      refine run_ops_nil ?_
      refine run_ret_to ?_
      replace hM := some_t hM
      subst hM
      refine fin_x hG rfl rfl rfl (v' := .bool true) (by rfl) ⟨rfl, (show tk ≤ tkw_same_L1 by omega), _, rfl, rfl⟩

theorem w_same_all : ∀ (n : Nat), (∀ (k1 : Int) (n1 : Int) (s1 : ByteArray) (q1 : Nat) (f1 : Bool) (ks1 : List LT) (k2 : Int) (n2 : Int) (s2 : ByteArray) (q2 : Nat) (f2 : Bool) (ks2 : List LT) {r : Bool}, w_same n (T.mk k1 n1 s1 (ers ks1)) (T.mk k2 n2 s2 (ers ks2)) = some r → ∀ (O : Heap) (tk : Nat), ACalls Go.Proofs.Tryd.prog 13 [.agg [.int .i64 k1, .int .i64 n1, .str s1, .imm q1 4 f1 (cellss ks1)], .agg [.int .i64 k2, .int .i64 n2, .str s2, .imm q2 4 f2 (cellss ks2)]] O tk (RetX O tk (fun v tk' => v = .bool r)))
 | 0 => by intro k1 n1 s1 q1 f1 ks1 k2 n2 s2 q2 f2 ks2 r hM; rw [w_same] at hM; cases hM
 | n + 1 => have ih := w_same_all n; w_same_st n (ih)

theorem w_same_ok (n : Nat) : ∀ (k1 : Int) (n1 : Int) (s1 : ByteArray) (q1 : Nat) (f1 : Bool) (ks1 : List LT) (k2 : Int) (n2 : Int) (s2 : ByteArray) (q2 : Nat) (f2 : Bool) (ks2 : List LT) {r : Bool}, w_same n (T.mk k1 n1 s1 (ers ks1)) (T.mk k2 n2 s2 (ers ks2)) = some r → ∀ (O : Heap) (tk : Nat), ACalls Go.Proofs.Tryd.prog 13 [.agg [.int .i64 k1, .int .i64 n1, .str s1, .imm q1 4 f1 (cellss ks1)], .agg [.int .i64 k2, .int .i64 n2, .str s2, .imm q2 4 f2 (cellss ks2)]] O tk (RetX O tk (fun v tk' => v = .bool r)) := w_same_all n

def w_FnLifts (n : Nat) (l1 : List Int) (l2 : List Int) : Option Bool :=
 if ((l1).length : Int) > 1048576 then
  some true
 else
  if ((l2).length : Int) > 1048576 then
   some true
  else
   (s_TermOf n l1).bind fun r5 =>
   (w_at l2 0 5).bind fun r18 =>
   (i_Lift n r5.1 r18 1).bind fun r25 =>
   (i_Occurs n r25.1 r18).bind fun r38 =>
   (i_Lower n r25.1 r18).bind fun r51 =>
   (i_Occurs n r5.1 r18).bind fun r64 =>
   (i_Occurs n r25.1 (IntKind.i64.wrap (r18 + 1))).bind fun r77 =>
   if (r25.2 != 0) = true then
    some false
   else
    if (r38.2 != 0) = true then
     some false
    else
     if (r51.2 != 0) = true then
      some false
     else
      if (r64.2 != 0) = true then
       some false
      else
       if (r77.2 != 0) = true then
        some false
       else
        if r38.1 = true then
         some false
        else
         if (!(r64.1 == r77.1)) = true then
          some false
         else
          (w_same n r51.1 r5.1).bind fun r97 =>
          if (!r97) = true then
           some false
          else
           (i_Lift n r25.1 r18 2).bind fun r105 =>
           (i_Lift n r5.1 r18 3).bind fun r118 =>
           if r105.2 = 0 then
            if r118.2 = 0 then
             (w_same n r105.1 r118.1).bind fun r133 =>
             if r133 = true then
              (i_Size r25.1).bind fun r141 =>
              (i_Size r5.1).bind fun r148 =>
              some (r141 == r148)
             else
              some false
            else
             some false
           else
            some false

set_option maxHeartbeats 20000000 in
set_option maxRecDepth 100000 in
theorem w_FnLifts_ok (n : Nat) : ∀ (q1 : Nat) (f1 : Bool) (l1 : List Int) (q2 : Nat) (f2 : Bool) (l2 : List Int) {r : Bool}, w_FnLifts n l1 l2 = some r → ∀ (O : Heap) (tk : Nat), ACalls Go.Proofs.Tryd.prog 3 [.imm q1 1 f1 ((l1 : List Int).map fun n => [AV.int .u8 n]), .imm q2 1 f2 ((l2 : List Int).map fun n => [AV.int .u8 n])] O tk (RetX O tk (fun v tk' => v = .bool r)) := by
 intro q1 f1 l1 q2 f2 l2 r hM O tk
 unfold w_FnLifts at hM
 refine acalls_of_run Go.Proofs.Tryd.func3 rfl rfl [] [] (Bor.nil _) [(0, .imm q1 1 f1 ((l1 : List Int).map fun n => [AV.int .u8 n])), (1, .imm q2 1 f2 ((l2 : List Int).map fun n => [AV.int .u8 n]))] (.cons (entS rfl) (.cons (entS rfl) (.nil _))) (leb rfl) (fun _ h => by cases h) (fun S0 hO htk hfz => ?_)
 refine run_sr ?_
 refine mvR rfl rfl rfl rfl (ltb rfl) ?_
 refine run_ops_nil ?_
 refine run_seq ?_
 refine run_sr ?_
 refine mvL rfl rfl rfl rfl (ltb rfl) ?_
 refine run_pu rfl (lenImm_step hG rfl rfl rfl rfl (ilen _)) rfl (ltb rfl) ?_
 refine run_bin rfl rfl rfl rfl rfl rfl rfl (ltb rfl) ?_
 refine mvL rfl rfl rfl rfl (ltb rfl) ?_
 refine run_splitd (i := 25) rfl (fun hb3 => ?_) (fun hb3 => ?_)
 ·replace hM := ite_t hb3 hM
  refine run_off (on_of rfl rfl rfl rfl) rfl (ltb rfl) ?_
  refine run_off (on_of rfl rfl rfl rfl) rfl (ltb rfl) ?_
  refine run_off (on_of rfl rfl rfl rfl) rfl (ltb rfl) ?_
  refine run_pu rfl (pick_step rfl rfl rfl) rfl (ltb rfl) ?_
  refine run_ops_nil ?_
  refine run_if rfl rfl (fun _ => ?_) (fun h => by cases h)
  refine run_sr ?_
  refine mvR rfl rfl rfl rfl (ltb rfl) ?_
  refine run_ops_nil ?_
  refine run_ret_to ?_
  replace hM := some_t hM
  subst hM
  refine fin_x hG rfl rfl rfl (v' := .bool true) (by rfl) ⟨rfl, (show tk ≤ tk by omega), _, rfl, rfl⟩
 ·replace hM := ite_f hb3 hM
  refine run_puG (on_of rfl rfl rfl rfl) (move_step (.inl rfl) rfl) rfl (ltb rfl) ?_
  refine run_puG (on_of rfl rfl rfl rfl) (lenImm_step hG rfl rfl rfl rfl (ilen _)) rfl (ltb rfl) ?_
  refine run_puG (on_of rfl rfl rfl rfl) (abin_step rfl rfl rfl rfl (fun _ h => by cases h)) rfl (ltb rfl) ?_
  refine run_pu rfl (pick_step rfl rfl rfl) rfl (ltb rfl) ?_
  refine run_ops_nil ?_
  refine run_ifd rfl rfl (fun hb4 => ?_) (fun hb4 => ?_)
  ·replace hM := ite_t hb4 hM
   refine run_sr ?_
   refine mvR rfl rfl rfl rfl (ltb rfl) ?_
   refine run_ops_nil ?_
   refine run_ret_to ?_
   replace hM := some_t hM
   subst hM
   refine fin_x hG rfl rfl rfl (v' := .bool true) (by rfl) ⟨rfl, (show tk ≤ tk by omega), _, rfl, rfl⟩
  ·replace hM := ite_f hb4 hM
   refine run_skip ?_
   refine run_sr ?_
   refine mvL rfl rfl rfl rfl (ltb rfl) ?_
   obtain ⟨r5, hg6, hM⟩ := bind_t hM
   refine run_call rfl rfl rfl (ltb rfl) rfl rfl rfl (fun _ h => absurd h List.not_mem_nil) (s_TermOf_ok n q1 f1 l1 hg6 _ _) (callK_retX (fun v tk7 (hle8 : tk ≤ tk7) h9 => ?_))
   obtain ⟨ra14, ra15, va16, va17, rfl, rfl, ⟨k10, n10, s10, q10, f10, ks10, rfl, rfl, hf11⟩, rfl⟩ := h9
   refine mvL rfl rfl rfl rfl (ltb rfl) ?_
   refine run_pu rfl (extract_step rfl rfl rfl) rfl (ltb rfl) ?_
   refine run_pu rfl (extract_step rfl rfl rfl) rfl (ltb rfl) ?_
   refine run_op rfl (alloc_step (d := 5) hG rfl rfl rfl) rfl (ltb rfl) ?_
   refine run_op0 rfl (store_step hG rfl rfl rfl rfl rfl rfl rfl rfl) rfl ?_
   refine mvR rfl rfl rfl rfl (ltb rfl) ?_
   refine run_ops_nil ?_
   refine run_sub_code (σ' := ⟨[(1, .imm q2 1 f2 ((l2 : List Int).map fun n => [AV.int .u8 n])), (4, .bool false), (5, .optr (.loc 5) 0 0)], [(5, ⟨25, 4, true, [[.int .i64 k10, .int .i64 n10, .str s10, .imm q10 4 f10 (cellss ks10)]]⟩)], [], O, tk7⟩) (Sub.env _ ⟨rfl, rfl, rfl, trivial⟩) ?_
   refine run_sr ?_
   refine mvL rfl rfl rfl rfl (ltb rfl) ?_
   obtain ⟨r18, hg19, hM⟩ := bind_t hM
   refine run_call rfl rfl rfl (ltb rfl) rfl rfl rfl (fun _ h => absurd h List.not_mem_nil) (w_at_ok q2 f2 l2 0 5 hg19 _ _) (callK_retX (fun v tk20 (hle21 : tk7 ≤ tk20) h22 => ?_))
   subst h22
   refine mvR rfl rfl rfl rfl (ltb rfl) ?_
   refine run_ops_nil ?_
   refine run_sr ?_
   refine run_ld hG rfl rfl rfl rfl rfl (ltb rfl) ?_
   refine mvL rfl rfl rfl rfl (ltb rfl) ?_
   obtain ⟨r25, hg26, hM⟩ := bind_t hM
   refine run_call rfl rfl rfl (ltb rfl) rfl rfl rfl (fun _ h => absurd h List.not_mem_nil) (i_Lift_ok n k10 n10 s10 q10 f10 ks10 r18 1 hg26 _ _) (callK_retX (fun v tk27 (hle28 : tk20 ≤ tk27) h29 => ?_))
   obtain ⟨ra34, ra35, va36, va37, rfl, rfl, ⟨k30, n30, s30, q30, f30, ks30, rfl, rfl, hf31⟩, rfl⟩ := h29
   refine mvL rfl rfl rfl rfl (ltb rfl) ?_
   refine run_pu rfl (extract_step rfl rfl rfl) rfl (ltb rfl) ?_
   refine run_pu rfl (extract_step rfl rfl rfl) rfl (ltb rfl) ?_
   refine run_op rfl (alloc_step (d := 8) hG rfl rfl rfl) rfl (ltb rfl) ?_
   refine run_op0 rfl (store_step hG rfl rfl rfl rfl rfl rfl rfl rfl) rfl ?_
   refine mvR rfl rfl rfl rfl (ltb rfl) ?_
   refine run_ops_nil ?_
   refine run_sr ?_
   refine run_ld hG rfl rfl rfl rfl rfl (ltb rfl) ?_
   refine mvL rfl rfl rfl rfl (ltb rfl) ?_
   obtain ⟨r38, hg39, hM⟩ := bind_t hM
   refine run_call rfl rfl rfl (ltb rfl) rfl rfl rfl (fun _ h => absurd h List.not_mem_nil) (i_Occurs_ok n k30 n30 s30 q30 f30 ks30 r18 hg39 _ _) (callK_retX (fun v tk40 (hle41 : tk27 ≤ tk40) h42 => ?_))
   obtain ⟨ra47, ra48, va49, va50, rfl, rfl, rfl, rfl⟩ := h42
   refine mvL rfl rfl rfl rfl (ltb rfl) ?_
   refine run_pu rfl (extract_step rfl rfl rfl) rfl (ltb rfl) ?_
   refine run_pu rfl (extract_step rfl rfl rfl) rfl (ltb rfl) ?_
   refine mvR rfl rfl rfl rfl (ltb rfl) ?_
   refine mvR rfl rfl rfl rfl (ltb rfl) ?_
   refine run_ops_nil ?_
   refine run_sub_code (σ' := ⟨[(4, .bool false), (5, .optr (.loc 5) 0 0), (7, .int .i64 r18), (8, .optr (.loc 8) 0 0), (9, .int .i64 ra35), (10, .bool ra47), (11, .int .i64 ra48)], [(8, ⟨25, 4, true, [[.int .i64 k30, .int .i64 n30, .str s30, .imm q30 4 f30 (cellss ks30)]]⟩), (5, ⟨25, 4, true, [[.int .i64 k10, .int .i64 n10, .str s10, .imm q10 4 f10 (cellss ks10)]]⟩)], [], O, tk40⟩) (Sub.env _ ⟨rfl, rfl, rfl, rfl, rfl, rfl, rfl, trivial⟩) ?_
   refine run_sr ?_
   refine run_ld hG rfl rfl rfl rfl rfl (ltb rfl) ?_
   refine mvL rfl rfl rfl rfl (ltb rfl) ?_
   obtain ⟨r51, hg52, hM⟩ := bind_t hM
   refine run_call rfl rfl rfl (ltb rfl) rfl rfl rfl (fun _ h => absurd h List.not_mem_nil) (i_Lower_ok n k30 n30 s30 q30 f30 ks30 r18 hg52 _ _) (callK_retX (fun v tk53 (hle54 : tk40 ≤ tk53) h55 => ?_))
   obtain ⟨ra60, ra61, va62, va63, rfl, rfl, ⟨k56, n56, s56, q56, f56, ks56, rfl, rfl, hf57⟩, rfl⟩ := h55
   refine mvL rfl rfl rfl rfl (ltb rfl) ?_
   refine run_pu rfl (extract_step rfl rfl rfl) rfl (ltb rfl) ?_
   refine run_pu rfl (extract_step rfl rfl rfl) rfl (ltb rfl) ?_
   refine run_op rfl (alloc_step (d := 12) hG rfl rfl rfl) rfl (ltb rfl) ?_
   refine run_op0 rfl (store_step hG rfl rfl rfl rfl rfl rfl rfl rfl) rfl ?_
   refine mvR rfl rfl rfl rfl (ltb rfl) ?_
   refine run_ops_nil ?_
   refine run_sr ?_
   refine run_ld hG rfl rfl rfl rfl rfl (ltb rfl) ?_
   refine mvL rfl rfl rfl rfl (ltb rfl) ?_
   obtain ⟨r64, hg65, hM⟩ := bind_t hM
   refine run_call rfl rfl rfl (ltb rfl) rfl rfl rfl (fun _ h => absurd h List.not_mem_nil) (i_Occurs_ok n k10 n10 s10 q10 f10 ks10 r18 hg65 _ _) (callK_retX (fun v tk66 (hle67 : tk53 ≤ tk66) h68 => ?_))
   obtain ⟨ra73, ra74, va75, va76, rfl, rfl, rfl, rfl⟩ := h68
   refine mvL rfl rfl rfl rfl (ltb rfl) ?_
   refine run_pu rfl (extract_step rfl rfl rfl) rfl (ltb rfl) ?_
   refine run_pu rfl (extract_step rfl rfl rfl) rfl (ltb rfl) ?_
   refine mvR rfl rfl rfl rfl (ltb rfl) ?_
   refine mvR rfl rfl rfl rfl (ltb rfl) ?_
   refine run_ops_nil ?_
   refine run_sub_code (σ' := ⟨[(4, .bool false), (5, .optr (.loc 5) 0 0), (7, .int .i64 r18), (8, .optr (.loc 8) 0 0), (9, .int .i64 ra35), (10, .bool ra47), (11, .int .i64 ra48), (12, .optr (.loc 12) 0 0), (13, .int .i64 ra61), (14, .bool ra73), (15, .int .i64 ra74)], [(12, ⟨25, 4, true, [[.int .i64 k56, .int .i64 n56, .str s56, .imm q56 4 f56 (cellss ks56)]]⟩), (8, ⟨25, 4, true, [[.int .i64 k30, .int .i64 n30, .str s30, .imm q30 4 f30 (cellss ks30)]]⟩), (5, ⟨25, 4, true, [[.int .i64 k10, .int .i64 n10, .str s10, .imm q10 4 f10 (cellss ks10)]]⟩)], [], O, tk66⟩) (Sub.env _ ⟨rfl, rfl, rfl, rfl, rfl, rfl, rfl, rfl, rfl, rfl, rfl, trivial⟩) ?_
   refine run_sr ?_
   refine run_ld hG rfl rfl rfl rfl rfl (ltb rfl) ?_
   refine mvL rfl rfl rfl rfl (ltb rfl) ?_
   refine run_bin rfl rfl rfl rfl rfl rfl rfl (ltb rfl) ?_
   obtain ⟨r77, hg78, hM⟩ := bind_t hM
   refine run_call rfl rfl rfl (ltb rfl) rfl rfl rfl (fun _ h => absurd h List.not_mem_nil) (i_Occurs_ok n k30 n30 s30 q30 f30 ks30 (IntKind.i64.wrap (r18 + 1)) hg78 _ _) (callK_retX (fun v tk79 (hle80 : tk66 ≤ tk79) h81 => ?_))
   obtain ⟨ra86, ra87, va88, va89, rfl, rfl, rfl, rfl⟩ := h81
   refine mvL rfl rfl rfl rfl (ltb rfl) ?_
   refine run_pu rfl (extract_step rfl rfl rfl) rfl (ltb rfl) ?_
   refine run_pu rfl (extract_step rfl rfl rfl) rfl (ltb rfl) ?_
   refine mvR rfl rfl rfl rfl (ltb rfl) ?_
   refine mvR rfl rfl rfl rfl (ltb rfl) ?_
   refine run_ops_nil ?_
   refine run_seq ?_
   refine run_sr ?_
   refine mvL rfl rfl rfl rfl (ltb rfl) ?_
   refine run_bin rfl rfl rfl rfl rfl rfl rfl (ltb rfl) ?_
   refine mvL rfl rfl rfl rfl (ltb rfl) ?_
   refine run_splitb (i := 70) rfl (fun hb90 => ?_) (fun hb90 => ?_)
   ·replace hM := ite_t hb90 hM
    refine run_off (on_of rfl rfl rfl rfl) rfl (ltb rfl) ?_
    refine run_off (on_of rfl rfl rfl rfl) rfl (ltb rfl) ?_
    refine run_pu rfl (pick_step rfl rfl rfl) rfl (ltb rfl) ?_
    refine mvL rfl rfl rfl rfl (ltb rfl) ?_
    refine run_off (on_of rfl rfl rfl rfl) rfl (ltb rfl) ?_
    refine run_off (on_of rfl rfl rfl rfl) rfl (ltb rfl) ?_
    refine run_pu rfl (pick_step rfl rfl rfl) rfl (ltb rfl) ?_
    refine mvL rfl rfl rfl rfl (ltb rfl) ?_
    refine run_off (on_of rfl rfl rfl rfl) rfl (ltb rfl) ?_
    refine run_off (on_of rfl rfl rfl rfl) rfl (ltb rfl) ?_
    refine run_pu rfl (pick_step rfl rfl rfl) rfl (ltb rfl) ?_
    refine mvL rfl rfl rfl rfl (ltb rfl) ?_
    refine run_off (on_of rfl rfl rfl rfl) rfl (ltb rfl) ?_
    refine run_off (on_of rfl rfl rfl rfl) rfl (ltb rfl) ?_
    refine run_pu rfl (pick_step rfl rfl rfl) rfl (ltb rfl) ?_
    refine mvL rfl rfl rfl rfl (ltb rfl) ?_
    refine run_off (on_of rfl rfl rfl rfl) rfl (ltb rfl) ?_
    refine run_pu rfl (pick_step rfl rfl rfl) rfl (ltb rfl) ?_
    refine mvL rfl rfl rfl rfl (ltb rfl) ?_
    refine run_off (on_of rfl rfl rfl rfl) rfl (ltb rfl) ?_
    refine run_off (on_of rfl rfl rfl rfl) rfl (ltb rfl) ?_
    refine run_off (on_of rfl rfl rfl rfl) rfl (ltb rfl) ?_
    refine run_pu rfl (pick_step rfl rfl rfl) rfl (ltb rfl) ?_
    refine mvL rfl rfl rfl rfl (ltb rfl) ?_
    refine run_off (on_of rfl rfl rfl rfl) rfl (ltb rfl) ?_
    refine run_off (on_of rfl rfl rfl rfl) rfl (ltb rfl) ?_
    refine run_off (on_of rfl rfl rfl rfl) rfl (ltb rfl) ?_
    refine run_off (on_of rfl rfl rfl rfl) rfl (ltb rfl) ?_
    refine run_pu rfl (pick_step rfl rfl rfl) rfl (ltb rfl) ?_
    refine run_ops_nil ?_
    refine run_sub_code (σ' := ⟨[(4, .bool false), (5, .optr (.loc 5) 0 0), (7, .int .i64 r18), (8, .optr (.loc 8) 0 0), (99, .bool true)], [(8, ⟨25, 4, true, [[.int .i64 k30, .int .i64 n30, .str s30, .imm q30 4 f30 (cellss ks30)]]⟩), (5, ⟨25, 4, true, [[.int .i64 k10, .int .i64 n10, .str s10, .imm q10 4 f10 (cellss ks10)]]⟩)], [], O, tk79⟩) (Sub.trans (Sub.drop (k := 12) rfl) (Sub.env _ ⟨rfl, rfl, rfl, rfl, rfl, trivial⟩)) ?_
    refine run_if rfl rfl (fun _ => ?_) (fun h => by cases h)
    refine run_sr ?_
    refine mvR rfl rfl rfl rfl (ltb rfl) ?_
    refine run_ops_nil ?_
    refine run_ret_to ?_
    replace hM := some_t hM
    subst hM
    refine fin_x hG rfl rfl rfl (v' := .bool false) (by rfl) ⟨rfl, (show tk ≤ tk79 by omega), _, rfl, rfl⟩
   ·replace hM := ite_f hb90 hM
    refine run_puG (on_of rfl rfl rfl rfl) (move_step (.inl rfl) rfl) rfl (ltb rfl) ?_
    refine run_puG (on_of rfl rfl rfl rfl) (abin_step rfl rfl rfl rfl (fun _ h => by cases h)) rfl (ltb rfl) ?_
    refine run_pu rfl (pick_step rfl rfl rfl) rfl (ltb rfl) ?_
    refine mvL rfl rfl rfl rfl (ltb rfl) ?_
    refine run_splitb (i := 74) rfl (fun hb91 => ?_) (fun hb91 => ?_)
    ·replace hM := ite_t hb91 hM
     refine run_off (on_of rfl rfl rfl rfl) rfl (ltb rfl) ?_
     refine run_off (on_of rfl rfl rfl rfl) rfl (ltb rfl) ?_
     refine run_pu rfl (pick_step rfl rfl rfl) rfl (ltb rfl) ?_
     refine mvL rfl rfl rfl rfl (ltb rfl) ?_
     refine run_off (on_of rfl rfl rfl rfl) rfl (ltb rfl) ?_
     refine run_off (on_of rfl rfl rfl rfl) rfl (ltb rfl) ?_
     refine run_pu rfl (pick_step rfl rfl rfl) rfl (ltb rfl) ?_
     refine mvL rfl rfl rfl rfl (ltb rfl) ?_
     refine run_off (on_of rfl rfl rfl rfl) rfl (ltb rfl) ?_
     refine run_off (on_of rfl rfl rfl rfl) rfl (ltb rfl) ?_
     refine run_pu rfl (pick_step rfl rfl rfl) rfl (ltb rfl) ?_
     refine mvL rfl rfl rfl rfl (ltb rfl) ?_
     refine run_off (on_of rfl rfl rfl rfl) rfl (ltb rfl) ?_
     refine run_pu rfl (pick_step rfl rfl rfl) rfl (ltb rfl) ?_
     refine mvL rfl rfl rfl rfl (ltb rfl) ?_
     refine run_off (on_of rfl rfl rfl rfl) rfl (ltb rfl) ?_
     refine run_off (on_of rfl rfl rfl rfl) rfl (ltb rfl) ?_
     refine run_off (on_of rfl rfl rfl rfl) rfl (ltb rfl) ?_
     refine run_pu rfl (pick_step rfl rfl rfl) rfl (ltb rfl) ?_
     refine mvL rfl rfl rfl rfl (ltb rfl) ?_
     refine run_off (on_of rfl rfl rfl rfl) rfl (ltb rfl) ?_
     refine run_off (on_of rfl rfl rfl rfl) rfl (ltb rfl) ?_
     refine run_off (on_of rfl rfl rfl rfl) rfl (ltb rfl) ?_
     refine run_off (on_of rfl rfl rfl rfl) rfl (ltb rfl) ?_
     refine run_pu rfl (pick_step rfl rfl rfl) rfl (ltb rfl) ?_
     refine run_ops_nil ?_
     refine run_sub_code (σ' := ⟨[(4, .bool false), (5, .optr (.loc 5) 0 0), (7, .int .i64 r18), (8, .optr (.loc 8) 0 0), (99, .bool true)], [(8, ⟨25, 4, true, [[.int .i64 k30, .int .i64 n30, .str s30, .imm q30 4 f30 (cellss ks30)]]⟩), (5, ⟨25, 4, true, [[.int .i64 k10, .int .i64 n10, .str s10, .imm q10 4 f10 (cellss ks10)]]⟩)], [], O, tk79⟩) (Sub.trans (Sub.drop (k := 12) rfl) (Sub.env _ ⟨rfl, rfl, rfl, rfl, rfl, trivial⟩)) ?_
     refine run_if rfl rfl (fun _ => ?_) (fun h => by cases h)
     refine run_sr ?_
     refine mvR rfl rfl rfl rfl (ltb rfl) ?_
     refine run_ops_nil ?_
     refine run_ret_to ?_
     replace hM := some_t hM
     subst hM
     refine fin_x hG rfl rfl rfl (v' := .bool false) (by rfl) ⟨rfl, (show tk ≤ tk79 by omega), _, rfl, rfl⟩
    ·replace hM := ite_f hb91 hM
     refine run_puG (on_of rfl rfl rfl rfl) (move_step (.inl rfl) rfl) rfl (ltb rfl) ?_
     refine run_puG (on_of rfl rfl rfl rfl) (abin_step rfl rfl rfl rfl (fun _ h => by cases h)) rfl (ltb rfl) ?_
     refine run_pu rfl (pick_step rfl rfl rfl) rfl (ltb rfl) ?_
     refine mvL rfl rfl rfl rfl (ltb rfl) ?_
     refine run_splitb (i := 78) rfl (fun hb92 => ?_) (fun hb92 => ?_)
     ·replace hM := ite_t hb92 hM
      refine run_off (on_of rfl rfl rfl rfl) rfl (ltb rfl) ?_
      refine run_off (on_of rfl rfl rfl rfl) rfl (ltb rfl) ?_
      refine run_pu rfl (pick_step rfl rfl rfl) rfl (ltb rfl) ?_
      refine mvL rfl rfl rfl rfl (ltb rfl) ?_
      refine run_off (on_of rfl rfl rfl rfl) rfl (ltb rfl) ?_
      refine run_off (on_of rfl rfl rfl rfl) rfl (ltb rfl) ?_
      refine run_pu rfl (pick_step rfl rfl rfl) rfl (ltb rfl) ?_
      refine mvL rfl rfl rfl rfl (ltb rfl) ?_
      refine run_off (on_of rfl rfl rfl rfl) rfl (ltb rfl) ?_
      refine run_pu rfl (pick_step rfl rfl rfl) rfl (ltb rfl) ?_
      refine mvL rfl rfl rfl rfl (ltb rfl) ?_
      refine run_off (on_of rfl rfl rfl rfl) rfl (ltb rfl) ?_
      refine run_off (on_of rfl rfl rfl rfl) rfl (ltb rfl) ?_
      refine run_off (on_of rfl rfl rfl rfl) rfl (ltb rfl) ?_
      refine run_pu rfl (pick_step rfl rfl rfl) rfl (ltb rfl) ?_
      refine mvL rfl rfl rfl rfl (ltb rfl) ?_
      refine run_off (on_of rfl rfl rfl rfl) rfl (ltb rfl) ?_
      refine run_off (on_of rfl rfl rfl rfl) rfl (ltb rfl) ?_
      refine run_off (on_of rfl rfl rfl rfl) rfl (ltb rfl) ?_
      refine run_off (on_of rfl rfl rfl rfl) rfl (ltb rfl) ?_
      refine run_pu rfl (pick_step rfl rfl rfl) rfl (ltb rfl) ?_
      refine run_ops_nil ?_
      refine run_sub_code (σ' := ⟨[(4, .bool false), (5, .optr (.loc 5) 0 0), (7, .int .i64 r18), (8, .optr (.loc 8) 0 0), (99, .bool true)], [(8, ⟨25, 4, true, [[.int .i64 k30, .int .i64 n30, .str s30, .imm q30 4 f30 (cellss ks30)]]⟩), (5, ⟨25, 4, true, [[.int .i64 k10, .int .i64 n10, .str s10, .imm q10 4 f10 (cellss ks10)]]⟩)], [], O, tk79⟩) (Sub.trans (Sub.drop (k := 12) rfl) (Sub.env _ ⟨rfl, rfl, rfl, rfl, rfl, trivial⟩)) ?_
      refine run_if rfl rfl (fun _ => ?_) (fun h => by cases h)
      refine run_sr ?_
      refine mvR rfl rfl rfl rfl (ltb rfl) ?_
      refine run_ops_nil ?_
      refine run_ret_to ?_
      replace hM := some_t hM
      subst hM
      refine fin_x hG rfl rfl rfl (v' := .bool false) (by rfl) ⟨rfl, (show tk ≤ tk79 by omega), _, rfl, rfl⟩
     ·replace hM := ite_f hb92 hM
      refine run_puG (on_of rfl rfl rfl rfl) (move_step (.inl rfl) rfl) rfl (ltb rfl) ?_
      refine run_puG (on_of rfl rfl rfl rfl) (abin_step rfl rfl rfl rfl (fun _ h => by cases h)) rfl (ltb rfl) ?_
      refine run_pu rfl (pick_step rfl rfl rfl) rfl (ltb rfl) ?_
      refine mvL rfl rfl rfl rfl (ltb rfl) ?_
      refine run_splitb (i := 82) rfl (fun hb93 => ?_) (fun hb93 => ?_)
      ·replace hM := ite_t hb93 hM
       refine run_off (on_of rfl rfl rfl rfl) rfl (ltb rfl) ?_
       refine run_off (on_of rfl rfl rfl rfl) rfl (ltb rfl) ?_
       refine run_pu rfl (pick_step rfl rfl rfl) rfl (ltb rfl) ?_
       refine mvL rfl rfl rfl rfl (ltb rfl) ?_
       refine run_off (on_of rfl rfl rfl rfl) rfl (ltb rfl) ?_
       refine run_pu rfl (pick_step rfl rfl rfl) rfl (ltb rfl) ?_
       refine mvL rfl rfl rfl rfl (ltb rfl) ?_
       refine run_off (on_of rfl rfl rfl rfl) rfl (ltb rfl) ?_
       refine run_off (on_of rfl rfl rfl rfl) rfl (ltb rfl) ?_
       refine run_off (on_of rfl rfl rfl rfl) rfl (ltb rfl) ?_
       refine run_pu rfl (pick_step rfl rfl rfl) rfl (ltb rfl) ?_
       refine mvL rfl rfl rfl rfl (ltb rfl) ?_
       refine run_off (on_of rfl rfl rfl rfl) rfl (ltb rfl) ?_
       refine run_off (on_of rfl rfl rfl rfl) rfl (ltb rfl) ?_
       refine run_off (on_of rfl rfl rfl rfl) rfl (ltb rfl) ?_
       refine run_off (on_of rfl rfl rfl rfl) rfl (ltb rfl) ?_
       refine run_pu rfl (pick_step rfl rfl rfl) rfl (ltb rfl) ?_
       refine run_ops_nil ?_
       refine run_sub_code (σ' := ⟨[(4, .bool false), (5, .optr (.loc 5) 0 0), (7, .int .i64 r18), (8, .optr (.loc 8) 0 0), (99, .bool true)], [(8, ⟨25, 4, true, [[.int .i64 k30, .int .i64 n30, .str s30, .imm q30 4 f30 (cellss ks30)]]⟩), (5, ⟨25, 4, true, [[.int .i64 k10, .int .i64 n10, .str s10, .imm q10 4 f10 (cellss ks10)]]⟩)], [], O, tk79⟩) (Sub.trans (Sub.drop (k := 12) rfl) (Sub.env _ ⟨rfl, rfl, rfl, rfl, rfl, trivial⟩)) ?_
       refine run_if rfl rfl (fun _ => ?_) (fun h => by cases h)
       refine run_sr ?_
       refine mvR rfl rfl rfl rfl (ltb rfl) ?_
       refine run_ops_nil ?_
       refine run_ret_to ?_
       replace hM := some_t hM
       subst hM
       refine fin_x hG rfl rfl rfl (v' := .bool false) (by rfl) ⟨rfl, (show tk ≤ tk79 by omega), _, rfl, rfl⟩
      ·replace hM := ite_f hb93 hM
       refine run_puG (on_of rfl rfl rfl rfl) (move_step (.inl rfl) rfl) rfl (ltb rfl) ?_
       refine run_puG (on_of rfl rfl rfl rfl) (abin_step rfl rfl rfl rfl (fun _ h => by cases h)) rfl (ltb rfl) ?_
       refine run_pu rfl (pick_step rfl rfl rfl) rfl (ltb rfl) ?_
       refine mvL rfl rfl rfl rfl (ltb rfl) ?_
       refine run_splitb (i := 86) rfl (fun hb94 => ?_) (fun hb94 => ?_)
       ·replace hM := ite_t hb94 hM
        refine run_off (on_of rfl rfl rfl rfl) rfl (ltb rfl) ?_
        refine run_pu rfl (pick_step rfl rfl rfl) rfl (ltb rfl) ?_
        refine mvL rfl rfl rfl rfl (ltb rfl) ?_
        refine run_off (on_of rfl rfl rfl rfl) rfl (ltb rfl) ?_
        refine run_off (on_of rfl rfl rfl rfl) rfl (ltb rfl) ?_
        refine run_off (on_of rfl rfl rfl rfl) rfl (ltb rfl) ?_
        refine run_pu rfl (pick_step rfl rfl rfl) rfl (ltb rfl) ?_
        refine mvL rfl rfl rfl rfl (ltb rfl) ?_
        refine run_off (on_of rfl rfl rfl rfl) rfl (ltb rfl) ?_
        refine run_off (on_of rfl rfl rfl rfl) rfl (ltb rfl) ?_
        refine run_off (on_of rfl rfl rfl rfl) rfl (ltb rfl) ?_
        refine run_off (on_of rfl rfl rfl rfl) rfl (ltb rfl) ?_
        refine run_pu rfl (pick_step rfl rfl rfl) rfl (ltb rfl) ?_
        refine run_ops_nil ?_
        refine run_sub_code (σ' := ⟨[(4, .bool false), (5, .optr (.loc 5) 0 0), (7, .int .i64 r18), (8, .optr (.loc 8) 0 0), (99, .bool true)], [(8, ⟨25, 4, true, [[.int .i64 k30, .int .i64 n30, .str s30, .imm q30 4 f30 (cellss ks30)]]⟩), (5, ⟨25, 4, true, [[.int .i64 k10, .int .i64 n10, .str s10, .imm q10 4 f10 (cellss ks10)]]⟩)], [], O, tk79⟩) (Sub.trans (Sub.drop (k := 12) rfl) (Sub.env _ ⟨rfl, rfl, rfl, rfl, rfl, trivial⟩)) ?_
        refine run_if rfl rfl (fun _ => ?_) (fun h => by cases h)
        refine run_sr ?_
        refine mvR rfl rfl rfl rfl (ltb rfl) ?_
        refine run_ops_nil ?_
        refine run_ret_to ?_
        replace hM := some_t hM
        subst hM
        refine fin_x hG rfl rfl rfl (v' := .bool false) (by rfl) ⟨rfl, (show tk ≤ tk79 by omega), _, rfl, rfl⟩
       ·replace hM := ite_f hb94 hM
        refine run_puG (on_of rfl rfl rfl rfl) (move_step (.inl rfl) rfl) rfl (ltb rfl) ?_
        refine run_pu rfl (pick_step rfl rfl rfl) rfl (ltb rfl) ?_
        refine mvL rfl rfl rfl rfl (ltb rfl) ?_
        refine run_splitb (i := 89) rfl (fun hb95 => ?_) (fun hb95 => ?_)
        ·replace hM := ite_t hb95 hM
         refine run_off (on_of rfl rfl rfl rfl) rfl (ltb rfl) ?_
         refine run_off (on_of rfl rfl rfl rfl) rfl (ltb rfl) ?_
         refine run_off (on_of rfl rfl rfl rfl) rfl (ltb rfl) ?_
         refine run_pu rfl (pick_step rfl rfl rfl) rfl (ltb rfl) ?_
         refine mvL rfl rfl rfl rfl (ltb rfl) ?_
         refine run_off (on_of rfl rfl rfl rfl) rfl (ltb rfl) ?_
         refine run_off (on_of rfl rfl rfl rfl) rfl (ltb rfl) ?_
         refine run_off (on_of rfl rfl rfl rfl) rfl (ltb rfl) ?_
         refine run_off (on_of rfl rfl rfl rfl) rfl (ltb rfl) ?_
         refine run_pu rfl (pick_step rfl rfl rfl) rfl (ltb rfl) ?_
         refine run_ops_nil ?_
         refine run_sub_code (σ' := ⟨[(4, .bool false), (5, .optr (.loc 5) 0 0), (7, .int .i64 r18), (8, .optr (.loc 8) 0 0), (99, .bool true)], [(8, ⟨25, 4, true, [[.int .i64 k30, .int .i64 n30, .str s30, .imm q30 4 f30 (cellss ks30)]]⟩), (5, ⟨25, 4, true, [[.int .i64 k10, .int .i64 n10, .str s10, .imm q10 4 f10 (cellss ks10)]]⟩)], [], O, tk79⟩) (Sub.trans (Sub.drop (k := 12) rfl) (Sub.env _ ⟨rfl, rfl, rfl, rfl, rfl, trivial⟩)) ?_
         refine run_if rfl rfl (fun _ => ?_) (fun h => by cases h)
         refine run_sr ?_
         refine mvR rfl rfl rfl rfl (ltb rfl) ?_
         refine run_ops_nil ?_
         refine run_ret_to ?_
         replace hM := some_t hM
         subst hM
         refine fin_x hG rfl rfl rfl (v' := .bool false) (by rfl) ⟨rfl, (show tk ≤ tk79 by omega), _, rfl, rfl⟩
        ·replace hM := ite_f hb95 hM
         refine run_puG (on_of rfl rfl rfl rfl) (move_step (.inl rfl) rfl) rfl (ltb rfl) ?_
         refine run_puG (on_of rfl rfl rfl rfl) (move_step (.inl rfl) rfl) rfl (ltb rfl) ?_
         refine run_puG (on_of rfl rfl rfl rfl) (bool_step hG rfl rfl rfl rfl rfl rfl) rfl (ltb rfl) ?_
         refine run_pu rfl (pick_step rfl rfl rfl) rfl (ltb rfl) ?_
         refine mvL rfl rfl rfl rfl (ltb rfl) ?_
         refine run_splitb (i := 94) rfl (fun hb96 => ?_) (fun hb96 => ?_)
         ·replace hM := ite_t hb96 hM
          refine run_off (on_of rfl rfl rfl rfl) rfl (ltb rfl) ?_
          refine run_off (on_of rfl rfl rfl rfl) rfl (ltb rfl) ?_
          refine run_off (on_of rfl rfl rfl rfl) rfl (ltb rfl) ?_
          refine run_off (on_of rfl rfl rfl rfl) rfl (ltb rfl) ?_
          refine run_pu rfl (pick_step rfl rfl rfl) rfl (ltb rfl) ?_
          refine run_ops_nil ?_
          refine run_sub_code (σ' := ⟨[(4, .bool false), (5, .optr (.loc 5) 0 0), (7, .int .i64 r18), (8, .optr (.loc 8) 0 0), (99, .bool true)], [(8, ⟨25, 4, true, [[.int .i64 k30, .int .i64 n30, .str s30, .imm q30 4 f30 (cellss ks30)]]⟩), (5, ⟨25, 4, true, [[.int .i64 k10, .int .i64 n10, .str s10, .imm q10 4 f10 (cellss ks10)]]⟩)], [], O, tk79⟩) (Sub.trans (Sub.drop (k := 12) rfl) (Sub.env _ ⟨rfl, rfl, rfl, rfl, rfl, trivial⟩)) ?_
          refine run_if rfl rfl (fun _ => ?_) (fun h => by cases h)
          refine run_sr ?_
          refine mvR rfl rfl rfl rfl (ltb rfl) ?_
          refine run_ops_nil ?_
          refine run_ret_to ?_
          replace hM := some_t hM
          subst hM
          refine fin_x hG rfl rfl rfl (v' := .bool false) (by rfl) ⟨rfl, (show tk ≤ tk79 by omega), _, rfl, rfl⟩
         ·replace hM := ite_f hb96 hM
          refine run_rdG (on_of rfl rfl rfl rfl) (aload_rd hG rfl rfl rfl (by first | (simp [ldok]; done) | exact List.not_mem_nil | trivial)) rfl (ltb rfl) ?_
          refine run_rdG (on_of rfl rfl rfl rfl) (aload_rd hG rfl rfl rfl (by first | (simp [ldok]; done) | exact List.not_mem_nil | trivial)) rfl (ltb rfl) ?_
          obtain ⟨r97, hg98, hM⟩ := bind_t hM
          refine run_callG (on_of rfl rfl rfl rfl) rfl rfl (ltb rfl) rfl rfl rfl (fun _ h => absurd h List.not_mem_nil) (w_same_ok n k56 n56 s56 q56 f56 ks56 k10 n10 s10 q10 f10 ks10 hg98 _ _) (callK_retX (fun v tk99 (hle100 : tk79 ≤ tk99) h101 => ?_))
          subst h101
          refine run_puG (on_of rfl rfl rfl rfl) (aun_step rfl rfl rfl) rfl (ltb rfl) ?_
          refine run_pu rfl (pick_step rfl rfl rfl) rfl (ltb rfl) ?_
          refine run_ops_nil ?_
          refine run_sub_code (σ' := ⟨[(4, .bool false), (5, .optr (.loc 5) 0 0), (7, .int .i64 r18), (8, .optr (.loc 8) 0 0), (99, .bool (!r97))], [(8, ⟨25, 4, true, [[.int .i64 k30, .int .i64 n30, .str s30, .imm q30 4 f30 (cellss ks30)]]⟩), (5, ⟨25, 4, true, [[.int .i64 k10, .int .i64 n10, .str s10, .imm q10 4 f10 (cellss ks10)]]⟩)], [], O, tk99⟩) (Sub.trans (Sub.drop (k := 12) rfl) (Sub.env _ ⟨rfl, rfl, rfl, rfl, rfl, trivial⟩)) ?_
          refine run_ifb rfl rfl (fun hb104 => ?_) (fun hb104 => ?_)
          ·replace hM := ite_t hb104 hM
           refine run_sr ?_
           refine mvR rfl rfl rfl rfl (ltb rfl) ?_
           refine run_ops_nil ?_
           refine run_ret_to ?_
           replace hM := some_t hM
           subst hM
           refine fin_x hG rfl rfl rfl (v' := .bool false) (by rfl) ⟨rfl, (show tk ≤ tk99 by omega), _, rfl, rfl⟩
          ·replace hM := ite_f hb104 hM
           refine run_skip ?_
           refine run_sr ?_
           refine run_ld hG rfl rfl rfl rfl rfl (ltb rfl) ?_
           refine mvL rfl rfl rfl rfl (ltb rfl) ?_
           obtain ⟨r105, hg106, hM⟩ := bind_t hM
           refine run_call rfl rfl rfl (ltb rfl) rfl rfl rfl (fun _ h => absurd h List.not_mem_nil) (i_Lift_ok n k30 n30 s30 q30 f30 ks30 r18 2 hg106 _ _) (callK_retX (fun v tk107 (hle108 : tk99 ≤ tk107) h109 => ?_))
           obtain ⟨ra114, ra115, va116, va117, rfl, rfl, ⟨k110, n110, s110, q110, f110, ks110, rfl, rfl, hf111⟩, rfl⟩ := h109
           refine mvL rfl rfl rfl rfl (ltb rfl) ?_
           refine run_pu rfl (extract_step rfl rfl rfl) rfl (ltb rfl) ?_
           refine run_pu rfl (extract_step rfl rfl rfl) rfl (ltb rfl) ?_
           refine run_op rfl (alloc_step (d := 18) hG rfl rfl rfl) rfl (ltb rfl) ?_
           refine run_op0 rfl (store_step hG rfl rfl rfl rfl rfl rfl rfl rfl) rfl ?_
           refine mvR rfl rfl rfl rfl (ltb rfl) ?_
           refine run_ops_nil ?_
           refine run_sr ?_
           refine run_ld hG rfl rfl rfl rfl rfl (ltb rfl) ?_
           refine mvL rfl rfl rfl rfl (ltb rfl) ?_
           obtain ⟨r118, hg119, hM⟩ := bind_t hM
           refine run_call rfl rfl rfl (ltb rfl) rfl rfl rfl (fun _ h => absurd h List.not_mem_nil) (i_Lift_ok n k10 n10 s10 q10 f10 ks10 r18 3 hg119 _ _) (callK_retX (fun v tk120 (hle121 : tk107 ≤ tk120) h122 => ?_))
           obtain ⟨ra127, ra128, va129, va130, rfl, rfl, ⟨k123, n123, s123, q123, f123, ks123, rfl, rfl, hf124⟩, rfl⟩ := h122
           refine mvL rfl rfl rfl rfl (ltb rfl) ?_
           refine run_pu rfl (extract_step rfl rfl rfl) rfl (ltb rfl) ?_
           refine run_pu rfl (extract_step rfl rfl rfl) rfl (ltb rfl) ?_
           refine run_op rfl (alloc_step (d := 20) hG rfl rfl rfl) rfl (ltb rfl) ?_
           refine run_op0 rfl (store_step hG rfl rfl rfl rfl rfl rfl rfl rfl) rfl ?_
           refine mvR rfl rfl rfl rfl (ltb rfl) ?_
           refine run_ops_nil ?_
           refine run_sub_code (σ' := ⟨[(4, .bool false), (5, .optr (.loc 5) 0 0), (8, .optr (.loc 8) 0 0), (18, .optr (.loc 18) 0 0), (19, .int .i64 ra115), (20, .optr (.loc 20) 0 0), (21, .int .i64 ra128)], [(20, ⟨25, 4, true, [[.int .i64 k123, .int .i64 n123, .str s123, .imm q123 4 f123 (cellss ks123)]]⟩), (18, ⟨25, 4, true, [[.int .i64 k110, .int .i64 n110, .str s110, .imm q110 4 f110 (cellss ks110)]]⟩), (8, ⟨25, 4, true, [[.int .i64 k30, .int .i64 n30, .str s30, .imm q30 4 f30 (cellss ks30)]]⟩), (5, ⟨25, 4, true, [[.int .i64 k10, .int .i64 n10, .str s10, .imm q10 4 f10 (cellss ks10)]]⟩)], [], O, tk120⟩) (Sub.env _ ⟨rfl, rfl, rfl, rfl, rfl, rfl, rfl, trivial⟩) ?_
           refine run_seq ?_
           refine run_draw [] (n := 19) mixed rfl (fun _ h => absurd h List.not_mem_nil) ?_
           refine AAny.take (i := 0) rfl (by kernel_rfl) (by kernel_rfl) (by kernel_rfl) rfl rfl (ltb rfl) ((move_step (.inl rfl) rfl).rd _) ?_
           refine AAny.take (i := 1) rfl (by kernel_rfl) (by kernel_rfl) (by kernel_rfl) rfl rfl (ltb rfl) ((abin_step rfl rfl rfl rfl (fun _ h => by cases h)).rd _) ?_
           refine AAny.take (i := 2) rfl (by kernel_rfl) (by kernel_rfl) (by kernel_rfl) rfl rfl (ltb rfl) ((move_step (.inl rfl) rfl).rd _) ?_
           refine AAny.splitd (i := 114) rfl (fun _ h => absurd h List.not_mem_nil) (fun hb131 => ?_) (fun hb131 => ?_)
           ·replace hM := ite_t hb131 hM
            refine AAny.takeG (i := 3) rfl (by kernel_rfl) (by kernel_rfl) (by kernel_rfl) (on_of rfl rfl rfl rfl) rfl (ltb rfl) ((move_step (.inl rfl) rfl).rd _) ?_
            refine AAny.takeG (i := 4) rfl (by kernel_rfl) (by kernel_rfl) (by kernel_rfl) (on_of rfl rfl rfl rfl) rfl (ltb rfl) ((abin_step rfl rfl rfl rfl (fun _ h => by cases h)).rd _) ?_
            refine AAny.take (i := 5) rfl (by kernel_rfl) (by kernel_rfl) (by kernel_rfl) rfl rfl (ltb rfl) ((pick_step rfl rfl rfl).rd _) ?_
            refine AAny.take (i := 6) rfl (by kernel_rfl) (by kernel_rfl) (by kernel_rfl) rfl rfl (ltb rfl) ((move_step (.inl rfl) rfl).rd _) ?_
            refine AAny.splitd (i := 118) rfl (fun _ h => absurd h List.not_mem_nil) (fun hb132 => ?_) (fun hb132 => ?_)
            ·replace hM := ite_t hb132 hM
             refine AAny.takeG (i := 7) rfl (by kernel_rfl) (by kernel_rfl) (by kernel_rfl) (on_of rfl rfl rfl rfl) rfl (ltb rfl) (aload_rd hG rfl rfl rfl (by first | (simp [ldok]; done) | exact List.not_mem_nil | trivial)) ?_
             refine AAny.takeG (i := 8) rfl (by kernel_rfl) (by kernel_rfl) (by kernel_rfl) (on_of rfl rfl rfl rfl) rfl (ltb rfl) (aload_rd hG rfl rfl rfl (by first | (simp [ldok]; done) | exact List.not_mem_nil | trivial)) ?_
             obtain ⟨r133, hg134, hM⟩ := bind_t hM
             refine AAny.one (i := 9) (by kernel_rfl) (AOp.callG rfl (on_of rfl rfl rfl rfl) rfl rfl (ltb rfl) rfl rfl rfl (fun _ h => absurd h List.not_mem_nil) (fun _ h => absurd h List.not_mem_nil) (w_same_ok n k110 n110 s110 q110 f110 ks110 k123 n123 s123 q123 f123 ks123 hg134 _ _) (callK_retX (fun v tk135 (hle136 : tk120 ≤ tk135) h137 => ?_)))
             subst h137
             refine AAny.take (i := 10) rfl (by kernel_rfl) (by kernel_rfl) (by kernel_rfl) rfl rfl (ltb rfl) ((pick_step rfl rfl rfl).rd _) ?_
             refine AAny.take (i := 11) rfl (by kernel_rfl) (by kernel_rfl) (by kernel_rfl) rfl rfl (ltb rfl) ((move_step (.inl rfl) rfl).rd _) ?_
             refine AAny.split (i := 123) rfl (fun _ h => absurd h List.not_mem_nil) (fun hb140 => ?_) (fun hb140 => ?_)
             ·replace hM := ite_t hb140 hM
              refine AAny.takeG (i := 12) rfl (by kernel_rfl) (by kernel_rfl) (by kernel_rfl) (on_of rfl rfl rfl rfl) rfl (ltb rfl) (aload_rd hG rfl rfl rfl (by first | (simp [ldok]; done) | exact List.not_mem_nil | trivial)) ?_
              refine AAny.takeG (i := 14) rfl (by kernel_rfl) (by kernel_rfl) (by kernel_rfl) (on_of rfl rfl rfl rfl) rfl (ltb rfl) (aload_rd hG rfl rfl rfl (by first | (simp [ldok]; done) | exact List.not_mem_nil | trivial)) ?_
              obtain ⟨r141, hg142, hM⟩ := bind_t hM
              refine AAny.one (i := 13) (by kernel_rfl) (AOp.callG rfl (on_of rfl rfl rfl rfl) rfl rfl (ltb rfl) rfl rfl rfl (fun _ h => absurd h List.not_mem_nil) (fun _ h => absurd h List.not_mem_nil) (i_Size_ok k30 n30 s30 q30 f30 ks30 hg142 _ _) (callK_retX (fun v tk143 (hle144 : tk135 ≤ tk143) h145 => ?_)))
              subst h145
              obtain ⟨r148, hg149, hM⟩ := bind_t hM
              refine AAny.one (i := 15) (by kernel_rfl) (AOp.callG rfl (on_of rfl rfl rfl rfl) rfl rfl (ltb rfl) rfl rfl rfl (fun _ h => absurd h List.not_mem_nil) (fun _ h => absurd h List.not_mem_nil) (i_Size_ok k10 n10 s10 q10 f10 ks10 hg149 _ _) (callK_retX (fun v tk150 (hle151 : tk143 ≤ tk150) h152 => ?_)))
              subst h152
              refine AAny.takeG (i := 16) rfl (by kernel_rfl) (by kernel_rfl) (by kernel_rfl) (on_of rfl rfl rfl rfl) rfl (ltb rfl) ((abin_step rfl rfl rfl rfl (fun _ h => by cases h)).rd _) ?_
              refine AAny.take (i := 17) rfl (by kernel_rfl) (by kernel_rfl) (by kernel_rfl) rfl rfl (ltb rfl) ((pick_step rfl rfl rfl).rd _) ?_
              refine AAny.take (i := 18) rfl (by kernel_rfl) (by kernel_rfl) (by kernel_rfl) rfl rfl (ltb rfl) ((move_step (.inr rfl) rfl).rd _) ?_
              refine AAny.done (by kernel_rfl) ?_
              refine run_ret_to ?_
              replace hM := some_t hM
              subst hM
              refine fin_x hG rfl rfl rfl (v' := .bool (r141 == r148)) (by rfl) ⟨rfl, (show tk ≤ tk150 by omega), _, rfl, rfl⟩
             ·replace hM := ite_f (Bool.eq_false_iff.1 hb140) hM
              refine AAny.off (i := 12) rfl (by kernel_rfl) (by kernel_rfl) (by kernel_rfl) (on_of rfl rfl rfl rfl) rfl (ltb rfl) ?_
              refine AAny.off (i := 14) rfl (by kernel_rfl) (by kernel_rfl) (by kernel_rfl) (on_of rfl rfl rfl rfl) rfl (ltb rfl) ?_
              refine AAny.off (i := 13) rfl (by kernel_rfl) (by kernel_rfl) (by kernel_rfl) (on_of rfl rfl rfl rfl) rfl (ltb rfl) ?_
              refine AAny.off (i := 15) rfl (by kernel_rfl) (by kernel_rfl) (by kernel_rfl) (on_of rfl rfl rfl rfl) rfl (ltb rfl) ?_
              refine AAny.off (i := 16) rfl (by kernel_rfl) (by kernel_rfl) (by kernel_rfl) (on_of rfl rfl rfl rfl) rfl (ltb rfl) ?_
              refine AAny.take (i := 17) rfl (by kernel_rfl) (by kernel_rfl) (by kernel_rfl) rfl rfl (ltb rfl) ((pick_step rfl rfl rfl).rd _) ?_
              refine AAny.take (i := 18) rfl (by kernel_rfl) (by kernel_rfl) (by kernel_rfl) rfl rfl (ltb rfl) ((move_step (.inr rfl) rfl).rd _) ?_
              refine AAny.done (by kernel_rfl) ?_
              refine run_ret_to ?_
              replace hM := some_t hM
              subst hM
              refine fin_x hG rfl rfl rfl (v' := .bool false) (by rfl) ⟨rfl, (show tk ≤ tk135 by omega), _, rfl, rfl⟩
            ·replace hM := ite_f hb132 hM
             refine AAny.off (i := 7) rfl (by kernel_rfl) (by kernel_rfl) (by kernel_rfl) (on_of rfl rfl rfl rfl) rfl (ltb rfl) ?_
             refine AAny.off (i := 8) rfl (by kernel_rfl) (by kernel_rfl) (by kernel_rfl) (on_of rfl rfl rfl rfl) rfl (ltb rfl) ?_
             refine AAny.off (i := 9) rfl (by kernel_rfl) (by kernel_rfl) (by kernel_rfl) (on_of rfl rfl rfl rfl) rfl (ltb rfl) ?_
             refine AAny.take (i := 10) rfl (by kernel_rfl) (by kernel_rfl) (by kernel_rfl) rfl rfl (ltb rfl) ((pick_step rfl rfl rfl).rd _) ?_
             refine AAny.take (i := 11) rfl (by kernel_rfl) (by kernel_rfl) (by kernel_rfl) rfl rfl (ltb rfl) ((move_step (.inl rfl) rfl).rd _) ?_
             refine AAny.off (i := 12) rfl (by kernel_rfl) (by kernel_rfl) (by kernel_rfl) (on_of rfl rfl rfl rfl) rfl (ltb rfl) ?_
             refine AAny.off (i := 14) rfl (by kernel_rfl) (by kernel_rfl) (by kernel_rfl) (on_of rfl rfl rfl rfl) rfl (ltb rfl) ?_
             refine AAny.off (i := 13) rfl (by kernel_rfl) (by kernel_rfl) (by kernel_rfl) (on_of rfl rfl rfl rfl) rfl (ltb rfl) ?_
             refine AAny.off (i := 15) rfl (by kernel_rfl) (by kernel_rfl) (by kernel_rfl) (on_of rfl rfl rfl rfl) rfl (ltb rfl) ?_
             refine AAny.off (i := 16) rfl (by kernel_rfl) (by kernel_rfl) (by kernel_rfl) (on_of rfl rfl rfl rfl) rfl (ltb rfl) ?_
             refine AAny.take (i := 17) rfl (by kernel_rfl) (by kernel_rfl) (by kernel_rfl) rfl rfl (ltb rfl) ((pick_step rfl rfl rfl).rd _) ?_
             refine AAny.take (i := 18) rfl (by kernel_rfl) (by kernel_rfl) (by kernel_rfl) rfl rfl (ltb rfl) ((move_step (.inr rfl) rfl).rd _) ?_
             refine AAny.done (by kernel_rfl) ?_
             refine run_ret_to ?_
             replace hM := some_t hM
             subst hM
             refine fin_x hG rfl rfl rfl (v' := .bool false) (by rfl) ⟨rfl, (show tk ≤ tk120 by omega), _, rfl, rfl⟩
           ·replace hM := ite_f hb131 hM
            refine AAny.off (i := 3) rfl (by kernel_rfl) (by kernel_rfl) (by kernel_rfl) (on_of rfl rfl rfl rfl) rfl (ltb rfl) ?_
            refine AAny.off (i := 4) rfl (by kernel_rfl) (by kernel_rfl) (by kernel_rfl) (on_of rfl rfl rfl rfl) rfl (ltb rfl) ?_
            refine AAny.take (i := 5) rfl (by kernel_rfl) (by kernel_rfl) (by kernel_rfl) rfl rfl (ltb rfl) ((pick_step rfl rfl rfl).rd _) ?_
            refine AAny.take (i := 6) rfl (by kernel_rfl) (by kernel_rfl) (by kernel_rfl) rfl rfl (ltb rfl) ((move_step (.inl rfl) rfl).rd _) ?_
            refine AAny.off (i := 7) rfl (by kernel_rfl) (by kernel_rfl) (by kernel_rfl) (on_of rfl rfl rfl rfl) rfl (ltb rfl) ?_
            refine AAny.off (i := 8) rfl (by kernel_rfl) (by kernel_rfl) (by kernel_rfl) (on_of rfl rfl rfl rfl) rfl (ltb rfl) ?_
            refine AAny.off (i := 9) rfl (by kernel_rfl) (by kernel_rfl) (by kernel_rfl) (on_of rfl rfl rfl rfl) rfl (ltb rfl) ?_
            refine AAny.take (i := 10) rfl (by kernel_rfl) (by kernel_rfl) (by kernel_rfl) rfl rfl (ltb rfl) ((pick_step rfl rfl rfl).rd _) ?_
            refine AAny.take (i := 11) rfl (by kernel_rfl) (by kernel_rfl) (by kernel_rfl) rfl rfl (ltb rfl) ((move_step (.inl rfl) rfl).rd _) ?_
            refine AAny.off (i := 12) rfl (by kernel_rfl) (by kernel_rfl) (by kernel_rfl) (on_of rfl rfl rfl rfl) rfl (ltb rfl) ?_
            refine AAny.off (i := 14) rfl (by kernel_rfl) (by kernel_rfl) (by kernel_rfl) (on_of rfl rfl rfl rfl) rfl (ltb rfl) ?_
            refine AAny.off (i := 13) rfl (by kernel_rfl) (by kernel_rfl) (by kernel_rfl) (on_of rfl rfl rfl rfl) rfl (ltb rfl) ?_
            refine AAny.off (i := 15) rfl (by kernel_rfl) (by kernel_rfl) (by kernel_rfl) (on_of rfl rfl rfl rfl) rfl (ltb rfl) ?_
            refine AAny.off (i := 16) rfl (by kernel_rfl) (by kernel_rfl) (by kernel_rfl) (on_of rfl rfl rfl rfl) rfl (ltb rfl) ?_
            refine AAny.take (i := 17) rfl (by kernel_rfl) (by kernel_rfl) (by kernel_rfl) rfl rfl (ltb rfl) ((pick_step rfl rfl rfl).rd _) ?_
            refine AAny.take (i := 18) rfl (by kernel_rfl) (by kernel_rfl) (by kernel_rfl) rfl rfl (ltb rfl) ((move_step (.inr rfl) rfl).rd _) ?_
            refine AAny.done (by kernel_rfl) ?_
            refine run_ret_to ?_
            replace hM := some_t hM
            subst hM
            refine fin_x hG rfl rfl rfl (v' := .bool false) (by rfl) ⟨rfl, (show tk ≤ tk120 by omega), _, rfl, rfl⟩

end Go.Am.YtaedacibojpfkaaDoor
