/- Printed by a program of ours: Lean functions that do what the Go functions do, and the contracts. -/
import Derived.Test.YtpkeophkdemcpaaTypes
import Derived.Test.YtpkeophkdemcpaaMi4
import Derived.Test.YtpkeophkdemcpaaMc1
import Derived.Test.YtpkeophkdemcpaaMb3
import Derived.Test.YtpkeophkdemcpaaMb1
import Derived.Test.YtpkeophkdemcpaaGs0
import Derived.Test.YtpkeophkdemcpaaGsE
import Derived.Test.YtpkeophkdemcpaaEqEncT
import Derived.Test.YtpkeophkdemcpaaMz
-- packed
namespace Go.Am.Ytpkeophkdemcpaa
open Go Go.Am

def w_FnMoreVars (n : Nat) (l1 : List Int) : Option (Rz Bool) :=
 if ((l1).length : Int) > 1048576 then
  some (.ok true)
 else
  (s_ExprOf n l1).bind fun r3 =>
  (s_ExprOK n r3.2.1).bind fun r20 =>
  if (!r20) = true then
   some (.ok true)
  else
   chk (([(F.mk 1 1 [])]).length + (r3.1).length ≤ 1099511627776) <|
   (i_TypeOf n ([(F.mk 1 1 [])] ++ r3.1) r3.2.1).bind fun r29 =>
   if (r29.2.1 != 0) = true then
    some (.ok false)
   else
    (w_sameType n r29.1 r3.2.2).bind fun r47 =>
    if (!r47) = true then
     some (.ok false)
    else
     zb (i_EncodeTyping n r3.1 r3.2.1) fun r56 =>
     zb (i_EncodeTyping n ([(F.mk 1 1 [])] ++ r3.1) r3.2.1) fun r78 =>
     if r56.2.2 = r78.2.2 then
      (w_same n r56.1 r78.1).bind fun r100 =>
      if r100 = true then
       (w_same n r56.2.1 r78.2.1).bind fun r108 =>
       some (.ok r108)
      else
       some (.ok false)
     else
      some (.ok false)

set_option maxHeartbeats 20000000 in
set_option maxHeartbeats 20000000 in
set_option maxRecDepth 100000 in
theorem w_FnMoreVars_ok (n : Nat) : ∀ (q1 : Nat) (f1 : Bool) (l1 : List Int) {r : (Rz Bool)}, w_FnMoreVars n l1 = some r → ∀ (O : Heap) (tk : Nat), ACalls Go.Proofs.Try.prog 4 [.imm q1 1 f1 ((l1 : List Int).map fun n => [AV.int .u8 n])] O tk (RetZ HT O tk r (fun r v tk' => v = .bool r)) := by
 intro q1 f1 l1 r hM O tk
 unfold w_FnMoreVars at hM
 refine acalls_of_run Go.Proofs.Try.func4 rfl rfl [] [] (Bor.nil _) [(0, .imm q1 1 f1 ((l1 : List Int).map fun n => [AV.int .u8 n]))] (.cons (entS rfl) (.nil _)) (leb rfl) (fun _ h => by cases h) (fun S0 hO htk hfz => ?_)
 refine run_sr ?_
 refine yR rfl ?_
 refine run_ops_nil ?_
 refine run_seq ?_
 refine run_sr ?_
 refine yL rfl ?_
 refine run_pu rfl (lenImm_step hG rfl rfl rfl rfl (ilen _)) rfl (ltb rfl) ?_
 refine yB rfl ?_
 refine run_ops_nil ?_
 refine run_ifd rfl rfl (fun hb2 => ?_) (fun hb2 => ?_)
 ·replace hM := ite_t hb2 hM
  refine run_sr ?_
  refine yR rfl ?_
  refine run_ops_nil ?_
  refine run_ret_to ?_
  replace hM := some_t hM
  subst hM
  refine fin_x hG rfl rfl rfl (v' := .bool true) (by rfl) ⟨rfl, (show tk ≤ tk by omega), _, rfl, rfl⟩
 replace hM := ite_f hb2 hM
 refine run_skip ?_
 refine run_sr ?_
 refine yL rfl ?_
 obtain ⟨r3, hg4, hM⟩ := bind_t hM
 refine yK rfl (s_ExprOf_ok n q1 f1 l1 hg4 _ _) (callK_retX (fun v tk5 (hle6 : tk ≤ tk5) h7 => ?_))
 obtain ⟨ra14, ra15, ra16, va17, va18, va19, rfl, rfl, ⟨q8, f8, ks8, rfl, rfl, hf9⟩, ⟨k10, n10, p10, e10, fs10, q10, f10, ks10, rfl, rfl, hf11⟩, ⟨k12, n12, q12, f12, ks12, rfl, rfl, hf13⟩⟩ := h7
 refine yL rfl ?_
 refine run_pu rfl (extract_step rfl rfl rfl) rfl (ltb rfl) ?_
 refine run_pu rfl (extract_step rfl rfl rfl) rfl (ltb rfl) ?_
 refine run_pu rfl (extract_step rfl rfl rfl) rfl (ltb rfl) ?_
 refine run_op rfl (alloc_step (d := 4) hG rfl rfl rfl) rfl (ltb rfl) ?_
 refine run_op rfl (alloc_step (d := 5) hG rfl rfl rfl) rfl (ltb rfl) ?_
 refine yR rfl ?_
 refine yS hG rfl ?_
 refine yS hG rfl ?_
 refine run_ops_nil ?_
 refine run_sub_code (σ' := ⟨[(2, .bool false), (4, .optr (.loc 4) 0 0), (5, .optr (.loc 5) 0 0), (3, .imm q8 3 f8 (fcellss ks8))], [(5, ⟨42, 3, true, [[.int .i64 k12, .int .i64 n12, .imm q12 3 f12 (fcellss ks12)]]⟩), (4, ⟨40, 4, true, [[.int .i64 k10, .int .i64 n10, .imm p10 3 e10 (fcellss fs10), .imm q10 4 f10 (pcellss ks10)]]⟩)], [], O, tk5⟩) (Sub.env _ ⟨rfl, rfl, rfl, rfl, trivial⟩) ?_
 refine run_seq ?_
 refine run_sr ?_
 refine yD hG rfl ?_
 obtain ⟨r20, hg21, hM⟩ := bind_t hM
 refine yK rfl (s_ExprOK_ok n k10 n10 p10 e10 fs10 q10 f10 ks10 hg21 _ _) (callK_retX (fun v tk22 (hle23 : tk5 ≤ tk22) h24 => ?_))
 subst h24
 refine run_pu rfl (aun_step rfl rfl rfl) rfl (ltb rfl) ?_
 refine run_ops_nil ?_
 refine run_ifb rfl rfl (fun hb27 => ?_) (fun hb27 => ?_)
 ·replace hM := ite_t hb27 hM
  refine run_sr ?_
  refine yR rfl ?_
  refine run_ops_nil ?_
  refine run_ret_to ?_
  replace hM := some_t hM
  subst hM
  refine fin_x hG rfl rfl rfl (v' := .bool true) (by rfl) ⟨rfl, (show tk ≤ tk22 by omega), _, rfl, rfl⟩
 replace hM := ite_f hb27 hM
 refine run_skip ?_
 refine run_sr ?_
 refine run_pu rfl (build_step hG rfl (by rfl) rfl (fun h => by cases h) (by rfl)) rfl (ltb rfl) ?_
 refine run_op rfl (buildSlice_step (d := 29) hG rfl rfl rfl rfl rfl (by rfl) (by rfl) (by rfl) (by decide)) rfl (ltb rfl) ?_
 refine yL rfl ?_
 obtain ⟨hc28, hM⟩ := chk_t hM
 try rw [show ((fers [LF.mk 1 1 0 true []]) ++ (fers ks8) : List F) = (fers ([LF.mk 1 1 0 true []] ++ ks8)) from fers_app [LF.mk 1 1 0 true []] ks8] at hM
 refine run_op rfl (appendM_step hG rfl rfl rfl rfl rfl rfl rfl rfl rfl rfl rfl (fcellss_sz ks8) (flen ([LF.mk 1 1 0 true []])) (flen ks8) hc28 (by decide) (fcellss_app ([LF.mk 1 1 0 true []]) ks8)) rfl (ltb rfl) ?_
 refine yR rfl ?_
 refine run_ops_nil ?_
 refine run_sr ?_
 refine yL rfl ?_
 refine yD hG rfl ?_
 refine run_sub_ops (Sub.freeze (k := 29) rfl rfl) ?_
 obtain ⟨r29, hg30, hM⟩ := bind_t hM
 refine yK rfl (i_TypeOf_ok n tk22 false ([LF.mk 1 1 0 true []] ++ ks8) k10 n10 p10 e10 fs10 q10 f10 ks10 hg30 _ _) (callK_retX (fun v tk31 (hle32 : (tk22 + 1) ≤ tk31) h33 => ?_))
 obtain ⟨ra40, ra41, ra42, va43, va44, va45, rfl, rfl, ⟨k34, n34, q34, f34, ks34, rfl, rfl, hf35⟩, rfl, rfl⟩ := h33
 refine yL rfl ?_
 refine run_pu rfl (extract_step rfl rfl rfl) rfl (ltb rfl) ?_
 refine run_pu rfl (extract_step rfl rfl rfl) rfl (ltb rfl) ?_
 refine run_pu rfl (extract_step rfl rfl rfl) rfl (ltb rfl) ?_
 refine run_op rfl (alloc_step (d := 7) hG rfl rfl rfl) rfl (ltb rfl) ?_
 refine yS hG rfl ?_
 refine yR rfl ?_
 refine yR rfl ?_
 refine run_ops_nil ?_
 refine run_sub_code (σ' := ⟨[(2, .bool false), (4, .optr (.loc 4) 0 0), (5, .optr (.loc 5) 0 0), (3, .imm q8 3 f8 (fcellss ks8)), (6, .imm tk22 3 false (fcellss ([LF.mk 1 1 0 true []] ++ ks8))), (7, .optr (.loc 7) 0 0), (8, .int .i64 ra41)], [(7, ⟨42, 3, true, [[.int .i64 k34, .int .i64 n34, .imm q34 3 f34 (fcellss ks34)]]⟩), (5, ⟨42, 3, true, [[.int .i64 k12, .int .i64 n12, .imm q12 3 f12 (fcellss ks12)]]⟩), (4, ⟨40, 4, true, [[.int .i64 k10, .int .i64 n10, .imm p10 3 e10 (fcellss fs10), .imm q10 4 f10 (pcellss ks10)]]⟩)], [], O, tk31⟩) (Sub.env _ ⟨rfl, rfl, rfl, rfl, rfl, rfl, rfl, trivial⟩) ?_
 refine run_seq ?_
 refine run_sr ?_
 refine yL rfl ?_
 refine yB rfl ?_
 refine yL rfl ?_
 refine run_splitb (i := 41) rfl (fun hb46 => ?_) (fun hb46 => ?_)
 ·replace hM := ite_t hb46 hM
  refine yO rfl ?_
  refine yO rfl ?_
  refine yO rfl ?_
  refine yO rfl ?_
  refine yP rfl ?_
  refine run_ops_nil ?_
  refine run_if rfl rfl (fun _ => ?_) (fun h => by cases h)
  refine run_sr ?_
  refine yR rfl ?_
  refine run_ops_nil ?_
  refine run_ret_to ?_
  replace hM := some_t hM
  subst hM
  refine fin_x hG rfl rfl rfl (v' := .bool false) (by rfl) ⟨rfl, (show tk ≤ tk31 by omega), _, rfl, rfl⟩
 replace hM := ite_f hb46 hM
 refine run_rdG (on_of rfl rfl rfl rfl) (aload_rd hG rfl rfl rfl (by first | (simp [ldok]; done) | exact List.not_mem_nil | trivial)) rfl (ltb rfl) ?_
 refine run_rdG (on_of rfl rfl rfl rfl) (aload_rd hG rfl rfl rfl (by first | (simp [ldok]; done) | exact List.not_mem_nil | trivial)) rfl (ltb rfl) ?_
 obtain ⟨r47, hg48, hM⟩ := bind_t hM
 refine yG (on_of rfl rfl rfl rfl) rfl (w_sameType_ok n k34 n34 q34 f34 ks34 k12 n12 q12 f12 ks12 hg48 _ _) (callK_retX (fun v tk49 (hle50 : tk31 ≤ tk49) h51 => ?_))
 subst h51
 refine run_puG (on_of rfl rfl rfl rfl) (aun_step rfl rfl rfl) rfl (ltb rfl) ?_
 refine yP rfl ?_
 refine run_ops_nil ?_
 refine run_ifb rfl rfl (fun hb54 => ?_) (fun hb54 => ?_)
 ·replace hM := ite_t hb54 hM
  refine run_sr ?_
  refine yR rfl ?_
  refine run_ops_nil ?_
  refine run_ret_to ?_
  replace hM := some_t hM
  subst hM
  refine fin_x hG rfl rfl rfl (v' := .bool false) (by rfl) ⟨rfl, (show tk ≤ tk49 by omega), _, rfl, rfl⟩
 replace hM := ite_f hb54 hM
 refine run_skip ?_
 refine run_sr ?_
 refine yL rfl ?_
 refine yD hG rfl ?_
 obtain ⟨z61, hg57, hM⟩ := zb_t hM
 refine yK rfl (i_EncodeTyping_ok n q8 f8 ks8 k10 n10 p10 e10 fs10 q10 f10 ks10 hg57 _ _) (callK_retZ (fun r56 v tk58 hz68 (hle59 : tk49 ≤ tk58) h60 => ?_) (fun c p tk58 hz (_ : tk49 ≤ tk58) => by subst hz; obtain rfl := bd_stop hM; exact run_pan_at (⟨rfl, (show tk ≤ tk58 by omega), rfl⟩)))
 subst hz68
 replace hM := bd_ok hM
 obtain ⟨ra69, ra70, ra71, va72, va73, va74, tkm55, rfl, rfl, (hle75 : tk49 ≤ tkm55), (hle76 : tkm55 ≤ tk58), ⟨k62, n62, s62, q62, f62, ks62, rfl, rfl, hf63⟩, ⟨k64, n64, s64, q64, f64, ks64, rfl, rfl, hf65⟩, rfl⟩ := h60
 refine yL rfl ?_
 refine run_pu rfl (extract_step rfl rfl rfl) rfl (ltb rfl) ?_
 refine run_pu rfl (extract_step rfl rfl rfl) rfl (ltb rfl) ?_
 refine run_pu rfl (extract_step rfl rfl rfl) rfl (ltb rfl) ?_
 refine run_op rfl (alloc_step (d := 10) hG rfl rfl rfl) rfl (ltb rfl) ?_
 refine run_op rfl (alloc_step (d := 11) hG rfl rfl rfl) rfl (ltb rfl) ?_
 refine yS hG rfl ?_
 refine yS hG rfl ?_
 refine yR rfl ?_
 refine run_ops_nil ?_
 refine run_sub_code (σ' := ⟨[(2, .bool false), (4, .optr (.loc 4) 0 0), (6, .imm tk22 3 false (fcellss ([LF.mk 1 1 0 true []] ++ ks8))), (10, .optr (.loc 10) 0 0), (11, .optr (.loc 11) 0 0), (12, .int .i64 ra71)], [(11, ⟨51, 4, true, [[.int .i64 k64, .int .i64 n64, .str s64, .imm q64 4 f64 (cellss ks64)]]⟩), (10, ⟨51, 4, true, [[.int .i64 k62, .int .i64 n62, .str s62, .imm q62 4 f62 (cellss ks62)]]⟩), (4, ⟨40, 4, true, [[.int .i64 k10, .int .i64 n10, .imm p10 3 e10 (fcellss fs10), .imm q10 4 f10 (pcellss ks10)]]⟩)], [], O, tk58⟩) (Sub.trans (Sub.drop (k := 7) rfl) (Sub.trans (Sub.drop (k := 5) rfl) (Sub.env _ ⟨rfl, rfl, rfl, rfl, rfl, rfl, trivial⟩))) ?_
 refine run_sr ?_
 refine yL rfl ?_
 refine yD hG rfl ?_
 obtain ⟨z83, hg79, hM⟩ := zb_t hM
 refine yK rfl (i_EncodeTyping_ok n tk22 false ([LF.mk 1 1 0 true []] ++ ks8) k10 n10 p10 e10 fs10 q10 f10 ks10 hg79 _ _) (callK_retZ (fun r78 v tk80 hz90 (hle81 : tk58 ≤ tk80) h82 => ?_) (fun c p tk80 hz (_ : tk58 ≤ tk80) => by subst hz; obtain rfl := bd_stop hM; exact run_pan_at (⟨rfl, (show tk ≤ tk80 by omega), rfl⟩)))
 subst hz90
 replace hM := bd_ok hM
 obtain ⟨ra91, ra92, ra93, va94, va95, va96, tkm77, rfl, rfl, (hle97 : tk58 ≤ tkm77), (hle98 : tkm77 ≤ tk80), ⟨k84, n84, s84, q84, f84, ks84, rfl, rfl, hf85⟩, ⟨k86, n86, s86, q86, f86, ks86, rfl, rfl, hf87⟩, rfl⟩ := h82
 refine yL rfl ?_
 refine run_pu rfl (extract_step rfl rfl rfl) rfl (ltb rfl) ?_
 refine run_pu rfl (extract_step rfl rfl rfl) rfl (ltb rfl) ?_
 refine run_pu rfl (extract_step rfl rfl rfl) rfl (ltb rfl) ?_
 refine run_op rfl (alloc_step (d := 13) hG rfl rfl rfl) rfl (ltb rfl) ?_
 refine run_op rfl (alloc_step (d := 14) hG rfl rfl rfl) rfl (ltb rfl) ?_
 refine yS hG rfl ?_
 refine yS hG rfl ?_
 refine yR rfl ?_
 refine run_ops_nil ?_
 refine run_sr ?_
 refine yL rfl ?_
 refine yL rfl ?_
 refine yB rfl ?_
 refine yL rfl ?_
 refine run_splitd (i := 64) rfl (fun hb99 => ?_) (fun hb99 => ?_)
 ·replace hM := ite_t hb99 hM
  refine run_rdG (on_of rfl rfl rfl rfl) (aload_rd hG rfl rfl rfl (by first | (simp [ldok]; done) | exact List.not_mem_nil | trivial)) rfl (ltb rfl) ?_
  refine run_rdG (on_of rfl rfl rfl rfl) (aload_rd hG rfl rfl rfl (by first | (simp [ldok]; done) | exact List.not_mem_nil | trivial)) rfl (ltb rfl) ?_
  obtain ⟨r100, hg101, hM⟩ := bind_t hM
  refine yG (on_of rfl rfl rfl rfl) rfl (w_same_ok n k62 n62 s62 q62 f62 ks62 k84 n84 s84 q84 f84 ks84 hg101 _ _) (callK_retX (fun v tk102 (hle103 : tk80 ≤ tk102) h104 => ?_))
  subst h104
  refine yP rfl ?_
  refine yL rfl ?_
  refine run_splitb (i := 69) rfl (fun hb107 => ?_) (fun hb107 => ?_)
  ·replace hM := ite_t hb107 hM
   refine run_rdG (on_of rfl rfl rfl rfl) (aload_rd hG rfl rfl rfl (by first | (simp [ldok]; done) | exact List.not_mem_nil | trivial)) rfl (ltb rfl) ?_
   refine run_rdG (on_of rfl rfl rfl rfl) (aload_rd hG rfl rfl rfl (by first | (simp [ldok]; done) | exact List.not_mem_nil | trivial)) rfl (ltb rfl) ?_
   obtain ⟨r108, hg109, hM⟩ := bind_t hM
   refine yG (on_of rfl rfl rfl rfl) rfl (w_same_ok n k64 n64 s64 q64 f64 ks64 k86 n86 s86 q86 f86 ks86 hg109 _ _) (callK_retX (fun v tk110 (hle111 : tk102 ≤ tk110) h112 => ?_))
   subst h112
   refine yP rfl ?_
   refine yR rfl ?_
   refine run_ops_nil ?_
   refine run_ret_to ?_
   replace hM := some_t hM
   subst hM
   refine fin_x hG rfl rfl rfl (v' := .bool r108) (by rfl) ⟨rfl, (show tk ≤ tk110 by omega), _, rfl, rfl⟩
  replace hM := ite_f hb107 hM
  refine yO rfl ?_
  refine yO rfl ?_
  refine yO rfl ?_
  refine yP rfl ?_
  refine yR rfl ?_
  refine run_ops_nil ?_
  refine run_ret_to ?_
  replace hM := some_t hM
  subst hM
  refine fin_x hG rfl rfl rfl (v' := .bool false) (by rfl) ⟨rfl, (show tk ≤ tk102 by omega), _, rfl, rfl⟩
 replace hM := ite_f hb99 hM
 refine yO rfl ?_
 refine yO rfl ?_
 refine yO rfl ?_
 refine yP rfl ?_
 refine yL rfl ?_
 refine yO rfl ?_
 refine yO rfl ?_
 refine yO rfl ?_
 refine yP rfl ?_
 refine yR rfl ?_
 refine run_ops_nil ?_
 refine run_ret_to ?_
 replace hM := some_t hM
 subst hM
 refine fin_x hG rfl rfl rfl (v' := .bool false) (by rfl) ⟨rfl, (show tk ≤ tk80 by omega), _, rfl, rfl⟩

end Go.Am.Ytpkeophkdemcpaa
