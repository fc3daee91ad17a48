/- Printed by a program of ours: Lean functions that do what the Go functions do, and the contracts. -/
import Derived.Test.YtpkeophkdemcpaaTypes
import Derived.Test.YtpkeophkdemcpaaMi4
import Derived.Test.YtpkeophkdemcpaaMc1
import Derived.Test.YtpkeophkdemcpaaMb3
import Derived.Test.YtpkeophkdemcpaaMb1
import Derived.Test.YtpkeophkdemcpaaGs0
import Derived.Test.YtpkeophkdemcpaaMp
import Derived.Test.YtpkeophkdemcpaaZsS
import Derived.Test.YtpkeophkdemcpaaMkExpr
import Derived.Test.YtpkeophkdemcpaaMz
-- packed
namespace Go.Am.Ytpkeophkdemcpaa
open Go Go.Am

def s_SpoiltExprOf (n : Nat) (l1 : List Int) : Option (List F × Pf) :=
 (s_l00Src_tyCtx n (l1, 0, (Int.tmod ((l1).length : Int) 1000))).bind fun r2 =>
 (s_l00Src_next (r2.2.1, r2.2.2.1, r2.2.2.2) 5).bind fun r14 =>
 (s_l00Src_expr n (r14.2.1, r14.2.2.1, r14.2.2.2) r2.1 r14.1).bind fun r26 =>
 (s_l00Src_spoiltExpr n (r26.2.2.1, r26.2.2.2.1, r26.2.2.2.2) r26.1).bind fun r44 =>
 (s_ExprOK n r44.1).bind fun r56 =>
 if (!r56) = true then
  (s_l00Src_next (r44.2.1, r44.2.2.1, r44.2.2.2) 4).bind fun r64 =>
  some (r2.1, (Pf.mk 1 r64.1 [] []))
 else
  some (r2.1, r44.1)

set_option maxRecDepth 100000 in
theorem s_SpoiltExprOf_ok (n : Nat) : ∀ (f1 : Bool) (l1 : List Int) {r : (List F × Pf)}, s_SpoiltExprOf n l1 = some r → ∀ (O : Heap) (tk : Nat), 2 ≤ tk → ACalls Go.Proofs.Try.prog 20 [.imm 0 1 f1 ((l1 : List Int).map fun n => [AV.int .u8 n])] O tk (RetX O tk (fun v tk' => ∃ r0' r1' v0' v1', r = (r0', r1') ∧ v = .tup [v0', v1'] ∧ VFs false tk tk' r0' v0' ∧ VP false tk tk' r1' v1')) := by
 intro f1 l1 r hM O tk h2tk
 unfold s_SpoiltExprOf at hM
 refine acalls_of_run_z Go.Proofs.Try.func20 rfl rfl [] [] (Bor.nil _) [(0, .imm 0 1 f1 ((l1 : List Int).map fun n => [AV.int .u8 n]))] (.cons (entS rfl) (.nil _)) (leb rfl) (fun _ h => by cases h) yE (fun S0 hO htk hfz hzf => ?_)
 refine run_sr ?_
 refine yR rfl ?_
 refine run_op rfl (alloc_step (d := 3) hG rfl rfl rfl) rfl (ltb rfl) ?_
 refine yN ?_
 refine run_sr ?_
 refine yL rfl ?_
 refine run_callBox (ob := ⟨156, 3, true, [[.imm 0 1 f1 ((l1 : List Int).map fun n => [AV.int .u8 n]), .int .i64 0, .int .i64 (Int.tmod ((l1).length : Int) 1000)]]⟩) rfl rfl rfl (ltb rfl) rfl rfl rfl rfl (s_l00Source_box 0 f1 l1 _ _) rfl (fun out O' tk' h => h) ?_
 refine yR rfl ?_
 refine yN ?_
 refine run_sr ?_
 refine yL rfl ?_
 obtain ⟨r2, hg3, hM⟩ := bind_t hM
 refine yK rfl (s_l00Src_tyCtx_ok n (.loc 9) f1 l1 0 (Int.tmod ((l1).length : Int) 1000) hg3 _ _ rfl) (callK_retV_loc (k := 9) rfl (fun v o'13 tk4 (hle5 : tk ≤ tk4) h6 => ?_))
 obtain ⟨ra12, fc9, c9, c10, c11, rfl, rfl, ⟨q7, f7, ks7, rfl, rfl, hf8⟩⟩ := h6
 refine yR rfl ?_
 refine yN ?_
 refine run_sr ?_
 refine yL rfl ?_
 refine yL rfl ?_
 refine yL rfl ?_
 obtain ⟨r14, hg15, hM⟩ := bind_t hM
 refine yK rfl (s_l00Src_next_ok (.loc 9) fc9 c9 c10 c11 5 hg15 _ _ rfl) (callK_retV_loc (k := 9) rfl (fun v o'25 tk16 (hle17 : tk4 ≤ tk16) h18 => ?_))
 obtain ⟨ra24, fc21, c21, c22, c23, rfl, rfl, rfl⟩ := h18
 obtain ⟨r26, hg27, hM⟩ := bind_t hM
 refine yK rfl (s_l00Src_expr_ok n (.loc 9) fc21 c21 c22 c23 q7 f7 ks7 ra24 hg27 _ _ rfl) (callK_retV_loc (k := 9) rfl (fun v o'43 tk28 (hle29 : tk16 ≤ tk28) h30 => ?_))
 obtain ⟨ra39, ra40, va41, va42, fc35, c35, c36, c37, rfl, rfl, rfl, ⟨k31, n31, p31, e31, fs31, q31, f31, ks31, rfl, rfl, hf32⟩, ⟨k33, n33, q33, f33, ks33, rfl, rfl, hf34⟩⟩ := h30
 refine yL rfl ?_
 refine run_pu rfl (extract_step rfl rfl rfl) rfl (ltb rfl) ?_
 refine run_pu rfl (extract_step rfl rfl rfl) rfl (ltb rfl) ?_
 refine run_op rfl (alloc_step (d := 6) hG rfl rfl rfl) rfl (ltb rfl) ?_
 refine run_op rfl (alloc_step (d := 7) hG rfl rfl rfl) rfl (ltb rfl) ?_
 refine yS hG rfl ?_
 refine yS hG rfl ?_
 refine yN ?_
 refine run_sub_code (σ' := ⟨[(2, .imm 0 0 true []), (3, .optr (.loc 3) 0 0), (4, .optr (.loc 9) 0 0), (5, .imm q7 3 f7 (fcellss ks7)), (6, .optr (.loc 6) 0 0)], [(6, ⟨40, 4, true, [[.int .i64 k31, .int .i64 n31, .imm p31 3 e31 (fcellss fs31), .imm q31 4 f31 (pcellss ks31)]]⟩), (9, ⟨156, 3, true, [[.imm 0 1 fc35 ((c35 : List Int).map fun n => [AV.int .u8 n]), .int .i64 c36, .int .i64 c37]]⟩), (3, ⟨40, 4, true, [[.int .i64 0, .int .i64 0, .imm 0 3 true [], .imm 0 4 true []]]⟩)], [], O, tk28⟩) (Sub.trans (Sub.drop (k := 7) rfl) (Sub.env _ ⟨rfl, rfl, rfl, rfl, rfl, trivial⟩)) ?_
 refine run_sr ?_
 refine yL rfl ?_
 refine yD hG rfl ?_
 obtain ⟨r44, hg45, hM⟩ := bind_t hM
 refine yK rfl (s_l00Src_spoiltExpr_ok n (.loc 9) fc35 c35 c36 c37 k31 n31 p31 e31 fs31 q31 f31 ks31 hg45 _ _ (show 2 ≤ tk28 by omega) rfl) (callK_retV_loc (k := 9) rfl (fun v o'55 tk46 (hle47 : tk28 ≤ tk46) h48 => ?_))
 obtain ⟨ra54, fc51, c51, c52, c53, rfl, rfl, ⟨k49, n49, p49, e49, fs49, q49, f49, ks49, rfl, rfl, hf50⟩⟩ := h48
 refine yS hG rfl ?_
 refine yN ?_
 refine run_seq ?_
 refine run_sr ?_
 refine yD hG rfl ?_
 obtain ⟨r56, hg57, hM⟩ := bind_t hM
 refine yK rfl (s_ExprOK_ok n k49 n49 p49 e49 fs49 q49 f49 ks49 hg57 _ _) (callK_retX (fun v tk58 (hle59 : tk46 ≤ tk58) h60 => ?_))
 subst h60
 refine run_pu rfl (aun_step rfl rfl rfl) rfl (ltb rfl) ?_
 refine yN ?_
 refine run_ifb rfl rfl (fun hb63 => ?_) (fun hb63 => ?_)
 ·replace hM := ite_t hb63 hM
  refine run_region ?_
  refine yL rfl ?_
  obtain ⟨r64, hg65, hM⟩ := bind_t hM
  refine yK rfl (s_l00Src_next_ok (.loc 9) fc51 c51 c52 c53 4 hg65 _ _ rfl) (callK_retV_loc (k := 9) rfl (fun v o'75 tk66 (hle67 : tk58 ≤ tk66) h68 => ?_))
  obtain ⟨ra74, fc71, c71, c72, c73, rfl, rfl, rfl⟩ := h68
  refine run_pu rfl (build_step hG rfl (by rfl) rfl (fun h => by cases h) (by rfl)) rfl (ltb rfl) ?_
  refine yS hG rfl ?_
  refine yN ?_
  refine run_seq ?_
  refine run_draw [.loc 3] (n := 4) mixed rfl (by intro x hx; simp only [List.mem_cons, List.not_mem_nil, or_false] at hx; rcases hx with rfl <;> rfl) ?_
  refine yTV 0 (by kernel_rfl) rfl ?_
  refine yTL hG 1 (by kernel_rfl) rfl ?_
  refine yTW 2 (by kernel_rfl) rfl ?_
  refine yW hG 3 (by kernel_rfl) rfl (by kernel_rfl) rfl ?_
  refine AAny.done (by kernel_rfl) ?_
  refine run_ret_to ?_
  replace hM := some_t hM
  subst hM
  refine fin_x hG rfl rfl rfl (v' := .tup [.imm q7 3 f7 (fcellss ks7), .agg [.int .i64 1, .int .i64 ra74, .imm 0 3 true (fcellss []), .imm 0 4 true (pcellss [])]]) (by rfl) ⟨rfl, (show tk ≤ tk66 by omega), _, rfl, ⟨_, _, _, _, rfl, rfl, ⟨q7, f7, ks7, rfl, rfl, fun h => by cases h⟩, ⟨1, ra74, 0, true, [], 0, true, [], rfl, rfl, fun h => by cases h⟩⟩⟩
 replace hM := ite_f hb63 hM
 refine run_skip ?_
 refine run_seq ?_
 refine run_draw [.loc 3] (n := 4) mixed rfl (by intro x hx; simp only [List.mem_cons, List.not_mem_nil, or_false] at hx; rcases hx with rfl <;> rfl) ?_
 refine yTV 0 (by kernel_rfl) rfl ?_
 refine yTL hG 1 (by kernel_rfl) rfl ?_
 refine yTW 2 (by kernel_rfl) rfl ?_
 refine yW hG 3 (by kernel_rfl) rfl (by kernel_rfl) rfl ?_
 refine AAny.done (by kernel_rfl) ?_
 refine run_ret_to ?_
 replace hM := some_t hM
 subst hM
 refine fin_x hG rfl rfl rfl (v' := .tup [.imm q7 3 f7 (fcellss ks7), .agg [.int .i64 k49, .int .i64 n49, .imm p49 3 e49 (fcellss fs49), .imm q49 4 f49 (pcellss ks49)]]) (by rfl) ⟨rfl, (show tk ≤ tk58 by omega), _, rfl, ⟨_, _, _, _, rfl, rfl, ⟨q7, f7, ks7, rfl, rfl, fun h => by cases h⟩, ⟨k49, n49, p49, e49, fs49, q49, f49, ks49, rfl, rfl, fun h => by cases h⟩⟩⟩

def w_sameType_L1 (rec_w_sameType : F → F → Option Bool) (x1 : F) (x2 : F) : Nat → Int → Option Bool
 | 0, _ => none
 | m + 1, i6 =>
  if i6 < ((x1.kids).length : Int) then
   (idx x1.kids i6).bind fun y8 =>
   (idx x2.kids i6).bind fun y13 =>
   (rec_w_sameType y8 y13).bind fun r18 =>
   if (!r18) = true then
    some false
   else
    w_sameType_L1 rec_w_sameType x1 x2 m (IntKind.i64.wrap (i6 + 1))
  else
   some true

def w_sameType : Nat → F → F → Option Bool
 | 0, _, _ => none
 | n + 1, x1, x2 =>
  if (x1.kind != x2.kind) = true then
   some false
  else
   if (x1.n != x2.n) = true then
    some false
   else
    if (((x1.kids).length : Int) != ((x2.kids).length : Int)) = true then
     some false
    else
     w_sameType_L1 (w_sameType n) x1 x2 n 0

def w_sameType_P (n : Nat) : Prop := ∀ (k1 : Int) (n1 : Int) (q1 : Nat) (f1 : Bool) (ks1 : List LF) (k2 : Int) (n2 : Int) (q2 : Nat) (f2 : Bool) (ks2 : List LF) {r : Bool}, w_sameType n (F.mk k1 n1 (fers ks1)) (F.mk k2 n2 (fers ks2)) = some r → ∀ (O : Heap) (tk : Nat), ACalls Go.Proofs.Try.prog 17 [.agg [.int .i64 k1, .int .i64 n1, .imm q1 3 f1 (fcellss ks1)], .agg [.int .i64 k2, .int .i64 n2, .imm q2 3 f2 (fcellss ks2)]] O tk (RetX O tk (fun v tk' => v = .bool r))

set_option maxHeartbeats 20000000 in
set_option maxHeartbeats 20000000 in
set_option maxRecDepth 100000 in
theorem w_sameType_st (n : Nat) (ih_w_sameType : w_sameType_P n) : w_sameType_P (n + 1) := by
 intro k1 n1 q1 f1 ks1 k2 n2 q2 f2 ks2 r hM O tk
 rw [w_sameType] at hM
 refine acalls_of_run Go.Proofs.Try.func17 rfl rfl [] [] (Bor.nil _) [(0, .agg [.int .i64 k1, .int .i64 n1, .imm q1 3 f1 (fcellss ks1)]), (1, .agg [.int .i64 k2, .int .i64 n2, .imm q2 3 f2 (fcellss ks2)])] (.cons (.agg _) (.cons (.agg _) (.nil _))) (leb rfl) (fun _ h => by cases h) (fun S0 hO htk hfz => ?_)
 refine run_sr ?_
 refine run_op rfl (box_step (d := 2) rfl rfl rfl rfl rfl) rfl (ltb rfl) ?_
 refine run_op rfl (box_step (d := 3) rfl rfl rfl rfl rfl) rfl (ltb rfl) ?_
 refine yR rfl ?_
 refine yN ?_
 refine run_seq ?_
 refine run_sr ?_
 refine yF hG rfl ?_
 refine yD hG rfl ?_
 refine yF hG rfl ?_
 refine yD hG rfl ?_
 refine yB rfl ?_
 refine yL rfl ?_
 refine run_splitb (i := 11) rfl (fun hb3 => ?_) (fun hb3 => ?_)
 ·replace hM := ite_t hb3 hM
  refine yO rfl ?_
  refine yO rfl ?_
  refine yO rfl ?_
  refine yO rfl ?_
  refine yO rfl ?_
  refine yP rfl ?_
  refine yL rfl ?_
  refine yO rfl ?_
  refine yO rfl ?_
  refine yO rfl ?_
  refine yO rfl ?_
  refine yO rfl ?_
  refine yO rfl ?_
  refine yO rfl ?_
  refine yP rfl ?_
  refine yN ?_
  refine run_if rfl rfl (fun _ => ?_) (fun h => by cases h)
  refine run_sr ?_
  refine yR rfl ?_
  refine yN ?_
  refine run_ret_to ?_
  replace hM := some_t hM
  subst hM
  refine fin_x hG rfl rfl rfl (v' := .bool false) (by rfl) ⟨rfl, (show tk ≤ tk by omega), _, rfl, rfl⟩
 replace hM := ite_f hb3 hM
 refine run_puG (on_of rfl rfl rfl rfl) (fieldAddr_step hG rfl rfl rfl rfl rfl) rfl (ltb rfl) ?_
 refine run_rdG (on_of rfl rfl rfl rfl) (aload_rd hG rfl rfl rfl (by first | (simp [ldok]; done) | exact List.not_mem_nil | trivial)) rfl (ltb rfl) ?_
 refine run_puG (on_of rfl rfl rfl rfl) (fieldAddr_step hG rfl rfl rfl rfl rfl) rfl (ltb rfl) ?_
 refine run_rdG (on_of rfl rfl rfl rfl) (aload_rd hG rfl rfl rfl (by first | (simp [ldok]; done) | exact List.not_mem_nil | trivial)) rfl (ltb rfl) ?_
 refine run_puG (on_of rfl rfl rfl rfl) (abin_step rfl rfl rfl rfl (fun _ h => by cases h)) rfl (ltb rfl) ?_
 refine yP rfl ?_
 refine yL rfl ?_
 refine run_splitb (i := 18) rfl (fun hb4 => ?_) (fun hb4 => ?_)
 ·replace hM := ite_t hb4 hM
  refine yO rfl ?_
  refine yO rfl ?_
  refine yO rfl ?_
  refine yO rfl ?_
  refine yO rfl ?_
  refine yO rfl ?_
  refine yO rfl ?_
  refine yP rfl ?_
  refine yN ?_
  refine run_sub_code (σ' := ⟨[(2, .optr (.loc 2) 0 0), (3, .optr (.loc 3) 0 0), (4, .bool false), (26, .bool true)], [(3, ⟨42, 3, true, [[.int .i64 k2, .int .i64 n2, .imm q2 3 f2 (fcellss ks2)]]⟩), (2, ⟨42, 3, true, [[.int .i64 k1, .int .i64 n1, .imm q1 3 f1 (fcellss ks1)]]⟩)], [], O, tk⟩) (Sub.env _ ⟨rfl, rfl, rfl, rfl, trivial⟩) ?_
  refine run_if rfl rfl (fun _ => ?_) (fun h => by cases h)
  refine run_sr ?_
  refine yR rfl ?_
  refine yN ?_
  refine run_ret_to ?_
  replace hM := some_t hM
  subst hM
  refine fin_x hG rfl rfl rfl (v' := .bool false) (by rfl) ⟨rfl, (show tk ≤ tk by omega), _, rfl, rfl⟩
 replace hM := ite_f hb4 hM
 refine run_puG (on_of rfl rfl rfl rfl) (fieldAddr_step hG rfl rfl rfl rfl rfl) rfl (ltb rfl) ?_
 refine run_rdG (on_of rfl rfl rfl rfl) (aload_rd hG rfl rfl rfl (by first | (simp [ldok]; done) | exact List.not_mem_nil | trivial)) rfl (ltb rfl) ?_
 refine run_puG (on_of rfl rfl rfl rfl) (lenImm_step hG rfl rfl rfl rfl (flen _)) rfl (ltb rfl) ?_
 refine run_puG (on_of rfl rfl rfl rfl) (fieldAddr_step hG rfl rfl rfl rfl rfl) rfl (ltb rfl) ?_
 refine run_rdG (on_of rfl rfl rfl rfl) (aload_rd hG rfl rfl rfl (by first | (simp [ldok]; done) | exact List.not_mem_nil | trivial)) rfl (ltb rfl) ?_
 refine run_puG (on_of rfl rfl rfl rfl) (lenImm_step hG rfl rfl rfl rfl (flen _)) rfl (ltb rfl) ?_
 refine run_puG (on_of rfl rfl rfl rfl) (abin_step rfl rfl rfl rfl (fun _ h => by cases h)) rfl (ltb rfl) ?_
 refine yP rfl ?_
 refine yN ?_
 refine run_sub_code (σ' := ⟨[(2, .optr (.loc 2) 0 0), (3, .optr (.loc 3) 0 0), (4, .bool false), (26, .bool ((((fers ks1)).length : Int) != (((fers ks2)).length : Int)))], [(3, ⟨42, 3, true, [[.int .i64 k2, .int .i64 n2, .imm q2 3 f2 (fcellss ks2)]]⟩), (2, ⟨42, 3, true, [[.int .i64 k1, .int .i64 n1, .imm q1 3 f1 (fcellss ks1)]]⟩)], [], O, tk⟩) (Sub.env _ ⟨rfl, rfl, rfl, rfl, trivial⟩) ?_
 refine run_ifb rfl rfl (fun hb5 => ?_) (fun hb5 => ?_)
 ·replace hM := ite_t hb5 hM
  refine run_sr ?_
  refine yR rfl ?_
  refine yN ?_
  refine run_ret_to ?_
  replace hM := some_t hM
  subst hM
  refine fin_x hG rfl rfl rfl (v' := .bool false) (by rfl) ⟨rfl, (show tk ≤ tk by omega), _, rfl, rfl⟩
 replace hM := ite_f hb5 hM
 refine run_skip ?_
 refine run_seq ?_
 refine run_sr ?_
 refine yR rfl ?_
 refine yN ?_
 refine run_block ?_
 refine run_rounds (fun m σ => ∃ (i6 : Int) (tkw_sameType_L1 : Nat), tk ≤ tkw_sameType_L1 ∧ w_sameType_L1 (w_sameType n) (F.mk k1 n1 (fers ks1)) (F.mk k2 n2 (fers ks2)) m i6 = some r ∧ σ = ⟨[(2, .optr (.loc 2) 0 0), (3, .optr (.loc 3) 0 0), (4, .bool false), (5, .int .i64 i6)], [(3, ⟨42, 3, true, [[.int .i64 k2, .int .i64 n2, .imm q2 3 f2 (fcellss ks2)]]⟩), (2, ⟨42, 3, true, [[.int .i64 k1, .int .i64 n1, .imm q1 3 f1 (fcellss ks1)]]⟩)], [], O, tkw_sameType_L1⟩) n (Sub.pk [2, 3, 4, 5] rfl) ⟨0, tk, Nat.le_refl _, hM, rfl⟩ (fun m σ hI => ?_)
 clear hM
 obtain ⟨i6, tkw_sameType_L1, hle26, hM, rfl⟩ := hI
 obtain _ | m := m
 ·exact absurd hM (by rw [w_sameType_L1]; exact fun h => by cases h)
 rw [w_sameType_L1] at hM
 refine run_seq ?_
 refine run_sr ?_
 refine yL rfl ?_
 refine yF hG rfl ?_
 refine yD hG rfl ?_
 refine run_pu rfl (lenImm_step hG rfl rfl rfl rfl (flen _)) rfl (ltb rfl) ?_
 refine yB rfl ?_
 refine yN ?_
 refine run_ifd rfl rfl (fun hb7 => ?_) (fun hb7 => ?_)
 ·replace hM := ite_t hb7 hM
  refine run_skip ?_
  refine run_seq ?_
  refine run_block ?_
  refine run_seq ?_
  refine run_draw [] (n := 12) mixed rfl yE ?_
  refine yTF hG 0 (by kernel_rfl) rfl ?_
  refine yTL hG 1 (by kernel_rfl) rfl ?_
  refine yTV 2 (by kernel_rfl) rfl ?_
  obtain ⟨y8, hy9, hM⟩ := bind_t hM
  obtain ⟨k10, n10, q10, f10, ks10, rfl, hc11, hi12⟩ := fidx (ks := ks1) hy9
  refine yT 3 (by kernel_rfl) rfl rfl rfl (ltb rfl) ((indexImm_step hG rfl rfl rfl hi12 rfl rfl rfl rfl hc11).rd _) ?_
  refine yTL hG 4 (by kernel_rfl) rfl ?_
  refine yTF hG 5 (by kernel_rfl) rfl ?_
  refine yTL hG 6 (by kernel_rfl) rfl ?_
  refine yTV 7 (by kernel_rfl) rfl ?_
  obtain ⟨y13, hy14, hM⟩ := bind_t hM
  obtain ⟨k15, n15, q15, f15, ks15, rfl, hc16, hi17⟩ := fidx (ks := ks2) hy14
  refine yT 8 (by kernel_rfl) rfl rfl rfl (ltb rfl) ((indexImm_step hG rfl rfl rfl hi17 rfl rfl rfl rfl hc16).rd _) ?_
  refine yTL hG 9 (by kernel_rfl) rfl ?_
  obtain ⟨r18, hg19, hM⟩ := bind_t hM
  refine yC 10 (by kernel_rfl) rfl rfl (ih_w_sameType k10 n10 q10 f10 ks10 k15 n15 q15 f15 ks15 hg19 _ _) (callK_retX (fun v tk20 (hle21 : tkw_sameType_L1 ≤ tk20) h22 => ?_))
  subst h22
  refine yT 11 (by kernel_rfl) rfl rfl rfl (ltb rfl) ((aun_step rfl rfl rfl).rd _) ?_
  refine AAny.done (by kernel_rfl) ?_
  refine run_sub_code (σ' := ⟨[(2, .optr (.loc 2) 0 0), (3, .optr (.loc 3) 0 0), (4, .bool false), (5, .int .i64 i6), (45, .bool (!r18))], [(3, ⟨42, 3, true, [[.int .i64 k2, .int .i64 n2, .imm q2 3 f2 (fcellss ks2)]]⟩), (2, ⟨42, 3, true, [[.int .i64 k1, .int .i64 n1, .imm q1 3 f1 (fcellss ks1)]]⟩)], [], O, tk20⟩) (Sub.env _ ⟨rfl, rfl, rfl, rfl, rfl, trivial⟩) ?_
  refine run_ifb rfl rfl (fun hb25 => ?_) (fun hb25 => ?_)
  ·replace hM := ite_t hb25 hM
   refine run_sr ?_
   refine yR rfl ?_
   refine yN ?_
   refine run_ret_to ?_
   replace hM := some_t hM
   subst hM
   refine fin_x hG rfl rfl rfl (v' := .bool false) (by rfl) ⟨rfl, (show tk ≤ tk20 by omega), _, rfl, rfl⟩
  replace hM := ite_f hb25 hM
  refine run_skip ?_
  refine run_blk ?_
  refine run_region ?_
  refine yL rfl ?_
  refine yB rfl ?_
  refine yR rfl ?_
  refine yN ?_
  exact run_loop_end ⟨m, _, Nat.lt_succ_self _, ⟨(IntKind.i64.wrap (i6 + 1)), tk20, (show tk ≤ tk20 by omega), hM, rfl⟩, Sub.pk [2, 3, 4, 5] rfl⟩
 replace hM := ite_f hb7 hM
 refine run_exit_to rfl ?_
 refine run_sr ?_
 refine yR rfl ?_
 refine yN ?_
 refine run_ret_to ?_
 replace hM := some_t hM
 subst hM
 refine fin_x hG rfl rfl rfl (v' := .bool true) (by rfl) ⟨rfl, (show tk ≤ tkw_sameType_L1 by omega), _, rfl, rfl⟩

theorem w_sameType_all : ∀ (n : Nat), (w_sameType_P n)
 | 0 => by intro k1 n1 q1 f1 ks1 k2 n2 q2 f2 ks2 r hM; rw [w_sameType] at hM; cases hM
 | n + 1 => have ih := w_sameType_all n; w_sameType_st n (ih)

theorem w_sameType_ok (n : Nat) : w_sameType_P n := w_sameType_all n

end Go.Am.Ytpkeophkdemcpaa
