/- Printed by a program of ours: Lean functions that do what the Go functions do, and the contracts. -/
import Derived.Test.YtiobknkpdkkikaaTypes
import Derived.Test.YtiobknkpdkkikaaMi4
import Derived.Test.YtiobknkpdkkikaaMc1
import Derived.Test.YtiobknkpdkkikaaMb3
import Derived.Test.YtiobknkpdkkikaaEpEnc
import Derived.Test.YtiobknkpdkkikaaMkExpr
-- packed
namespace Go.Am.Ytiobknkpdkkikaa
open Go Go.Am

def i_EncodeExpr_c1__kk (n : Nat) (i1 : Int) (x2 : Pf) : Option (Rz T) :=
 (i_firstLevels n i1 1 0).bind fun r3 =>
 zb (i_levels_exprTerm n r3 x2 i1) fun r10 =>
 zb (i_formed n r10) fun r19 =>
 some (.ok r19)

set_option maxRecDepth 100000 in
theorem i_EncodeExpr_c1__kk_ok (n : Nat) : ∀ (i1 : Int) (k2 : Int) (n2 : Int) (p2 : Nat) (e2 : Bool) (fs2 : List LF) (q2 : Nat) (f2 : Bool) (ks2 : List LP) {r : (Rz T)}, i_EncodeExpr_c1__kk n i1 (Pf.mk k2 n2 (fers fs2) (pers ks2)) = some r → ∀ (O : Heap) (tk : Nat), ACalls Go.Proofs.Try.prog 52 [.cptr [.int .i64 i1], .cptr [.int .i64 k2, .int .i64 n2, .imm p2 3 e2 (fcellss fs2), .imm q2 4 f2 (pcellss ks2)]] O tk (RetZ HT O tk r (fun r v tk' => VT false tk tk' r v)) := by
 intro i1 k2 n2 p2 e2 fs2 q2 f2 ks2 r hM O tk
 unfold i_EncodeExpr_c1__kk at hM
 refine acalls_of_run Go.Proofs.Try.func52 rfl rfl [] [] (Bor.nil _) [(0, .cptr [.int .i64 i1]), (1, .cptr [.int .i64 k2, .int .i64 n2, .imm p2 3 e2 (fcellss fs2), .imm q2 4 f2 (pcellss ks2)])] (.cons (.cptr _) (.cons (.cptr _) (.nil _))) (leb rfl) (fun _ h => by cases h) (fun S0 hO htk hfz => ?_)
 refine run_sr ?_
 refine run_op rfl (alloc_step (d := 2) hG rfl rfl rfl) rfl (ltb rfl) ?_
 refine run_ops_nil ?_
 refine run_seq ?_
 refine run_draw [.loc 2] (n := 7) mixed rfl (by intro x hx; simp only [List.mem_cons, List.not_mem_nil, or_false] at hx; rcases hx with rfl <;> rfl) ?_
 refine AAny.take (i := 0) rfl (by kernel_rfl) (by kernel_rfl) (by kernel_rfl) rfl rfl (ltb rfl) (aload_rd hG rfl rfl rfl (by first | (simp [ldok]; done) | exact List.not_mem_nil | trivial)) ?_
 refine AAny.take (i := 2) rfl (by kernel_rfl) (by kernel_rfl) (by kernel_rfl) rfl rfl (ltb rfl) (aload_rd hG rfl rfl rfl (by first | (simp [ldok]; done) | exact List.not_mem_nil | trivial)) ?_
 refine AAny.take (i := 3) rfl (by kernel_rfl) (by kernel_rfl) (by kernel_rfl) rfl rfl (ltb rfl) (aload_rd hG rfl rfl rfl (by first | (simp [ldok]; done) | exact List.not_mem_nil | trivial)) ?_
 obtain ⟨r3, hg4, hM⟩ := bind_t hM
 refine AAny.one (i := 1) (by kernel_rfl) (AOp.call rfl rfl rfl rfl (ltb rfl) rfl rfl rfl (fun _ h => absurd h List.not_mem_nil) (fun _ h => absurd h List.not_mem_nil) (i_firstLevels_ok n i1 1 0 hg4 _ _) (callK_retX (fun v tk5 (hle6 : tk ≤ tk5) h7 => ?_)))
 obtain ⟨q8, f8, rfl⟩ := h7
 obtain ⟨z15, hg11, hM⟩ := zb_t hM
 refine AAny.one (i := 4) (by kernel_rfl) (AOp.call rfl rfl rfl rfl (ltb rfl) rfl rfl rfl (fun _ h => absurd h List.not_mem_nil) (fun _ h => absurd h List.not_mem_nil) (i_levels_exprTerm_ok n q8 f8 r3 k2 n2 p2 e2 fs2 q2 f2 ks2 i1 hg11 _ _) (callK_retZ (fun r10 v tk12 hz18 (hle13 : tk5 ≤ tk12) h14 => ?_) (fun c p tk12 hz (_ : tk5 ≤ tk12) => by subst hz; obtain rfl := bd_stop hM; exact run_pan_at (⟨rfl, (show tk ≤ tk12 by omega), rfl⟩))))
 subst hz18
 replace hM := bd_ok hM
 obtain ⟨k16, n16, s16, q16, f16, ks16, rfl, rfl, hf17⟩ := h14
 obtain ⟨z24, hg20, hM⟩ := zb_t hM
 refine AAny.one (i := 5) (by kernel_rfl) (AOp.call rfl rfl rfl rfl (ltb rfl) rfl rfl rfl (fun _ h => absurd h List.not_mem_nil) (fun _ h => absurd h List.not_mem_nil) (i_formed_ok n k16 n16 s16 q16 f16 ks16 hg20 _ _) (callK_retZ (fun r19 v tk21 hz27 (hle22 : tk12 ≤ tk21) h23 => ?_) (fun c p tk21 hz (_ : tk12 ≤ tk21) => by subst hz; obtain rfl := bd_stop hM; exact run_pan_at (⟨rfl, (show tk ≤ tk21 by omega), rfl⟩))))
 subst hz27
 replace hM := bd_ok hM
 obtain ⟨k25, n25, s25, q25, f25, ks25, rfl, rfl, hf26⟩ := h23
 refine AAny.one (i := 6) (by kernel_rfl) (AOp.step0 rfl rfl rfl (store_step hG rfl rfl rfl rfl rfl rfl rfl rfl) (by intro x hx; exact hx) ?_)
 refine AAny.done (by kernel_rfl) ?_
 refine run_ret_to ?_
 obtain rfl := some_t hM
 refine fin_x hG rfl rfl rfl (v' := .agg [.int .i64 k25, .int .i64 n25, .str s25, .imm q25 4 f25 (cellss ks25)]) (by rfl) ⟨rfl, (show tk ≤ tk21 by omega), _, rfl, ⟨k25, n25, s25, q25, f25, ks25, rfl, rfl, fun h => by cases h⟩⟩

def i_result_c1__of_i_EncodeExpr_c1_kv (n : Nat) (i1 : Int) (x2 : Pf) (x3 : T) : Option (Rz T) :=
 zb (i_EncodeExpr_c1__kk n i1 x2) fun r4 =>
 some (.ok r4)

set_option maxRecDepth 100000 in
theorem i_result_c1__of_i_EncodeExpr_c1_kv_ok (n : Nat) : ∀ (i1 : Int) (k2 : Int) (n2 : Int) (p2 : Nat) (e2 : Bool) (fs2 : List LF) (q2 : Nat) (f2 : Bool) (ks2 : List LP) (X0 : ID) (k3 : Int) (n3 : Int) (s3 : ByteArray) (q3 : Nat) (f3 : Bool) (ks3 : List LT) {r : (Rz T)}, i_result_c1__of_i_EncodeExpr_c1_kv n i1 (Pf.mk k2 n2 (fers fs2) (pers ks2)) (T.mk k3 n3 s3 (ers ks3)) = some r → ∀ (O : Heap) (tk : Nat), O X0 = some ⟨39, 4, true, [[.int .i64 k3, .int .i64 n3, .str s3, .imm q3 4 f3 (cellss ks3)]]⟩ → ACalls Go.Proofs.Try.prog 110 [.cptr [.fn (.func 52) [] [.cptr [.int .i64 i1], .cptr [.int .i64 k2, .int .i64 n2, .imm p2 3 e2 (fcellss fs2), .imm q2 4 f2 (pcellss ks2)]]], .optr X0 0 0] O tk (RetVZ HT O X0 tk r (fun r v o' tk' => ∃ cs, o' = ⟨39, 4, true, [cs]⟩ ∧ VT false tk tk' r (.agg cs) ∧ v = .tup []) (fun o' => o'.up = o')) := by
 intro i1 k2 n2 p2 e2 fs2 q2 f2 ks2 X0 k3 n3 s3 q3 f3 ks3 r hM O tk hX0
 unfold i_result_c1__of_i_EncodeExpr_c1_kv at hM
 refine acalls_of_run Go.Proofs.Try.func110 rfl rfl [X0] [⟨39, 4, true, [[.int .i64 k3, .int .i64 n3, .str s3, .imm q3 4 f3 (cellss ks3)]]⟩] (Bor.one hX0 rfl) [(0, .cptr [.fn (.func 52) [] [.cptr [.int .i64 i1], .cptr [.int .i64 k2, .int .i64 n2, .imm p2 3 e2 (fcellss fs2), .imm q2 4 f2 (pcellss ks2)]]]), (1, .optr (.bor 0) 0 0)] (.cons (.cptr _) (.cons (.bor 0 _ _ _ rfl) (.nil _))) (leb rfl) (by intro y h; simp only [List.mem_cons, List.not_mem_nil, or_false] at h; rcases h with rfl <;> simp [tch, tch0]) (fun S0 hO htk hfz => ?_)
 refine run_region ?_
 refine run_ld hG rfl rfl rfl rfl rfl (ltb rfl) ?_
 obtain ⟨z9, hg5, hM⟩ := zb_t hM
 refine run_call rfl rfl rfl (ltb rfl) rfl rfl rfl (fun _ h => absurd h List.not_mem_nil) (i_EncodeExpr_c1__kk_ok n i1 k2 n2 p2 e2 fs2 q2 f2 ks2 hg5 _ _) (callK_retZ (fun r4 v tk6 hz12 (hle7 : tk ≤ tk6) h8 => ?_) (fun c p tk6 hz (_ : tk ≤ tk6) => by subst hz; obtain rfl := bd_stop hM; exact run_pan_at (⟨⟨39, 4, true, [[.int .i64 k3, .int .i64 n3, .str s3, .imm q3 4 f3 (cellss ks3)]]⟩, rfl, (show tk ≤ tk6 by omega), rfl, rfl⟩)))
 subst hz12
 replace hM := bd_ok hM
 obtain ⟨k10, n10, s10, q10, f10, ks10, rfl, rfl, hf11⟩ := h8
 refine run_op0 rfl (store_step hG rfl rfl rfl rfl rfl rfl rfl rfl) rfl ?_
 refine run_ops_nil ?_
 show Results _ _ _ _
 obtain rfl := some_t hM
 refine fin_x hG rfl rfl rfl (v' := .tup []) (by rfl) ⟨⟨39, 4, true, [[.int .i64 k10, .int .i64 n10, .str s10, .imm q10 4 f10 (cellss ks10)]]⟩, rfl, (show tk ≤ tk6 by omega), _, rfl, ⟨_, rfl, ⟨k10, n10, s10, q10, f10, ks10, rfl, rfl, fun h => by cases h⟩, rfl⟩⟩

def i_result__fn_i_EncodeExpr_c1kk (n : Nat) (i1 : Int) (x2 : Pf) : Option (T × Int) :=
 (i_result_c1__of_i_EncodeExpr_c1_kv n i1 x2 (T.mk 0 0 ⟨#[]⟩ [])).bind fun z3 =>
 z3.cs (fun r6 =>
  if (0 != 0) = true then
   some ((T.mk 0 0 ⟨#[]⟩ []), 0)
  else
   (i_clone n r6).bind fun r15 =>
   some (r15, 0)) (fun c12 p13 =>
  if (c12 != 0) = true then
   some ((T.mk 0 0 ⟨#[]⟩ []), c12)
  else
   none)

set_option maxRecDepth 100000 in
theorem i_result__fn_i_EncodeExpr_c1kk_ok (n : Nat) : ∀ (i1 : Int) (k2 : Int) (n2 : Int) (p2 : Nat) (e2 : Bool) (fs2 : List LF) (q2 : Nat) (f2 : Bool) (ks2 : List LP) {r : (T × Int)}, i_result__fn_i_EncodeExpr_c1kk n i1 (Pf.mk k2 n2 (fers fs2) (pers ks2)) = some r → ∀ (O : Heap) (tk : Nat), ACalls Go.Proofs.Try.prog 51 [.fn (.func 52) [] [.cptr [.int .i64 i1], .cptr [.int .i64 k2, .int .i64 n2, .imm p2 3 e2 (fcellss fs2), .imm q2 4 f2 (pcellss ks2)]]] O tk (RetX O tk (fun v tk' => ∃ r0' r1' v0' v1', r = (r0', r1') ∧ v = .tup [v0', v1'] ∧ VT true tk tk' r0' v0' ∧ v1' = .int .i64 r1')) := by
 intro i1 k2 n2 p2 e2 fs2 q2 f2 ks2 r hM O tk
 unfold i_result__fn_i_EncodeExpr_c1kk at hM
 refine acalls_of_run Go.Proofs.Try.func51 rfl rfl [] [] (Bor.nil _) [(0, .fn (.func 52) [] [.cptr [.int .i64 i1], .cptr [.int .i64 k2, .int .i64 n2, .imm p2 3 e2 (fcellss fs2), .imm q2 4 f2 (pcellss ks2)]])] (.cons (ent_fn2 (.cptr _) (.cptr _)) (.nil _)) (leb rfl) (fun _ h => by cases h) (fun S0 hO htk hfz => ?_)
 refine run_sr ?_
 refine run_op rfl (box_step (d := 1) rfl rfl rfl rfl rfl) rfl (ltb rfl) ?_
 refine run_op rfl (alloc_step (d := 2) hG rfl rfl rfl) rfl (ltb rfl) ?_
 refine mvR rfl rfl rfl rfl (ltb rfl) ?_
 refine run_ops_nil ?_
 refine run_sr ?_
 refine run_pu rfl (build_step hG rfl (by rfl) rfl (fun h => by cases h) (by rfl)) rfl (ltb rfl) ?_
 refine run_op rfl (alloc_step (d := 4) hG rfl rfl rfl) rfl (ltb rfl) ?_
 refine run_op0 rfl (store_step hG rfl rfl rfl rfl rfl rfl rfl rfl) rfl ?_
 refine run_ops_nil ?_
 refine run_seq ?_
 refine run_sr ?_
 refine run_sub_ops (Sub.frbox (k := 1) (env' := [(0, .fn (.func 52) [] [.cptr [.int .i64 i1], .cptr [.int .i64 k2, .int .i64 n2, .imm p2 3 e2 (fcellss fs2), .imm q2 4 f2 (pcellss ks2)]]), (1, .cptr [.fn (.func 52) [] [.cptr [.int .i64 i1], .cptr [.int .i64 k2, .int .i64 n2, .imm p2 3 e2 (fcellss fs2), .imm q2 4 f2 (pcellss ks2)]]]), (2, .optr (.loc 2) 0 0), (3, .int .i64 0), (6, .agg [.int .i64 0, .int .i64 0, .str ⟨#[]⟩, .imm 0 4 true []]), (4, .optr (.loc 4) 0 0)]) rfl rfl (.keep 0 _ _ rfl (.ptr 1 0 _ rfl (.keep 2 _ _ rfl (.keep 3 _ _ rfl (.keep 6 _ _ rfl (.keep 4 _ _ rfl .nil))))))) ?_
 refine run_pu rfl (makeFunc_step (first := []) (cap := [.tmp 1, .tmp 4]) rfl rfl rfl) rfl (ltb rfl) ?_
 obtain ⟨z3, hg4, hM⟩ := bind_t hM
 refine run_call rfl rfl rfl (ltb rfl) rfl rfl rfl (fun _ h => absurd h List.not_mem_nil) (caught_vz (j := 0) rfl (K := 110) (bor := [.loc 4]) (b := [⟨39, 4, true, [[.int .i64 0, .int .i64 0, .str ⟨#[]⟩, .imm 0 4 true []]]⟩]) (caps := [.cptr [.fn (.func 52) [] [.cptr [.int .i64 i1], .cptr [.int .i64 k2, .int .i64 n2, .imm p2 3 e2 (fcellss fs2), .imm q2 4 f2 (pcellss ks2)]]], .optr (.loc 4) 0 0]) (caps' := [.cptr [.fn (.func 52) [] [.cptr [.int .i64 i1], .cptr [.int .i64 k2, .int .i64 n2, .imm p2 3 e2 (fcellss fs2), .imm q2 4 f2 (pcellss ks2)]]], .optr (.bor 0) 0 0]) (Bor.cons rfl rfl (by decide) (Bor.nil _)) (.cons (.cptr _) (.cons (.bor 0 _ _ _ rfl) .nil)) rfl (by intro y h; simp only [List.mem_cons, List.not_mem_nil, or_false] at h; rcases h with rfl <;> simp [tch, tch0]) rfl (i_result_c1__of_i_EncodeExpr_c1_kv_ok n i1 k2 n2 p2 e2 fs2 q2 f2 ks2 (.bor 0) 0 0 ⟨#[]⟩ 0 true [] hg4 _ _ rfl) (fun a v o' tk' h => by obtain ⟨_, rfl, ⟨_, _, _, _, _, _, ⟨⟩, rfl, _⟩, _⟩ := h; rfl)) (callK_retV_loc (k := 4) rfl (fun v o'9 tk7 (hle8 : tk ≤ tk7) h5 => ?_))
 rcases z3 with r6 | ⟨c12, p13⟩
 ·replace hM := cs_ok hM
  obtain ⟨rfl, _, ⟨_, rfl, ⟨k10, n10, s10, q10, f10, ks10, ⟨⟩, rfl, hf11⟩, rfl⟩⟩ := h5
  refine run_op rfl (alloc_step (d := 5) hG rfl rfl rfl) rfl (ltb rfl) ?_
  refine run_op0 rfl (store_step hG rfl rfl rfl rfl rfl rfl rfl rfl) rfl ?_
  refine run_ops_nil ?_
  refine run_sr ?_
  refine run_pu rfl (fieldAddr_step hG rfl rfl rfl rfl rfl) rfl (ltb rfl) ?_
  refine run_ld hG rfl rfl rfl rfl rfl (ltb rfl) ?_
  refine run_bin rfl rfl rfl rfl rfl rfl rfl (ltb rfl) ?_
  refine run_ops_nil ?_
  refine run_ifb rfl rfl (fun hb14 => ?_) (fun hb14 => ?_)
  ·replace hM := ite_t hb14 hM
   refine run_seq ?_
   refine run_draw [.loc 2] (n := 5) mixed rfl (by intro x hx; simp only [List.mem_cons, List.not_mem_nil, or_false] at hx; rcases hx with rfl <;> rfl) ?_
   refine AAny.take (i := 0) rfl (by kernel_rfl) (by kernel_rfl) (by kernel_rfl) rfl rfl (ltb rfl) ((build_step hG rfl (by rfl) rfl (fun h => by cases h) (by rfl)).rd _) ?_
   refine AAny.take (i := 1) rfl (by kernel_rfl) (by kernel_rfl) (by kernel_rfl) rfl rfl (ltb rfl) ((fieldAddr_step hG rfl rfl rfl rfl rfl).rd _) ?_
   refine AAny.take (i := 2) rfl (by kernel_rfl) (by kernel_rfl) (by kernel_rfl) rfl rfl (ltb rfl) (aload_rd hG rfl rfl rfl (by first | (simp [ldok]; done) | exact List.not_mem_nil | trivial)) ?_
   refine AAny.one (i := 3) (by kernel_rfl) (AOp.step0 rfl rfl rfl (store_step hG rfl rfl rfl rfl rfl rfl rfl rfl) (by intro x hx; exact hx) ?_)
   refine AAny.take (i := 4) rfl (by kernel_rfl) (by kernel_rfl) (by kernel_rfl) rfl rfl (ltb rfl) ((move_step (.inr rfl) rfl).rd _) ?_
   refine AAny.done (by kernel_rfl) ?_
   refine run_ret_to ?_
   obtain rfl := some_t hM
   refine fin_x hG rfl rfl rfl (v' := .tup [.agg [.int .i64 0, .int .i64 0, .str ⟨#[]⟩, .imm 0 4 true (cellss [])], .int .i64 0]) (by rfl) ⟨rfl, (show tk ≤ tk7 by omega), _, rfl, ⟨_, _, _, _, rfl, rfl, ⟨0, 0, ⟨#[]⟩, 0, true, [], rfl, rfl, fun _ => Fr.nil _ _⟩, rfl⟩⟩
  ·replace hM := ite_f hb14 hM
   refine run_skip ?_
   refine run_sr ?_
   refine run_ld hG rfl rfl rfl rfl rfl (ltb rfl) ?_
   obtain ⟨r15, hg16, hM⟩ := bind_t hM
   refine run_call rfl rfl rfl (ltb rfl) rfl rfl rfl (fun _ h => absurd h List.not_mem_nil) (i_clone_ok n k10 n10 s10 q10 f10 ks10 hg16 _ _) (callK_retX (fun v tk17 (hle18 : tk7 ≤ tk17) h19 => ?_))
   obtain ⟨k20, n20, s20, q20, f20, ks20, rfl, rfl, hf21⟩ := h19
   refine run_op0 rfl (store_step hG rfl rfl rfl rfl rfl rfl rfl rfl) rfl ?_
   refine mvR rfl rfl rfl rfl (ltb rfl) ?_
   refine run_ops_nil ?_
   refine run_ret_to ?_
   obtain rfl := some_t hM
   refine fin_x hG rfl rfl rfl (v' := .tup [.agg [.int .i64 k20, .int .i64 n20, .str s20, .imm q20 4 f20 (cellss ks20)], .int .i64 0]) (by rfl) ⟨rfl, (show tk ≤ tk17 by omega), _, rfl, ⟨_, _, _, _, rfl, rfl, ⟨k20, n20, s20, q20, f20, ks20, rfl, rfl, fun _ => (show Fr tk tk17 _ from ((show Fr tk7 tk17 _ from hf21 rfl)).mono (by omega) (by omega))⟩, rfl⟩⟩
 ·replace hM := cs_stop hM
  obtain ⟨rfl, _⟩ := h5
  refine run_op rfl (alloc_step (d := 5) hG rfl rfl rfl) rfl (ltb rfl) ?_
  refine run_op0 rfl (store_step hG rfl rfl rfl rfl rfl rfl rfl rfl) rfl ?_
  refine run_ops_nil ?_
  refine run_sr ?_
  refine run_pu rfl (fieldAddr_step hG rfl rfl rfl rfl rfl) rfl (ltb rfl) ?_
  refine run_ld hG rfl rfl rfl rfl rfl (ltb rfl) ?_
  refine run_bin rfl rfl rfl rfl rfl rfl rfl (ltb rfl) ?_
  refine run_ops_nil ?_
  refine run_ifb rfl rfl (fun hb22 => ?_) (fun hb22 => ?_)
  ·replace hM := ite_t hb22 hM
   refine run_seq ?_
   refine run_draw [.loc 2] (n := 5) mixed rfl (by intro x hx; simp only [List.mem_cons, List.not_mem_nil, or_false] at hx; rcases hx with rfl <;> rfl) ?_
   refine AAny.take (i := 0) rfl (by kernel_rfl) (by kernel_rfl) (by kernel_rfl) rfl rfl (ltb rfl) ((build_step hG rfl (by rfl) rfl (fun h => by cases h) (by rfl)).rd _) ?_
   refine AAny.take (i := 1) rfl (by kernel_rfl) (by kernel_rfl) (by kernel_rfl) rfl rfl (ltb rfl) ((fieldAddr_step hG rfl rfl rfl rfl rfl).rd _) ?_
   refine AAny.take (i := 2) rfl (by kernel_rfl) (by kernel_rfl) (by kernel_rfl) rfl rfl (ltb rfl) (aload_rd hG rfl rfl rfl (by first | (simp [ldok]; done) | exact List.not_mem_nil | trivial)) ?_
   refine AAny.one (i := 3) (by kernel_rfl) (AOp.step0 rfl rfl rfl (store_step hG rfl rfl rfl rfl rfl rfl rfl rfl) (by intro x hx; exact hx) ?_)
   refine AAny.take (i := 4) rfl (by kernel_rfl) (by kernel_rfl) (by kernel_rfl) rfl rfl (ltb rfl) ((move_step (.inr rfl) rfl).rd _) ?_
   refine AAny.done (by kernel_rfl) ?_
   refine run_ret_to ?_
   obtain rfl := some_t hM
   refine fin_x hG rfl rfl rfl (v' := .tup [.agg [.int .i64 0, .int .i64 0, .str ⟨#[]⟩, .imm 0 4 true (cellss [])], .int .i64 c12]) (by rfl) ⟨rfl, (show tk ≤ tk7 by omega), _, rfl, ⟨_, _, _, _, rfl, rfl, ⟨0, 0, ⟨#[]⟩, 0, true, [], rfl, rfl, fun _ => Fr.nil _ _⟩, rfl⟩⟩
  ·replace hM := ite_f hb22 hM
   refine run_skip ?_
   refine run_sr ?_
   cases hM

def i_EncodeExpr (n : Nat) (x1 : Pf) (i2 : Int) : Option (T × Int) :=
 (i_ExprOK n x1).bind fun r3 =>
 if (!r3) = true then
  some ((T.mk 0 0 ⟨#[]⟩ []), 1)
 else
  (i_in i2 0 12).bind fun r11 =>
  if (!r11) = true then
   some ((T.mk 0 0 ⟨#[]⟩ []), 16)
  else
   (i_result__fn_i_EncodeExpr_c1kk n i2 x1).bind fun r19 =>
   some (r19.1, r19.2)

set_option maxRecDepth 100000 in
theorem i_EncodeExpr_ok (n : Nat) : ∀ (k1 : Int) (n1 : Int) (p1 : Nat) (e1 : Bool) (fs1 : List LF) (q1 : Nat) (f1 : Bool) (ks1 : List LP) (i2 : Int) {r : (T × Int)}, i_EncodeExpr n (Pf.mk k1 n1 (fers fs1) (pers ks1)) i2 = some r → ∀ (O : Heap) (tk : Nat), ACalls Go.Proofs.Try.prog 15 [.agg [.int .i64 k1, .int .i64 n1, .imm p1 3 e1 (fcellss fs1), .imm q1 4 f1 (pcellss ks1)], .int .i64 i2] O tk (RetX O tk (fun v tk' => ∃ r0' r1' v0' v1', r = (r0', r1') ∧ v = .tup [v0', v1'] ∧ VT true tk tk' r0' v0' ∧ v1' = .int .i64 r1')) := by
 intro k1 n1 p1 e1 fs1 q1 f1 ks1 i2 r hM O tk
 unfold i_EncodeExpr at hM
 refine acalls_of_run Go.Proofs.Try.func15 rfl rfl [] [] (Bor.nil _) [(0, .agg [.int .i64 k1, .int .i64 n1, .imm p1 3 e1 (fcellss fs1), .imm q1 4 f1 (pcellss ks1)]), (1, .int .i64 i2)] (.cons (.agg _) (.cons (entS rfl) (.nil _))) (leb rfl) (fun _ h => by cases h) (fun S0 hO htk hfz => ?_)
 refine run_sr ?_
 refine run_op rfl (box_step (d := 2) rfl rfl rfl rfl rfl) rfl (ltb rfl) ?_
 refine run_op rfl (box_step (d := 3) rfl rfl rfl rfl rfl) rfl (ltb rfl) ?_
 refine run_op rfl (alloc_step (d := 4) hG rfl rfl rfl) rfl (ltb rfl) ?_
 refine mvR rfl rfl rfl rfl (ltb rfl) ?_
 refine run_ops_nil ?_
 refine run_seq ?_
 refine run_block ?_
 refine run_sr ?_
 refine run_ld hG rfl rfl rfl rfl rfl (ltb rfl) ?_
 obtain ⟨r3, hg4, hM⟩ := bind_t hM
 refine run_call rfl rfl rfl (ltb rfl) rfl rfl rfl (fun _ h => absurd h List.not_mem_nil) (i_ExprOK_ok n k1 n1 p1 e1 fs1 q1 f1 ks1 hg4 _ _) (callK_retX (fun v tk5 (hle6 : tk ≤ tk5) h7 => ?_))
 subst h7
 refine run_pu rfl (aun_step rfl rfl rfl) rfl (ltb rfl) ?_
 refine mvR rfl rfl rfl rfl (ltb rfl) ?_
 refine run_ops_nil ?_
 refine run_ifb rfl rfl (fun hb10 => ?_) (fun hb10 => ?_)
 ·replace hM := ite_t hb10 hM
  refine run_sr ?_
  refine run_pu rfl (build_step hG rfl (by rfl) rfl (fun h => by cases h) (by rfl)) rfl (ltb rfl) ?_
  refine run_op0 rfl (store_step hG rfl rfl rfl rfl rfl rfl rfl rfl) rfl ?_
  refine mvR rfl rfl rfl rfl (ltb rfl) ?_
  refine run_ops_nil ?_
  refine run_ret_to ?_
  obtain rfl := some_t hM
  refine fin_x hG rfl rfl rfl (v' := .tup [.agg [.int .i64 0, .int .i64 0, .str ⟨#[]⟩, .imm 0 4 true (cellss [])], .int .i64 1]) (by rfl) ⟨rfl, (show tk ≤ tk5 by omega), _, rfl, ⟨_, _, _, _, rfl, rfl, ⟨0, 0, ⟨#[]⟩, 0, true, [], rfl, rfl, fun _ => Fr.nil _ _⟩, rfl⟩⟩
 ·replace hM := ite_f hb10 hM
  refine run_sr ?_
  refine run_ld hG rfl rfl rfl rfl rfl (ltb rfl) ?_
  obtain ⟨r11, hg12, hM⟩ := bind_t hM
  refine run_call rfl rfl rfl (ltb rfl) rfl rfl rfl (fun _ h => absurd h List.not_mem_nil) (i_in_ok i2 0 12 hg12 _ _) (callK_retX (fun v tk13 (hle14 : tk5 ≤ tk13) h15 => ?_))
  subst h15
  refine run_pu rfl (aun_step rfl rfl rfl) rfl (ltb rfl) ?_
  refine mvR rfl rfl rfl rfl (ltb rfl) ?_
  refine run_ops_nil ?_
  refine run_ifb rfl rfl (fun hb18 => ?_) (fun hb18 => ?_)
  ·replace hM := ite_t hb18 hM
   refine run_sr ?_
   refine run_pu rfl (build_step hG rfl (by rfl) rfl (fun h => by cases h) (by rfl)) rfl (ltb rfl) ?_
   refine run_op0 rfl (store_step hG rfl rfl rfl rfl rfl rfl rfl rfl) rfl ?_
   refine mvR rfl rfl rfl rfl (ltb rfl) ?_
   refine run_ops_nil ?_
   refine run_ret_to ?_
   obtain rfl := some_t hM
   refine fin_x hG rfl rfl rfl (v' := .tup [.agg [.int .i64 0, .int .i64 0, .str ⟨#[]⟩, .imm 0 4 true (cellss [])], .int .i64 16]) (by rfl) ⟨rfl, (show tk ≤ tk13 by omega), _, rfl, ⟨_, _, _, _, rfl, rfl, ⟨0, 0, ⟨#[]⟩, 0, true, [], rfl, rfl, fun _ => Fr.nil _ _⟩, rfl⟩⟩
  ·replace hM := ite_f hb18 hM
   refine run_skip ?_
   refine run_blk ?_
   refine run_sr ?_
   refine run_sub_ops (Sub.frbox (k := 3) (env' := [(0, .agg [.int .i64 k1, .int .i64 n1, .imm p1 3 e1 (fcellss fs1), .imm q1 4 f1 (pcellss ks1)]), (1, .int .i64 i2), (2, .optr (.loc 2) 0 0), (3, .cptr [.int .i64 i2]), (4, .optr (.loc 4) 0 0), (5, .int .i64 0), (7, .agg [.int .i64 k1, .int .i64 n1, .imm p1 3 e1 (fcellss fs1), .imm q1 4 f1 (pcellss ks1)]), (8, .bool r3), (9, .bool (!r3)), (6, .bool (!r3)), (12, .int .i64 i2), (13, .bool r11), (14, .bool (!r11)), (11, .bool (!r11))]) rfl rfl (.keep 0 _ _ rfl (.keep 1 _ _ rfl (.keep 2 _ _ rfl (.ptr 3 0 _ rfl (.keep 4 _ _ rfl (.keep 5 _ _ rfl (.keep 7 _ _ rfl (.keep 8 _ _ rfl (.keep 9 _ _ rfl (.keep 6 _ _ rfl (.keep 12 _ _ rfl (.keep 13 _ _ rfl (.keep 14 _ _ rfl (.keep 11 _ _ rfl .nil))))))))))))))) ?_
   refine run_sub_ops (Sub.frbox (k := 2) (env' := [(0, .agg [.int .i64 k1, .int .i64 n1, .imm p1 3 e1 (fcellss fs1), .imm q1 4 f1 (pcellss ks1)]), (1, .int .i64 i2), (2, .cptr [.int .i64 k1, .int .i64 n1, .imm p1 3 e1 (fcellss fs1), .imm q1 4 f1 (pcellss ks1)]), (3, .cptr [.int .i64 i2]), (4, .optr (.loc 4) 0 0), (5, .int .i64 0), (7, .agg [.int .i64 k1, .int .i64 n1, .imm p1 3 e1 (fcellss fs1), .imm q1 4 f1 (pcellss ks1)]), (8, .bool r3), (9, .bool (!r3)), (6, .bool (!r3)), (12, .int .i64 i2), (13, .bool r11), (14, .bool (!r11)), (11, .bool (!r11))]) rfl rfl (.keep 0 _ _ rfl (.keep 1 _ _ rfl (.ptr 2 0 _ rfl (.keep 3 _ _ rfl (.keep 4 _ _ rfl (.keep 5 _ _ rfl (.keep 7 _ _ rfl (.keep 8 _ _ rfl (.keep 9 _ _ rfl (.keep 6 _ _ rfl (.keep 12 _ _ rfl (.keep 13 _ _ rfl (.keep 14 _ _ rfl (.keep 11 _ _ rfl .nil))))))))))))))) ?_
   refine run_pu rfl (makeFunc_step (first := []) (cap := [.tmp 3, .tmp 2]) rfl rfl rfl) rfl (ltb rfl) ?_
   obtain ⟨r19, hg20, hM⟩ := bind_t hM
   refine run_call rfl rfl rfl (ltb rfl) rfl rfl rfl (fun _ h => absurd h List.not_mem_nil) (i_result__fn_i_EncodeExpr_c1kk_ok n i2 k1 n1 p1 e1 fs1 q1 f1 ks1 hg20 _ _) (callK_retX (fun v tk21 (hle22 : tk13 ≤ tk21) h23 => ?_))
   obtain ⟨ra28, ra29, va30, va31, rfl, rfl, ⟨k24, n24, s24, q24, f24, ks24, rfl, rfl, hf25⟩, rfl⟩ := h23
   refine run_pu rfl (extract_step rfl rfl rfl) rfl (ltb rfl) ?_
   refine run_pu rfl (extract_step rfl rfl rfl) rfl (ltb rfl) ?_
   refine run_op0 rfl (store_step hG rfl rfl rfl rfl rfl rfl rfl rfl) rfl ?_
   refine mvR rfl rfl rfl rfl (ltb rfl) ?_
   refine run_ops_nil ?_
   refine run_ret_to ?_
   obtain rfl := some_t hM
   refine fin_x hG rfl rfl rfl (v' := .tup [.agg [.int .i64 k24, .int .i64 n24, .str s24, .imm q24 4 f24 (cellss ks24)], .int .i64 ra29]) (by rfl) ⟨rfl, (show tk ≤ tk21 by omega), _, rfl, ⟨_, _, _, _, rfl, rfl, ⟨k24, n24, s24, q24, f24, ks24, rfl, rfl, fun _ => (show Fr tk tk21 _ from ((show Fr tk13 tk21 _ from hf25 rfl)).mono (by omega) (by omega))⟩, rfl⟩⟩

def s_EncodeExpr (n : Nat) (x1 : Pf) (i2 : Int) : Option (T × Int) :=
 (s_ExprOK n x1).bind fun r3 =>
 if (!r3) = true then
  some ((T.mk 0 0 ⟨#[]⟩ []), 1)
 else
  if i2 < 0 then
   some ((T.mk 0 0 ⟨#[]⟩ []), 16)
  else
   if i2 > 12 then
    some ((T.mk 0 0 ⟨#[]⟩ []), 16)
   else
    (s_l09Bound n x1 i2).bind fun r13 =>
    if (!r13) = true then
     some ((T.mk 0 0 ⟨#[]⟩ []), 7)
    else
     (s_l09Level n i2 1).bind fun r21 =>
     (s_l09Tree n x1 r21 i2).bind fun r28 =>
     (s_l03Big n r28).bind fun r35 =>
     if r35 = true then
      some ((T.mk 0 0 ⟨#[]⟩ []), 11)
     else
      some (r28, 0)

set_option maxHeartbeats 2000000 in
set_option maxRecDepth 100000 in
theorem s_EncodeExpr_ok (n : Nat) : ∀ (k1 : Int) (n1 : Int) (p1 : Nat) (e1 : Bool) (fs1 : List LF) (q1 : Nat) (f1 : Bool) (ks1 : List LP) (i2 : Int) {r : (T × Int)}, s_EncodeExpr n (Pf.mk k1 n1 (fers fs1) (pers ks1)) i2 = some r → ∀ (O : Heap) (tk : Nat), ACalls Go.Proofs.Try.prog 14 [.agg [.int .i64 k1, .int .i64 n1, .imm p1 3 e1 (fcellss fs1), .imm q1 4 f1 (pcellss ks1)], .int .i64 i2] O tk (RetX O tk (fun v tk' => ∃ r0' r1' v0' v1', r = (r0', r1') ∧ v = .tup [v0', v1'] ∧ VT true tk tk' r0' v0' ∧ v1' = .int .i64 r1')) := by
 intro k1 n1 p1 e1 fs1 q1 f1 ks1 i2 r hM O tk
 unfold s_EncodeExpr at hM
 refine acalls_of_run Go.Proofs.Try.func14 rfl rfl [] [] (Bor.nil _) [(0, .agg [.int .i64 k1, .int .i64 n1, .imm p1 3 e1 (fcellss fs1), .imm q1 4 f1 (pcellss ks1)]), (1, .int .i64 i2)] (.cons (.agg _) (.cons (entS rfl) (.nil _))) (leb rfl) (fun _ h => by cases h) (fun S0 hO htk hfz => ?_)
 refine run_sr ?_
 refine run_op rfl (box_step (d := 2) rfl rfl rfl rfl rfl) rfl (ltb rfl) ?_
 refine run_op rfl (alloc_step (d := 4) hG rfl rfl rfl) rfl (ltb rfl) ?_
 refine mvR rfl rfl rfl rfl (ltb rfl) ?_
 refine run_ops_nil ?_
 refine run_seq ?_
 refine run_sr ?_
 refine run_ld hG rfl rfl rfl rfl rfl (ltb rfl) ?_
 obtain ⟨r3, hg4, hM⟩ := bind_t hM
 refine run_call rfl rfl rfl (ltb rfl) rfl rfl rfl (fun _ h => absurd h List.not_mem_nil) (s_ExprOK_ok n k1 n1 p1 e1 fs1 q1 f1 ks1 hg4 _ _) (callK_retX (fun v tk5 (hle6 : tk ≤ tk5) h7 => ?_))
 subst h7
 refine run_pu rfl (aun_step rfl rfl rfl) rfl (ltb rfl) ?_
 refine run_ops_nil ?_
 refine run_ifb rfl rfl (fun hb10 => ?_) (fun hb10 => ?_)
 ·replace hM := ite_t hb10 hM
  refine run_sr ?_
  refine run_pu rfl (build_step hG rfl (by rfl) rfl (fun h => by cases h) (by rfl)) rfl (ltb rfl) ?_
  refine run_op0 rfl (store_step hG rfl rfl rfl rfl rfl rfl rfl rfl) rfl ?_
  refine mvR rfl rfl rfl rfl (ltb rfl) ?_
  refine run_ops_nil ?_
  refine run_ret_to ?_
  obtain rfl := some_t hM
  refine fin_x hG rfl rfl rfl (v' := .tup [.agg [.int .i64 0, .int .i64 0, .str ⟨#[]⟩, .imm 0 4 true (cellss [])], .int .i64 1]) (by rfl) ⟨rfl, (show tk ≤ tk5 by omega), _, rfl, ⟨_, _, _, _, rfl, rfl, ⟨0, 0, ⟨#[]⟩, 0, true, [], rfl, rfl, fun _ => Fr.nil _ _⟩, rfl⟩⟩
 ·replace hM := ite_f hb10 hM
  refine run_skip ?_
  refine run_seq ?_
  refine run_sr ?_
  refine mvL rfl rfl rfl rfl (ltb rfl) ?_
  refine run_bin rfl rfl rfl rfl rfl rfl rfl (ltb rfl) ?_
  refine mvL rfl rfl rfl rfl (ltb rfl) ?_
  refine run_splitd (i := 13) rfl (fun hb11 => ?_) (fun hb11 => ?_)
  ·replace hM := ite_t hb11 hM
   refine run_off (on_of rfl rfl rfl rfl) rfl (ltb rfl) ?_
   refine run_off (on_of rfl rfl rfl rfl) rfl (ltb rfl) ?_
   refine run_pu rfl (pick_step rfl rfl rfl) rfl (ltb rfl) ?_
   refine run_ops_nil ?_
   refine run_if rfl rfl (fun _ => ?_) (fun h => by cases h)
   refine run_sr ?_
   refine run_pu rfl (build_step hG rfl (by rfl) rfl (fun h => by cases h) (by rfl)) rfl (ltb rfl) ?_
   refine run_op0 rfl (store_step hG rfl rfl rfl rfl rfl rfl rfl rfl) rfl ?_
   refine mvR rfl rfl rfl rfl (ltb rfl) ?_
   refine run_ops_nil ?_
   refine run_ret_to ?_
   obtain rfl := some_t hM
   refine fin_x hG rfl rfl rfl (v' := .tup [.agg [.int .i64 0, .int .i64 0, .str ⟨#[]⟩, .imm 0 4 true (cellss [])], .int .i64 16]) (by rfl) ⟨rfl, (show tk ≤ tk5 by omega), _, rfl, ⟨_, _, _, _, rfl, rfl, ⟨0, 0, ⟨#[]⟩, 0, true, [], rfl, rfl, fun _ => Fr.nil _ _⟩, rfl⟩⟩
  ·replace hM := ite_f hb11 hM
   refine run_puG (on_of rfl rfl rfl rfl) (move_step (.inl rfl) rfl) rfl (ltb rfl) ?_
   refine run_puG (on_of rfl rfl rfl rfl) (abin_step rfl rfl rfl rfl (fun _ h => by cases h)) rfl (ltb rfl) ?_
   refine run_pu rfl (pick_step rfl rfl rfl) rfl (ltb rfl) ?_
   refine run_ops_nil ?_
   refine run_ifd rfl rfl (fun hb12 => ?_) (fun hb12 => ?_)
   ·replace hM := ite_t hb12 hM
    refine run_sr ?_
    refine run_pu rfl (build_step hG rfl (by rfl) rfl (fun h => by cases h) (by rfl)) rfl (ltb rfl) ?_
    refine run_op0 rfl (store_step hG rfl rfl rfl rfl rfl rfl rfl rfl) rfl ?_
    refine mvR rfl rfl rfl rfl (ltb rfl) ?_
    refine run_ops_nil ?_
    refine run_ret_to ?_
    obtain rfl := some_t hM
    refine fin_x hG rfl rfl rfl (v' := .tup [.agg [.int .i64 0, .int .i64 0, .str ⟨#[]⟩, .imm 0 4 true (cellss [])], .int .i64 16]) (by rfl) ⟨rfl, (show tk ≤ tk5 by omega), _, rfl, ⟨_, _, _, _, rfl, rfl, ⟨0, 0, ⟨#[]⟩, 0, true, [], rfl, rfl, fun _ => Fr.nil _ _⟩, rfl⟩⟩
   ·replace hM := ite_f hb12 hM
    refine run_skip ?_
    refine run_seq ?_
    refine run_sr ?_
    refine run_ld hG rfl rfl rfl rfl rfl (ltb rfl) ?_
    refine mvL rfl rfl rfl rfl (ltb rfl) ?_
    obtain ⟨r13, hg14, hM⟩ := bind_t hM
    refine run_call rfl rfl rfl (ltb rfl) rfl rfl rfl (fun _ h => absurd h List.not_mem_nil) (s_l09Bound_ok n k1 n1 p1 e1 fs1 q1 f1 ks1 i2 hg14 _ _) (callK_retX (fun v tk15 (hle16 : tk5 ≤ tk15) h17 => ?_))
    subst h17
    refine run_pu rfl (aun_step rfl rfl rfl) rfl (ltb rfl) ?_
    refine run_ops_nil ?_
    refine run_sub_code (σ' := ⟨[(1, .int .i64 i2), (2, .optr (.loc 2) 0 0), (4, .optr (.loc 4) 0 0), (5, .int .i64 0), (21, .bool (!r13))], [(4, ⟨39, 4, true, [[.int .i64 0, .int .i64 0, .str ⟨#[]⟩, .imm 0 4 true []]]⟩), (2, ⟨30, 4, true, [[.int .i64 k1, .int .i64 n1, .imm p1 3 e1 (fcellss fs1), .imm q1 4 f1 (pcellss ks1)]]⟩)], [], O, tk15⟩) (Sub.env _ ⟨rfl, rfl, rfl, rfl, rfl, trivial⟩) ?_
    refine run_ifb rfl rfl (fun hb20 => ?_) (fun hb20 => ?_)
    ·replace hM := ite_t hb20 hM
     refine run_sr ?_
     refine run_pu rfl (build_step hG rfl (by rfl) rfl (fun h => by cases h) (by rfl)) rfl (ltb rfl) ?_
     refine run_op0 rfl (store_step hG rfl rfl rfl rfl rfl rfl rfl rfl) rfl ?_
     refine mvR rfl rfl rfl rfl (ltb rfl) ?_
     refine run_ops_nil ?_
     refine run_ret_to ?_
     obtain rfl := some_t hM
     refine fin_x hG rfl rfl rfl (v' := .tup [.agg [.int .i64 0, .int .i64 0, .str ⟨#[]⟩, .imm 0 4 true (cellss [])], .int .i64 7]) (by rfl) ⟨rfl, (show tk ≤ tk15 by omega), _, rfl, ⟨_, _, _, _, rfl, rfl, ⟨0, 0, ⟨#[]⟩, 0, true, [], rfl, rfl, fun _ => Fr.nil _ _⟩, rfl⟩⟩
    ·replace hM := ite_f hb20 hM
     refine run_skip ?_
     refine run_seq ?_
     refine run_draw [] (n := 7) mixed rfl (fun _ h => absurd h List.not_mem_nil) ?_
     refine AAny.take (i := 0) rfl (by kernel_rfl) (by kernel_rfl) (by kernel_rfl) rfl rfl (ltb rfl) (aload_rd hG rfl rfl rfl (by first | (simp [ldok]; done) | exact List.not_mem_nil | trivial)) ?_
     refine AAny.take (i := 1) rfl (by kernel_rfl) (by kernel_rfl) (by kernel_rfl) rfl rfl (ltb rfl) ((move_step (.inl rfl) rfl).rd _) ?_
     refine AAny.take (i := 3) rfl (by kernel_rfl) (by kernel_rfl) (by kernel_rfl) rfl rfl (ltb rfl) ((move_step (.inl rfl) rfl).rd _) ?_
     refine AAny.eachN (rs := [2, 5]) (by kernel_rfl) (fun h => by cases h) (fun i hi => ?_)
     simp only [List.mem_cons, List.not_mem_nil, or_false] at hi
     rcases hi with rfl | rfl
     ·refine AOpN.of ?_
      obtain ⟨r21, hg22, hM⟩ := bind_t hM
      refine AOp.call rfl rfl rfl rfl (ltb rfl) rfl rfl rfl (fun _ h => absurd h List.not_mem_nil) (fun _ h => absurd h List.not_mem_nil) (s_l09Level_ok n i2 1 hg22 _ _) (callK_retX (fun v tk23 (hle24 : tk15 ≤ tk23) h25 => ?_))
      obtain ⟨q26, f26, rfl⟩ := h25
      refine AAny.eachN (rs := [4, 5]) (by kernel_rfl) (fun h => by cases h) (fun i hi => ?_)
      simp only [List.mem_cons, List.not_mem_nil, or_false] at hi
      rcases hi with rfl | rfl
      ·refine AOpN.of ?_
       obtain ⟨r28, hg29, hM⟩ := bind_t hM
       refine AOp.call rfl rfl rfl rfl (ltb rfl) rfl rfl rfl (fun _ h => absurd h List.not_mem_nil) (fun _ h => absurd h List.not_mem_nil) (s_l09Tree_ok n k1 n1 p1 e1 fs1 q1 f1 ks1 q26 f26 r21 i2 hg29 _ _) (callK_retX (fun v tk30 (hle31 : tk23 ≤ tk30) h32 => ?_))
       obtain ⟨k33, n33, s33, q33, f33, ks33, rfl, rfl, hf34⟩ := h32
       refine AAny.eachN (rs := [5]) (by kernel_rfl) (fun h => by cases h) (fun i hi => ?_)
       simp only [List.mem_cons, List.not_mem_nil, or_false] at hi
       subst hi
       ·refine AOpN.alloc hG rfl rfl rfl (ltb rfl) rfl rfl rfl ?_
        refine AAny.one (i := 6) (by kernel_rfl) (AOp.step0 rfl rfl rfl (store_step hG rfl rfl rfl rfl rfl rfl rfl rfl) (by intro x hx; have hx : x ∈ [ID.loc 6] := hx; simp only [List.mem_cons, List.not_mem_nil, or_false] at hx; subst hx; simp) ?_)
        refine AAny.done (by kernel_rfl) ?_
        refine run_seq ?_
        refine run_sr ?_
        refine run_ld hG rfl rfl rfl rfl rfl (ltb rfl) ?_
        obtain ⟨r35, hg36, hM⟩ := bind_t hM
        refine run_call rfl rfl rfl (ltb rfl) rfl rfl rfl (fun _ h => absurd h List.not_mem_nil) (s_l03Big_ok n k33 n33 s33 q33 f33 ks33 hg36 _ _) (callK_retX (fun v tk37 (hle38 : tk30 ≤ tk37) h39 => ?_))
        subst h39
        refine run_ops_nil ?_
        refine run_ifb rfl rfl (fun hb42 => ?_) (fun hb42 => ?_)
        ·replace hM := ite_t hb42 hM
         refine run_sr ?_
         refine run_pu rfl (build_step hG rfl (by rfl) rfl (fun h => by cases h) (by rfl)) rfl (ltb rfl) ?_
         refine run_op0 rfl (store_step hG rfl rfl rfl rfl rfl rfl rfl rfl) rfl ?_
         refine mvR rfl rfl rfl rfl (ltb rfl) ?_
         refine run_ops_nil ?_
         refine run_ret_to ?_
         obtain rfl := some_t hM
         refine fin_x hG rfl rfl rfl (v' := .tup [.agg [.int .i64 0, .int .i64 0, .str ⟨#[]⟩, .imm 0 4 true (cellss [])], .int .i64 11]) (by rfl) ⟨rfl, (show tk ≤ tk37 by omega), _, rfl, ⟨_, _, _, _, rfl, rfl, ⟨0, 0, ⟨#[]⟩, 0, true, [], rfl, rfl, fun _ => Fr.nil _ _⟩, rfl⟩⟩
        ·replace hM := ite_f hb42 hM
         refine run_skip ?_
         refine run_sr ?_
         refine run_ld hG rfl rfl rfl rfl rfl (ltb rfl) ?_
         refine run_op0 rfl (store_step hG rfl rfl rfl rfl rfl rfl rfl rfl) rfl ?_
         refine mvR rfl rfl rfl rfl (ltb rfl) ?_
         refine run_ops_nil ?_
         refine run_ret_to ?_
         obtain rfl := some_t hM
         refine fin_x hG rfl rfl rfl (v' := .tup [.agg [.int .i64 k33, .int .i64 n33, .str s33, .imm q33 4 f33 (cellss ks33)], .int .i64 0]) (by rfl) ⟨rfl, (show tk ≤ tk37 by omega), _, rfl, ⟨_, _, _, _, rfl, rfl, ⟨k33, n33, s33, q33, f33, ks33, rfl, rfl, fun _ => (show Fr tk tk37 _ from ((show Fr tk23 tk30 _ from hf34 rfl)).mono (by omega) (by omega))⟩, rfl⟩⟩
      ·refine AOpN.alloc hG rfl rfl rfl (ltb rfl) rfl rfl rfl ?_
       obtain ⟨r43, hg44, hM⟩ := bind_t hM
       refine AAny.one (i := 4) (by kernel_rfl) (AOp.call rfl rfl rfl rfl (ltb rfl) rfl rfl rfl (fun _ h => absurd h List.not_mem_nil) (fun _ h => absurd h List.not_mem_nil) (s_l09Tree_ok n k1 n1 p1 e1 fs1 q1 f1 ks1 q26 f26 r21 i2 hg44 _ _) (callK_retX (fun v tk45 (hle46 : tk23 ≤ tk45) h47 => ?_)))
       obtain ⟨k48, n48, s48, q48, f48, ks48, rfl, rfl, hf49⟩ := h47
       refine AAny.one (i := 6) (by kernel_rfl) (AOp.step0 rfl rfl rfl (store_step hG rfl rfl rfl rfl rfl rfl rfl rfl) (by intro x hx; have hx : x ∈ [ID.loc 6] := hx; simp only [List.mem_cons, List.not_mem_nil, or_false] at hx; subst hx; simp) ?_)
       refine AAny.done (by kernel_rfl) ?_
       refine run_seq ?_
       refine run_sr ?_
       refine run_ld hG rfl rfl rfl rfl rfl (ltb rfl) ?_
       obtain ⟨r50, hg51, hM⟩ := bind_t hM
       refine run_call rfl rfl rfl (ltb rfl) rfl rfl rfl (fun _ h => absurd h List.not_mem_nil) (s_l03Big_ok n k48 n48 s48 q48 f48 ks48 hg51 _ _) (callK_retX (fun v tk52 (hle53 : tk45 ≤ tk52) h54 => ?_))
       subst h54
       refine run_ops_nil ?_
       refine run_ifb rfl rfl (fun hb57 => ?_) (fun hb57 => ?_)
       ·replace hM := ite_t hb57 hM
        refine run_sr ?_
        refine run_pu rfl (build_step hG rfl (by rfl) rfl (fun h => by cases h) (by rfl)) rfl (ltb rfl) ?_
        refine run_op0 rfl (store_step hG rfl rfl rfl rfl rfl rfl rfl rfl) rfl ?_
        refine mvR rfl rfl rfl rfl (ltb rfl) ?_
        refine run_ops_nil ?_
        refine run_ret_to ?_
        obtain rfl := some_t hM
        refine fin_x hG rfl rfl rfl (v' := .tup [.agg [.int .i64 0, .int .i64 0, .str ⟨#[]⟩, .imm 0 4 true (cellss [])], .int .i64 11]) (by rfl) ⟨rfl, (show tk ≤ tk52 by omega), _, rfl, ⟨_, _, _, _, rfl, rfl, ⟨0, 0, ⟨#[]⟩, 0, true, [], rfl, rfl, fun _ => Fr.nil _ _⟩, rfl⟩⟩
       ·replace hM := ite_f hb57 hM
        refine run_skip ?_
        refine run_sr ?_
        refine run_ld hG rfl rfl rfl rfl rfl (ltb rfl) ?_
        refine run_op0 rfl (store_step hG rfl rfl rfl rfl rfl rfl rfl rfl) rfl ?_
        refine mvR rfl rfl rfl rfl (ltb rfl) ?_
        refine run_ops_nil ?_
        refine run_ret_to ?_
        obtain rfl := some_t hM
        refine fin_x hG rfl rfl rfl (v' := .tup [.agg [.int .i64 k48, .int .i64 n48, .str s48, .imm q48 4 f48 (cellss ks48)], .int .i64 0]) (by rfl) ⟨rfl, (show tk ≤ tk52 by omega), _, rfl, ⟨_, _, _, _, rfl, rfl, ⟨k48, n48, s48, q48, f48, ks48, rfl, rfl, fun _ => (show Fr tk tk52 _ from ((show Fr tk23 tk45 _ from hf49 rfl)).mono (by omega) (by omega))⟩, rfl⟩⟩
     ·refine AOpN.alloc hG rfl rfl rfl (ltb rfl) rfl rfl rfl ?_
      obtain ⟨r58, hg59, hM⟩ := bind_t hM
      refine AAny.one (i := 2) (by kernel_rfl) (AOp.call rfl rfl rfl rfl (ltb rfl) rfl rfl rfl (fun _ h => absurd h List.not_mem_nil) (fun _ h => absurd h List.not_mem_nil) (s_l09Level_ok n i2 1 hg59 _ _) (callK_retX (fun v tk60 (hle61 : tk15 ≤ tk60) h62 => ?_)))
      obtain ⟨q63, f63, rfl⟩ := h62
      obtain ⟨r65, hg66, hM⟩ := bind_t hM
      refine AAny.one (i := 4) (by kernel_rfl) (AOp.call rfl rfl rfl rfl (ltb rfl) rfl rfl rfl (fun _ h => absurd h List.not_mem_nil) (fun _ h => absurd h List.not_mem_nil) (s_l09Tree_ok n k1 n1 p1 e1 fs1 q1 f1 ks1 q63 f63 r58 i2 hg66 _ _) (callK_retX (fun v tk67 (hle68 : tk60 ≤ tk67) h69 => ?_)))
      obtain ⟨k70, n70, s70, q70, f70, ks70, rfl, rfl, hf71⟩ := h69
      refine AAny.one (i := 6) (by kernel_rfl) (AOp.step0 rfl rfl rfl (store_step hG rfl rfl rfl rfl rfl rfl rfl rfl) (by intro x hx; have hx : x ∈ [ID.loc 6] := hx; simp only [List.mem_cons, List.not_mem_nil, or_false] at hx; subst hx; simp) ?_)
      refine AAny.done (by kernel_rfl) ?_
      refine run_seq ?_
      refine run_sr ?_
      refine run_ld hG rfl rfl rfl rfl rfl (ltb rfl) ?_
      obtain ⟨r72, hg73, hM⟩ := bind_t hM
      refine run_call rfl rfl rfl (ltb rfl) rfl rfl rfl (fun _ h => absurd h List.not_mem_nil) (s_l03Big_ok n k70 n70 s70 q70 f70 ks70 hg73 _ _) (callK_retX (fun v tk74 (hle75 : tk67 ≤ tk74) h76 => ?_))
      subst h76
      refine run_ops_nil ?_
      refine run_ifb rfl rfl (fun hb79 => ?_) (fun hb79 => ?_)
      ·replace hM := ite_t hb79 hM
       refine run_sr ?_
       refine run_pu rfl (build_step hG rfl (by rfl) rfl (fun h => by cases h) (by rfl)) rfl (ltb rfl) ?_
       refine run_op0 rfl (store_step hG rfl rfl rfl rfl rfl rfl rfl rfl) rfl ?_
       refine mvR rfl rfl rfl rfl (ltb rfl) ?_
       refine run_ops_nil ?_
       refine run_ret_to ?_
       obtain rfl := some_t hM
       refine fin_x hG rfl rfl rfl (v' := .tup [.agg [.int .i64 0, .int .i64 0, .str ⟨#[]⟩, .imm 0 4 true (cellss [])], .int .i64 11]) (by rfl) ⟨rfl, (show tk ≤ tk74 by omega), _, rfl, ⟨_, _, _, _, rfl, rfl, ⟨0, 0, ⟨#[]⟩, 0, true, [], rfl, rfl, fun _ => Fr.nil _ _⟩, rfl⟩⟩
      ·replace hM := ite_f hb79 hM
       refine run_skip ?_
       refine run_sr ?_
       refine run_ld hG rfl rfl rfl rfl rfl (ltb rfl) ?_
       refine run_op0 rfl (store_step hG rfl rfl rfl rfl rfl rfl rfl rfl) rfl ?_
       refine mvR rfl rfl rfl rfl (ltb rfl) ?_
       refine run_ops_nil ?_
       refine run_ret_to ?_
       obtain rfl := some_t hM
       refine fin_x hG rfl rfl rfl (v' := .tup [.agg [.int .i64 k70, .int .i64 n70, .str s70, .imm q70 4 f70 (cellss ks70)], .int .i64 0]) (by rfl) ⟨rfl, (show tk ≤ tk74 by omega), _, rfl, ⟨_, _, _, _, rfl, rfl, ⟨k70, n70, s70, q70, f70, ks70, rfl, rfl, fun _ => (show Fr tk tk74 _ from ((show Fr tk60 tk67 _ from hf71 rfl)).mono (by omega) (by omega))⟩, rfl⟩⟩

end Go.Am.Ytiobknkpdkkikaa
