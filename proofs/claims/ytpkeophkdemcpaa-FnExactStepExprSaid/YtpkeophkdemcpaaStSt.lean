/- Printed by a program of ours: Lean functions that do what the Go functions do, and the contracts. -/
import Derived.Test.YtpkeophkdemcpaaTypes
import Derived.Test.YtpkeophkdemcpaaMi4
import Derived.Test.YtpkeophkdemcpaaMc1
import Derived.Test.YtpkeophkdemcpaaMb3
import Derived.Test.YtpkeophkdemcpaaMp
import Derived.Test.YtpkeophkdemcpaaStMv
import Derived.Test.YtpkeophkdemcpaaMz
-- packed
namespace Go.Am.Ytpkeophkdemcpaa
open Go Go.Am

def i_stepped_L1 (rec_i_stepped : Pf → Option (Pf × Bool)) (n : Nat) (x1 : Pf) : Nat → Int → Option (Pf × Bool)
 | 0, _ => none
 | m + 1, i32 =>
  if i32 < ((x1.kids).length : Int) then
   (idx x1.kids i32).bind fun y34 =>
   (rec_i_stepped y34).bind fun r39 =>
   if r39.2 = true then
    (i_Expr_lifted n x1 0).bind fun r53 =>
    (idx r53.kids i32).bind fun y61 =>
    some ((Pf.mk r53.kind r53.n r53.forms (lset r53.kids i32 r39.1)), true)
   else
    i_stepped_L1 rec_i_stepped n x1 m (IntKind.i64.wrap (i32 + 1))
  else
   some ((Pf.mk 0 0 [] []), false)

def i_stepped : Nat → Pf → Option (Pf × Bool)
 | 0, _ => none
 | n + 1, x1 =>
  jn (
   i_stepped_L1 (i_stepped n) n x1 n 0) fun j2 =>
  if x1.kind = 2 then
   (idx x1.kids 0).bind fun y4 =>
   if y4.kind = 3 then
    (idx x1.kids 0).bind fun y10 =>
    (idx y10.kids 0).bind fun y15 =>
    (idx x1.kids 1).bind fun y20 =>
    (i_reduced n y15 y20).bind fun r25 =>
    some (r25, true)
   else
    j2
  else
   j2

set_option maxHeartbeats 20000000 in
set_option maxHeartbeats 20000000 in
set_option maxRecDepth 100000 in
theorem i_stepped_st (n : Nat) (ih_i_stepped : ∀ (k1 : Int) (n1 : Int) (p1 : Nat) (e1 : Bool) (fs1 : List LF) (q1 : Nat) (f1 : Bool) (ks1 : List LP) {r : (Pf × Bool)}, i_stepped n (Pf.mk k1 n1 (fers fs1) (pers ks1)) = some r → ∀ (O : Heap) (tk : Nat), 2 ≤ tk → Gd tk (fstoks p1 fs1 ++ pstoks q1 ks1) → ACalls Go.Proofs.Try.prog 85 [.agg [.int .i64 k1, .int .i64 n1, .imm p1 3 e1 (fcellss fs1), .imm q1 4 f1 (pcellss ks1)]] O tk (RetX O tk (fun v tk' => ∃ r0' r1' v0' v1', r = (r0', r1') ∧ v = .tup [v0', v1'] ∧ VP true tk tk' r0' v0' ∧ v1' = .bool r1'))) : ∀ (k1 : Int) (n1 : Int) (p1 : Nat) (e1 : Bool) (fs1 : List LF) (q1 : Nat) (f1 : Bool) (ks1 : List LP) {r : (Pf × Bool)}, i_stepped (n + 1) (Pf.mk k1 n1 (fers fs1) (pers ks1)) = some r → ∀ (O : Heap) (tk : Nat), 2 ≤ tk → Gd tk (fstoks p1 fs1 ++ pstoks q1 ks1) → ACalls Go.Proofs.Try.prog 85 [.agg [.int .i64 k1, .int .i64 n1, .imm p1 3 e1 (fcellss fs1), .imm q1 4 f1 (pcellss ks1)]] O tk (RetX O tk (fun v tk' => ∃ r0' r1' v0' v1', r = (r0', r1') ∧ v = .tup [v0', v1'] ∧ VP true tk tk' r0' v0' ∧ v1' = .bool r1')) := by
 intro k1 n1 p1 e1 fs1 q1 f1 ks1 r hM O tk h2tk hgd1
 rw [i_stepped] at hM
 refine acalls_of_run_z Go.Proofs.Try.func85 rfl rfl [] [] (Bor.nil _) [(0, .agg [.int .i64 k1, .int .i64 n1, .imm p1 3 e1 (fcellss fs1), .imm q1 4 f1 (pcellss ks1)])] (.cons (.agg _) (.nil _)) (leb rfl) (fun _ h => by cases h) (fun _ h => absurd h List.not_mem_nil) (fun S0 hO htk hfz hzf => ?_)
 refine run_sr ?_
 refine run_op rfl (box_step (d := 1) rfl rfl rfl rfl rfl) rfl (ltb rfl) ?_
 refine run_op rfl (alloc_step (d := 2) hG rfl rfl rfl) rfl (ltb rfl) ?_
 refine yR rfl ?_
 refine run_ops_nil ?_
 refine run_seq ?_
 refine run_seq ?_
 obtain ⟨j2, hj71, hM⟩ := jn_t hM
 refine run_cutL [.code _, .code _] (fun σ' => ∃ (tkj2 : Nat), tk ≤ tkj2 ∧ j2 = some r ∧ Sub ⟨Go.Proofs.Try.prog, S0, Go.Proofs.Try.f85.ntmps, [], fun _ => False, []⟩ σ' ⟨[(1, .optr (.loc 1) 0 0), (2, .optr (.loc 2) 0 0), (3, .bool false)], [(2, ⟨40, 4, true, [[.int .i64 0, .int .i64 0, .imm 0 3 true [], .imm 0 4 true []]]⟩), (1, ⟨40, 4, true, [[.int .i64 k1, .int .i64 n1, .imm p1 3 e1 (fcellss fs1), .imm q1 4 f1 (pcellss ks1)]]⟩)], [], O, tkj2⟩) rfl ?_ ?_
 ·refine run_region ?_
  refine yF hG rfl ?_
  refine yD hG rfl ?_
  refine yB rfl ?_
  refine yL rfl ?_
  refine run_splitd (i := 12) rfl (fun hb3 => ?_) (fun hb3 => ?_)
  ·replace hM := ite_t hb3 hM
   refine run_puG (on_of rfl rfl rfl rfl) (fieldAddr_step hG rfl rfl rfl rfl rfl) rfl (ltb rfl) ?_
   refine run_rdG (on_of rfl rfl rfl rfl) (aload_rd hG rfl rfl rfl (by first | (simp [ldok]; done) | exact List.not_mem_nil | trivial)) rfl (ltb rfl) ?_
   obtain ⟨y4, hy5, hM⟩ := bind_t hM
   obtain ⟨k6, n6, p6, e6, fs6, q6, f6, ks6, rfl, hc7, hi8⟩ := pidx (ks := ks1) hy5
   refine run_puG (on_of rfl rfl rfl rfl) (indexImm_step hG rfl rfl rfl hi8 rfl rfl rfl rfl hc7) rfl (ltb rfl) ?_
   refine run_puG (on_of rfl rfl rfl rfl) (fieldAddr_step hG rfl rfl rfl rfl rfl) rfl (ltb rfl) ?_
   refine run_rdG (on_of rfl rfl rfl rfl) (aload_rd hG rfl rfl rfl (by first | (simp [ldok]; done) | exact List.not_mem_nil | trivial)) rfl (ltb rfl) ?_
   refine run_puG (on_of rfl rfl rfl rfl) (abin_step rfl rfl rfl rfl (fun _ h => by cases h)) rfl (ltb rfl) ?_
   refine yP rfl ?_
   refine run_ops_nil ?_
   refine run_sub_code (σ' := ⟨[(1, .optr (.loc 1) 0 0), (2, .optr (.loc 2) 0 0), (3, .bool false), (19, .bool (k6 == 3))], [(2, ⟨40, 4, true, [[.int .i64 0, .int .i64 0, .imm 0 3 true [], .imm 0 4 true []]]⟩), (1, ⟨40, 4, true, [[.int .i64 k1, .int .i64 n1, .imm p1 3 e1 (fcellss fs1), .imm q1 4 f1 (pcellss ks1)]]⟩)], [], O, tk⟩) (Sub.env _ ⟨rfl, rfl, rfl, rfl, trivial⟩) ?_
   refine run_ifd rfl rfl (fun hb9 => ?_) (fun hb9 => ?_)
   ·replace hM := ite_t hb9 hM
    refine run_seq ?_
    refine run_draw [.loc 2] (n := 14) mixed rfl (by intro x hx; simp only [List.mem_cons, List.not_mem_nil, or_false] at hx; rcases hx with rfl <;> rfl) ?_
    refine yTF hG 0 (by kernel_rfl) rfl ?_
    refine yTL hG 1 (by kernel_rfl) rfl ?_
    obtain ⟨y10, hy11, hM⟩ := bind_t hM
    obtain ⟨k12, n12, p12, e12, fs12, q12, f12, ks12, rfl, hc13, hi14⟩ := pidx (ks := ks1) hy11
    refine yT 2 (by kernel_rfl) rfl rfl rfl (ltb rfl) ((indexImm_step hG rfl rfl rfl hi14 rfl rfl rfl rfl hc13).rd _) ?_
    refine yTF hG 3 (by kernel_rfl) rfl ?_
    refine yTL hG 4 (by kernel_rfl) rfl ?_
    obtain ⟨y15, hy16, hM⟩ := bind_t hM
    obtain ⟨k17, n17, p17, e17, fs17, q17, f17, ks17, rfl, hc18, hi19⟩ := pidx (ks := ks12) hy16
    refine yT 5 (by kernel_rfl) rfl rfl rfl (ltb rfl) ((indexImm_step hG rfl rfl rfl hi19 rfl rfl rfl rfl hc18).rd _) ?_
    refine yTL hG 6 (by kernel_rfl) rfl ?_
    refine yTF hG 7 (by kernel_rfl) rfl ?_
    refine yTL hG 8 (by kernel_rfl) rfl ?_
    obtain ⟨y20, hy21, hM⟩ := bind_t hM
    obtain ⟨k22, n22, p22, e22, fs22, q22, f22, ks22, rfl, hc23, hi24⟩ := pidx (ks := ks1) hy21
    refine yT 9 (by kernel_rfl) rfl rfl rfl (ltb rfl) ((indexImm_step hG rfl rfl rfl hi24 rfl rfl rfl rfl hc23).rd _) ?_
    refine yTL hG 10 (by kernel_rfl) rfl ?_
    obtain ⟨r25, hg26, hM⟩ := bind_t hM
    refine yC 11 (by kernel_rfl) rfl rfl (i_reduced_ok n k17 n17 p17 e17 fs17 q17 f17 ks17 k22 n22 p22 e22 fs22 q22 f22 ks22 hg26 _ _) (callK_retX (fun v tk27 (hle28 : tk ≤ tk27) h29 => ?_))
    obtain ⟨k30, n30, p30, e30, fs30, q30, f30, ks30, rfl, rfl, hf31⟩ := h29
    refine yW hG 12 (by kernel_rfl) rfl (by kernel_rfl) rfl ?_
    refine yTW 13 (by kernel_rfl) rfl ?_
    refine AAny.done (by kernel_rfl) ?_
    refine run_ret_to ?_
    refine cut_ret ?_
    replace hM := some_t hM
    subst hM
    refine fin_x hG rfl rfl rfl (v' := .tup [.agg [.int .i64 k30, .int .i64 n30, .imm p30 3 e30 (fcellss fs30), .imm q30 4 f30 (pcellss ks30)], .bool true]) (by rfl) ⟨rfl, (show tk ≤ tk27 by omega), _, rfl, ⟨_, _, _, _, rfl, rfl, ⟨k30, n30, p30, e30, fs30, q30, f30, ks30, rfl, rfl, fun _ => (show Fr tk tk27 _ from ((show Fr tk tk27 _ from hf31 rfl)).mono (by omega) (by omega))⟩, rfl⟩⟩
   replace hM := ite_f hb9 hM
   refine run_skip ?_
   exact ⟨tk, (show tk ≤ tk by omega), hM, Sub.pk [1, 2, 3] rfl⟩
  replace hM := ite_f hb3 hM
  refine yO rfl ?_
  refine yO rfl ?_
  refine yO rfl ?_
  refine yO rfl ?_
  refine yO rfl ?_
  refine yO rfl ?_
  refine yP rfl ?_
  refine run_ops_nil ?_
  refine run_if rfl rfl (fun h => by cases h) (fun _ => ?_)
  refine run_skip ?_
  exact ⟨tk, (show tk ≤ tk by omega), hM, Sub.pk [1, 2, 3] rfl⟩
 clear hM
 rintro σ' ⟨tkj2, hle70, hM, hsub⟩
 rw [hj71] at hM
 clear hj71
 refine run_sub_code hsub ?_
 refine run_seq ?_
 refine run_sr ?_
 refine yF hG rfl ?_
 refine yD hG rfl ?_
 refine run_pu rfl (lenImm_step hG rfl rfl rfl rfl (plen _)) rfl (ltb rfl) ?_
 refine yL rfl ?_
 refine run_ops_nil ?_
 refine run_block ?_
 refine run_rounds (fun m σ => ∃ (i32 : Int) (tki_stepped_L1 : Nat), tkj2 ≤ tki_stepped_L1 ∧ i_stepped_L1 (i_stepped n) n (Pf.mk k1 n1 (fers fs1) (pers ks1)) m i32 = some r ∧ σ = ⟨[(1, .optr (.loc 1) 0 0), (2, .optr (.loc 2) 0 0), (3, .bool false), (33, .imm q1 4 f1 (pcellss ks1)), (34, .int .i64 (((pers ks1)).length : Int)), (35, .int .i64 i32)], [(2, ⟨40, 4, true, [[.int .i64 0, .int .i64 0, .imm 0 3 true [], .imm 0 4 true []]]⟩), (1, ⟨40, 4, true, [[.int .i64 k1, .int .i64 n1, .imm p1 3 e1 (fcellss fs1), .imm q1 4 f1 (pcellss ks1)]]⟩)], [], O, tki_stepped_L1⟩) n (Sub.pk [1, 2, 3, 33, 34, 35] rfl) ⟨0, tkj2, Nat.le_refl _, hM, rfl⟩ (fun m σ hI => ?_)
 clear hM
 obtain ⟨i32, tki_stepped_L1, hle69, hM, rfl⟩ := hI
 obtain _ | m := m
 ·exact absurd hM (by rw [i_stepped_L1]; exact fun h => by cases h)
 rw [i_stepped_L1] at hM
 refine run_sr ?_
 refine yB rfl ?_
 refine run_ops_nil ?_
 refine run_seq ?_
 refine run_ifd rfl rfl (fun hb33 => ?_) (fun hb33 => ?_)
 ·replace hM := ite_t hb33 hM
  refine run_skip ?_
  refine run_seq ?_
  refine run_block ?_
  refine run_sr ?_
  refine yL rfl ?_
  obtain ⟨y34, hy35, hM⟩ := bind_t hM
  obtain ⟨k36, n36, p36, e36, fs36, q36, f36, ks36, rfl, hc37, hi38⟩ := pidx (ks := ks1) hy35
  refine run_pu rfl (indexImm_step hG rfl rfl rfl hi38 rfl rfl rfl rfl hc37) rfl (ltb rfl) ?_
  refine yD hG rfl ?_
  refine run_op rfl (alloc_step (d := 5) hG rfl rfl rfl) rfl (ltb rfl) ?_
  refine yR rfl ?_
  refine yS hG rfl ?_
  refine run_ops_nil ?_
  refine run_sr ?_
  refine yD hG rfl ?_
  obtain ⟨r39, hg40, hM⟩ := bind_t hM
  refine yK rfl (ih_i_stepped k36 n36 p36 e36 fs36 q36 f36 ks36 hg40 _ _ (show 2 ≤ tki_stepped_L1 by omega) (show Gd tki_stepped_L1 _ from ((Gd.pidx (q := q1) (Gd.right hgd1) hc37)).mono (by omega))) (callK_retX (fun v tk41 (hle42 : tki_stepped_L1 ≤ tk41) h43 => ?_))
  obtain ⟨ra48, ra49, va50, va51, rfl, rfl, ⟨k44, n44, p44, e44, fs44, q44, f44, ks44, rfl, rfl, hf45⟩, rfl⟩ := h43
  refine yL rfl ?_
  refine run_pu rfl (extract_step rfl rfl rfl) rfl (ltb rfl) ?_
  refine run_pu rfl (extract_step rfl rfl rfl) rfl (ltb rfl) ?_
  refine run_op rfl (alloc_step (d := 6) hG rfl rfl rfl) rfl (ltb rfl) ?_
  refine yS hG rfl ?_
  refine yR rfl ?_
  refine run_ops_nil ?_
  refine run_sub_code (σ' := ⟨[(1, .optr (.loc 1) 0 0), (2, .optr (.loc 2) 0 0), (3, .bool false), (33, .imm q1 4 f1 (pcellss ks1)), (34, .int .i64 (((pers ks1)).length : Int)), (35, .int .i64 i32), (4, .int .i64 i32), (6, .optr (.loc 6) 0 0), (7, .bool ra49)], [(6, ⟨40, 4, true, [[.int .i64 k44, .int .i64 n44, .imm p44 3 e44 (fcellss fs44), .imm q44 4 f44 (pcellss ks44)]]⟩), (2, ⟨40, 4, true, [[.int .i64 0, .int .i64 0, .imm 0 3 true [], .imm 0 4 true []]]⟩), (1, ⟨40, 4, true, [[.int .i64 k1, .int .i64 n1, .imm p1 3 e1 (fcellss fs1), .imm q1 4 f1 (pcellss ks1)]]⟩)], [], O, tk41⟩) (Sub.trans (Sub.drop (k := 5) rfl) (Sub.env _ ⟨rfl, rfl, rfl, rfl, rfl, rfl, rfl, rfl, rfl, trivial⟩)) ?_
  refine run_sr ?_
  refine yL rfl ?_
  refine run_ops_nil ?_
  refine run_ifb rfl rfl (fun hb52 => ?_) (fun hb52 => ?_)
  ·replace hM := ite_t hb52 hM
   refine run_sr ?_
   refine yD hG rfl ?_
   obtain ⟨r53, hg54, hM⟩ := bind_t hM
   refine yK rfl (i_Expr_lifted_ok n k1 n1 p1 e1 fs1 q1 f1 ks1 0 hg54 _ _) (callK_retX (fun v tk55 (hle56 : tk41 ≤ tk55) h57 => ?_))
   obtain ⟨k58, n58, p58, e58, fs58, q58, f58, ks58, rfl, rfl, hf59⟩ := h57
   refine run_op rfl (alloc_step (d := 8) hG rfl rfl rfl) rfl (ltb rfl) ?_
   refine yS hG rfl ?_
   refine run_ops_nil ?_
   refine run_sr ?_
   refine yF hG rfl ?_
   refine yD hG rfl ?_
   refine yL rfl ?_
   refine yD hG rfl ?_
   obtain ⟨y61, hy62, hM⟩ := bind_t hM
   obtain ⟨k60, n60, p60, e60, fs60, q60, f60, ks60, rfl, hc63, hi64⟩ := pidx (ks := ks58) hy62
   try dsimp only [Pf.kids, Pf.forms, Pf.kind, Pf.n] at hM
   try rw [show (lset (pers ks58) i32 (Pf.mk k44 n44 (fers fs44) (pers ks44)) : List Pf) = (pers (ks58.set (i32).toNat (LP.mk k44 n44 p44 e44 fs44 q44 f44 ks44))) from pers_lset _ _ (LP.mk k44 n44 p44 e44 fs44 q44 f44 ks44)] at hM
   obtain ⟨hq65, hq66, hq67, hq68⟩ := Fr.pq (show Fr tk41 tk55 _ from (show Fr tk41 tk55 _ from hf59 rfl)) (ne_of_get (pget_lp hc63)) (by omega)
   refine run_put hG rfl rfl rfl rfl (ltb rfl) rfl rfl rfl rfl (by omega) rfl rfl rfl rfl rfl rfl rfl rfl rfl (fun j v hj => LP.av (LP.mk k44 n44 p44 e44 fs44 q44 f44 ks44) (by rw [LP.toks_eq]; exact Fr.avo (show Fr tki_stepped_L1 tk41 _ from (show Fr tki_stepped_L1 tk41 _ from hf45 rfl)) (by omega) (by omega)) j v hj) (by omega) hc63 (pcellss_av _ hq68) (fun _ h => h) hO.symm hzf (show S0.tk ≤ q58 by omega) (fun o h => absurd h List.not_mem_nil) (pcellss_set _ _ (LP.mk k44 n44 p44 e44 fs44 q44 f44 ks44)) (env' := [(1, .optr (.loc 1) 0 0), (2, .optr (.loc 2) 0 0), (3, .bool false), (33, .imm q1 4 f1 (pcellss ks1)), (34, .int .i64 (((pers ks1)).length : Int)), (35, .int .i64 i32), (4, .int .i64 i32), (6, .optr (.loc 6) 0 0), (7, .bool ra49), (45, .bool ra49), (46, .agg [.int .i64 k1, .int .i64 n1, .imm p1 3 e1 (fcellss fs1), .imm q1 4 f1 (pcellss ks1)]), (47, .agg [.int .i64 k58, .int .i64 n58, .imm p58 3 e58 (fcellss fs58), .imm q58 4 f58 (pcellss (ks58.set (i32).toNat (LP.mk k44 n44 p44 e44 fs44 q44 f44 ks44)))]), (8, .optr (.loc 8) 0 0), (48, .optr (.loc 8) 0 3), (49, .imm q58 4 f58 (pcellss (ks58.set (i32).toNat (LP.mk k44 n44 p44 e44 fs44 q44 f44 ks44)))), (50, .int .i64 i32), (51, .agg [.int .i64 k44, .int .i64 n44, .imm p44 3 e44 (fcellss fs44), .imm q44 4 f44 (pcellss ks44)])]) (l' := [(8, ⟨40, 4, true, [[.int .i64 k58, .int .i64 n58, .imm p58 3 e58 (fcellss fs58), .imm q58 4 f58 (pcellss (ks58.set (i32).toNat (LP.mk k44 n44 p44 e44 fs44 q44 f44 ks44)))]]⟩), (6, ⟨40, 4, true, [[.int .i64 k44, .int .i64 n44, .imm p44 3 e44 (fcellss fs44), .imm q44 4 f44 (pcellss ks44)]]⟩), (2, ⟨40, 4, true, [[.int .i64 0, .int .i64 0, .imm 0 3 true [], .imm 0 4 true []]]⟩), (1, ⟨40, 4, true, [[.int .i64 k1, .int .i64 n1, .imm p1 3 e1 (fcellss fs1), .imm q1 4 f1 (pcellss ks1)]]⟩)]) (.cons _ _ _ _ rfl (.optr _ _ _) (.cons _ _ _ _ rfl (.optr _ _ _) (.cons _ _ _ _ rfl (Tn.av (.bool _)) (.cons _ _ _ _ rfl (Tn.av (ps_av (avo_right (Gd.avo hgd1 (by omega))))) (.cons _ _ _ _ rfl (Tn.av (.int _ _)) (.cons _ _ _ _ rfl (Tn.av (.int _ _)) (.cons _ _ _ _ rfl (Tn.av (.int _ _)) (.cons _ _ _ _ rfl (.optr _ _ _) (.cons _ _ _ _ rfl (Tn.av (.bool _)) (.cons _ _ _ _ rfl (Tn.av (.bool _)) (.cons _ _ _ _ rfl (TnCs.agg (.cons _ _ _ _ (Tn.av (.int _ _)) (.cons _ _ _ _ (Tn.av (.int _ _)) (.cons _ _ _ _ (Tn.av (fs_av (avo_left (Gd.avo hgd1 (by omega))))) (.cons _ _ _ _ (Tn.av (ps_av (avo_right (Gd.avo hgd1 (by omega))))) .nil)))) rfl) (.cons _ _ _ _ rfl (TnCs.agg (.cons _ _ _ _ (Tn.av (.int _ _)) (.cons _ _ _ _ (Tn.av (.int _ _)) (.cons _ _ _ _ (Tn.av (fs_av hq67)) (.cons _ _ _ _ (Tn.turn ⟨rfl, rfl⟩) .nil)))) rfl) (.cons _ _ _ _ rfl (.optr _ _ _) (.cons _ _ _ _ rfl (.optr _ _ _) (.cons _ _ _ _ rfl (Tn.turn ⟨rfl, rfl⟩) (.cons _ _ _ _ rfl (Tn.av (.int _ _)) (.cons _ _ _ _ rfl (TnCs.agg (.cons _ _ _ _ (Tn.av (.int _ _)) (.cons _ _ _ _ (Tn.av (.int _ _)) (.cons _ _ _ _ (Tn.av (fs_av (avo_left (Fr.avo (show Fr tki_stepped_L1 tk41 _ from (show Fr tki_stepped_L1 tk41 _ from hf45 rfl)) (by omega) (by omega))))) (.cons _ _ _ _ (Tn.av (ps_av (avo_right (Fr.avo (show Fr tki_stepped_L1 tk41 _ from (show Fr tki_stepped_L1 tk41 _ from hf45 rfl)) (by omega) (by omega))))) .nil)))) rfl) .nil))))))))))))))))) (.cons _ _ _ _ _ (TnCs.box (.cons _ _ _ _ (Tn.av (.int _ _)) (.cons _ _ _ _ (Tn.av (.int _ _)) (.cons _ _ _ _ (Tn.av (fs_av hq67)) (.cons _ _ _ _ (Tn.turn ⟨rfl, rfl⟩) .nil)))) rfl) (.cons _ _ _ _ _ (TnCs.box (.cons _ _ _ _ (Tn.av (.int _ _)) (.cons _ _ _ _ (Tn.av (.int _ _)) (.cons _ _ _ _ (Tn.av (fs_av (avo_left (Fr.avo (show Fr tki_stepped_L1 tk41 _ from (show Fr tki_stepped_L1 tk41 _ from hf45 rfl)) (by omega) (by omega))))) (.cons _ _ _ _ (Tn.av (ps_av (avo_right (Fr.avo (show Fr tki_stepped_L1 tk41 _ from (show Fr tki_stepped_L1 tk41 _ from hf45 rfl)) (by omega) (by omega))))) .nil)))) rfl) (.cons _ _ _ _ _ (TnCs.box (.cons _ _ _ _ (Tn.av (.int _ _)) (.cons _ _ _ _ (Tn.av (.int _ _)) (.cons _ _ _ _ (Tn.av (.imm _ _ _ _ (fun h => absurd rfl h) (fun i e j x hi => by simp at hi))) (.cons _ _ _ _ (Tn.av (.imm _ _ _ _ (fun h => absurd rfl h) (fun i e j x hi => by simp at hi))) .nil)))) rfl) (.cons _ _ _ _ _ (TnCs.box (.cons _ _ _ _ (Tn.av (.int _ _)) (.cons _ _ _ _ (Tn.av (.int _ _)) (.cons _ _ _ _ (Tn.av (fs_av (avo_left (Gd.avo hgd1 (by omega))))) (.cons _ _ _ _ (Tn.av (ps_av (avo_right (Gd.avo hgd1 (by omega))))) .nil)))) rfl) .nil)))) ?_
   refine run_ops_nil ?_
   refine run_sr ?_
   refine yD hG rfl ?_
   refine yS hG rfl ?_
   refine yR rfl ?_
   refine run_ops_nil ?_
   refine run_ret_to ?_
   replace hM := some_t hM
   subst hM
   refine fin_x hG rfl rfl rfl (v' := .tup [.agg [.int .i64 k58, .int .i64 n58, .imm p58 3 e58 (fcellss fs58), .imm q58 4 f58 (pcellss (ks58.set (i32).toNat (LP.mk k44 n44 p44 e44 fs44 q44 f44 ks44)))], .bool true]) (by rfl) ⟨rfl, (show tk ≤ tk55 by omega), _, rfl, ⟨_, _, _, _, rfl, rfl, ⟨k58, n58, p58, e58, fs58, q58, f58, (ks58.set (i32).toNat (LP.mk k44 n44 p44 e44 fs44 q44 f44 ks44)), rfl, rfl, fun _ => (show Fr tk tk55 _ from ((show Fr tki_stepped_L1 tk55 _ from Fr.pset (show Fr tk41 tk55 _ from (show Fr tk41 tk55 _ from hf59 rfl)) (pget_lp hc63) (t' := LP.mk k44 n44 p44 e44 fs44 q44 f44 ks44) (by rw [LP.toks_eq]; exact (show Fr tki_stepped_L1 tk41 _ from (show Fr tki_stepped_L1 tk41 _ from hf45 rfl))) (by omega) (by omega) (by omega) (by omega) (by omega))).mono (by omega) (by omega))⟩, rfl⟩⟩
  replace hM := ite_f hb52 hM
  refine run_skip ?_
  refine run_blk ?_
  refine run_region ?_
  refine yB rfl ?_
  refine yL rfl ?_
  refine run_ops_nil ?_
  exact run_loop_end ⟨m, _, Nat.lt_succ_self _, ⟨(IntKind.i64.wrap (i32 + 1)), tk41, (show tkj2 ≤ tk41 by omega), hM, rfl⟩, Sub.trans (Sub.drop (k := 6) rfl) (Sub.pk [1, 2, 3, 33, 34, 35] rfl)⟩
 replace hM := ite_f hb33 hM
 refine run_exit_to rfl ?_
 refine run_sr ?_
 refine run_pu rfl (build_step hG rfl (by rfl) rfl (fun h => by cases h) (by rfl)) rfl (ltb rfl) ?_
 refine yS hG rfl ?_
 refine yR rfl ?_
 refine run_ops_nil ?_
 refine run_ret_to ?_
 replace hM := some_t hM
 subst hM
 refine fin_x hG rfl rfl rfl (v' := .tup [.agg [.int .i64 0, .int .i64 0, .imm 0 3 true (fcellss []), .imm 0 4 true (pcellss [])], .bool false]) (by rfl) ⟨rfl, (show tk ≤ tki_stepped_L1 by omega), _, rfl, ⟨_, _, _, _, rfl, rfl, ⟨0, 0, 0, true, [], 0, true, [], rfl, rfl, fun _ => Fr.nil _ _⟩, rfl⟩⟩

theorem i_stepped_all : ∀ (n : Nat), (∀ (k1 : Int) (n1 : Int) (p1 : Nat) (e1 : Bool) (fs1 : List LF) (q1 : Nat) (f1 : Bool) (ks1 : List LP) {r : (Pf × Bool)}, i_stepped n (Pf.mk k1 n1 (fers fs1) (pers ks1)) = some r → ∀ (O : Heap) (tk : Nat), 2 ≤ tk → Gd tk (fstoks p1 fs1 ++ pstoks q1 ks1) → ACalls Go.Proofs.Try.prog 85 [.agg [.int .i64 k1, .int .i64 n1, .imm p1 3 e1 (fcellss fs1), .imm q1 4 f1 (pcellss ks1)]] O tk (RetX O tk (fun v tk' => ∃ r0' r1' v0' v1', r = (r0', r1') ∧ v = .tup [v0', v1'] ∧ VP true tk tk' r0' v0' ∧ v1' = .bool r1')))
 | 0 => by intro k1 n1 p1 e1 fs1 q1 f1 ks1 r hM; rw [i_stepped] at hM; cases hM
 | n + 1 => have ih := i_stepped_all n; i_stepped_st n (ih)

theorem i_stepped_ok (n : Nat) : ∀ (k1 : Int) (n1 : Int) (p1 : Nat) (e1 : Bool) (fs1 : List LF) (q1 : Nat) (f1 : Bool) (ks1 : List LP) {r : (Pf × Bool)}, i_stepped n (Pf.mk k1 n1 (fers fs1) (pers ks1)) = some r → ∀ (O : Heap) (tk : Nat), 2 ≤ tk → Gd tk (fstoks p1 fs1 ++ pstoks q1 ks1) → ACalls Go.Proofs.Try.prog 85 [.agg [.int .i64 k1, .int .i64 n1, .imm p1 3 e1 (fcellss fs1), .imm q1 4 f1 (pcellss ks1)]] O tk (RetX O tk (fun v tk' => ∃ r0' r1' v0' v1', r = (r0', r1') ∧ v = .tup [v0', v1'] ∧ VP true tk tk' r0' v0' ∧ v1' = .bool r1')) := i_stepped_all n

end Go.Am.Ytpkeophkdemcpaa
