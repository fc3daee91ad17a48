/- Printed by a program of ours: Lean functions that do what the Go functions do, and the contracts. -/
import Derived.Test.YtpkeophkdemcpaaTypes
import Derived.Test.YtpkeophkdemcpaaMi4
import Derived.Test.YtpkeophkdemcpaaMc1
import Derived.Test.YtpkeophkdemcpaaMb3
import Derived.Test.YtpkeophkdemcpaaMp
import Derived.Test.YtpkeophkdemcpaaMxTA
import Derived.Test.YtpkeophkdemcpaaMz
-- packed
namespace Go.Am.Ytpkeophkdemcpaa
open Go Go.Am

def i_Expr_lifted_c1 (i1 : Int) (i2 : Int) (i3 : Int) : Option Pf :=
 if i1 ≥ i2 then
  some (Pf.mk 1 (IntKind.i64.wrap (i1 + i3)) [] [])
 else
  some (Pf.mk 1 i1 [] [])

set_option maxRecDepth 100000 in
theorem i_Expr_lifted_c1_ok : ∀ (i1 : Int) (i2 : Int) (X0 : ID) (i3 : Int) {r : Pf}, i_Expr_lifted_c1 i1 i2 i3 = some r → ∀ (O : Heap) (tk : Nat), O X0 = some ⟨3, 1, true, [[.int .i64 i3]]⟩ → ACalls Go.Proofs.Try.prog 206 [.int .i64 i1, .int .i64 i2, .optr X0 0 0] O tk (RetX O tk (fun v tk' => VP true tk tk' r v)) := by
 intro i1 i2 X0 i3 r hM O tk hX0
 unfold i_Expr_lifted_c1 at hM
 refine acalls_of_run Go.Proofs.Try.func206 rfl rfl [X0] [⟨3, 1, true, [[.int .i64 i3]]⟩] (Bor.one hX0 rfl) [(0, .int .i64 i1), (1, .int .i64 i2), (2, .optr (.bor 0) 0 0)] (.cons (entS rfl) (.cons (entS rfl) (.cons (.bor 0 _ _ _ rfl) (.nil _)))) (leb rfl) (by intro y h; simp only [List.mem_cons, List.not_mem_nil, or_false] at h; rcases h with rfl <;> simp [tch, tch0]) (fun S0 hO htk hfz => ?_)
 refine run_sr ?_
 refine run_op rfl (alloc_step (d := 5) hG rfl rfl rfl) rfl (ltb rfl) ?_
 refine run_ops_nil ?_
 refine run_seq ?_
 refine run_sr ?_
 refine yL rfl ?_
 refine yL rfl ?_
 refine yB rfl ?_
 refine run_ops_nil ?_
 refine run_ifd rfl rfl (fun hb4 => ?_) (fun hb4 => ?_)
 ·replace hM := ite_t hb4 hM
  refine run_region ?_
  refine yL rfl ?_
  refine yD hG rfl ?_
  refine yB rfl ?_
  refine yR rfl ?_
  refine run_ops_nil ?_
  refine run_sr ?_
  refine yL rfl ?_
  refine run_pu rfl (build_step hG rfl (by rfl) rfl (fun h => by cases h) (by rfl)) rfl (ltb rfl) ?_
  refine yS hG rfl ?_
  refine run_ops_nil ?_
  refine run_ret_to ?_
  replace hM := some_t hM
  subst hM
  refine fin_x hG rfl rfl rfl (v' := .agg [.int .i64 1, .int .i64 (IntKind.i64.wrap (i1 + i3)), .imm 0 3 true (fcellss []), .imm 0 4 true (pcellss [])]) (by rfl) ⟨out_same (Bor.one hX0 rfl), (show tk ≤ tk by omega), _, rfl, ⟨1, (IntKind.i64.wrap (i1 + i3)), 0, true, [], 0, true, [], rfl, rfl, fun _ => Fr.nil _ _⟩⟩
 replace hM := ite_f hb4 hM
 refine run_skip ?_
 refine run_sr ?_
 refine yL rfl ?_
 refine run_pu rfl (build_step hG rfl (by rfl) rfl (fun h => by cases h) (by rfl)) rfl (ltb rfl) ?_
 refine yS hG rfl ?_
 refine run_ops_nil ?_
 refine run_ret_to ?_
 replace hM := some_t hM
 subst hM
 refine fin_x hG rfl rfl rfl (v' := .agg [.int .i64 1, .int .i64 i1, .imm 0 3 true (fcellss []), .imm 0 4 true (pcellss [])]) (by rfl) ⟨out_same (Bor.one hX0 rfl), (show tk ≤ tk by omega), _, rfl, ⟨1, i1, 0, true, [], 0, true, [], rfl, rfl, fun _ => Fr.nil _ _⟩⟩

def i_Expr_moved__fn_i_Expr_lifted_c1v_L3 (rec_i_Expr_moved__fn_i_Expr_lifted_c1v : Pf → Int → Int → Option Pf) (x1 : Pf) (i3 : Int) (i115 : Int) : Nat → Int → List Pf → Option Pf
 | 0, _, _ => none
 | m + 1, i117, l118 =>
  if i117 < ((x1.kids).length : Int) then
   (idx x1.kids i117).bind fun y120 =>
   (rec_i_Expr_moved__fn_i_Expr_lifted_c1v y120 i115 i3).bind fun r125 =>
   chk ((l118).length + ([r125]).length ≤ 1099511627776) <|
   i_Expr_moved__fn_i_Expr_lifted_c1v_L3 rec_i_Expr_moved__fn_i_Expr_lifted_c1v x1 i3 i115 m (IntKind.i64.wrap (i117 + 1)) (l118 ++ [r125])
  else
   some (Pf.mk x1.kind 0 [] l118)

def i_Expr_moved__fn_i_Expr_lifted_c1v_L2 (rec_i_Expr_moved__fn_i_Expr_lifted_c1v : Pf → Int → Int → Option Pf) (x1 : Pf) (i3 : Int) (l13 : List F) (i38 : Int) : Nat → Int → List Pf → Option Pf
 | 0, _, _ => none
 | m + 1, i40, l41 =>
  if i40 < ((x1.kids).length : Int) then
   (idx x1.kids i40).bind fun y43 =>
   (rec_i_Expr_moved__fn_i_Expr_lifted_c1v y43 i38 i3).bind fun r48 =>
   chk ((l41).length + ([r48]).length ≤ 1099511627776) <|
   i_Expr_moved__fn_i_Expr_lifted_c1v_L2 rec_i_Expr_moved__fn_i_Expr_lifted_c1v x1 i3 l13 i38 m (IntKind.i64.wrap (i40 + 1)) (l41 ++ [r48])
  else
   some (Pf.mk x1.kind 0 l13 l41)

def i_Expr_moved__fn_i_Expr_lifted_c1v_L1 (rec_i_Expr_moved__fn_i_Expr_lifted_c1v : Pf → Int → Int → Option Pf) (n : Nat) (x1 : Pf) (i2 : Int) (i3 : Int) : Nat → Int → List F → Option Pf
 | 0, _, _ => none
 | m + 1, i12, l13 =>
  if i12 < ((x1.forms).length : Int) then
   (idx x1.forms i12).bind fun y15 =>
   (i_cloneType n y15).bind fun r20 =>
   chk ((l13).length + ([r20]).length ≤ 1099511627776) <|
   i_Expr_moved__fn_i_Expr_lifted_c1v_L1 rec_i_Expr_moved__fn_i_Expr_lifted_c1v n x1 i2 i3 m (IntKind.i64.wrap (i12 + 1)) (l13 ++ [r20])
  else
   jn (fun (i38 : Int) =>
    if 0 < ((x1.kids).length : Int) then
     (idx x1.kids 0).bind fun y66 =>
     (rec_i_Expr_moved__fn_i_Expr_lifted_c1v y66 i38 i3).bind fun r71 =>
     chk ((([] : List Pf)).length + ([r71]).length ≤ 1099511627776) <|
     i_Expr_moved__fn_i_Expr_lifted_c1v_L2 rec_i_Expr_moved__fn_i_Expr_lifted_c1v x1 i3 l13 i38 n (IntKind.i64.wrap (0 + 1)) (([] : List Pf) ++ [r71])
    else
     some (Pf.mk x1.kind 0 l13 [])) fun j37 =>
   if x1.kind = 3 then
    j37 (IntKind.i64.wrap (i2 + 1))
   else
    j37 i2

def i_Expr_moved__fn_i_Expr_lifted_c1v : Nat → Pf → Int → Int → Option Pf
 | 0, _, _, _ => none
 | n + 1, x1, i2, i3 =>
  if x1.kind = 1 then
   (i_Expr_lifted_c1 x1.n i2 i3).bind fun r5 =>
   some r5
  else
   if 0 < ((x1.forms).length : Int) then
    (idx x1.forms 0).bind fun y92 =>
    (i_cloneType n y92).bind fun r97 =>
    chk ((([] : List F)).length + ([r97]).length ≤ 1099511627776) <|
    i_Expr_moved__fn_i_Expr_lifted_c1v_L1 (i_Expr_moved__fn_i_Expr_lifted_c1v n) n x1 i2 i3 n (IntKind.i64.wrap (0 + 1)) (([] : List F) ++ [r97])
   else
    jn (fun (i115 : Int) =>
     if 0 < ((x1.kids).length : Int) then
      (idx x1.kids 0).bind fun y143 =>
      (i_Expr_moved__fn_i_Expr_lifted_c1v n y143 i115 i3).bind fun r148 =>
      chk ((([] : List Pf)).length + ([r148]).length ≤ 1099511627776) <|
      i_Expr_moved__fn_i_Expr_lifted_c1v_L3 (i_Expr_moved__fn_i_Expr_lifted_c1v n) x1 i3 i115 n (IntKind.i64.wrap (0 + 1)) (([] : List Pf) ++ [r148])
     else
      some (Pf.mk x1.kind 0 [] [])) fun j114 =>
    if x1.kind = 3 then
     j114 (IntKind.i64.wrap (i2 + 1))
    else
     j114 i2

set_option maxHeartbeats 20000000 in
set_option maxHeartbeats 20000000 in
set_option maxRecDepth 100000 in
theorem i_Expr_moved__fn_i_Expr_lifted_c1v_st (n : Nat) (ih_i_Expr_moved__fn_i_Expr_lifted_c1v : ∀ (k1 : Int) (n1 : Int) (p1 : Nat) (e1 : Bool) (fs1 : List LF) (q1 : Nat) (f1 : Bool) (ks1 : List LP) (i2 : Int) (X0 : ID) (i3 : Int) {r : Pf}, i_Expr_moved__fn_i_Expr_lifted_c1v n (Pf.mk k1 n1 (fers fs1) (pers ks1)) i2 i3 = some r → ∀ (O : Heap) (tk : Nat), O X0 = some ⟨3, 1, true, [[.int .i64 i3]]⟩ → ACalls Go.Proofs.Try.prog 204 [.agg [.int .i64 k1, .int .i64 n1, .imm p1 3 e1 (fcellss fs1), .imm q1 4 f1 (pcellss ks1)], .int .i64 i2, .fn (.func 206) [] [.optr X0 0 0]] O tk (RetX O tk (fun v tk' => VP true tk tk' r v))) : ∀ (k1 : Int) (n1 : Int) (p1 : Nat) (e1 : Bool) (fs1 : List LF) (q1 : Nat) (f1 : Bool) (ks1 : List LP) (i2 : Int) (X0 : ID) (i3 : Int) {r : Pf}, i_Expr_moved__fn_i_Expr_lifted_c1v (n + 1) (Pf.mk k1 n1 (fers fs1) (pers ks1)) i2 i3 = some r → ∀ (O : Heap) (tk : Nat), O X0 = some ⟨3, 1, true, [[.int .i64 i3]]⟩ → ACalls Go.Proofs.Try.prog 204 [.agg [.int .i64 k1, .int .i64 n1, .imm p1 3 e1 (fcellss fs1), .imm q1 4 f1 (pcellss ks1)], .int .i64 i2, .fn (.func 206) [] [.optr X0 0 0]] O tk (RetX O tk (fun v tk' => VP true tk tk' r v)) := by
 intro k1 n1 p1 e1 fs1 q1 f1 ks1 i2 X0 i3 r hM O tk hX0
 rw [i_Expr_moved__fn_i_Expr_lifted_c1v] at hM
 refine acalls_of_run Go.Proofs.Try.func204 rfl rfl [X0] [⟨3, 1, true, [[.int .i64 i3]]⟩] (Bor.one hX0 rfl) [(0, .agg [.int .i64 k1, .int .i64 n1, .imm p1 3 e1 (fcellss fs1), .imm q1 4 f1 (pcellss ks1)]), (1, .int .i64 i2), (2, .fn (.func 206) [] [.optr (.bor 0) 0 0])] (.cons (.agg _) (.cons (entS rfl) (.cons (ent_fn (.bor 0 _ _ _ rfl)) (.nil _)))) (leb rfl) (by intro y h; simp only [List.mem_cons, List.not_mem_nil, or_false] at h; rcases h with rfl <;> simp [tch, tch0]) (fun S0 hO htk hfz => ?_)
 refine run_sr ?_
 refine run_op rfl (box_step (d := 3) rfl rfl rfl rfl rfl) rfl (ltb rfl) ?_
 refine run_op rfl (alloc_step (d := 6) hG rfl rfl rfl) rfl (ltb rfl) ?_
 refine run_ops_nil ?_
 refine run_seq ?_
 refine run_sr ?_
 refine yF hG rfl ?_
 refine yD hG rfl ?_
 refine yB rfl ?_
 refine run_ops_nil ?_
 refine run_ifd rfl rfl (fun hb4 => ?_) (fun hb4 => ?_)
 ·replace hM := ite_t hb4 hM
  refine run_sr ?_
  refine yL rfl ?_
  refine yF hG rfl ?_
  refine yD hG rfl ?_
  refine yL rfl ?_
  obtain ⟨r5, hg6, hM⟩ := bind_t hM
  refine yK rfl (i_Expr_lifted_c1_ok n1 i2 (.bor 0) i3 hg6 _ _ rfl) (callK_retX (fun v tk7 (hle8 : tk ≤ tk7) h9 => ?_))
  obtain ⟨k10, n10, p10, e10, fs10, q10, f10, ks10, rfl, rfl, hf11⟩ := h9
  refine yS hG rfl ?_
  refine run_ops_nil ?_
  refine run_ret_to ?_
  replace hM := some_t hM
  subst hM
  refine fin_x hG rfl rfl rfl (v' := .agg [.int .i64 k10, .int .i64 n10, .imm p10 3 e10 (fcellss fs10), .imm q10 4 f10 (pcellss ks10)]) (by rfl) ⟨out_same (Bor.one hX0 rfl), (show tk ≤ tk7 by omega), _, rfl, ⟨k10, n10, p10, e10, fs10, q10, f10, ks10, rfl, rfl, fun _ => (show Fr tk tk7 _ from ((show Fr tk tk7 _ from hf11 rfl)).mono (by omega) (by omega))⟩⟩
 replace hM := ite_f hb4 hM
 refine run_skip ?_
 refine run_sr ?_
 refine yF hG rfl ?_
 refine yD hG rfl ?_
 refine run_pu rfl (build_step hG rfl (by rfl) rfl (fun h => by cases h) (by rfl)) rfl (ltb rfl) ?_
 refine run_op rfl (alloc_step (d := 7) hG rfl rfl rfl) rfl (ltb rfl) ?_
 refine yS hG rfl ?_
 refine run_ops_nil ?_
 refine run_seq ?_
 refine run_sr ?_
 refine yF hG rfl ?_
 refine yD hG rfl ?_
 refine run_pu rfl (lenImm_step hG rfl rfl rfl rfl (flen _)) rfl (ltb rfl) ?_
 refine yL rfl ?_
 refine run_ops_nil ?_
 refine run_block ?_
 refine run_sub_code (σ' := ⟨[(1, .int .i64 i2), (2, .fn (.func 206) [] [.optr (.bor 0) 0 0]), (3, .optr (.loc 3) 0 0), (6, .optr (.loc 6) 0 0), (7, .optr (.loc 7) 0 0), (24, .imm p1 3 e1 (fcellss fs1)), (25, .int .i64 (((fers fs1)).length : Int)), (26, .int .i64 0)], [(7, ⟨40, 4, true, [[.int .i64 k1, .int .i64 0, .imm 0 3 true [], .imm 0 4 true []]]⟩), (6, ⟨40, 4, true, [[.int .i64 0, .int .i64 0, .imm 0 3 true [], .imm 0 4 true []]]⟩), (3, ⟨40, 4, true, [[.int .i64 k1, .int .i64 n1, .imm p1 3 e1 (fcellss fs1), .imm q1 4 f1 (pcellss ks1)]]⟩)], [⟨3, 1, true, [[.int .i64 i3]]⟩], O, tk⟩) (Sub.env _ ⟨rfl, rfl, rfl, rfl, rfl, rfl, rfl, rfl, trivial⟩) ?_
 refine run_peel (fun m σ => ∃ (i12 : Int) (ks13 : List LF) (tki_Expr_moved__fn_i_Expr_lifted_c1v_L1 : Nat), tk ≤ tki_Expr_moved__fn_i_Expr_lifted_c1v_L1 ∧ Fr tk tki_Expr_moved__fn_i_Expr_lifted_c1v_L1 (ftoks ks13) ∧ i_Expr_moved__fn_i_Expr_lifted_c1v_L1 (i_Expr_moved__fn_i_Expr_lifted_c1v n) n (Pf.mk k1 n1 (fers fs1) (pers ks1)) i2 i3 m i12 (fers ks13) = some r ∧ σ = ⟨[(1, .int .i64 i2), (2, .fn (.func 206) [] [.optr (.bor 0) 0 0]), (3, .optr (.loc 3) 0 0), (6, .optr (.loc 6) 0 0), (7, .optr (.loc 7) 0 0), (24, .imm p1 3 e1 (fcellss fs1)), (25, .int .i64 (((fers fs1)).length : Int)), (26, .int .i64 i12)], [(35, ⟨42, 3, false, fcellss ks13⟩), (7, ⟨40, 4, true, [[.int .i64 k1, .int .i64 0, .osl (.loc 35), .imm 0 4 true []]]⟩), (6, ⟨40, 4, true, [[.int .i64 0, .int .i64 0, .imm 0 3 true [], .imm 0 4 true []]]⟩), (3, ⟨40, 4, true, [[.int .i64 k1, .int .i64 n1, .imm p1 3 e1 (fcellss fs1), .imm q1 4 f1 (pcellss ks1)]]⟩)], [⟨3, 1, true, [[.int .i64 i3]]⟩], O, tki_Expr_moved__fn_i_Expr_lifted_c1v_L1⟩) n ?_ (fun m σ hI => ?_)
 ·refine run_sr ?_
  refine yB rfl ?_
  refine run_ops_nil ?_
  refine run_seq ?_
  refine run_ifd rfl rfl (fun hb91 => ?_) (fun hb91 => ?_)
  ·replace hM := ite_t hb91 hM
   refine run_skip ?_
   refine run_seq ?_
   refine run_block ?_
   refine run_sr ?_
   obtain ⟨y92, hy93, hM⟩ := bind_t hM
   obtain ⟨k94, n94, q94, f94, ks94, rfl, hc95, hi96⟩ := fidx (ks := fs1) hy93
   refine run_pu rfl (indexImm_step hG rfl rfl rfl hi96 rfl rfl rfl rfl hc95) rfl (ltb rfl) ?_
   refine yD hG rfl ?_
   refine run_op rfl (alloc_step (d := 9) hG rfl rfl rfl) rfl (ltb rfl) ?_
   refine yS hG rfl ?_
   refine run_ops_nil ?_
   refine run_draw [.loc 7] (n := 8) mixed rfl (by intro x hx; simp only [List.mem_cons, List.not_mem_nil, or_false] at hx; rcases hx with rfl <;> rfl) ?_
   refine yTF hG 0 (by kernel_rfl) rfl ?_
   refine yTL hG 2 (by kernel_rfl) rfl ?_
   refine AAny.each (rs := [1, 3]) (by kernel_rfl) (fun h => by cases h) (fun i hi => ?_)
   simp only [List.mem_cons, List.not_mem_nil, or_false] at hi
   rcases hi with rfl | rfl
   ·refine AOp.rd rfl rfl rfl (ltb rfl) (aload_rd hG rfl rfl rfl (by first | (simp [ldok]; done) | exact List.not_mem_nil | trivial)) ?_
    obtain ⟨r97, hg98, hM⟩ := bind_t hM
    refine yC 3 (by kernel_rfl) rfl rfl (i_cloneType_ok n k94 n94 q94 f94 ks94 hg98 _ _) (callK_retX (fun v tk99 (hle100 : tk ≤ tk99) h101 => ?_))
    obtain ⟨k102, n102, q102, f102, ks102, rfl, rfl, hf103⟩ := h101
    refine AAny.one (i := 4) (by kernel_rfl) (AOp.step rfl rfl rfl (ltb rfl) (buildSlice_step (d := 34) hG rfl rfl rfl rfl rfl (by rfl) (by rfl) (by rfl) (by decide)) (fun _ h => absurd h List.not_mem_nil) ?_)
    obtain ⟨hc104, hM⟩ := chk_t hM
    try rw [show ((fers ([] : List LF)) ++ [(F.mk k102 n102 (fers ks102))] : List F) = (fers (([] : List LF) ++ [LF.mk k102 n102 q102 f102 ks102])) from fers_app ([] : List LF) [LF.mk k102 n102 q102 f102 ks102]] at hM
    refine AAny.one (i := 5) (by kernel_rfl) (AOp.step rfl rfl rfl (ltb rfl) (appendFM_step (d := 35) hG rfl rfl rfl rfl rfl rfl rfl (fcellss_sz ([] : List LF)) rfl (fcellss_sz ([LF.mk k102 n102 q102 f102 ks102])) (flen ([] : List LF)) (flen ([LF.mk k102 n102 q102 f102 ks102])) (by simp [fers]) hc104 (by decide) (fcellss_app _ _)) (fun _ h => absurd h List.not_mem_nil) ?_)
    refine yTF hG 6 (by kernel_rfl) rfl ?_
    refine yW hG 7 (by kernel_rfl) rfl (by kernel_rfl) rfl ?_
    refine AAny.done (by kernel_rfl) ?_
    refine run_blk ?_
    refine run_region ?_
    refine yB rfl ?_
    refine yL rfl ?_
    refine run_ops_nil ?_
    exact run_loop_end ⟨n, _, Nat.le_refl _, ⟨(IntKind.i64.wrap (0 + 1)), (([] : List LF) ++ [LF.mk k102 n102 q102 f102 ks102]), tk99, (show tk ≤ tk99 by omega), (show Fr tk tk99 _ from (Fr.fcons ((show Fr tk tk99 _ from hf103 rfl)) (show Fr tk99 tk99 _ from Fr.nil _ _) (by omega) (by omega)).mono (by omega) (by omega)), hM, rfl⟩, Sub.trans (Sub.drop (k := 34) rfl) (Sub.trans (Sub.drop (k := 9) rfl) (Sub.pk [1, 2, 3, 6, 7, 24, 25, 26] rfl))⟩
   obtain ⟨r105, hg106, hM⟩ := bind_t hM
   refine yI rfl rfl (i_cloneType_ok n k94 n94 q94 f94 ks94 hg106 _ _) (callK_retX (fun v tk107 (hle108 : tk ≤ tk107) h109 => ?_))
   obtain ⟨k110, n110, q110, f110, ks110, rfl, rfl, hf111⟩ := h109
   refine AAny.each (rs := [1, 4]) (by kernel_rfl) (fun h => by cases h) (fun i hi => ?_)
   simp only [List.mem_cons, List.not_mem_nil, or_false] at hi
   rcases hi with rfl | rfl
   ·refine AOp.rd rfl rfl rfl (ltb rfl) (aload_rd hG rfl rfl rfl (by first | (simp [ldok]; done) | exact List.not_mem_nil | trivial)) ?_
    refine AAny.one (i := 4) (by kernel_rfl) (AOp.step rfl rfl rfl (ltb rfl) (buildSlice_step (d := 34) hG rfl rfl rfl rfl rfl (by rfl) (by rfl) (by rfl) (by decide)) (fun _ h => absurd h List.not_mem_nil) ?_)
    obtain ⟨hc112, hM⟩ := chk_t hM
    try rw [show ((fers ([] : List LF)) ++ [(F.mk k110 n110 (fers ks110))] : List F) = (fers (([] : List LF) ++ [LF.mk k110 n110 q110 f110 ks110])) from fers_app ([] : List LF) [LF.mk k110 n110 q110 f110 ks110]] at hM
    refine AAny.one (i := 5) (by kernel_rfl) (AOp.step rfl rfl rfl (ltb rfl) (appendFM_step (d := 35) hG rfl rfl rfl rfl rfl rfl rfl (fcellss_sz ([] : List LF)) rfl (fcellss_sz ([LF.mk k110 n110 q110 f110 ks110])) (flen ([] : List LF)) (flen ([LF.mk k110 n110 q110 f110 ks110])) (by simp [fers]) hc112 (by decide) (fcellss_app _ _)) (fun _ h => absurd h List.not_mem_nil) ?_)
    refine yTF hG 6 (by kernel_rfl) rfl ?_
    refine yW hG 7 (by kernel_rfl) rfl (by kernel_rfl) rfl ?_
    refine AAny.done (by kernel_rfl) ?_
    refine run_blk ?_
    refine run_region ?_
    refine yB rfl ?_
    refine yL rfl ?_
    refine run_ops_nil ?_
    exact run_loop_end ⟨n, _, Nat.le_refl _, ⟨(IntKind.i64.wrap (0 + 1)), (([] : List LF) ++ [LF.mk k110 n110 q110 f110 ks110]), tk107, (show tk ≤ tk107 by omega), (show Fr tk tk107 _ from (Fr.fcons ((show Fr tk tk107 _ from hf111 rfl)) (show Fr tk107 tk107 _ from Fr.nil _ _) (by omega) (by omega)).mono (by omega) (by omega)), hM, rfl⟩, Sub.trans (Sub.drop (k := 34) rfl) (Sub.trans (Sub.drop (k := 9) rfl) (Sub.pk [1, 2, 3, 6, 7, 24, 25, 26] rfl))⟩
   refine AOp.step rfl rfl rfl (ltb rfl) (buildSlice_step (d := 34) hG rfl rfl rfl rfl rfl (by rfl) (by rfl) (by rfl) (by decide)) (fun _ h => absurd h List.not_mem_nil) ?_
   refine AAny.one (i := 1) (by kernel_rfl) (AOp.rd rfl rfl rfl (ltb rfl) (aload_rd hG rfl rfl rfl (by first | (simp [ldok]; done) | exact List.not_mem_nil | trivial)) ?_)
   obtain ⟨hc113, hM⟩ := chk_t hM
   try rw [show ((fers ([] : List LF)) ++ [(F.mk k110 n110 (fers ks110))] : List F) = (fers (([] : List LF) ++ [LF.mk k110 n110 q110 f110 ks110])) from fers_app ([] : List LF) [LF.mk k110 n110 q110 f110 ks110]] at hM
   refine AAny.one (i := 5) (by kernel_rfl) (AOp.step rfl rfl rfl (ltb rfl) (appendFM_step (d := 35) hG rfl rfl rfl rfl rfl rfl rfl (fcellss_sz ([] : List LF)) rfl (fcellss_sz ([LF.mk k110 n110 q110 f110 ks110])) (flen ([] : List LF)) (flen ([LF.mk k110 n110 q110 f110 ks110])) (by simp [fers]) hc113 (by decide) (fcellss_app _ _)) (fun _ h => absurd h List.not_mem_nil) ?_)
   refine yTF hG 6 (by kernel_rfl) rfl ?_
   refine yW hG 7 (by kernel_rfl) rfl (by kernel_rfl) rfl ?_
   refine AAny.done (by kernel_rfl) ?_
   refine run_blk ?_
   refine run_region ?_
   refine yB rfl ?_
   refine yL rfl ?_
   refine run_ops_nil ?_
   exact run_loop_end ⟨n, _, Nat.le_refl _, ⟨(IntKind.i64.wrap (0 + 1)), (([] : List LF) ++ [LF.mk k110 n110 q110 f110 ks110]), tk107, (show tk ≤ tk107 by omega), (show Fr tk tk107 _ from (Fr.fcons ((show Fr tk tk107 _ from hf111 rfl)) (show Fr tk107 tk107 _ from Fr.nil _ _) (by omega) (by omega)).mono (by omega) (by omega)), hM, rfl⟩, Sub.trans (Sub.drop (k := 34) rfl) (Sub.trans (Sub.drop (k := 9) rfl) (Sub.pk [1, 2, 3, 6, 7, 24, 25, 26] rfl))⟩
  replace hM := ite_f hb91 hM
  refine run_exit_to rfl ?_
  refine run_seq ?_
  refine run_sr ?_
  refine yF hG rfl ?_
  refine yD hG rfl ?_
  refine yB rfl ?_
  refine run_ops_nil ?_
  obtain ⟨j114, hj167, hM⟩ := jn_t hM
  refine run_cutL [.code _] (fun σ' => ∃ (i115 : Int) (tkj114 : Nat), tk ≤ tkj114 ∧ j114 i115 = some r ∧ Sub ⟨Go.Proofs.Try.prog, S0, Go.Proofs.Try.f204.ntmps, [X0], fun _ => False, []⟩ σ' ⟨[(1, .int .i64 i115), (2, .fn (.func 206) [] [.optr (.bor 0) 0 0]), (3, .optr (.loc 3) 0 0), (6, .optr (.loc 6) 0 0), (7, .optr (.loc 7) 0 0)], [(7, ⟨40, 4, true, [[.int .i64 k1, .int .i64 0, .imm 0 3 true [], .imm 0 4 true []]]⟩), (6, ⟨40, 4, true, [[.int .i64 0, .int .i64 0, .imm 0 3 true [], .imm 0 4 true []]]⟩), (3, ⟨40, 4, true, [[.int .i64 k1, .int .i64 n1, .imm p1 3 e1 (fcellss fs1), .imm q1 4 f1 (pcellss ks1)]]⟩)], [⟨3, 1, true, [[.int .i64 i3]]⟩], O, tkj114⟩) rfl ?_ ?_
  ·refine run_ifd rfl rfl (fun hb116 => ?_) (fun hb116 => ?_)
   ·replace hM := ite_t hb116 hM
    refine run_region ?_
    refine yL rfl ?_
    refine yB rfl ?_
    refine yR rfl ?_
    refine run_ops_nil ?_
    exact ⟨(IntKind.i64.wrap (i2 + 1)), tk, (show tk ≤ tk by omega), hM, Sub.pk [1, 2, 3, 6, 7] rfl⟩
   replace hM := ite_f hb116 hM
   refine run_skip ?_
   exact ⟨i2, tk, (show tk ≤ tk by omega), hM, Sub.pk [1, 2, 3, 6, 7] rfl⟩
  clear hM
  rintro σ' ⟨i115, tkj114, hle166, hM, hsub⟩
  rw [hj167] at hM
  clear hj167
  refine run_sub_code hsub ?_
  refine run_seq ?_
  refine run_sr ?_
  refine yF hG rfl ?_
  refine yD hG rfl ?_
  refine run_pu rfl (lenImm_step hG rfl rfl rfl rfl (plen _)) rfl (ltb rfl) ?_
  refine yL rfl ?_
  refine run_ops_nil ?_
  refine run_block ?_
  refine run_peel (fun m σ => ∃ (i117 : Int) (ks118 : List LP) (tki_Expr_moved__fn_i_Expr_lifted_c1v_L3 : Nat), tkj114 ≤ tki_Expr_moved__fn_i_Expr_lifted_c1v_L3 ∧ Fr tkj114 tki_Expr_moved__fn_i_Expr_lifted_c1v_L3 (ptoks ks118) ∧ i_Expr_moved__fn_i_Expr_lifted_c1v_L3 (i_Expr_moved__fn_i_Expr_lifted_c1v n) (Pf.mk k1 n1 (fers fs1) (pers ks1)) i3 i115 m i117 (pers ks118) = some r ∧ σ = ⟨[(1, .int .i64 i115), (2, .fn (.func 206) [] [.optr (.bor 0) 0 0]), (6, .optr (.loc 6) 0 0), (7, .optr (.loc 7) 0 0), (44, .imm q1 4 f1 (pcellss ks1)), (45, .int .i64 (((pers ks1)).length : Int)), (46, .int .i64 i117)], [(57, ⟨40, 4, false, pcellss ks118⟩), (7, ⟨40, 4, true, [[.int .i64 k1, .int .i64 0, .imm 0 3 true [], .osl (.loc 57)]]⟩), (6, ⟨40, 4, true, [[.int .i64 0, .int .i64 0, .imm 0 3 true [], .imm 0 4 true []]]⟩)], [⟨3, 1, true, [[.int .i64 i3]]⟩], O, tki_Expr_moved__fn_i_Expr_lifted_c1v_L3⟩) n ?_ (fun m σ hI => ?_)
  ·refine run_sr ?_
   refine yB rfl ?_
   refine run_ops_nil ?_
   refine run_seq ?_
   refine run_ifd rfl rfl (fun hb142 => ?_) (fun hb142 => ?_)
   ·replace hM := ite_t hb142 hM
    refine run_skip ?_
    refine run_seq ?_
    refine run_block ?_
    refine run_sr ?_
    obtain ⟨y143, hy144, hM⟩ := bind_t hM
    obtain ⟨k145, n145, p145, e145, fs145, q145, f145, ks145, rfl, hc146, hi147⟩ := pidx (ks := ks1) hy144
    refine run_pu rfl (indexImm_step hG rfl rfl rfl hi147 rfl rfl rfl rfl hc146) rfl (ltb rfl) ?_
    refine yD hG rfl ?_
    refine run_op rfl (alloc_step (d := 11) hG rfl rfl rfl) rfl (ltb rfl) ?_
    refine yS hG rfl ?_
    refine run_ops_nil ?_
    refine run_draw [.loc 7, .bor 0] (n := 10) mixed rfl (by intro x hx; simp only [List.mem_cons, List.not_mem_nil, or_false] at hx; rcases hx with rfl | rfl <;> rfl) ?_
    refine yTF hG 0 (by kernel_rfl) rfl ?_
    refine yTL hG 2 (by kernel_rfl) rfl ?_
    refine yTV 3 (by kernel_rfl) rfl ?_
    refine yTV 4 (by kernel_rfl) rfl ?_
    refine AAny.each (rs := [1, 5]) (by kernel_rfl) (fun h => by cases h) (fun i hi => ?_)
    simp only [List.mem_cons, List.not_mem_nil, or_false] at hi
    rcases hi with rfl | rfl
    ·refine AOp.rd rfl rfl rfl (ltb rfl) (aload_rd hG rfl rfl rfl (by first | (simp [ldok]; done) | exact List.not_mem_nil | trivial)) ?_
     obtain ⟨r148, hg149, hM⟩ := bind_t hM
     refine AAny.one (i := 5) (by kernel_rfl) (AOp.call rfl rfl rfl rfl (ltb rfl) rfl rfl rfl (fun _ h => absurd h List.not_mem_nil) (by intro x hx; have hx : x ∈ [ID.bor 0] := hx; simp only [List.mem_cons, List.not_mem_nil, or_false] at hx; subst hx; simp) (ih_i_Expr_moved__fn_i_Expr_lifted_c1v k145 n145 p145 e145 fs145 q145 f145 ks145 i115 (.bor 0) i3 hg149 _ _ rfl) (callK_retX (fun v tk150 (hle151 : tkj114 ≤ tk150) h152 => ?_)))
     obtain ⟨k153, n153, p153, e153, fs153, q153, f153, ks153, rfl, rfl, hf154⟩ := h152
     refine AAny.one (i := 6) (by kernel_rfl) (AOp.step rfl rfl rfl (ltb rfl) (buildSlice_step (d := 56) hG rfl rfl rfl rfl rfl (by rfl) (by rfl) (by rfl) (by decide)) (fun _ h => absurd h List.not_mem_nil) ?_)
     obtain ⟨hc155, hM⟩ := chk_t hM
     try rw [show ((pers ([] : List LP)) ++ [(Pf.mk k153 n153 (fers fs153) (pers ks153))] : List Pf) = (pers (([] : List LP) ++ [LP.mk k153 n153 p153 e153 fs153 q153 f153 ks153])) from pers_app ([] : List LP) [LP.mk k153 n153 p153 e153 fs153 q153 f153 ks153]] at hM
     refine AAny.one (i := 7) (by kernel_rfl) (AOp.step rfl rfl rfl (ltb rfl) (appendFM_step (d := 57) hG rfl rfl rfl rfl rfl rfl rfl (pcellss_sz ([] : List LP)) rfl (pcellss_sz ([LP.mk k153 n153 p153 e153 fs153 q153 f153 ks153])) (plen ([] : List LP)) (plen ([LP.mk k153 n153 p153 e153 fs153 q153 f153 ks153])) (by simp [pers]) hc155 (by decide) (pcellss_app _ _)) (fun _ h => absurd h List.not_mem_nil) ?_)
     refine yTF hG 8 (by kernel_rfl) rfl ?_
     refine yW hG 9 (by kernel_rfl) rfl (by kernel_rfl) rfl ?_
     refine AAny.done (by kernel_rfl) ?_
     refine run_blk ?_
     refine run_sub_code (σ' := ⟨[(1, .int .i64 i115), (2, .fn (.func 206) [] [.optr (.bor 0) 0 0]), (6, .optr (.loc 6) 0 0), (7, .optr (.loc 7) 0 0), (44, .imm q1 4 f1 (pcellss ks1)), (45, .int .i64 (((pers ks1)).length : Int)), (46, .int .i64 0)], [(57, ⟨40, 4, false, pcellss (([] : List LP) ++ [LP.mk k153 n153 p153 e153 fs153 q153 f153 ks153])⟩), (7, ⟨40, 4, true, [[.int .i64 k1, .int .i64 0, .imm 0 3 true [], .osl (.loc 57)]]⟩), (6, ⟨40, 4, true, [[.int .i64 0, .int .i64 0, .imm 0 3 true [], .imm 0 4 true []]]⟩)], [⟨3, 1, true, [[.int .i64 i3]]⟩], O, tk150⟩) (Sub.trans (Sub.drop (k := 56) rfl) (Sub.trans (Sub.drop (k := 11) rfl) (Sub.trans (Sub.drop (k := 3) rfl) (Sub.env _ ⟨rfl, rfl, rfl, rfl, rfl, rfl, rfl, trivial⟩)))) ?_
     refine run_region ?_
     refine yB rfl ?_
     refine yL rfl ?_
     refine run_ops_nil ?_
     exact run_loop_end ⟨n, _, Nat.le_refl _, ⟨(IntKind.i64.wrap (0 + 1)), (([] : List LP) ++ [LP.mk k153 n153 p153 e153 fs153 q153 f153 ks153]), tk150, (show tkj114 ≤ tk150 by omega), (show Fr tkj114 tk150 _ from (Fr.pcons ((show Fr tkj114 tk150 _ from hf154 rfl)) (show Fr tk150 tk150 _ from Fr.nil _ _) (by omega) (by omega)).mono (by omega) (by omega)), hM, rfl⟩, Sub.pk [1, 2, 6, 7, 44, 45, 46] rfl⟩
    obtain ⟨r156, hg157, hM⟩ := bind_t hM
    refine AOp.call rfl rfl rfl rfl (ltb rfl) rfl rfl rfl (fun _ h => absurd h List.not_mem_nil) (by intro x hx; have hx : x ∈ [ID.bor 0] := hx; simp only [List.mem_cons, List.not_mem_nil, or_false] at hx; subst hx; simp) (ih_i_Expr_moved__fn_i_Expr_lifted_c1v k145 n145 p145 e145 fs145 q145 f145 ks145 i115 (.bor 0) i3 hg157 _ _ rfl) (callK_retX (fun v tk158 (hle159 : tkj114 ≤ tk158) h160 => ?_))
    obtain ⟨k161, n161, p161, e161, fs161, q161, f161, ks161, rfl, rfl, hf162⟩ := h160
    refine AAny.each (rs := [1, 6]) (by kernel_rfl) (fun h => by cases h) (fun i hi => ?_)
    simp only [List.mem_cons, List.not_mem_nil, or_false] at hi
    rcases hi with rfl | rfl
    ·refine AOp.rd rfl rfl rfl (ltb rfl) (aload_rd hG rfl rfl rfl (by first | (simp [ldok]; done) | exact List.not_mem_nil | trivial)) ?_
     refine AAny.one (i := 6) (by kernel_rfl) (AOp.step rfl rfl rfl (ltb rfl) (buildSlice_step (d := 56) hG rfl rfl rfl rfl rfl (by rfl) (by rfl) (by rfl) (by decide)) (fun _ h => absurd h List.not_mem_nil) ?_)
     obtain ⟨hc163, hM⟩ := chk_t hM
     try rw [show ((pers ([] : List LP)) ++ [(Pf.mk k161 n161 (fers fs161) (pers ks161))] : List Pf) = (pers (([] : List LP) ++ [LP.mk k161 n161 p161 e161 fs161 q161 f161 ks161])) from pers_app ([] : List LP) [LP.mk k161 n161 p161 e161 fs161 q161 f161 ks161]] at hM
     refine AAny.one (i := 7) (by kernel_rfl) (AOp.step rfl rfl rfl (ltb rfl) (appendFM_step (d := 57) hG rfl rfl rfl rfl rfl rfl rfl (pcellss_sz ([] : List LP)) rfl (pcellss_sz ([LP.mk k161 n161 p161 e161 fs161 q161 f161 ks161])) (plen ([] : List LP)) (plen ([LP.mk k161 n161 p161 e161 fs161 q161 f161 ks161])) (by simp [pers]) hc163 (by decide) (pcellss_app _ _)) (fun _ h => absurd h List.not_mem_nil) ?_)
     refine yTF hG 8 (by kernel_rfl) rfl ?_
     refine yW hG 9 (by kernel_rfl) rfl (by kernel_rfl) rfl ?_
     refine AAny.done (by kernel_rfl) ?_
     refine run_blk ?_
     refine run_sub_code (σ' := ⟨[(1, .int .i64 i115), (2, .fn (.func 206) [] [.optr (.bor 0) 0 0]), (6, .optr (.loc 6) 0 0), (7, .optr (.loc 7) 0 0), (44, .imm q1 4 f1 (pcellss ks1)), (45, .int .i64 (((pers ks1)).length : Int)), (46, .int .i64 0)], [(57, ⟨40, 4, false, pcellss (([] : List LP) ++ [LP.mk k161 n161 p161 e161 fs161 q161 f161 ks161])⟩), (7, ⟨40, 4, true, [[.int .i64 k1, .int .i64 0, .imm 0 3 true [], .osl (.loc 57)]]⟩), (6, ⟨40, 4, true, [[.int .i64 0, .int .i64 0, .imm 0 3 true [], .imm 0 4 true []]]⟩)], [⟨3, 1, true, [[.int .i64 i3]]⟩], O, tk158⟩) (Sub.trans (Sub.drop (k := 56) rfl) (Sub.trans (Sub.drop (k := 11) rfl) (Sub.trans (Sub.drop (k := 3) rfl) (Sub.env _ ⟨rfl, rfl, rfl, rfl, rfl, rfl, rfl, trivial⟩)))) ?_
     refine run_region ?_
     refine yB rfl ?_
     refine yL rfl ?_
     refine run_ops_nil ?_
     exact run_loop_end ⟨n, _, Nat.le_refl _, ⟨(IntKind.i64.wrap (0 + 1)), (([] : List LP) ++ [LP.mk k161 n161 p161 e161 fs161 q161 f161 ks161]), tk158, (show tkj114 ≤ tk158 by omega), (show Fr tkj114 tk158 _ from (Fr.pcons ((show Fr tkj114 tk158 _ from hf162 rfl)) (show Fr tk158 tk158 _ from Fr.nil _ _) (by omega) (by omega)).mono (by omega) (by omega)), hM, rfl⟩, Sub.pk [1, 2, 6, 7, 44, 45, 46] rfl⟩
    refine AOp.step rfl rfl rfl (ltb rfl) (buildSlice_step (d := 56) hG rfl rfl rfl rfl rfl (by rfl) (by rfl) (by rfl) (by decide)) (fun _ h => absurd h List.not_mem_nil) ?_
    refine AAny.one (i := 1) (by kernel_rfl) (AOp.rd rfl rfl rfl (ltb rfl) (aload_rd hG rfl rfl rfl (by first | (simp [ldok]; done) | exact List.not_mem_nil | trivial)) ?_)
    obtain ⟨hc164, hM⟩ := chk_t hM
    try rw [show ((pers ([] : List LP)) ++ [(Pf.mk k161 n161 (fers fs161) (pers ks161))] : List Pf) = (pers (([] : List LP) ++ [LP.mk k161 n161 p161 e161 fs161 q161 f161 ks161])) from pers_app ([] : List LP) [LP.mk k161 n161 p161 e161 fs161 q161 f161 ks161]] at hM
    refine AAny.one (i := 7) (by kernel_rfl) (AOp.step rfl rfl rfl (ltb rfl) (appendFM_step (d := 57) hG rfl rfl rfl rfl rfl rfl rfl (pcellss_sz ([] : List LP)) rfl (pcellss_sz ([LP.mk k161 n161 p161 e161 fs161 q161 f161 ks161])) (plen ([] : List LP)) (plen ([LP.mk k161 n161 p161 e161 fs161 q161 f161 ks161])) (by simp [pers]) hc164 (by decide) (pcellss_app _ _)) (fun _ h => absurd h List.not_mem_nil) ?_)
    refine yTF hG 8 (by kernel_rfl) rfl ?_
    refine yW hG 9 (by kernel_rfl) rfl (by kernel_rfl) rfl ?_
    refine AAny.done (by kernel_rfl) ?_
    refine run_blk ?_
    refine run_sub_code (σ' := ⟨[(1, .int .i64 i115), (2, .fn (.func 206) [] [.optr (.bor 0) 0 0]), (6, .optr (.loc 6) 0 0), (7, .optr (.loc 7) 0 0), (44, .imm q1 4 f1 (pcellss ks1)), (45, .int .i64 (((pers ks1)).length : Int)), (46, .int .i64 0)], [(57, ⟨40, 4, false, pcellss (([] : List LP) ++ [LP.mk k161 n161 p161 e161 fs161 q161 f161 ks161])⟩), (7, ⟨40, 4, true, [[.int .i64 k1, .int .i64 0, .imm 0 3 true [], .osl (.loc 57)]]⟩), (6, ⟨40, 4, true, [[.int .i64 0, .int .i64 0, .imm 0 3 true [], .imm 0 4 true []]]⟩)], [⟨3, 1, true, [[.int .i64 i3]]⟩], O, tk158⟩) (Sub.trans (Sub.drop (k := 56) rfl) (Sub.trans (Sub.drop (k := 11) rfl) (Sub.trans (Sub.drop (k := 3) rfl) (Sub.env _ ⟨rfl, rfl, rfl, rfl, rfl, rfl, rfl, trivial⟩)))) ?_
    refine run_region ?_
    refine yB rfl ?_
    refine yL rfl ?_
    refine run_ops_nil ?_
    exact run_loop_end ⟨n, _, Nat.le_refl _, ⟨(IntKind.i64.wrap (0 + 1)), (([] : List LP) ++ [LP.mk k161 n161 p161 e161 fs161 q161 f161 ks161]), tk158, (show tkj114 ≤ tk158 by omega), (show Fr tkj114 tk158 _ from (Fr.pcons ((show Fr tkj114 tk158 _ from hf162 rfl)) (show Fr tk158 tk158 _ from Fr.nil _ _) (by omega) (by omega)).mono (by omega) (by omega)), hM, rfl⟩, Sub.pk [1, 2, 6, 7, 44, 45, 46] rfl⟩
   replace hM := ite_f hb142 hM
   refine run_exit_to rfl ?_
   refine run_sr ?_
   refine yD hG rfl ?_
   refine yS hG rfl ?_
   refine run_ops_nil ?_
   refine run_ret_to ?_
   replace hM := some_t hM
   subst hM
   refine fin_x hG rfl rfl rfl (v' := .agg [.int .i64 k1, .int .i64 0, .imm 0 3 true (fcellss []), .imm 0 4 true (pcellss [])]) (by rfl) ⟨out_same (Bor.one hX0 rfl), (show tk ≤ tkj114 by omega), _, rfl, ⟨k1, 0, 0, true, [], 0, true, [], rfl, rfl, fun _ => Fr.nil _ _⟩⟩
  clear hM
  obtain ⟨i117, ks118, tki_Expr_moved__fn_i_Expr_lifted_c1v_L3, hle165, hfr118, hM, rfl⟩ := hI
  obtain _ | m := m
  ·exact absurd hM (by rw [i_Expr_moved__fn_i_Expr_lifted_c1v_L3]; exact fun h => by cases h)
  rw [i_Expr_moved__fn_i_Expr_lifted_c1v_L3] at hM
  refine run_sr ?_
  refine yB rfl ?_
  refine run_ops_nil ?_
  refine run_seq ?_
  refine run_ifd rfl rfl (fun hb119 => ?_) (fun hb119 => ?_)
  ·replace hM := ite_t hb119 hM
   refine run_skip ?_
   refine run_seq ?_
   refine run_block ?_
   refine run_sr ?_
   obtain ⟨y120, hy121, hM⟩ := bind_t hM
   obtain ⟨k122, n122, p122, e122, fs122, q122, f122, ks122, rfl, hc123, hi124⟩ := pidx (ks := ks1) hy121
   refine run_pu rfl (indexImm_step hG rfl rfl rfl hi124 rfl rfl rfl rfl hc123) rfl (ltb rfl) ?_
   refine yD hG rfl ?_
   refine run_op rfl (alloc_step (d := 11) hG rfl rfl rfl) rfl (ltb rfl) ?_
   refine yS hG rfl ?_
   refine run_ops_nil ?_
   refine run_draw [.loc 7, .bor 0, .loc 57] (n := 10) mixed rfl (by intro x hx; simp only [List.mem_cons, List.not_mem_nil, or_false] at hx; rcases hx with rfl | rfl | rfl <;> rfl) ?_
   refine yTF hG 0 (by kernel_rfl) rfl ?_
   refine yTL hG 2 (by kernel_rfl) rfl ?_
   refine yTV 3 (by kernel_rfl) rfl ?_
   refine yTV 4 (by kernel_rfl) rfl ?_
   refine AAny.each (rs := [1, 5]) (by kernel_rfl) (fun h => by cases h) (fun i hi => ?_)
   simp only [List.mem_cons, List.not_mem_nil, or_false] at hi
   rcases hi with rfl | rfl
   ·refine AOp.rd rfl rfl rfl (ltb rfl) (aload_rd hG rfl rfl rfl (by first | (simp [ldok]; done) | exact List.not_mem_nil | trivial)) ?_
    obtain ⟨r125, hg126, hM⟩ := bind_t hM
    refine AAny.one (i := 5) (by kernel_rfl) (AOp.call rfl rfl rfl rfl (ltb rfl) rfl rfl rfl (fun _ h => absurd h List.not_mem_nil) (by intro x hx; have hx : x ∈ [ID.bor 0] := hx; simp only [List.mem_cons, List.not_mem_nil, or_false] at hx; subst hx; simp) (ih_i_Expr_moved__fn_i_Expr_lifted_c1v k122 n122 p122 e122 fs122 q122 f122 ks122 i115 (.bor 0) i3 hg126 _ _ rfl) (callK_retX (fun v tk127 (hle128 : tki_Expr_moved__fn_i_Expr_lifted_c1v_L3 ≤ tk127) h129 => ?_)))
    obtain ⟨k130, n130, p130, e130, fs130, q130, f130, ks130, rfl, rfl, hf131⟩ := h129
    refine AAny.one (i := 6) (by kernel_rfl) (AOp.step rfl rfl rfl (ltb rfl) (buildSlice_step (d := 56) hG rfl rfl rfl rfl rfl (by rfl) (by rfl) (by rfl) (by decide)) (fun _ h => absurd h List.not_mem_nil) ?_)
    obtain ⟨hc132, hM⟩ := chk_t hM
    try rw [show ((pers ks118) ++ [(Pf.mk k130 n130 (fers fs130) (pers ks130))] : List Pf) = (pers (ks118 ++ [LP.mk k130 n130 p130 e130 fs130 q130 f130 ks130])) from pers_app ks118 [LP.mk k130 n130 p130 e130 fs130 q130 f130 ks130]] at hM
    refine AAny.one (i := 7) (by kernel_rfl) (AOp.step rfl rfl rfl (ltb rfl) (appendM_step hG rfl rfl rfl rfl rfl rfl rfl rfl rfl rfl rfl (pcellss_sz ([LP.mk k130 n130 p130 e130 fs130 q130 f130 ks130])) (plen ks118) (plen ([LP.mk k130 n130 p130 e130 fs130 q130 f130 ks130])) hc132 (by decide) (pcellss_app _ _)) (by intro x hx; simp only [List.mem_cons, List.not_mem_nil, or_false] at hx; subst hx; simp) ?_)
    refine yTF hG 8 (by kernel_rfl) rfl ?_
    refine yW hG 9 (by kernel_rfl) rfl (by kernel_rfl) rfl ?_
    refine AAny.done (by kernel_rfl) ?_
    refine run_blk ?_
    refine run_sub_code (σ' := ⟨[(1, .int .i64 i115), (2, .fn (.func 206) [] [.optr (.bor 0) 0 0]), (6, .optr (.loc 6) 0 0), (7, .optr (.loc 7) 0 0), (44, .imm q1 4 f1 (pcellss ks1)), (45, .int .i64 (((pers ks1)).length : Int)), (46, .int .i64 i117)], [(57, ⟨40, 4, false, pcellss (ks118 ++ [LP.mk k130 n130 p130 e130 fs130 q130 f130 ks130])⟩), (7, ⟨40, 4, true, [[.int .i64 k1, .int .i64 0, .imm 0 3 true [], .osl (.loc 57)]]⟩), (6, ⟨40, 4, true, [[.int .i64 0, .int .i64 0, .imm 0 3 true [], .imm 0 4 true []]]⟩)], [⟨3, 1, true, [[.int .i64 i3]]⟩], O, tk127⟩) (Sub.trans (Sub.drop (k := 56) rfl) (Sub.trans (Sub.drop (k := 11) rfl) (Sub.env _ ⟨rfl, rfl, rfl, rfl, rfl, rfl, rfl, trivial⟩))) ?_
    refine run_region ?_
    refine yB rfl ?_
    refine yL rfl ?_
    refine run_ops_nil ?_
    exact run_loop_end ⟨m, _, Nat.lt_succ_self _, ⟨(IntKind.i64.wrap (i117 + 1)), (ks118 ++ [LP.mk k130 n130 p130 e130 fs130 q130 f130 ks130]), tk127, (show tkj114 ≤ tk127 by omega), (show Fr tkj114 tk127 _ from (Fr.psnoc (show Fr tkj114 tki_Expr_moved__fn_i_Expr_lifted_c1v_L3 _ from (hfr118).mono (by omega) (by omega)) ((show Fr tki_Expr_moved__fn_i_Expr_lifted_c1v_L3 tk127 _ from hf131 rfl)) (by omega) (by omega)).mono (by omega) (by omega)), hM, rfl⟩, Sub.pk [1, 2, 6, 7, 44, 45, 46] rfl⟩
   obtain ⟨r133, hg134, hM⟩ := bind_t hM
   refine AOp.call rfl rfl rfl rfl (ltb rfl) rfl rfl rfl (fun _ h => absurd h List.not_mem_nil) (by intro x hx; have hx : x ∈ [ID.bor 0] := hx; simp only [List.mem_cons, List.not_mem_nil, or_false] at hx; subst hx; simp) (ih_i_Expr_moved__fn_i_Expr_lifted_c1v k122 n122 p122 e122 fs122 q122 f122 ks122 i115 (.bor 0) i3 hg134 _ _ rfl) (callK_retX (fun v tk135 (hle136 : tki_Expr_moved__fn_i_Expr_lifted_c1v_L3 ≤ tk135) h137 => ?_))
   obtain ⟨k138, n138, p138, e138, fs138, q138, f138, ks138, rfl, rfl, hf139⟩ := h137
   refine AAny.each (rs := [1, 6]) (by kernel_rfl) (fun h => by cases h) (fun i hi => ?_)
   simp only [List.mem_cons, List.not_mem_nil, or_false] at hi
   rcases hi with rfl | rfl
   ·refine AOp.rd rfl rfl rfl (ltb rfl) (aload_rd hG rfl rfl rfl (by first | (simp [ldok]; done) | exact List.not_mem_nil | trivial)) ?_
    refine AAny.one (i := 6) (by kernel_rfl) (AOp.step rfl rfl rfl (ltb rfl) (buildSlice_step (d := 56) hG rfl rfl rfl rfl rfl (by rfl) (by rfl) (by rfl) (by decide)) (fun _ h => absurd h List.not_mem_nil) ?_)
    obtain ⟨hc140, hM⟩ := chk_t hM
    try rw [show ((pers ks118) ++ [(Pf.mk k138 n138 (fers fs138) (pers ks138))] : List Pf) = (pers (ks118 ++ [LP.mk k138 n138 p138 e138 fs138 q138 f138 ks138])) from pers_app ks118 [LP.mk k138 n138 p138 e138 fs138 q138 f138 ks138]] at hM
    refine AAny.one (i := 7) (by kernel_rfl) (AOp.step rfl rfl rfl (ltb rfl) (appendM_step hG rfl rfl rfl rfl rfl rfl rfl rfl rfl rfl rfl (pcellss_sz ([LP.mk k138 n138 p138 e138 fs138 q138 f138 ks138])) (plen ks118) (plen ([LP.mk k138 n138 p138 e138 fs138 q138 f138 ks138])) hc140 (by decide) (pcellss_app _ _)) (by intro x hx; simp only [List.mem_cons, List.not_mem_nil, or_false] at hx; subst hx; simp) ?_)
    refine yTF hG 8 (by kernel_rfl) rfl ?_
    refine yW hG 9 (by kernel_rfl) rfl (by kernel_rfl) rfl ?_
    refine AAny.done (by kernel_rfl) ?_
    refine run_blk ?_
    refine run_sub_code (σ' := ⟨[(1, .int .i64 i115), (2, .fn (.func 206) [] [.optr (.bor 0) 0 0]), (6, .optr (.loc 6) 0 0), (7, .optr (.loc 7) 0 0), (44, .imm q1 4 f1 (pcellss ks1)), (45, .int .i64 (((pers ks1)).length : Int)), (46, .int .i64 i117)], [(57, ⟨40, 4, false, pcellss (ks118 ++ [LP.mk k138 n138 p138 e138 fs138 q138 f138 ks138])⟩), (7, ⟨40, 4, true, [[.int .i64 k1, .int .i64 0, .imm 0 3 true [], .osl (.loc 57)]]⟩), (6, ⟨40, 4, true, [[.int .i64 0, .int .i64 0, .imm 0 3 true [], .imm 0 4 true []]]⟩)], [⟨3, 1, true, [[.int .i64 i3]]⟩], O, tk135⟩) (Sub.trans (Sub.drop (k := 56) rfl) (Sub.trans (Sub.drop (k := 11) rfl) (Sub.env _ ⟨rfl, rfl, rfl, rfl, rfl, rfl, rfl, trivial⟩))) ?_
    refine run_region ?_
    refine yB rfl ?_
    refine yL rfl ?_
    refine run_ops_nil ?_
    exact run_loop_end ⟨m, _, Nat.lt_succ_self _, ⟨(IntKind.i64.wrap (i117 + 1)), (ks118 ++ [LP.mk k138 n138 p138 e138 fs138 q138 f138 ks138]), tk135, (show tkj114 ≤ tk135 by omega), (show Fr tkj114 tk135 _ from (Fr.psnoc (show Fr tkj114 tki_Expr_moved__fn_i_Expr_lifted_c1v_L3 _ from (hfr118).mono (by omega) (by omega)) ((show Fr tki_Expr_moved__fn_i_Expr_lifted_c1v_L3 tk135 _ from hf139 rfl)) (by omega) (by omega)).mono (by omega) (by omega)), hM, rfl⟩, Sub.pk [1, 2, 6, 7, 44, 45, 46] rfl⟩
   refine AOp.step rfl rfl rfl (ltb rfl) (buildSlice_step (d := 56) hG rfl rfl rfl rfl rfl (by rfl) (by rfl) (by rfl) (by decide)) (fun _ h => absurd h List.not_mem_nil) ?_
   refine AAny.one (i := 1) (by kernel_rfl) (AOp.rd rfl rfl rfl (ltb rfl) (aload_rd hG rfl rfl rfl (by first | (simp [ldok]; done) | exact List.not_mem_nil | trivial)) ?_)
   obtain ⟨hc141, hM⟩ := chk_t hM
   try rw [show ((pers ks118) ++ [(Pf.mk k138 n138 (fers fs138) (pers ks138))] : List Pf) = (pers (ks118 ++ [LP.mk k138 n138 p138 e138 fs138 q138 f138 ks138])) from pers_app ks118 [LP.mk k138 n138 p138 e138 fs138 q138 f138 ks138]] at hM
   refine AAny.one (i := 7) (by kernel_rfl) (AOp.step rfl rfl rfl (ltb rfl) (appendM_step hG rfl rfl rfl rfl rfl rfl rfl rfl rfl rfl rfl (pcellss_sz ([LP.mk k138 n138 p138 e138 fs138 q138 f138 ks138])) (plen ks118) (plen ([LP.mk k138 n138 p138 e138 fs138 q138 f138 ks138])) hc141 (by decide) (pcellss_app _ _)) (by intro x hx; simp only [List.mem_cons, List.not_mem_nil, or_false] at hx; subst hx; simp) ?_)
   refine yTF hG 8 (by kernel_rfl) rfl ?_
   refine yW hG 9 (by kernel_rfl) rfl (by kernel_rfl) rfl ?_
   refine AAny.done (by kernel_rfl) ?_
   refine run_blk ?_
   refine run_sub_code (σ' := ⟨[(1, .int .i64 i115), (2, .fn (.func 206) [] [.optr (.bor 0) 0 0]), (6, .optr (.loc 6) 0 0), (7, .optr (.loc 7) 0 0), (44, .imm q1 4 f1 (pcellss ks1)), (45, .int .i64 (((pers ks1)).length : Int)), (46, .int .i64 i117)], [(57, ⟨40, 4, false, pcellss (ks118 ++ [LP.mk k138 n138 p138 e138 fs138 q138 f138 ks138])⟩), (7, ⟨40, 4, true, [[.int .i64 k1, .int .i64 0, .imm 0 3 true [], .osl (.loc 57)]]⟩), (6, ⟨40, 4, true, [[.int .i64 0, .int .i64 0, .imm 0 3 true [], .imm 0 4 true []]]⟩)], [⟨3, 1, true, [[.int .i64 i3]]⟩], O, tk135⟩) (Sub.trans (Sub.drop (k := 56) rfl) (Sub.trans (Sub.drop (k := 11) rfl) (Sub.env _ ⟨rfl, rfl, rfl, rfl, rfl, rfl, rfl, trivial⟩))) ?_
   refine run_region ?_
   refine yB rfl ?_
   refine yL rfl ?_
   refine run_ops_nil ?_
   exact run_loop_end ⟨m, _, Nat.lt_succ_self _, ⟨(IntKind.i64.wrap (i117 + 1)), (ks118 ++ [LP.mk k138 n138 p138 e138 fs138 q138 f138 ks138]), tk135, (show tkj114 ≤ tk135 by omega), (show Fr tkj114 tk135 _ from (Fr.psnoc (show Fr tkj114 tki_Expr_moved__fn_i_Expr_lifted_c1v_L3 _ from (hfr118).mono (by omega) (by omega)) ((show Fr tki_Expr_moved__fn_i_Expr_lifted_c1v_L3 tk135 _ from hf139 rfl)) (by omega) (by omega)).mono (by omega) (by omega)), hM, rfl⟩, Sub.pk [1, 2, 6, 7, 44, 45, 46] rfl⟩
  replace hM := ite_f hb119 hM
  refine run_exit_to rfl ?_
  refine run_sr ?_
  refine yD hG rfl ?_
  refine yS hG rfl ?_
  refine run_ops_nil ?_
  refine run_ret_to ?_
  refine fin_sub (Sub.freeze (k := 57) rfl rfl) ?_
  replace hM := some_t hM
  subst hM
  refine fin_x hG rfl rfl rfl (v' := .agg [.int .i64 k1, .int .i64 0, .imm 0 3 true (fcellss []), .imm tki_Expr_moved__fn_i_Expr_lifted_c1v_L3 4 false (pcellss ks118)]) (by rfl) ⟨out_same (Bor.one hX0 rfl), (show tk ≤ (tki_Expr_moved__fn_i_Expr_lifted_c1v_L3 + 1) by omega), _, rfl, ⟨k1, 0, 0, true, [], tki_Expr_moved__fn_i_Expr_lifted_c1v_L3, false, ks118, rfl, rfl, fun _ => (show Fr tk (tki_Expr_moved__fn_i_Expr_lifted_c1v_L3 + 1) _ from (Fr.app (show Fr tkj114 tkj114 _ from Fr.nil _ _) (show Fr tkj114 (tki_Expr_moved__fn_i_Expr_lifted_c1v_L3 + 1) _ from Fr.pstop (show Fr tkj114 tki_Expr_moved__fn_i_Expr_lifted_c1v_L3 _ from (hfr118).mono (by omega) (by omega)) (by omega) (by omega)) (by omega) (by omega)).mono (by omega) (by omega))⟩⟩
 clear hM
 obtain ⟨i12, ks13, tki_Expr_moved__fn_i_Expr_lifted_c1v_L1, hle168, hfr13, hM, rfl⟩ := hI
 obtain _ | m := m
 ·exact absurd hM (by rw [i_Expr_moved__fn_i_Expr_lifted_c1v_L1]; exact fun h => by cases h)
 rw [i_Expr_moved__fn_i_Expr_lifted_c1v_L1] at hM
 refine run_sr ?_
 refine yB rfl ?_
 refine run_ops_nil ?_
 refine run_seq ?_
 refine run_ifd rfl rfl (fun hb14 => ?_) (fun hb14 => ?_)
 ·replace hM := ite_t hb14 hM
  refine run_skip ?_
  refine run_seq ?_
  refine run_block ?_
  refine run_sr ?_
  obtain ⟨y15, hy16, hM⟩ := bind_t hM
  obtain ⟨k17, n17, q17, f17, ks17, rfl, hc18, hi19⟩ := fidx (ks := fs1) hy16
  refine run_pu rfl (indexImm_step hG rfl rfl rfl hi19 rfl rfl rfl rfl hc18) rfl (ltb rfl) ?_
  refine yD hG rfl ?_
  refine run_op rfl (alloc_step (d := 9) hG rfl rfl rfl) rfl (ltb rfl) ?_
  refine yS hG rfl ?_
  refine run_ops_nil ?_
  refine run_draw [.loc 7, .loc 35] (n := 8) mixed rfl (by intro x hx; simp only [List.mem_cons, List.not_mem_nil, or_false] at hx; rcases hx with rfl | rfl <;> rfl) ?_
  refine yTF hG 0 (by kernel_rfl) rfl ?_
  refine yTL hG 2 (by kernel_rfl) rfl ?_
  refine AAny.each (rs := [1, 3]) (by kernel_rfl) (fun h => by cases h) (fun i hi => ?_)
  simp only [List.mem_cons, List.not_mem_nil, or_false] at hi
  rcases hi with rfl | rfl
  ·refine AOp.rd rfl rfl rfl (ltb rfl) (aload_rd hG rfl rfl rfl (by first | (simp [ldok]; done) | exact List.not_mem_nil | trivial)) ?_
   obtain ⟨r20, hg21, hM⟩ := bind_t hM
   refine yC 3 (by kernel_rfl) rfl rfl (i_cloneType_ok n k17 n17 q17 f17 ks17 hg21 _ _) (callK_retX (fun v tk22 (hle23 : tki_Expr_moved__fn_i_Expr_lifted_c1v_L1 ≤ tk22) h24 => ?_))
   obtain ⟨k25, n25, q25, f25, ks25, rfl, rfl, hf26⟩ := h24
   refine AAny.one (i := 4) (by kernel_rfl) (AOp.step rfl rfl rfl (ltb rfl) (buildSlice_step (d := 34) hG rfl rfl rfl rfl rfl (by rfl) (by rfl) (by rfl) (by decide)) (fun _ h => absurd h List.not_mem_nil) ?_)
   obtain ⟨hc27, hM⟩ := chk_t hM
   try rw [show ((fers ks13) ++ [(F.mk k25 n25 (fers ks25))] : List F) = (fers (ks13 ++ [LF.mk k25 n25 q25 f25 ks25])) from fers_app ks13 [LF.mk k25 n25 q25 f25 ks25]] at hM
   refine AAny.one (i := 5) (by kernel_rfl) (AOp.step rfl rfl rfl (ltb rfl) (appendM_step hG rfl rfl rfl rfl rfl rfl rfl rfl rfl rfl rfl (fcellss_sz ([LF.mk k25 n25 q25 f25 ks25])) (flen ks13) (flen ([LF.mk k25 n25 q25 f25 ks25])) hc27 (by decide) (fcellss_app _ _)) (by intro x hx; simp only [List.mem_cons, List.not_mem_nil, or_false] at hx; subst hx; simp) ?_)
   refine yTF hG 6 (by kernel_rfl) rfl ?_
   refine yW hG 7 (by kernel_rfl) rfl (by kernel_rfl) rfl ?_
   refine AAny.done (by kernel_rfl) ?_
   refine run_blk ?_
   refine run_region ?_
   refine yB rfl ?_
   refine yL rfl ?_
   refine run_ops_nil ?_
   exact run_loop_end ⟨m, _, Nat.lt_succ_self _, ⟨(IntKind.i64.wrap (i12 + 1)), (ks13 ++ [LF.mk k25 n25 q25 f25 ks25]), tk22, (show tk ≤ tk22 by omega), (show Fr tk tk22 _ from (Fr.fsnoc (show Fr tk tki_Expr_moved__fn_i_Expr_lifted_c1v_L1 _ from (hfr13).mono (by omega) (by omega)) ((show Fr tki_Expr_moved__fn_i_Expr_lifted_c1v_L1 tk22 _ from hf26 rfl)) (by omega) (by omega)).mono (by omega) (by omega)), hM, rfl⟩, Sub.trans (Sub.drop (k := 34) rfl) (Sub.trans (Sub.drop (k := 9) rfl) (Sub.pk [1, 2, 3, 6, 7, 24, 25, 26] rfl))⟩
  obtain ⟨r28, hg29, hM⟩ := bind_t hM
  refine yI rfl rfl (i_cloneType_ok n k17 n17 q17 f17 ks17 hg29 _ _) (callK_retX (fun v tk30 (hle31 : tki_Expr_moved__fn_i_Expr_lifted_c1v_L1 ≤ tk30) h32 => ?_))
  obtain ⟨k33, n33, q33, f33, ks33, rfl, rfl, hf34⟩ := h32
  refine AAny.each (rs := [1, 4]) (by kernel_rfl) (fun h => by cases h) (fun i hi => ?_)
  simp only [List.mem_cons, List.not_mem_nil, or_false] at hi
  rcases hi with rfl | rfl
  ·refine AOp.rd rfl rfl rfl (ltb rfl) (aload_rd hG rfl rfl rfl (by first | (simp [ldok]; done) | exact List.not_mem_nil | trivial)) ?_
   refine AAny.one (i := 4) (by kernel_rfl) (AOp.step rfl rfl rfl (ltb rfl) (buildSlice_step (d := 34) hG rfl rfl rfl rfl rfl (by rfl) (by rfl) (by rfl) (by decide)) (fun _ h => absurd h List.not_mem_nil) ?_)
   obtain ⟨hc35, hM⟩ := chk_t hM
   try rw [show ((fers ks13) ++ [(F.mk k33 n33 (fers ks33))] : List F) = (fers (ks13 ++ [LF.mk k33 n33 q33 f33 ks33])) from fers_app ks13 [LF.mk k33 n33 q33 f33 ks33]] at hM
   refine AAny.one (i := 5) (by kernel_rfl) (AOp.step rfl rfl rfl (ltb rfl) (appendM_step hG rfl rfl rfl rfl rfl rfl rfl rfl rfl rfl rfl (fcellss_sz ([LF.mk k33 n33 q33 f33 ks33])) (flen ks13) (flen ([LF.mk k33 n33 q33 f33 ks33])) hc35 (by decide) (fcellss_app _ _)) (by intro x hx; simp only [List.mem_cons, List.not_mem_nil, or_false] at hx; subst hx; simp) ?_)
   refine yTF hG 6 (by kernel_rfl) rfl ?_
   refine yW hG 7 (by kernel_rfl) rfl (by kernel_rfl) rfl ?_
   refine AAny.done (by kernel_rfl) ?_
   refine run_blk ?_
   refine run_region ?_
   refine yB rfl ?_
   refine yL rfl ?_
   refine run_ops_nil ?_
   exact run_loop_end ⟨m, _, Nat.lt_succ_self _, ⟨(IntKind.i64.wrap (i12 + 1)), (ks13 ++ [LF.mk k33 n33 q33 f33 ks33]), tk30, (show tk ≤ tk30 by omega), (show Fr tk tk30 _ from (Fr.fsnoc (show Fr tk tki_Expr_moved__fn_i_Expr_lifted_c1v_L1 _ from (hfr13).mono (by omega) (by omega)) ((show Fr tki_Expr_moved__fn_i_Expr_lifted_c1v_L1 tk30 _ from hf34 rfl)) (by omega) (by omega)).mono (by omega) (by omega)), hM, rfl⟩, Sub.trans (Sub.drop (k := 34) rfl) (Sub.trans (Sub.drop (k := 9) rfl) (Sub.pk [1, 2, 3, 6, 7, 24, 25, 26] rfl))⟩
  refine AOp.step rfl rfl rfl (ltb rfl) (buildSlice_step (d := 34) hG rfl rfl rfl rfl rfl (by rfl) (by rfl) (by rfl) (by decide)) (fun _ h => absurd h List.not_mem_nil) ?_
  refine AAny.one (i := 1) (by kernel_rfl) (AOp.rd rfl rfl rfl (ltb rfl) (aload_rd hG rfl rfl rfl (by first | (simp [ldok]; done) | exact List.not_mem_nil | trivial)) ?_)
  obtain ⟨hc36, hM⟩ := chk_t hM
  try rw [show ((fers ks13) ++ [(F.mk k33 n33 (fers ks33))] : List F) = (fers (ks13 ++ [LF.mk k33 n33 q33 f33 ks33])) from fers_app ks13 [LF.mk k33 n33 q33 f33 ks33]] at hM
  refine AAny.one (i := 5) (by kernel_rfl) (AOp.step rfl rfl rfl (ltb rfl) (appendM_step hG rfl rfl rfl rfl rfl rfl rfl rfl rfl rfl rfl (fcellss_sz ([LF.mk k33 n33 q33 f33 ks33])) (flen ks13) (flen ([LF.mk k33 n33 q33 f33 ks33])) hc36 (by decide) (fcellss_app _ _)) (by intro x hx; simp only [List.mem_cons, List.not_mem_nil, or_false] at hx; subst hx; simp) ?_)
  refine yTF hG 6 (by kernel_rfl) rfl ?_
  refine yW hG 7 (by kernel_rfl) rfl (by kernel_rfl) rfl ?_
  refine AAny.done (by kernel_rfl) ?_
  refine run_blk ?_
  refine run_region ?_
  refine yB rfl ?_
  refine yL rfl ?_
  refine run_ops_nil ?_
  exact run_loop_end ⟨m, _, Nat.lt_succ_self _, ⟨(IntKind.i64.wrap (i12 + 1)), (ks13 ++ [LF.mk k33 n33 q33 f33 ks33]), tk30, (show tk ≤ tk30 by omega), (show Fr tk tk30 _ from (Fr.fsnoc (show Fr tk tki_Expr_moved__fn_i_Expr_lifted_c1v_L1 _ from (hfr13).mono (by omega) (by omega)) ((show Fr tki_Expr_moved__fn_i_Expr_lifted_c1v_L1 tk30 _ from hf34 rfl)) (by omega) (by omega)).mono (by omega) (by omega)), hM, rfl⟩, Sub.trans (Sub.drop (k := 34) rfl) (Sub.trans (Sub.drop (k := 9) rfl) (Sub.pk [1, 2, 3, 6, 7, 24, 25, 26] rfl))⟩
 replace hM := ite_f hb14 hM
 refine run_exit_to rfl ?_
 refine run_seq ?_
 refine run_sr ?_
 refine yF hG rfl ?_
 refine yD hG rfl ?_
 refine yB rfl ?_
 refine run_ops_nil ?_
 obtain ⟨j37, hj90, hM⟩ := jn_t hM
 refine run_cutL [.code _] (fun σ' => ∃ (i38 : Int) (tkj37 : Nat), tki_Expr_moved__fn_i_Expr_lifted_c1v_L1 ≤ tkj37 ∧ j37 i38 = some r ∧ Sub ⟨Go.Proofs.Try.prog, S0, Go.Proofs.Try.f204.ntmps, [X0], fun _ => False, []⟩ σ' ⟨[(1, .int .i64 i38), (2, .fn (.func 206) [] [.optr (.bor 0) 0 0]), (3, .optr (.loc 3) 0 0), (6, .optr (.loc 6) 0 0), (7, .optr (.loc 7) 0 0)], [(35, ⟨42, 3, false, fcellss ks13⟩), (7, ⟨40, 4, true, [[.int .i64 k1, .int .i64 0, .osl (.loc 35), .imm 0 4 true []]]⟩), (6, ⟨40, 4, true, [[.int .i64 0, .int .i64 0, .imm 0 3 true [], .imm 0 4 true []]]⟩), (3, ⟨40, 4, true, [[.int .i64 k1, .int .i64 n1, .imm p1 3 e1 (fcellss fs1), .imm q1 4 f1 (pcellss ks1)]]⟩)], [⟨3, 1, true, [[.int .i64 i3]]⟩], O, tkj37⟩) rfl ?_ ?_
 ·refine run_ifd rfl rfl (fun hb39 => ?_) (fun hb39 => ?_)
  ·replace hM := ite_t hb39 hM
   refine run_region ?_
   refine yL rfl ?_
   refine yB rfl ?_
   refine yR rfl ?_
   refine run_ops_nil ?_
   exact ⟨(IntKind.i64.wrap (i2 + 1)), tki_Expr_moved__fn_i_Expr_lifted_c1v_L1, (show tki_Expr_moved__fn_i_Expr_lifted_c1v_L1 ≤ tki_Expr_moved__fn_i_Expr_lifted_c1v_L1 by omega), hM, Sub.pk [1, 2, 3, 6, 7] rfl⟩
  replace hM := ite_f hb39 hM
  refine run_skip ?_
  exact ⟨i2, tki_Expr_moved__fn_i_Expr_lifted_c1v_L1, (show tki_Expr_moved__fn_i_Expr_lifted_c1v_L1 ≤ tki_Expr_moved__fn_i_Expr_lifted_c1v_L1 by omega), hM, Sub.pk [1, 2, 3, 6, 7] rfl⟩
 clear hM
 rintro σ' ⟨i38, tkj37, hle89, hM, hsub⟩
 rw [hj90] at hM
 clear hj90
 refine run_sub_code hsub ?_
 refine run_seq ?_
 refine run_sr ?_
 refine yF hG rfl ?_
 refine yD hG rfl ?_
 refine run_pu rfl (lenImm_step hG rfl rfl rfl rfl (plen _)) rfl (ltb rfl) ?_
 refine yL rfl ?_
 refine run_ops_nil ?_
 refine run_block ?_
 refine run_peel (fun m σ => ∃ (i40 : Int) (ks41 : List LP) (tki_Expr_moved__fn_i_Expr_lifted_c1v_L2 : Nat), tkj37 ≤ tki_Expr_moved__fn_i_Expr_lifted_c1v_L2 ∧ Fr tkj37 tki_Expr_moved__fn_i_Expr_lifted_c1v_L2 (ptoks ks41) ∧ i_Expr_moved__fn_i_Expr_lifted_c1v_L2 (i_Expr_moved__fn_i_Expr_lifted_c1v n) (Pf.mk k1 n1 (fers fs1) (pers ks1)) i3 (fers ks13) i38 m i40 (pers ks41) = some r ∧ σ = ⟨[(1, .int .i64 i38), (2, .fn (.func 206) [] [.optr (.bor 0) 0 0]), (6, .optr (.loc 6) 0 0), (7, .optr (.loc 7) 0 0), (44, .imm q1 4 f1 (pcellss ks1)), (45, .int .i64 (((pers ks1)).length : Int)), (46, .int .i64 i40)], [(57, ⟨40, 4, false, pcellss ks41⟩), (35, ⟨42, 3, false, fcellss ks13⟩), (7, ⟨40, 4, true, [[.int .i64 k1, .int .i64 0, .osl (.loc 35), .osl (.loc 57)]]⟩), (6, ⟨40, 4, true, [[.int .i64 0, .int .i64 0, .imm 0 3 true [], .imm 0 4 true []]]⟩)], [⟨3, 1, true, [[.int .i64 i3]]⟩], O, tki_Expr_moved__fn_i_Expr_lifted_c1v_L2⟩) n ?_ (fun m σ hI => ?_)
 ·refine run_sr ?_
  refine yB rfl ?_
  refine run_ops_nil ?_
  refine run_seq ?_
  refine run_ifd rfl rfl (fun hb65 => ?_) (fun hb65 => ?_)
  ·replace hM := ite_t hb65 hM
   refine run_skip ?_
   refine run_seq ?_
   refine run_block ?_
   refine run_sr ?_
   obtain ⟨y66, hy67, hM⟩ := bind_t hM
   obtain ⟨k68, n68, p68, e68, fs68, q68, f68, ks68, rfl, hc69, hi70⟩ := pidx (ks := ks1) hy67
   refine run_pu rfl (indexImm_step hG rfl rfl rfl hi70 rfl rfl rfl rfl hc69) rfl (ltb rfl) ?_
   refine yD hG rfl ?_
   refine run_op rfl (alloc_step (d := 11) hG rfl rfl rfl) rfl (ltb rfl) ?_
   refine yS hG rfl ?_
   refine run_ops_nil ?_
   refine run_draw [.loc 7, .bor 0] (n := 10) mixed rfl (by intro x hx; simp only [List.mem_cons, List.not_mem_nil, or_false] at hx; rcases hx with rfl | rfl <;> rfl) ?_
   refine yTF hG 0 (by kernel_rfl) rfl ?_
   refine yTL hG 2 (by kernel_rfl) rfl ?_
   refine yTV 3 (by kernel_rfl) rfl ?_
   refine yTV 4 (by kernel_rfl) rfl ?_
   refine AAny.each (rs := [1, 5]) (by kernel_rfl) (fun h => by cases h) (fun i hi => ?_)
   simp only [List.mem_cons, List.not_mem_nil, or_false] at hi
   rcases hi with rfl | rfl
   ·refine AOp.rd rfl rfl rfl (ltb rfl) (aload_rd hG rfl rfl rfl (by first | (simp [ldok]; done) | exact List.not_mem_nil | trivial)) ?_
    obtain ⟨r71, hg72, hM⟩ := bind_t hM
    refine AAny.one (i := 5) (by kernel_rfl) (AOp.call rfl rfl rfl rfl (ltb rfl) rfl rfl rfl (fun _ h => absurd h List.not_mem_nil) (by intro x hx; have hx : x ∈ [ID.bor 0] := hx; simp only [List.mem_cons, List.not_mem_nil, or_false] at hx; subst hx; simp) (ih_i_Expr_moved__fn_i_Expr_lifted_c1v k68 n68 p68 e68 fs68 q68 f68 ks68 i38 (.bor 0) i3 hg72 _ _ rfl) (callK_retX (fun v tk73 (hle74 : tkj37 ≤ tk73) h75 => ?_)))
    obtain ⟨k76, n76, p76, e76, fs76, q76, f76, ks76, rfl, rfl, hf77⟩ := h75
    refine AAny.one (i := 6) (by kernel_rfl) (AOp.step rfl rfl rfl (ltb rfl) (buildSlice_step (d := 56) hG rfl rfl rfl rfl rfl (by rfl) (by rfl) (by rfl) (by decide)) (fun _ h => absurd h List.not_mem_nil) ?_)
    obtain ⟨hc78, hM⟩ := chk_t hM
    try rw [show ((pers ([] : List LP)) ++ [(Pf.mk k76 n76 (fers fs76) (pers ks76))] : List Pf) = (pers (([] : List LP) ++ [LP.mk k76 n76 p76 e76 fs76 q76 f76 ks76])) from pers_app ([] : List LP) [LP.mk k76 n76 p76 e76 fs76 q76 f76 ks76]] at hM
    refine AAny.one (i := 7) (by kernel_rfl) (AOp.step rfl rfl rfl (ltb rfl) (appendFM_step (d := 57) hG rfl rfl rfl rfl rfl rfl rfl (pcellss_sz ([] : List LP)) rfl (pcellss_sz ([LP.mk k76 n76 p76 e76 fs76 q76 f76 ks76])) (plen ([] : List LP)) (plen ([LP.mk k76 n76 p76 e76 fs76 q76 f76 ks76])) (by simp [pers]) hc78 (by decide) (pcellss_app _ _)) (fun _ h => absurd h List.not_mem_nil) ?_)
    refine yTF hG 8 (by kernel_rfl) rfl ?_
    refine yW hG 9 (by kernel_rfl) rfl (by kernel_rfl) rfl ?_
    refine AAny.done (by kernel_rfl) ?_
    refine run_blk ?_
    refine run_sub_code (σ' := ⟨[(1, .int .i64 i38), (2, .fn (.func 206) [] [.optr (.bor 0) 0 0]), (6, .optr (.loc 6) 0 0), (7, .optr (.loc 7) 0 0), (44, .imm q1 4 f1 (pcellss ks1)), (45, .int .i64 (((pers ks1)).length : Int)), (46, .int .i64 0)], [(57, ⟨40, 4, false, pcellss (([] : List LP) ++ [LP.mk k76 n76 p76 e76 fs76 q76 f76 ks76])⟩), (35, ⟨42, 3, false, fcellss ks13⟩), (7, ⟨40, 4, true, [[.int .i64 k1, .int .i64 0, .osl (.loc 35), .osl (.loc 57)]]⟩), (6, ⟨40, 4, true, [[.int .i64 0, .int .i64 0, .imm 0 3 true [], .imm 0 4 true []]]⟩)], [⟨3, 1, true, [[.int .i64 i3]]⟩], O, tk73⟩) (Sub.trans (Sub.drop (k := 56) rfl) (Sub.trans (Sub.drop (k := 11) rfl) (Sub.trans (Sub.drop (k := 3) rfl) (Sub.env _ ⟨rfl, rfl, rfl, rfl, rfl, rfl, rfl, trivial⟩)))) ?_
    refine run_region ?_
    refine yB rfl ?_
    refine yL rfl ?_
    refine run_ops_nil ?_
    exact run_loop_end ⟨n, _, Nat.le_refl _, ⟨(IntKind.i64.wrap (0 + 1)), (([] : List LP) ++ [LP.mk k76 n76 p76 e76 fs76 q76 f76 ks76]), tk73, (show tkj37 ≤ tk73 by omega), (show Fr tkj37 tk73 _ from (Fr.pcons ((show Fr tkj37 tk73 _ from hf77 rfl)) (show Fr tk73 tk73 _ from Fr.nil _ _) (by omega) (by omega)).mono (by omega) (by omega)), hM, rfl⟩, Sub.pk [1, 2, 6, 7, 44, 45, 46] rfl⟩
   obtain ⟨r79, hg80, hM⟩ := bind_t hM
   refine AOp.call rfl rfl rfl rfl (ltb rfl) rfl rfl rfl (fun _ h => absurd h List.not_mem_nil) (by intro x hx; have hx : x ∈ [ID.bor 0] := hx; simp only [List.mem_cons, List.not_mem_nil, or_false] at hx; subst hx; simp) (ih_i_Expr_moved__fn_i_Expr_lifted_c1v k68 n68 p68 e68 fs68 q68 f68 ks68 i38 (.bor 0) i3 hg80 _ _ rfl) (callK_retX (fun v tk81 (hle82 : tkj37 ≤ tk81) h83 => ?_))
   obtain ⟨k84, n84, p84, e84, fs84, q84, f84, ks84, rfl, rfl, hf85⟩ := h83
   refine AAny.each (rs := [1, 6]) (by kernel_rfl) (fun h => by cases h) (fun i hi => ?_)
   simp only [List.mem_cons, List.not_mem_nil, or_false] at hi
   rcases hi with rfl | rfl
   ·refine AOp.rd rfl rfl rfl (ltb rfl) (aload_rd hG rfl rfl rfl (by first | (simp [ldok]; done) | exact List.not_mem_nil | trivial)) ?_
    refine AAny.one (i := 6) (by kernel_rfl) (AOp.step rfl rfl rfl (ltb rfl) (buildSlice_step (d := 56) hG rfl rfl rfl rfl rfl (by rfl) (by rfl) (by rfl) (by decide)) (fun _ h => absurd h List.not_mem_nil) ?_)
    obtain ⟨hc86, hM⟩ := chk_t hM
    try rw [show ((pers ([] : List LP)) ++ [(Pf.mk k84 n84 (fers fs84) (pers ks84))] : List Pf) = (pers (([] : List LP) ++ [LP.mk k84 n84 p84 e84 fs84 q84 f84 ks84])) from pers_app ([] : List LP) [LP.mk k84 n84 p84 e84 fs84 q84 f84 ks84]] at hM
    refine AAny.one (i := 7) (by kernel_rfl) (AOp.step rfl rfl rfl (ltb rfl) (appendFM_step (d := 57) hG rfl rfl rfl rfl rfl rfl rfl (pcellss_sz ([] : List LP)) rfl (pcellss_sz ([LP.mk k84 n84 p84 e84 fs84 q84 f84 ks84])) (plen ([] : List LP)) (plen ([LP.mk k84 n84 p84 e84 fs84 q84 f84 ks84])) (by simp [pers]) hc86 (by decide) (pcellss_app _ _)) (fun _ h => absurd h List.not_mem_nil) ?_)
    refine yTF hG 8 (by kernel_rfl) rfl ?_
    refine yW hG 9 (by kernel_rfl) rfl (by kernel_rfl) rfl ?_
    refine AAny.done (by kernel_rfl) ?_
    refine run_blk ?_
    refine run_sub_code (σ' := ⟨[(1, .int .i64 i38), (2, .fn (.func 206) [] [.optr (.bor 0) 0 0]), (6, .optr (.loc 6) 0 0), (7, .optr (.loc 7) 0 0), (44, .imm q1 4 f1 (pcellss ks1)), (45, .int .i64 (((pers ks1)).length : Int)), (46, .int .i64 0)], [(57, ⟨40, 4, false, pcellss (([] : List LP) ++ [LP.mk k84 n84 p84 e84 fs84 q84 f84 ks84])⟩), (35, ⟨42, 3, false, fcellss ks13⟩), (7, ⟨40, 4, true, [[.int .i64 k1, .int .i64 0, .osl (.loc 35), .osl (.loc 57)]]⟩), (6, ⟨40, 4, true, [[.int .i64 0, .int .i64 0, .imm 0 3 true [], .imm 0 4 true []]]⟩)], [⟨3, 1, true, [[.int .i64 i3]]⟩], O, tk81⟩) (Sub.trans (Sub.drop (k := 56) rfl) (Sub.trans (Sub.drop (k := 11) rfl) (Sub.trans (Sub.drop (k := 3) rfl) (Sub.env _ ⟨rfl, rfl, rfl, rfl, rfl, rfl, rfl, trivial⟩)))) ?_
    refine run_region ?_
    refine yB rfl ?_
    refine yL rfl ?_
    refine run_ops_nil ?_
    exact run_loop_end ⟨n, _, Nat.le_refl _, ⟨(IntKind.i64.wrap (0 + 1)), (([] : List LP) ++ [LP.mk k84 n84 p84 e84 fs84 q84 f84 ks84]), tk81, (show tkj37 ≤ tk81 by omega), (show Fr tkj37 tk81 _ from (Fr.pcons ((show Fr tkj37 tk81 _ from hf85 rfl)) (show Fr tk81 tk81 _ from Fr.nil _ _) (by omega) (by omega)).mono (by omega) (by omega)), hM, rfl⟩, Sub.pk [1, 2, 6, 7, 44, 45, 46] rfl⟩
   refine AOp.step rfl rfl rfl (ltb rfl) (buildSlice_step (d := 56) hG rfl rfl rfl rfl rfl (by rfl) (by rfl) (by rfl) (by decide)) (fun _ h => absurd h List.not_mem_nil) ?_
   refine AAny.one (i := 1) (by kernel_rfl) (AOp.rd rfl rfl rfl (ltb rfl) (aload_rd hG rfl rfl rfl (by first | (simp [ldok]; done) | exact List.not_mem_nil | trivial)) ?_)
   obtain ⟨hc87, hM⟩ := chk_t hM
   try rw [show ((pers ([] : List LP)) ++ [(Pf.mk k84 n84 (fers fs84) (pers ks84))] : List Pf) = (pers (([] : List LP) ++ [LP.mk k84 n84 p84 e84 fs84 q84 f84 ks84])) from pers_app ([] : List LP) [LP.mk k84 n84 p84 e84 fs84 q84 f84 ks84]] at hM
   refine AAny.one (i := 7) (by kernel_rfl) (AOp.step rfl rfl rfl (ltb rfl) (appendFM_step (d := 57) hG rfl rfl rfl rfl rfl rfl rfl (pcellss_sz ([] : List LP)) rfl (pcellss_sz ([LP.mk k84 n84 p84 e84 fs84 q84 f84 ks84])) (plen ([] : List LP)) (plen ([LP.mk k84 n84 p84 e84 fs84 q84 f84 ks84])) (by simp [pers]) hc87 (by decide) (pcellss_app _ _)) (fun _ h => absurd h List.not_mem_nil) ?_)
   refine yTF hG 8 (by kernel_rfl) rfl ?_
   refine yW hG 9 (by kernel_rfl) rfl (by kernel_rfl) rfl ?_
   refine AAny.done (by kernel_rfl) ?_
   refine run_blk ?_
   refine run_sub_code (σ' := ⟨[(1, .int .i64 i38), (2, .fn (.func 206) [] [.optr (.bor 0) 0 0]), (6, .optr (.loc 6) 0 0), (7, .optr (.loc 7) 0 0), (44, .imm q1 4 f1 (pcellss ks1)), (45, .int .i64 (((pers ks1)).length : Int)), (46, .int .i64 0)], [(57, ⟨40, 4, false, pcellss (([] : List LP) ++ [LP.mk k84 n84 p84 e84 fs84 q84 f84 ks84])⟩), (35, ⟨42, 3, false, fcellss ks13⟩), (7, ⟨40, 4, true, [[.int .i64 k1, .int .i64 0, .osl (.loc 35), .osl (.loc 57)]]⟩), (6, ⟨40, 4, true, [[.int .i64 0, .int .i64 0, .imm 0 3 true [], .imm 0 4 true []]]⟩)], [⟨3, 1, true, [[.int .i64 i3]]⟩], O, tk81⟩) (Sub.trans (Sub.drop (k := 56) rfl) (Sub.trans (Sub.drop (k := 11) rfl) (Sub.trans (Sub.drop (k := 3) rfl) (Sub.env _ ⟨rfl, rfl, rfl, rfl, rfl, rfl, rfl, trivial⟩)))) ?_
   refine run_region ?_
   refine yB rfl ?_
   refine yL rfl ?_
   refine run_ops_nil ?_
   exact run_loop_end ⟨n, _, Nat.le_refl _, ⟨(IntKind.i64.wrap (0 + 1)), (([] : List LP) ++ [LP.mk k84 n84 p84 e84 fs84 q84 f84 ks84]), tk81, (show tkj37 ≤ tk81 by omega), (show Fr tkj37 tk81 _ from (Fr.pcons ((show Fr tkj37 tk81 _ from hf85 rfl)) (show Fr tk81 tk81 _ from Fr.nil _ _) (by omega) (by omega)).mono (by omega) (by omega)), hM, rfl⟩, Sub.pk [1, 2, 6, 7, 44, 45, 46] rfl⟩
  replace hM := ite_f hb65 hM
  refine run_exit_to rfl ?_
  refine run_sr ?_
  refine yD hG rfl ?_
  refine yS hG rfl ?_
  refine run_ops_nil ?_
  refine run_ret_to ?_
  refine fin_sub (Sub.freeze (k := 35) rfl rfl) ?_
  replace hM := some_t hM
  subst hM
  refine fin_x hG rfl rfl rfl (v' := .agg [.int .i64 k1, .int .i64 0, .imm tkj37 3 false (fcellss ks13), .imm 0 4 true (pcellss [])]) (by rfl) ⟨out_same (Bor.one hX0 rfl), (show tk ≤ (tkj37 + 1) by omega), _, rfl, ⟨k1, 0, tkj37, false, ks13, 0, true, [], rfl, rfl, fun _ => (show Fr tk (tkj37 + 1) _ from (Fr.app (show Fr tk (tkj37 + 1) _ from Fr.fstop (show Fr tk tkj37 _ from (hfr13).mono (by omega) (by omega)) (by omega) (by omega)) (show Fr (tkj37 + 1) (tkj37 + 1) _ from Fr.nil _ _) (by omega) (by omega)).mono (by omega) (by omega))⟩⟩
 clear hM
 obtain ⟨i40, ks41, tki_Expr_moved__fn_i_Expr_lifted_c1v_L2, hle88, hfr41, hM, rfl⟩ := hI
 obtain _ | m := m
 ·exact absurd hM (by rw [i_Expr_moved__fn_i_Expr_lifted_c1v_L2]; exact fun h => by cases h)
 rw [i_Expr_moved__fn_i_Expr_lifted_c1v_L2] at hM
 refine run_sr ?_
 refine yB rfl ?_
 refine run_ops_nil ?_
 refine run_seq ?_
 refine run_ifd rfl rfl (fun hb42 => ?_) (fun hb42 => ?_)
 ·replace hM := ite_t hb42 hM
  refine run_skip ?_
  refine run_seq ?_
  refine run_block ?_
  refine run_sr ?_
  obtain ⟨y43, hy44, hM⟩ := bind_t hM
  obtain ⟨k45, n45, p45, e45, fs45, q45, f45, ks45, rfl, hc46, hi47⟩ := pidx (ks := ks1) hy44
  refine run_pu rfl (indexImm_step hG rfl rfl rfl hi47 rfl rfl rfl rfl hc46) rfl (ltb rfl) ?_
  refine yD hG rfl ?_
  refine run_op rfl (alloc_step (d := 11) hG rfl rfl rfl) rfl (ltb rfl) ?_
  refine yS hG rfl ?_
  refine run_ops_nil ?_
  refine run_draw [.loc 7, .bor 0, .loc 57] (n := 10) mixed rfl (by intro x hx; simp only [List.mem_cons, List.not_mem_nil, or_false] at hx; rcases hx with rfl | rfl | rfl <;> rfl) ?_
  refine yTF hG 0 (by kernel_rfl) rfl ?_
  refine yTL hG 2 (by kernel_rfl) rfl ?_
  refine yTV 3 (by kernel_rfl) rfl ?_
  refine yTV 4 (by kernel_rfl) rfl ?_
  refine AAny.each (rs := [1, 5]) (by kernel_rfl) (fun h => by cases h) (fun i hi => ?_)
  simp only [List.mem_cons, List.not_mem_nil, or_false] at hi
  rcases hi with rfl | rfl
  ·refine AOp.rd rfl rfl rfl (ltb rfl) (aload_rd hG rfl rfl rfl (by first | (simp [ldok]; done) | exact List.not_mem_nil | trivial)) ?_
   obtain ⟨r48, hg49, hM⟩ := bind_t hM
   refine AAny.one (i := 5) (by kernel_rfl) (AOp.call rfl rfl rfl rfl (ltb rfl) rfl rfl rfl (fun _ h => absurd h List.not_mem_nil) (by intro x hx; have hx : x ∈ [ID.bor 0] := hx; simp only [List.mem_cons, List.not_mem_nil, or_false] at hx; subst hx; simp) (ih_i_Expr_moved__fn_i_Expr_lifted_c1v k45 n45 p45 e45 fs45 q45 f45 ks45 i38 (.bor 0) i3 hg49 _ _ rfl) (callK_retX (fun v tk50 (hle51 : tki_Expr_moved__fn_i_Expr_lifted_c1v_L2 ≤ tk50) h52 => ?_)))
   obtain ⟨k53, n53, p53, e53, fs53, q53, f53, ks53, rfl, rfl, hf54⟩ := h52
   refine AAny.one (i := 6) (by kernel_rfl) (AOp.step rfl rfl rfl (ltb rfl) (buildSlice_step (d := 56) hG rfl rfl rfl rfl rfl (by rfl) (by rfl) (by rfl) (by decide)) (fun _ h => absurd h List.not_mem_nil) ?_)
   obtain ⟨hc55, hM⟩ := chk_t hM
   try rw [show ((pers ks41) ++ [(Pf.mk k53 n53 (fers fs53) (pers ks53))] : List Pf) = (pers (ks41 ++ [LP.mk k53 n53 p53 e53 fs53 q53 f53 ks53])) from pers_app ks41 [LP.mk k53 n53 p53 e53 fs53 q53 f53 ks53]] at hM
   refine AAny.one (i := 7) (by kernel_rfl) (AOp.step rfl rfl rfl (ltb rfl) (appendM_step hG rfl rfl rfl rfl rfl rfl rfl rfl rfl rfl rfl (pcellss_sz ([LP.mk k53 n53 p53 e53 fs53 q53 f53 ks53])) (plen ks41) (plen ([LP.mk k53 n53 p53 e53 fs53 q53 f53 ks53])) hc55 (by decide) (pcellss_app _ _)) (by intro x hx; simp only [List.mem_cons, List.not_mem_nil, or_false] at hx; subst hx; simp) ?_)
   refine yTF hG 8 (by kernel_rfl) rfl ?_
   refine yW hG 9 (by kernel_rfl) rfl (by kernel_rfl) rfl ?_
   refine AAny.done (by kernel_rfl) ?_
   refine run_blk ?_
   refine run_sub_code (σ' := ⟨[(1, .int .i64 i38), (2, .fn (.func 206) [] [.optr (.bor 0) 0 0]), (6, .optr (.loc 6) 0 0), (7, .optr (.loc 7) 0 0), (44, .imm q1 4 f1 (pcellss ks1)), (45, .int .i64 (((pers ks1)).length : Int)), (46, .int .i64 i40)], [(57, ⟨40, 4, false, pcellss (ks41 ++ [LP.mk k53 n53 p53 e53 fs53 q53 f53 ks53])⟩), (35, ⟨42, 3, false, fcellss ks13⟩), (7, ⟨40, 4, true, [[.int .i64 k1, .int .i64 0, .osl (.loc 35), .osl (.loc 57)]]⟩), (6, ⟨40, 4, true, [[.int .i64 0, .int .i64 0, .imm 0 3 true [], .imm 0 4 true []]]⟩)], [⟨3, 1, true, [[.int .i64 i3]]⟩], O, tk50⟩) (Sub.trans (Sub.drop (k := 56) rfl) (Sub.trans (Sub.drop (k := 11) rfl) (Sub.env _ ⟨rfl, rfl, rfl, rfl, rfl, rfl, rfl, trivial⟩))) ?_
   refine run_region ?_
   refine yB rfl ?_
   refine yL rfl ?_
   refine run_ops_nil ?_
   exact run_loop_end ⟨m, _, Nat.lt_succ_self _, ⟨(IntKind.i64.wrap (i40 + 1)), (ks41 ++ [LP.mk k53 n53 p53 e53 fs53 q53 f53 ks53]), tk50, (show tkj37 ≤ tk50 by omega), (show Fr tkj37 tk50 _ from (Fr.psnoc (show Fr tkj37 tki_Expr_moved__fn_i_Expr_lifted_c1v_L2 _ from (hfr41).mono (by omega) (by omega)) ((show Fr tki_Expr_moved__fn_i_Expr_lifted_c1v_L2 tk50 _ from hf54 rfl)) (by omega) (by omega)).mono (by omega) (by omega)), hM, rfl⟩, Sub.pk [1, 2, 6, 7, 44, 45, 46] rfl⟩
  obtain ⟨r56, hg57, hM⟩ := bind_t hM
  refine AOp.call rfl rfl rfl rfl (ltb rfl) rfl rfl rfl (fun _ h => absurd h List.not_mem_nil) (by intro x hx; have hx : x ∈ [ID.bor 0] := hx; simp only [List.mem_cons, List.not_mem_nil, or_false] at hx; subst hx; simp) (ih_i_Expr_moved__fn_i_Expr_lifted_c1v k45 n45 p45 e45 fs45 q45 f45 ks45 i38 (.bor 0) i3 hg57 _ _ rfl) (callK_retX (fun v tk58 (hle59 : tki_Expr_moved__fn_i_Expr_lifted_c1v_L2 ≤ tk58) h60 => ?_))
  obtain ⟨k61, n61, p61, e61, fs61, q61, f61, ks61, rfl, rfl, hf62⟩ := h60
  refine AAny.each (rs := [1, 6]) (by kernel_rfl) (fun h => by cases h) (fun i hi => ?_)
  simp only [List.mem_cons, List.not_mem_nil, or_false] at hi
  rcases hi with rfl | rfl
  ·refine AOp.rd rfl rfl rfl (ltb rfl) (aload_rd hG rfl rfl rfl (by first | (simp [ldok]; done) | exact List.not_mem_nil | trivial)) ?_
   refine AAny.one (i := 6) (by kernel_rfl) (AOp.step rfl rfl rfl (ltb rfl) (buildSlice_step (d := 56) hG rfl rfl rfl rfl rfl (by rfl) (by rfl) (by rfl) (by decide)) (fun _ h => absurd h List.not_mem_nil) ?_)
   obtain ⟨hc63, hM⟩ := chk_t hM
   try rw [show ((pers ks41) ++ [(Pf.mk k61 n61 (fers fs61) (pers ks61))] : List Pf) = (pers (ks41 ++ [LP.mk k61 n61 p61 e61 fs61 q61 f61 ks61])) from pers_app ks41 [LP.mk k61 n61 p61 e61 fs61 q61 f61 ks61]] at hM
   refine AAny.one (i := 7) (by kernel_rfl) (AOp.step rfl rfl rfl (ltb rfl) (appendM_step hG rfl rfl rfl rfl rfl rfl rfl rfl rfl rfl rfl (pcellss_sz ([LP.mk k61 n61 p61 e61 fs61 q61 f61 ks61])) (plen ks41) (plen ([LP.mk k61 n61 p61 e61 fs61 q61 f61 ks61])) hc63 (by decide) (pcellss_app _ _)) (by intro x hx; simp only [List.mem_cons, List.not_mem_nil, or_false] at hx; subst hx; simp) ?_)
   refine yTF hG 8 (by kernel_rfl) rfl ?_
   refine yW hG 9 (by kernel_rfl) rfl (by kernel_rfl) rfl ?_
   refine AAny.done (by kernel_rfl) ?_
   refine run_blk ?_
   refine run_sub_code (σ' := ⟨[(1, .int .i64 i38), (2, .fn (.func 206) [] [.optr (.bor 0) 0 0]), (6, .optr (.loc 6) 0 0), (7, .optr (.loc 7) 0 0), (44, .imm q1 4 f1 (pcellss ks1)), (45, .int .i64 (((pers ks1)).length : Int)), (46, .int .i64 i40)], [(57, ⟨40, 4, false, pcellss (ks41 ++ [LP.mk k61 n61 p61 e61 fs61 q61 f61 ks61])⟩), (35, ⟨42, 3, false, fcellss ks13⟩), (7, ⟨40, 4, true, [[.int .i64 k1, .int .i64 0, .osl (.loc 35), .osl (.loc 57)]]⟩), (6, ⟨40, 4, true, [[.int .i64 0, .int .i64 0, .imm 0 3 true [], .imm 0 4 true []]]⟩)], [⟨3, 1, true, [[.int .i64 i3]]⟩], O, tk58⟩) (Sub.trans (Sub.drop (k := 56) rfl) (Sub.trans (Sub.drop (k := 11) rfl) (Sub.env _ ⟨rfl, rfl, rfl, rfl, rfl, rfl, rfl, trivial⟩))) ?_
   refine run_region ?_
   refine yB rfl ?_
   refine yL rfl ?_
   refine run_ops_nil ?_
   exact run_loop_end ⟨m, _, Nat.lt_succ_self _, ⟨(IntKind.i64.wrap (i40 + 1)), (ks41 ++ [LP.mk k61 n61 p61 e61 fs61 q61 f61 ks61]), tk58, (show tkj37 ≤ tk58 by omega), (show Fr tkj37 tk58 _ from (Fr.psnoc (show Fr tkj37 tki_Expr_moved__fn_i_Expr_lifted_c1v_L2 _ from (hfr41).mono (by omega) (by omega)) ((show Fr tki_Expr_moved__fn_i_Expr_lifted_c1v_L2 tk58 _ from hf62 rfl)) (by omega) (by omega)).mono (by omega) (by omega)), hM, rfl⟩, Sub.pk [1, 2, 6, 7, 44, 45, 46] rfl⟩
  refine AOp.step rfl rfl rfl (ltb rfl) (buildSlice_step (d := 56) hG rfl rfl rfl rfl rfl (by rfl) (by rfl) (by rfl) (by decide)) (fun _ h => absurd h List.not_mem_nil) ?_
  refine AAny.one (i := 1) (by kernel_rfl) (AOp.rd rfl rfl rfl (ltb rfl) (aload_rd hG rfl rfl rfl (by first | (simp [ldok]; done) | exact List.not_mem_nil | trivial)) ?_)
  obtain ⟨hc64, hM⟩ := chk_t hM
  try rw [show ((pers ks41) ++ [(Pf.mk k61 n61 (fers fs61) (pers ks61))] : List Pf) = (pers (ks41 ++ [LP.mk k61 n61 p61 e61 fs61 q61 f61 ks61])) from pers_app ks41 [LP.mk k61 n61 p61 e61 fs61 q61 f61 ks61]] at hM
  refine AAny.one (i := 7) (by kernel_rfl) (AOp.step rfl rfl rfl (ltb rfl) (appendM_step hG rfl rfl rfl rfl rfl rfl rfl rfl rfl rfl rfl (pcellss_sz ([LP.mk k61 n61 p61 e61 fs61 q61 f61 ks61])) (plen ks41) (plen ([LP.mk k61 n61 p61 e61 fs61 q61 f61 ks61])) hc64 (by decide) (pcellss_app _ _)) (by intro x hx; simp only [List.mem_cons, List.not_mem_nil, or_false] at hx; subst hx; simp) ?_)
  refine yTF hG 8 (by kernel_rfl) rfl ?_
  refine yW hG 9 (by kernel_rfl) rfl (by kernel_rfl) rfl ?_
  refine AAny.done (by kernel_rfl) ?_
  refine run_blk ?_
  refine run_sub_code (σ' := ⟨[(1, .int .i64 i38), (2, .fn (.func 206) [] [.optr (.bor 0) 0 0]), (6, .optr (.loc 6) 0 0), (7, .optr (.loc 7) 0 0), (44, .imm q1 4 f1 (pcellss ks1)), (45, .int .i64 (((pers ks1)).length : Int)), (46, .int .i64 i40)], [(57, ⟨40, 4, false, pcellss (ks41 ++ [LP.mk k61 n61 p61 e61 fs61 q61 f61 ks61])⟩), (35, ⟨42, 3, false, fcellss ks13⟩), (7, ⟨40, 4, true, [[.int .i64 k1, .int .i64 0, .osl (.loc 35), .osl (.loc 57)]]⟩), (6, ⟨40, 4, true, [[.int .i64 0, .int .i64 0, .imm 0 3 true [], .imm 0 4 true []]]⟩)], [⟨3, 1, true, [[.int .i64 i3]]⟩], O, tk58⟩) (Sub.trans (Sub.drop (k := 56) rfl) (Sub.trans (Sub.drop (k := 11) rfl) (Sub.env _ ⟨rfl, rfl, rfl, rfl, rfl, rfl, rfl, trivial⟩))) ?_
  refine run_region ?_
  refine yB rfl ?_
  refine yL rfl ?_
  refine run_ops_nil ?_
  exact run_loop_end ⟨m, _, Nat.lt_succ_self _, ⟨(IntKind.i64.wrap (i40 + 1)), (ks41 ++ [LP.mk k61 n61 p61 e61 fs61 q61 f61 ks61]), tk58, (show tkj37 ≤ tk58 by omega), (show Fr tkj37 tk58 _ from (Fr.psnoc (show Fr tkj37 tki_Expr_moved__fn_i_Expr_lifted_c1v_L2 _ from (hfr41).mono (by omega) (by omega)) ((show Fr tki_Expr_moved__fn_i_Expr_lifted_c1v_L2 tk58 _ from hf62 rfl)) (by omega) (by omega)).mono (by omega) (by omega)), hM, rfl⟩, Sub.pk [1, 2, 6, 7, 44, 45, 46] rfl⟩
 replace hM := ite_f hb42 hM
 refine run_exit_to rfl ?_
 refine run_sr ?_
 refine yD hG rfl ?_
 refine yS hG rfl ?_
 refine run_ops_nil ?_
 refine run_ret_to ?_
 refine fin_sub (Sub.freeze (k := 35) rfl rfl) ?_
 refine fin_sub (Sub.freeze (k := 57) rfl rfl) ?_
 replace hM := some_t hM
 subst hM
 refine fin_x hG rfl rfl rfl (v' := .agg [.int .i64 k1, .int .i64 0, .imm tki_Expr_moved__fn_i_Expr_lifted_c1v_L2 3 false (fcellss ks13), .imm (tki_Expr_moved__fn_i_Expr_lifted_c1v_L2 + 1) 4 false (pcellss ks41)]) (by rfl) ⟨out_same (Bor.one hX0 rfl), (show tk ≤ ((tki_Expr_moved__fn_i_Expr_lifted_c1v_L2 + 1) + 1) by omega), _, rfl, ⟨k1, 0, tki_Expr_moved__fn_i_Expr_lifted_c1v_L2, false, ks13, (tki_Expr_moved__fn_i_Expr_lifted_c1v_L2 + 1), false, ks41, rfl, rfl, fun _ => (show Fr tk ((tki_Expr_moved__fn_i_Expr_lifted_c1v_L2 + 1) + 1) _ from by first | exact Fr.fpab (q1 := tki_Expr_moved__fn_i_Expr_lifted_c1v_L2) (q := (tki_Expr_moved__fn_i_Expr_lifted_c1v_L2 + 1)) (show Fr tk tki_Expr_moved__fn_i_Expr_lifted_c1v_L1 _ from hfr13) (show Fr tkj37 tki_Expr_moved__fn_i_Expr_lifted_c1v_L2 _ from hfr41) (by omega) (by omega) (by omega) (by omega) (by omega) (by omega) (by omega) (by omega) (by omega) | exact Fr.fpba (q1 := tki_Expr_moved__fn_i_Expr_lifted_c1v_L2) (q := (tki_Expr_moved__fn_i_Expr_lifted_c1v_L2 + 1)) (show Fr tk tki_Expr_moved__fn_i_Expr_lifted_c1v_L1 _ from hfr13) (show Fr tkj37 tki_Expr_moved__fn_i_Expr_lifted_c1v_L2 _ from hfr41) (by omega) (by omega) (by omega) (by omega) (by omega) (by omega) (by omega) (by omega) (by omega))⟩⟩

theorem i_Expr_moved__fn_i_Expr_lifted_c1v_all : ∀ (n : Nat), (∀ (k1 : Int) (n1 : Int) (p1 : Nat) (e1 : Bool) (fs1 : List LF) (q1 : Nat) (f1 : Bool) (ks1 : List LP) (i2 : Int) (X0 : ID) (i3 : Int) {r : Pf}, i_Expr_moved__fn_i_Expr_lifted_c1v n (Pf.mk k1 n1 (fers fs1) (pers ks1)) i2 i3 = some r → ∀ (O : Heap) (tk : Nat), O X0 = some ⟨3, 1, true, [[.int .i64 i3]]⟩ → ACalls Go.Proofs.Try.prog 204 [.agg [.int .i64 k1, .int .i64 n1, .imm p1 3 e1 (fcellss fs1), .imm q1 4 f1 (pcellss ks1)], .int .i64 i2, .fn (.func 206) [] [.optr X0 0 0]] O tk (RetX O tk (fun v tk' => VP true tk tk' r v)))
 | 0 => by intro k1 n1 p1 e1 fs1 q1 f1 ks1 i2 X0 i3 r hM; rw [i_Expr_moved__fn_i_Expr_lifted_c1v] at hM; cases hM
 | n + 1 => have ih := i_Expr_moved__fn_i_Expr_lifted_c1v_all n; i_Expr_moved__fn_i_Expr_lifted_c1v_st n (ih)

theorem i_Expr_moved__fn_i_Expr_lifted_c1v_ok (n : Nat) : ∀ (k1 : Int) (n1 : Int) (p1 : Nat) (e1 : Bool) (fs1 : List LF) (q1 : Nat) (f1 : Bool) (ks1 : List LP) (i2 : Int) (X0 : ID) (i3 : Int) {r : Pf}, i_Expr_moved__fn_i_Expr_lifted_c1v n (Pf.mk k1 n1 (fers fs1) (pers ks1)) i2 i3 = some r → ∀ (O : Heap) (tk : Nat), O X0 = some ⟨3, 1, true, [[.int .i64 i3]]⟩ → ACalls Go.Proofs.Try.prog 204 [.agg [.int .i64 k1, .int .i64 n1, .imm p1 3 e1 (fcellss fs1), .imm q1 4 f1 (pcellss ks1)], .int .i64 i2, .fn (.func 206) [] [.optr X0 0 0]] O tk (RetX O tk (fun v tk' => VP true tk tk' r v)) := i_Expr_moved__fn_i_Expr_lifted_c1v_all n

def i_Expr_lifted (n : Nat) (x1 : Pf) (i2 : Int) : Option Pf :=
 (i_Expr_moved__fn_i_Expr_lifted_c1v n x1 0 i2).bind fun r3 =>
 some r3

set_option maxRecDepth 100000 in
theorem i_Expr_lifted_ok (n : Nat) : ∀ (k1 : Int) (n1 : Int) (p1 : Nat) (e1 : Bool) (fs1 : List LF) (q1 : Nat) (f1 : Bool) (ks1 : List LP) (i2 : Int) {r : Pf}, i_Expr_lifted n (Pf.mk k1 n1 (fers fs1) (pers ks1)) i2 = some r → ∀ (O : Heap) (tk : Nat), ACalls Go.Proofs.Try.prog 164 [.agg [.int .i64 k1, .int .i64 n1, .imm p1 3 e1 (fcellss fs1), .imm q1 4 f1 (pcellss ks1)], .int .i64 i2] O tk (RetX O tk (fun v tk' => VP true tk tk' r v)) := by
 intro k1 n1 p1 e1 fs1 q1 f1 ks1 i2 r hM O tk
 unfold i_Expr_lifted at hM
 refine acalls_of_run Go.Proofs.Try.func164 rfl rfl [] [] (Bor.nil _) [(0, .agg [.int .i64 k1, .int .i64 n1, .imm p1 3 e1 (fcellss fs1), .imm q1 4 f1 (pcellss ks1)]), (1, .int .i64 i2)] (.cons (.agg _) (.cons (entS rfl) (.nil _))) (leb rfl) (fun _ h => by cases h) (fun S0 hO htk hfz => ?_)
 refine run_sr ?_
 refine run_op rfl (box_step (d := 2) rfl rfl rfl rfl rfl) rfl (ltb rfl) ?_
 refine run_op rfl (box_step (d := 3) rfl rfl rfl rfl rfl) rfl (ltb rfl) ?_
 refine run_op rfl (alloc_step (d := 4) hG rfl rfl rfl) rfl (ltb rfl) ?_
 refine run_ops_nil ?_
 refine run_sr ?_
 refine yD hG rfl ?_
 refine run_pu rfl (makeFunc_step (first := []) (cap := [.tmp 3]) rfl rfl rfl) rfl (ltb rfl) ?_
 obtain ⟨r3, hg4, hM⟩ := bind_t hM
 refine yK rfl (i_Expr_moved__fn_i_Expr_lifted_c1v_ok n k1 n1 p1 e1 fs1 q1 f1 ks1 0 (.loc 3) i2 hg4 _ _ rfl) (callK_retX (fun v tk5 (hle6 : tk ≤ tk5) h7 => ?_))
 obtain ⟨k8, n8, p8, e8, fs8, q8, f8, ks8, rfl, rfl, hf9⟩ := h7
 refine yS hG rfl ?_
 refine run_ops_nil ?_
 refine run_ret_to ?_
 replace hM := some_t hM
 subst hM
 refine fin_x hG rfl rfl rfl (v' := .agg [.int .i64 k8, .int .i64 n8, .imm p8 3 e8 (fcellss fs8), .imm q8 4 f8 (pcellss ks8)]) (by rfl) ⟨rfl, (show tk ≤ tk5 by omega), _, rfl, ⟨k8, n8, p8, e8, fs8, q8, f8, ks8, rfl, rfl, fun _ => (show Fr tk tk5 _ from ((show Fr tk tk5 _ from hf9 rfl)).mono (by omega) (by omega))⟩⟩

def i_reduced_c1 (n : Nat) (i1 : Int) (i2 : Int) (x3 : Pf) : Option Pf :=
 if i1 = i2 then
  (i_Expr_lifted n x3 i2).bind fun r5 =>
  some r5
 else
  if i1 > i2 then
   some (Pf.mk 1 (IntKind.i64.wrap (i1 - 1)) [] [])
  else
   some (Pf.mk 1 i1 [] [])

set_option maxRecDepth 100000 in
theorem i_reduced_c1_ok (n : Nat) : ∀ (i1 : Int) (i2 : Int) (X0 : ID) (k3 : Int) (n3 : Int) (p3 : Nat) (e3 : Bool) (fs3 : List LF) (q3 : Nat) (f3 : Bool) (ks3 : List LP) {r : Pf}, i_reduced_c1 n i1 i2 (Pf.mk k3 n3 (fers fs3) (pers ks3)) = some r → ∀ (O : Heap) (tk : Nat), O X0 = some ⟨40, 4, true, [[.int .i64 k3, .int .i64 n3, .imm p3 3 e3 (fcellss fs3), .imm q3 4 f3 (pcellss ks3)]]⟩ → ACalls Go.Proofs.Try.prog 205 [.int .i64 i1, .int .i64 i2, .optr X0 0 0] O tk (RetX O tk (fun v tk' => VP true tk tk' r v)) := by
 intro i1 i2 X0 k3 n3 p3 e3 fs3 q3 f3 ks3 r hM O tk hX0
 unfold i_reduced_c1 at hM
 refine acalls_of_run Go.Proofs.Try.func205 rfl rfl [X0] [⟨40, 4, true, [[.int .i64 k3, .int .i64 n3, .imm p3 3 e3 (fcellss fs3), .imm q3 4 f3 (pcellss ks3)]]⟩] (Bor.one hX0 rfl) [(0, .int .i64 i1), (1, .int .i64 i2), (2, .optr (.bor 0) 0 0)] (.cons (entS rfl) (.cons (entS rfl) (.cons (.bor 0 _ _ _ rfl) (.nil _)))) (leb rfl) (by intro y h; simp only [List.mem_cons, List.not_mem_nil, or_false] at h; rcases h with rfl <;> simp [tch, tch0]) (fun S0 hO htk hfz => ?_)
 refine run_sr ?_
 refine run_op rfl (alloc_step (d := 5) hG rfl rfl rfl) rfl (ltb rfl) ?_
 refine run_ops_nil ?_
 refine run_seq ?_
 refine run_block ?_
 refine run_sr ?_
 refine yL rfl ?_
 refine yL rfl ?_
 refine yB rfl ?_
 refine yR rfl ?_
 refine run_ops_nil ?_
 refine run_ifd rfl rfl (fun hb4 => ?_) (fun hb4 => ?_)
 ·replace hM := ite_t hb4 hM
  refine run_sr ?_
  refine yD hG rfl ?_
  refine yL rfl ?_
  obtain ⟨r5, hg6, hM⟩ := bind_t hM
  refine yK rfl (i_Expr_lifted_ok n k3 n3 p3 e3 fs3 q3 f3 ks3 i2 hg6 _ _) (callK_retX (fun v tk7 (hle8 : tk ≤ tk7) h9 => ?_))
  obtain ⟨k10, n10, p10, e10, fs10, q10, f10, ks10, rfl, rfl, hf11⟩ := h9
  refine yS hG rfl ?_
  refine run_ops_nil ?_
  refine run_ret_to ?_
  replace hM := some_t hM
  subst hM
  refine fin_x hG rfl rfl rfl (v' := .agg [.int .i64 k10, .int .i64 n10, .imm p10 3 e10 (fcellss fs10), .imm q10 4 f10 (pcellss ks10)]) (by rfl) ⟨out_same (Bor.one hX0 rfl), (show tk ≤ tk7 by omega), _, rfl, ⟨k10, n10, p10, e10, fs10, q10, f10, ks10, rfl, rfl, fun _ => (show Fr tk tk7 _ from ((show Fr tk tk7 _ from hf11 rfl)).mono (by omega) (by omega))⟩⟩
 replace hM := ite_f hb4 hM
 refine run_sr ?_
 refine yL rfl ?_
 refine yL rfl ?_
 refine yB rfl ?_
 refine yR rfl ?_
 refine run_ops_nil ?_
 refine run_ifd rfl rfl (fun hb12 => ?_) (fun hb12 => ?_)
 ·replace hM := ite_t hb12 hM
  refine run_region ?_
  refine yL rfl ?_
  refine yB rfl ?_
  refine yR rfl ?_
  refine run_ops_nil ?_
  refine run_blk ?_
  refine run_sr ?_
  refine yL rfl ?_
  refine run_pu rfl (build_step hG rfl (by rfl) rfl (fun h => by cases h) (by rfl)) rfl (ltb rfl) ?_
  refine yS hG rfl ?_
  refine run_ops_nil ?_
  refine run_ret_to ?_
  replace hM := some_t hM
  subst hM
  refine fin_x hG rfl rfl rfl (v' := .agg [.int .i64 1, .int .i64 (IntKind.i64.wrap (i1 - 1)), .imm 0 3 true (fcellss []), .imm 0 4 true (pcellss [])]) (by rfl) ⟨out_same (Bor.one hX0 rfl), (show tk ≤ tk by omega), _, rfl, ⟨1, (IntKind.i64.wrap (i1 - 1)), 0, true, [], 0, true, [], rfl, rfl, fun _ => Fr.nil _ _⟩⟩
 replace hM := ite_f hb12 hM
 refine run_skip ?_
 refine run_blk ?_
 refine run_sr ?_
 refine yL rfl ?_
 refine run_pu rfl (build_step hG rfl (by rfl) rfl (fun h => by cases h) (by rfl)) rfl (ltb rfl) ?_
 refine yS hG rfl ?_
 refine run_ops_nil ?_
 refine run_ret_to ?_
 replace hM := some_t hM
 subst hM
 refine fin_x hG rfl rfl rfl (v' := .agg [.int .i64 1, .int .i64 i1, .imm 0 3 true (fcellss []), .imm 0 4 true (pcellss [])]) (by rfl) ⟨out_same (Bor.one hX0 rfl), (show tk ≤ tk by omega), _, rfl, ⟨1, i1, 0, true, [], 0, true, [], rfl, rfl, fun _ => Fr.nil _ _⟩⟩

def i_Expr_moved__fn_i_reduced_c1v_L3 (rec_i_Expr_moved__fn_i_reduced_c1v : Pf → Int → Pf → Option Pf) (x1 : Pf) (x3 : Pf) (i115 : Int) : Nat → Int → List Pf → Option Pf
 | 0, _, _ => none
 | m + 1, i117, l118 =>
  if i117 < ((x1.kids).length : Int) then
   (idx x1.kids i117).bind fun y120 =>
   (rec_i_Expr_moved__fn_i_reduced_c1v y120 i115 x3).bind fun r125 =>
   chk ((l118).length + ([r125]).length ≤ 1099511627776) <|
   i_Expr_moved__fn_i_reduced_c1v_L3 rec_i_Expr_moved__fn_i_reduced_c1v x1 x3 i115 m (IntKind.i64.wrap (i117 + 1)) (l118 ++ [r125])
  else
   some (Pf.mk x1.kind 0 [] l118)

def i_Expr_moved__fn_i_reduced_c1v_L2 (rec_i_Expr_moved__fn_i_reduced_c1v : Pf → Int → Pf → Option Pf) (x1 : Pf) (x3 : Pf) (l13 : List F) (i38 : Int) : Nat → Int → List Pf → Option Pf
 | 0, _, _ => none
 | m + 1, i40, l41 =>
  if i40 < ((x1.kids).length : Int) then
   (idx x1.kids i40).bind fun y43 =>
   (rec_i_Expr_moved__fn_i_reduced_c1v y43 i38 x3).bind fun r48 =>
   chk ((l41).length + ([r48]).length ≤ 1099511627776) <|
   i_Expr_moved__fn_i_reduced_c1v_L2 rec_i_Expr_moved__fn_i_reduced_c1v x1 x3 l13 i38 m (IntKind.i64.wrap (i40 + 1)) (l41 ++ [r48])
  else
   some (Pf.mk x1.kind 0 l13 l41)

def i_Expr_moved__fn_i_reduced_c1v_L1 (rec_i_Expr_moved__fn_i_reduced_c1v : Pf → Int → Pf → Option Pf) (n : Nat) (x1 : Pf) (i2 : Int) (x3 : Pf) : Nat → Int → List F → Option Pf
 | 0, _, _ => none
 | m + 1, i12, l13 =>
  if i12 < ((x1.forms).length : Int) then
   (idx x1.forms i12).bind fun y15 =>
   (i_cloneType n y15).bind fun r20 =>
   chk ((l13).length + ([r20]).length ≤ 1099511627776) <|
   i_Expr_moved__fn_i_reduced_c1v_L1 rec_i_Expr_moved__fn_i_reduced_c1v n x1 i2 x3 m (IntKind.i64.wrap (i12 + 1)) (l13 ++ [r20])
  else
   jn (fun (i38 : Int) =>
    if 0 < ((x1.kids).length : Int) then
     (idx x1.kids 0).bind fun y66 =>
     (rec_i_Expr_moved__fn_i_reduced_c1v y66 i38 x3).bind fun r71 =>
     chk ((([] : List Pf)).length + ([r71]).length ≤ 1099511627776) <|
     i_Expr_moved__fn_i_reduced_c1v_L2 rec_i_Expr_moved__fn_i_reduced_c1v x1 x3 l13 i38 n (IntKind.i64.wrap (0 + 1)) (([] : List Pf) ++ [r71])
    else
     some (Pf.mk x1.kind 0 l13 [])) fun j37 =>
   if x1.kind = 3 then
    j37 (IntKind.i64.wrap (i2 + 1))
   else
    j37 i2

def i_Expr_moved__fn_i_reduced_c1v : Nat → Pf → Int → Pf → Option Pf
 | 0, _, _, _ => none
 | n + 1, x1, i2, x3 =>
  if x1.kind = 1 then
   (i_reduced_c1 n x1.n i2 x3).bind fun r5 =>
   some r5
  else
   if 0 < ((x1.forms).length : Int) then
    (idx x1.forms 0).bind fun y92 =>
    (i_cloneType n y92).bind fun r97 =>
    chk ((([] : List F)).length + ([r97]).length ≤ 1099511627776) <|
    i_Expr_moved__fn_i_reduced_c1v_L1 (i_Expr_moved__fn_i_reduced_c1v n) n x1 i2 x3 n (IntKind.i64.wrap (0 + 1)) (([] : List F) ++ [r97])
   else
    jn (fun (i115 : Int) =>
     if 0 < ((x1.kids).length : Int) then
      (idx x1.kids 0).bind fun y143 =>
      (i_Expr_moved__fn_i_reduced_c1v n y143 i115 x3).bind fun r148 =>
      chk ((([] : List Pf)).length + ([r148]).length ≤ 1099511627776) <|
      i_Expr_moved__fn_i_reduced_c1v_L3 (i_Expr_moved__fn_i_reduced_c1v n) x1 x3 i115 n (IntKind.i64.wrap (0 + 1)) (([] : List Pf) ++ [r148])
     else
      some (Pf.mk x1.kind 0 [] [])) fun j114 =>
    if x1.kind = 3 then
     j114 (IntKind.i64.wrap (i2 + 1))
    else
     j114 i2

set_option maxHeartbeats 20000000 in
set_option maxHeartbeats 20000000 in
set_option maxRecDepth 100000 in
theorem i_Expr_moved__fn_i_reduced_c1v_st (n : Nat) (ih_i_Expr_moved__fn_i_reduced_c1v : ∀ (k1 : Int) (n1 : Int) (p1 : Nat) (e1 : Bool) (fs1 : List LF) (q1 : Nat) (f1 : Bool) (ks1 : List LP) (i2 : Int) (X0 : ID) (k3 : Int) (n3 : Int) (p3 : Nat) (e3 : Bool) (fs3 : List LF) (q3 : Nat) (f3 : Bool) (ks3 : List LP) {r : Pf}, i_Expr_moved__fn_i_reduced_c1v n (Pf.mk k1 n1 (fers fs1) (pers ks1)) i2 (Pf.mk k3 n3 (fers fs3) (pers ks3)) = some r → ∀ (O : Heap) (tk : Nat), O X0 = some ⟨40, 4, true, [[.int .i64 k3, .int .i64 n3, .imm p3 3 e3 (fcellss fs3), .imm q3 4 f3 (pcellss ks3)]]⟩ → ACalls Go.Proofs.Try.prog 204 [.agg [.int .i64 k1, .int .i64 n1, .imm p1 3 e1 (fcellss fs1), .imm q1 4 f1 (pcellss ks1)], .int .i64 i2, .fn (.func 205) [] [.optr X0 0 0]] O tk (RetX O tk (fun v tk' => VP true tk tk' r v))) : ∀ (k1 : Int) (n1 : Int) (p1 : Nat) (e1 : Bool) (fs1 : List LF) (q1 : Nat) (f1 : Bool) (ks1 : List LP) (i2 : Int) (X0 : ID) (k3 : Int) (n3 : Int) (p3 : Nat) (e3 : Bool) (fs3 : List LF) (q3 : Nat) (f3 : Bool) (ks3 : List LP) {r : Pf}, i_Expr_moved__fn_i_reduced_c1v (n + 1) (Pf.mk k1 n1 (fers fs1) (pers ks1)) i2 (Pf.mk k3 n3 (fers fs3) (pers ks3)) = some r → ∀ (O : Heap) (tk : Nat), O X0 = some ⟨40, 4, true, [[.int .i64 k3, .int .i64 n3, .imm p3 3 e3 (fcellss fs3), .imm q3 4 f3 (pcellss ks3)]]⟩ → ACalls Go.Proofs.Try.prog 204 [.agg [.int .i64 k1, .int .i64 n1, .imm p1 3 e1 (fcellss fs1), .imm q1 4 f1 (pcellss ks1)], .int .i64 i2, .fn (.func 205) [] [.optr X0 0 0]] O tk (RetX O tk (fun v tk' => VP true tk tk' r v)) := by
 intro k1 n1 p1 e1 fs1 q1 f1 ks1 i2 X0 k3 n3 p3 e3 fs3 q3 f3 ks3 r hM O tk hX0
 rw [i_Expr_moved__fn_i_reduced_c1v] at hM
 refine acalls_of_run Go.Proofs.Try.func204 rfl rfl [X0] [⟨40, 4, true, [[.int .i64 k3, .int .i64 n3, .imm p3 3 e3 (fcellss fs3), .imm q3 4 f3 (pcellss ks3)]]⟩] (Bor.one hX0 rfl) [(0, .agg [.int .i64 k1, .int .i64 n1, .imm p1 3 e1 (fcellss fs1), .imm q1 4 f1 (pcellss ks1)]), (1, .int .i64 i2), (2, .fn (.func 205) [] [.optr (.bor 0) 0 0])] (.cons (.agg _) (.cons (entS rfl) (.cons (ent_fn (.bor 0 _ _ _ rfl)) (.nil _)))) (leb rfl) (by intro y h; simp only [List.mem_cons, List.not_mem_nil, or_false] at h; rcases h with rfl <;> simp [tch, tch0]) (fun S0 hO htk hfz => ?_)
 refine run_sr ?_
 refine run_op rfl (box_step (d := 3) rfl rfl rfl rfl rfl) rfl (ltb rfl) ?_
 refine run_op rfl (alloc_step (d := 6) hG rfl rfl rfl) rfl (ltb rfl) ?_
 refine run_ops_nil ?_
 refine run_seq ?_
 refine run_sr ?_
 refine yF hG rfl ?_
 refine yD hG rfl ?_
 refine yB rfl ?_
 refine run_ops_nil ?_
 refine run_ifd rfl rfl (fun hb4 => ?_) (fun hb4 => ?_)
 ·replace hM := ite_t hb4 hM
  refine run_sr ?_
  refine yL rfl ?_
  refine yF hG rfl ?_
  refine yD hG rfl ?_
  refine yL rfl ?_
  obtain ⟨r5, hg6, hM⟩ := bind_t hM
  refine yK rfl (i_reduced_c1_ok n n1 i2 (.bor 0) k3 n3 p3 e3 fs3 q3 f3 ks3 hg6 _ _ rfl) (callK_retX (fun v tk7 (hle8 : tk ≤ tk7) h9 => ?_))
  obtain ⟨k10, n10, p10, e10, fs10, q10, f10, ks10, rfl, rfl, hf11⟩ := h9
  refine yS hG rfl ?_
  refine run_ops_nil ?_
  refine run_ret_to ?_
  replace hM := some_t hM
  subst hM
  refine fin_x hG rfl rfl rfl (v' := .agg [.int .i64 k10, .int .i64 n10, .imm p10 3 e10 (fcellss fs10), .imm q10 4 f10 (pcellss ks10)]) (by rfl) ⟨out_same (Bor.one hX0 rfl), (show tk ≤ tk7 by omega), _, rfl, ⟨k10, n10, p10, e10, fs10, q10, f10, ks10, rfl, rfl, fun _ => (show Fr tk tk7 _ from ((show Fr tk tk7 _ from hf11 rfl)).mono (by omega) (by omega))⟩⟩
 replace hM := ite_f hb4 hM
 refine run_skip ?_
 refine run_sr ?_
 refine yF hG rfl ?_
 refine yD hG rfl ?_
 refine run_pu rfl (build_step hG rfl (by rfl) rfl (fun h => by cases h) (by rfl)) rfl (ltb rfl) ?_
 refine run_op rfl (alloc_step (d := 7) hG rfl rfl rfl) rfl (ltb rfl) ?_
 refine yS hG rfl ?_
 refine run_ops_nil ?_
 refine run_seq ?_
 refine run_sr ?_
 refine yF hG rfl ?_
 refine yD hG rfl ?_
 refine run_pu rfl (lenImm_step hG rfl rfl rfl rfl (flen _)) rfl (ltb rfl) ?_
 refine yL rfl ?_
 refine run_ops_nil ?_
 refine run_block ?_
 refine run_sub_code (σ' := ⟨[(1, .int .i64 i2), (2, .fn (.func 205) [] [.optr (.bor 0) 0 0]), (3, .optr (.loc 3) 0 0), (6, .optr (.loc 6) 0 0), (7, .optr (.loc 7) 0 0), (24, .imm p1 3 e1 (fcellss fs1)), (25, .int .i64 (((fers fs1)).length : Int)), (26, .int .i64 0)], [(7, ⟨40, 4, true, [[.int .i64 k1, .int .i64 0, .imm 0 3 true [], .imm 0 4 true []]]⟩), (6, ⟨40, 4, true, [[.int .i64 0, .int .i64 0, .imm 0 3 true [], .imm 0 4 true []]]⟩), (3, ⟨40, 4, true, [[.int .i64 k1, .int .i64 n1, .imm p1 3 e1 (fcellss fs1), .imm q1 4 f1 (pcellss ks1)]]⟩)], [⟨40, 4, true, [[.int .i64 k3, .int .i64 n3, .imm p3 3 e3 (fcellss fs3), .imm q3 4 f3 (pcellss ks3)]]⟩], O, tk⟩) (Sub.env _ ⟨rfl, rfl, rfl, rfl, rfl, rfl, rfl, rfl, trivial⟩) ?_
 refine run_peel (fun m σ => ∃ (i12 : Int) (ks13 : List LF) (tki_Expr_moved__fn_i_reduced_c1v_L1 : Nat), tk ≤ tki_Expr_moved__fn_i_reduced_c1v_L1 ∧ Fr tk tki_Expr_moved__fn_i_reduced_c1v_L1 (ftoks ks13) ∧ i_Expr_moved__fn_i_reduced_c1v_L1 (i_Expr_moved__fn_i_reduced_c1v n) n (Pf.mk k1 n1 (fers fs1) (pers ks1)) i2 (Pf.mk k3 n3 (fers fs3) (pers ks3)) m i12 (fers ks13) = some r ∧ σ = ⟨[(1, .int .i64 i2), (2, .fn (.func 205) [] [.optr (.bor 0) 0 0]), (3, .optr (.loc 3) 0 0), (6, .optr (.loc 6) 0 0), (7, .optr (.loc 7) 0 0), (24, .imm p1 3 e1 (fcellss fs1)), (25, .int .i64 (((fers fs1)).length : Int)), (26, .int .i64 i12)], [(35, ⟨42, 3, false, fcellss ks13⟩), (7, ⟨40, 4, true, [[.int .i64 k1, .int .i64 0, .osl (.loc 35), .imm 0 4 true []]]⟩), (6, ⟨40, 4, true, [[.int .i64 0, .int .i64 0, .imm 0 3 true [], .imm 0 4 true []]]⟩), (3, ⟨40, 4, true, [[.int .i64 k1, .int .i64 n1, .imm p1 3 e1 (fcellss fs1), .imm q1 4 f1 (pcellss ks1)]]⟩)], [⟨40, 4, true, [[.int .i64 k3, .int .i64 n3, .imm p3 3 e3 (fcellss fs3), .imm q3 4 f3 (pcellss ks3)]]⟩], O, tki_Expr_moved__fn_i_reduced_c1v_L1⟩) n ?_ (fun m σ hI => ?_)
 ·refine run_sr ?_
  refine yB rfl ?_
  refine run_ops_nil ?_
  refine run_seq ?_
  refine run_ifd rfl rfl (fun hb91 => ?_) (fun hb91 => ?_)
  ·replace hM := ite_t hb91 hM
   refine run_skip ?_
   refine run_seq ?_
   refine run_block ?_
   refine run_sr ?_
   obtain ⟨y92, hy93, hM⟩ := bind_t hM
   obtain ⟨k94, n94, q94, f94, ks94, rfl, hc95, hi96⟩ := fidx (ks := fs1) hy93
   refine run_pu rfl (indexImm_step hG rfl rfl rfl hi96 rfl rfl rfl rfl hc95) rfl (ltb rfl) ?_
   refine yD hG rfl ?_
   refine run_op rfl (alloc_step (d := 9) hG rfl rfl rfl) rfl (ltb rfl) ?_
   refine yS hG rfl ?_
   refine run_ops_nil ?_
   refine run_draw [.loc 7] (n := 8) mixed rfl (by intro x hx; simp only [List.mem_cons, List.not_mem_nil, or_false] at hx; rcases hx with rfl <;> rfl) ?_
   refine yTF hG 0 (by kernel_rfl) rfl ?_
   refine yTL hG 2 (by kernel_rfl) rfl ?_
   refine AAny.each (rs := [1, 3]) (by kernel_rfl) (fun h => by cases h) (fun i hi => ?_)
   simp only [List.mem_cons, List.not_mem_nil, or_false] at hi
   rcases hi with rfl | rfl
   ·refine AOp.rd rfl rfl rfl (ltb rfl) (aload_rd hG rfl rfl rfl (by first | (simp [ldok]; done) | exact List.not_mem_nil | trivial)) ?_
    obtain ⟨r97, hg98, hM⟩ := bind_t hM
    refine yC 3 (by kernel_rfl) rfl rfl (i_cloneType_ok n k94 n94 q94 f94 ks94 hg98 _ _) (callK_retX (fun v tk99 (hle100 : tk ≤ tk99) h101 => ?_))
    obtain ⟨k102, n102, q102, f102, ks102, rfl, rfl, hf103⟩ := h101
    refine AAny.one (i := 4) (by kernel_rfl) (AOp.step rfl rfl rfl (ltb rfl) (buildSlice_step (d := 34) hG rfl rfl rfl rfl rfl (by rfl) (by rfl) (by rfl) (by decide)) (fun _ h => absurd h List.not_mem_nil) ?_)
    obtain ⟨hc104, hM⟩ := chk_t hM
    try rw [show ((fers ([] : List LF)) ++ [(F.mk k102 n102 (fers ks102))] : List F) = (fers (([] : List LF) ++ [LF.mk k102 n102 q102 f102 ks102])) from fers_app ([] : List LF) [LF.mk k102 n102 q102 f102 ks102]] at hM
    refine AAny.one (i := 5) (by kernel_rfl) (AOp.step rfl rfl rfl (ltb rfl) (appendFM_step (d := 35) hG rfl rfl rfl rfl rfl rfl rfl (fcellss_sz ([] : List LF)) rfl (fcellss_sz ([LF.mk k102 n102 q102 f102 ks102])) (flen ([] : List LF)) (flen ([LF.mk k102 n102 q102 f102 ks102])) (by simp [fers]) hc104 (by decide) (fcellss_app _ _)) (fun _ h => absurd h List.not_mem_nil) ?_)
    refine yTF hG 6 (by kernel_rfl) rfl ?_
    refine yW hG 7 (by kernel_rfl) rfl (by kernel_rfl) rfl ?_
    refine AAny.done (by kernel_rfl) ?_
    refine run_blk ?_
    refine run_region ?_
    refine yB rfl ?_
    refine yL rfl ?_
    refine run_ops_nil ?_
    exact run_loop_end ⟨n, _, Nat.le_refl _, ⟨(IntKind.i64.wrap (0 + 1)), (([] : List LF) ++ [LF.mk k102 n102 q102 f102 ks102]), tk99, (show tk ≤ tk99 by omega), (show Fr tk tk99 _ from (Fr.fcons ((show Fr tk tk99 _ from hf103 rfl)) (show Fr tk99 tk99 _ from Fr.nil _ _) (by omega) (by omega)).mono (by omega) (by omega)), hM, rfl⟩, Sub.trans (Sub.drop (k := 34) rfl) (Sub.trans (Sub.drop (k := 9) rfl) (Sub.pk [1, 2, 3, 6, 7, 24, 25, 26] rfl))⟩
   obtain ⟨r105, hg106, hM⟩ := bind_t hM
   refine yI rfl rfl (i_cloneType_ok n k94 n94 q94 f94 ks94 hg106 _ _) (callK_retX (fun v tk107 (hle108 : tk ≤ tk107) h109 => ?_))
   obtain ⟨k110, n110, q110, f110, ks110, rfl, rfl, hf111⟩ := h109
   refine AAny.each (rs := [1, 4]) (by kernel_rfl) (fun h => by cases h) (fun i hi => ?_)
   simp only [List.mem_cons, List.not_mem_nil, or_false] at hi
   rcases hi with rfl | rfl
   ·refine AOp.rd rfl rfl rfl (ltb rfl) (aload_rd hG rfl rfl rfl (by first | (simp [ldok]; done) | exact List.not_mem_nil | trivial)) ?_
    refine AAny.one (i := 4) (by kernel_rfl) (AOp.step rfl rfl rfl (ltb rfl) (buildSlice_step (d := 34) hG rfl rfl rfl rfl rfl (by rfl) (by rfl) (by rfl) (by decide)) (fun _ h => absurd h List.not_mem_nil) ?_)
    obtain ⟨hc112, hM⟩ := chk_t hM
    try rw [show ((fers ([] : List LF)) ++ [(F.mk k110 n110 (fers ks110))] : List F) = (fers (([] : List LF) ++ [LF.mk k110 n110 q110 f110 ks110])) from fers_app ([] : List LF) [LF.mk k110 n110 q110 f110 ks110]] at hM
    refine AAny.one (i := 5) (by kernel_rfl) (AOp.step rfl rfl rfl (ltb rfl) (appendFM_step (d := 35) hG rfl rfl rfl rfl rfl rfl rfl (fcellss_sz ([] : List LF)) rfl (fcellss_sz ([LF.mk k110 n110 q110 f110 ks110])) (flen ([] : List LF)) (flen ([LF.mk k110 n110 q110 f110 ks110])) (by simp [fers]) hc112 (by decide) (fcellss_app _ _)) (fun _ h => absurd h List.not_mem_nil) ?_)
    refine yTF hG 6 (by kernel_rfl) rfl ?_
    refine yW hG 7 (by kernel_rfl) rfl (by kernel_rfl) rfl ?_
    refine AAny.done (by kernel_rfl) ?_
    refine run_blk ?_
    refine run_region ?_
    refine yB rfl ?_
    refine yL rfl ?_
    refine run_ops_nil ?_
    exact run_loop_end ⟨n, _, Nat.le_refl _, ⟨(IntKind.i64.wrap (0 + 1)), (([] : List LF) ++ [LF.mk k110 n110 q110 f110 ks110]), tk107, (show tk ≤ tk107 by omega), (show Fr tk tk107 _ from (Fr.fcons ((show Fr tk tk107 _ from hf111 rfl)) (show Fr tk107 tk107 _ from Fr.nil _ _) (by omega) (by omega)).mono (by omega) (by omega)), hM, rfl⟩, Sub.trans (Sub.drop (k := 34) rfl) (Sub.trans (Sub.drop (k := 9) rfl) (Sub.pk [1, 2, 3, 6, 7, 24, 25, 26] rfl))⟩
   refine AOp.step rfl rfl rfl (ltb rfl) (buildSlice_step (d := 34) hG rfl rfl rfl rfl rfl (by rfl) (by rfl) (by rfl) (by decide)) (fun _ h => absurd h List.not_mem_nil) ?_
   refine AAny.one (i := 1) (by kernel_rfl) (AOp.rd rfl rfl rfl (ltb rfl) (aload_rd hG rfl rfl rfl (by first | (simp [ldok]; done) | exact List.not_mem_nil | trivial)) ?_)
   obtain ⟨hc113, hM⟩ := chk_t hM
   try rw [show ((fers ([] : List LF)) ++ [(F.mk k110 n110 (fers ks110))] : List F) = (fers (([] : List LF) ++ [LF.mk k110 n110 q110 f110 ks110])) from fers_app ([] : List LF) [LF.mk k110 n110 q110 f110 ks110]] at hM
   refine AAny.one (i := 5) (by kernel_rfl) (AOp.step rfl rfl rfl (ltb rfl) (appendFM_step (d := 35) hG rfl rfl rfl rfl rfl rfl rfl (fcellss_sz ([] : List LF)) rfl (fcellss_sz ([LF.mk k110 n110 q110 f110 ks110])) (flen ([] : List LF)) (flen ([LF.mk k110 n110 q110 f110 ks110])) (by simp [fers]) hc113 (by decide) (fcellss_app _ _)) (fun _ h => absurd h List.not_mem_nil) ?_)
   refine yTF hG 6 (by kernel_rfl) rfl ?_
   refine yW hG 7 (by kernel_rfl) rfl (by kernel_rfl) rfl ?_
   refine AAny.done (by kernel_rfl) ?_
   refine run_blk ?_
   refine run_region ?_
   refine yB rfl ?_
   refine yL rfl ?_
   refine run_ops_nil ?_
   exact run_loop_end ⟨n, _, Nat.le_refl _, ⟨(IntKind.i64.wrap (0 + 1)), (([] : List LF) ++ [LF.mk k110 n110 q110 f110 ks110]), tk107, (show tk ≤ tk107 by omega), (show Fr tk tk107 _ from (Fr.fcons ((show Fr tk tk107 _ from hf111 rfl)) (show Fr tk107 tk107 _ from Fr.nil _ _) (by omega) (by omega)).mono (by omega) (by omega)), hM, rfl⟩, Sub.trans (Sub.drop (k := 34) rfl) (Sub.trans (Sub.drop (k := 9) rfl) (Sub.pk [1, 2, 3, 6, 7, 24, 25, 26] rfl))⟩
  replace hM := ite_f hb91 hM
  refine run_exit_to rfl ?_
  refine run_seq ?_
  refine run_sr ?_
  refine yF hG rfl ?_
  refine yD hG rfl ?_
  refine yB rfl ?_
  refine run_ops_nil ?_
  obtain ⟨j114, hj167, hM⟩ := jn_t hM
  refine run_cutL [.code _] (fun σ' => ∃ (i115 : Int) (tkj114 : Nat), tk ≤ tkj114 ∧ j114 i115 = some r ∧ Sub ⟨Go.Proofs.Try.prog, S0, Go.Proofs.Try.f204.ntmps, [X0], fun _ => False, []⟩ σ' ⟨[(1, .int .i64 i115), (2, .fn (.func 205) [] [.optr (.bor 0) 0 0]), (3, .optr (.loc 3) 0 0), (6, .optr (.loc 6) 0 0), (7, .optr (.loc 7) 0 0)], [(7, ⟨40, 4, true, [[.int .i64 k1, .int .i64 0, .imm 0 3 true [], .imm 0 4 true []]]⟩), (6, ⟨40, 4, true, [[.int .i64 0, .int .i64 0, .imm 0 3 true [], .imm 0 4 true []]]⟩), (3, ⟨40, 4, true, [[.int .i64 k1, .int .i64 n1, .imm p1 3 e1 (fcellss fs1), .imm q1 4 f1 (pcellss ks1)]]⟩)], [⟨40, 4, true, [[.int .i64 k3, .int .i64 n3, .imm p3 3 e3 (fcellss fs3), .imm q3 4 f3 (pcellss ks3)]]⟩], O, tkj114⟩) rfl ?_ ?_
  ·refine run_ifd rfl rfl (fun hb116 => ?_) (fun hb116 => ?_)
   ·replace hM := ite_t hb116 hM
    refine run_region ?_
    refine yL rfl ?_
    refine yB rfl ?_
    refine yR rfl ?_
    refine run_ops_nil ?_
    exact ⟨(IntKind.i64.wrap (i2 + 1)), tk, (show tk ≤ tk by omega), hM, Sub.pk [1, 2, 3, 6, 7] rfl⟩
   replace hM := ite_f hb116 hM
   refine run_skip ?_
   exact ⟨i2, tk, (show tk ≤ tk by omega), hM, Sub.pk [1, 2, 3, 6, 7] rfl⟩
  clear hM
  rintro σ' ⟨i115, tkj114, hle166, hM, hsub⟩
  rw [hj167] at hM
  clear hj167
  refine run_sub_code hsub ?_
  refine run_seq ?_
  refine run_sr ?_
  refine yF hG rfl ?_
  refine yD hG rfl ?_
  refine run_pu rfl (lenImm_step hG rfl rfl rfl rfl (plen _)) rfl (ltb rfl) ?_
  refine yL rfl ?_
  refine run_ops_nil ?_
  refine run_block ?_
  refine run_peel (fun m σ => ∃ (i117 : Int) (ks118 : List LP) (tki_Expr_moved__fn_i_reduced_c1v_L3 : Nat), tkj114 ≤ tki_Expr_moved__fn_i_reduced_c1v_L3 ∧ Fr tkj114 tki_Expr_moved__fn_i_reduced_c1v_L3 (ptoks ks118) ∧ i_Expr_moved__fn_i_reduced_c1v_L3 (i_Expr_moved__fn_i_reduced_c1v n) (Pf.mk k1 n1 (fers fs1) (pers ks1)) (Pf.mk k3 n3 (fers fs3) (pers ks3)) i115 m i117 (pers ks118) = some r ∧ σ = ⟨[(1, .int .i64 i115), (2, .fn (.func 205) [] [.optr (.bor 0) 0 0]), (6, .optr (.loc 6) 0 0), (7, .optr (.loc 7) 0 0), (44, .imm q1 4 f1 (pcellss ks1)), (45, .int .i64 (((pers ks1)).length : Int)), (46, .int .i64 i117)], [(57, ⟨40, 4, false, pcellss ks118⟩), (7, ⟨40, 4, true, [[.int .i64 k1, .int .i64 0, .imm 0 3 true [], .osl (.loc 57)]]⟩), (6, ⟨40, 4, true, [[.int .i64 0, .int .i64 0, .imm 0 3 true [], .imm 0 4 true []]]⟩)], [⟨40, 4, true, [[.int .i64 k3, .int .i64 n3, .imm p3 3 e3 (fcellss fs3), .imm q3 4 f3 (pcellss ks3)]]⟩], O, tki_Expr_moved__fn_i_reduced_c1v_L3⟩) n ?_ (fun m σ hI => ?_)
  ·refine run_sr ?_
   refine yB rfl ?_
   refine run_ops_nil ?_
   refine run_seq ?_
   refine run_ifd rfl rfl (fun hb142 => ?_) (fun hb142 => ?_)
   ·replace hM := ite_t hb142 hM
    refine run_skip ?_
    refine run_seq ?_
    refine run_block ?_
    refine run_sr ?_
    obtain ⟨y143, hy144, hM⟩ := bind_t hM
    obtain ⟨k145, n145, p145, e145, fs145, q145, f145, ks145, rfl, hc146, hi147⟩ := pidx (ks := ks1) hy144
    refine run_pu rfl (indexImm_step hG rfl rfl rfl hi147 rfl rfl rfl rfl hc146) rfl (ltb rfl) ?_
    refine yD hG rfl ?_
    refine run_op rfl (alloc_step (d := 11) hG rfl rfl rfl) rfl (ltb rfl) ?_
    refine yS hG rfl ?_
    refine run_ops_nil ?_
    refine run_draw [.loc 7, .bor 0] (n := 10) mixed rfl (by intro x hx; simp only [List.mem_cons, List.not_mem_nil, or_false] at hx; rcases hx with rfl | rfl <;> rfl) ?_
    refine yTF hG 0 (by kernel_rfl) rfl ?_
    refine yTL hG 2 (by kernel_rfl) rfl ?_
    refine yTV 3 (by kernel_rfl) rfl ?_
    refine yTV 4 (by kernel_rfl) rfl ?_
    refine AAny.each (rs := [1, 5]) (by kernel_rfl) (fun h => by cases h) (fun i hi => ?_)
    simp only [List.mem_cons, List.not_mem_nil, or_false] at hi
    rcases hi with rfl | rfl
    ·refine AOp.rd rfl rfl rfl (ltb rfl) (aload_rd hG rfl rfl rfl (by first | (simp [ldok]; done) | exact List.not_mem_nil | trivial)) ?_
     obtain ⟨r148, hg149, hM⟩ := bind_t hM
     refine AAny.one (i := 5) (by kernel_rfl) (AOp.call rfl rfl rfl rfl (ltb rfl) rfl rfl rfl (fun _ h => absurd h List.not_mem_nil) (by intro x hx; have hx : x ∈ [ID.bor 0] := hx; simp only [List.mem_cons, List.not_mem_nil, or_false] at hx; subst hx; simp) (ih_i_Expr_moved__fn_i_reduced_c1v k145 n145 p145 e145 fs145 q145 f145 ks145 i115 (.bor 0) k3 n3 p3 e3 fs3 q3 f3 ks3 hg149 _ _ rfl) (callK_retX (fun v tk150 (hle151 : tkj114 ≤ tk150) h152 => ?_)))
     obtain ⟨k153, n153, p153, e153, fs153, q153, f153, ks153, rfl, rfl, hf154⟩ := h152
     refine AAny.one (i := 6) (by kernel_rfl) (AOp.step rfl rfl rfl (ltb rfl) (buildSlice_step (d := 56) hG rfl rfl rfl rfl rfl (by rfl) (by rfl) (by rfl) (by decide)) (fun _ h => absurd h List.not_mem_nil) ?_)
     obtain ⟨hc155, hM⟩ := chk_t hM
     try rw [show ((pers ([] : List LP)) ++ [(Pf.mk k153 n153 (fers fs153) (pers ks153))] : List Pf) = (pers (([] : List LP) ++ [LP.mk k153 n153 p153 e153 fs153 q153 f153 ks153])) from pers_app ([] : List LP) [LP.mk k153 n153 p153 e153 fs153 q153 f153 ks153]] at hM
     refine AAny.one (i := 7) (by kernel_rfl) (AOp.step rfl rfl rfl (ltb rfl) (appendFM_step (d := 57) hG rfl rfl rfl rfl rfl rfl rfl (pcellss_sz ([] : List LP)) rfl (pcellss_sz ([LP.mk k153 n153 p153 e153 fs153 q153 f153 ks153])) (plen ([] : List LP)) (plen ([LP.mk k153 n153 p153 e153 fs153 q153 f153 ks153])) (by simp [pers]) hc155 (by decide) (pcellss_app _ _)) (fun _ h => absurd h List.not_mem_nil) ?_)
     refine yTF hG 8 (by kernel_rfl) rfl ?_
     refine yW hG 9 (by kernel_rfl) rfl (by kernel_rfl) rfl ?_
     refine AAny.done (by kernel_rfl) ?_
     refine run_blk ?_
     refine run_sub_code (σ' := ⟨[(1, .int .i64 i115), (2, .fn (.func 205) [] [.optr (.bor 0) 0 0]), (6, .optr (.loc 6) 0 0), (7, .optr (.loc 7) 0 0), (44, .imm q1 4 f1 (pcellss ks1)), (45, .int .i64 (((pers ks1)).length : Int)), (46, .int .i64 0)], [(57, ⟨40, 4, false, pcellss (([] : List LP) ++ [LP.mk k153 n153 p153 e153 fs153 q153 f153 ks153])⟩), (7, ⟨40, 4, true, [[.int .i64 k1, .int .i64 0, .imm 0 3 true [], .osl (.loc 57)]]⟩), (6, ⟨40, 4, true, [[.int .i64 0, .int .i64 0, .imm 0 3 true [], .imm 0 4 true []]]⟩)], [⟨40, 4, true, [[.int .i64 k3, .int .i64 n3, .imm p3 3 e3 (fcellss fs3), .imm q3 4 f3 (pcellss ks3)]]⟩], O, tk150⟩) (Sub.trans (Sub.drop (k := 56) rfl) (Sub.trans (Sub.drop (k := 11) rfl) (Sub.trans (Sub.drop (k := 3) rfl) (Sub.env _ ⟨rfl, rfl, rfl, rfl, rfl, rfl, rfl, trivial⟩)))) ?_
     refine run_region ?_
     refine yB rfl ?_
     refine yL rfl ?_
     refine run_ops_nil ?_
     exact run_loop_end ⟨n, _, Nat.le_refl _, ⟨(IntKind.i64.wrap (0 + 1)), (([] : List LP) ++ [LP.mk k153 n153 p153 e153 fs153 q153 f153 ks153]), tk150, (show tkj114 ≤ tk150 by omega), (show Fr tkj114 tk150 _ from (Fr.pcons ((show Fr tkj114 tk150 _ from hf154 rfl)) (show Fr tk150 tk150 _ from Fr.nil _ _) (by omega) (by omega)).mono (by omega) (by omega)), hM, rfl⟩, Sub.pk [1, 2, 6, 7, 44, 45, 46] rfl⟩
    obtain ⟨r156, hg157, hM⟩ := bind_t hM
    refine AOp.call rfl rfl rfl rfl (ltb rfl) rfl rfl rfl (fun _ h => absurd h List.not_mem_nil) (by intro x hx; have hx : x ∈ [ID.bor 0] := hx; simp only [List.mem_cons, List.not_mem_nil, or_false] at hx; subst hx; simp) (ih_i_Expr_moved__fn_i_reduced_c1v k145 n145 p145 e145 fs145 q145 f145 ks145 i115 (.bor 0) k3 n3 p3 e3 fs3 q3 f3 ks3 hg157 _ _ rfl) (callK_retX (fun v tk158 (hle159 : tkj114 ≤ tk158) h160 => ?_))
    obtain ⟨k161, n161, p161, e161, fs161, q161, f161, ks161, rfl, rfl, hf162⟩ := h160
    refine AAny.each (rs := [1, 6]) (by kernel_rfl) (fun h => by cases h) (fun i hi => ?_)
    simp only [List.mem_cons, List.not_mem_nil, or_false] at hi
    rcases hi with rfl | rfl
    ·refine AOp.rd rfl rfl rfl (ltb rfl) (aload_rd hG rfl rfl rfl (by first | (simp [ldok]; done) | exact List.not_mem_nil | trivial)) ?_
     refine AAny.one (i := 6) (by kernel_rfl) (AOp.step rfl rfl rfl (ltb rfl) (buildSlice_step (d := 56) hG rfl rfl rfl rfl rfl (by rfl) (by rfl) (by rfl) (by decide)) (fun _ h => absurd h List.not_mem_nil) ?_)
     obtain ⟨hc163, hM⟩ := chk_t hM
     try rw [show ((pers ([] : List LP)) ++ [(Pf.mk k161 n161 (fers fs161) (pers ks161))] : List Pf) = (pers (([] : List LP) ++ [LP.mk k161 n161 p161 e161 fs161 q161 f161 ks161])) from pers_app ([] : List LP) [LP.mk k161 n161 p161 e161 fs161 q161 f161 ks161]] at hM
     refine AAny.one (i := 7) (by kernel_rfl) (AOp.step rfl rfl rfl (ltb rfl) (appendFM_step (d := 57) hG rfl rfl rfl rfl rfl rfl rfl (pcellss_sz ([] : List LP)) rfl (pcellss_sz ([LP.mk k161 n161 p161 e161 fs161 q161 f161 ks161])) (plen ([] : List LP)) (plen ([LP.mk k161 n161 p161 e161 fs161 q161 f161 ks161])) (by simp [pers]) hc163 (by decide) (pcellss_app _ _)) (fun _ h => absurd h List.not_mem_nil) ?_)
     refine yTF hG 8 (by kernel_rfl) rfl ?_
     refine yW hG 9 (by kernel_rfl) rfl (by kernel_rfl) rfl ?_
     refine AAny.done (by kernel_rfl) ?_
     refine run_blk ?_
     refine run_sub_code (σ' := ⟨[(1, .int .i64 i115), (2, .fn (.func 205) [] [.optr (.bor 0) 0 0]), (6, .optr (.loc 6) 0 0), (7, .optr (.loc 7) 0 0), (44, .imm q1 4 f1 (pcellss ks1)), (45, .int .i64 (((pers ks1)).length : Int)), (46, .int .i64 0)], [(57, ⟨40, 4, false, pcellss (([] : List LP) ++ [LP.mk k161 n161 p161 e161 fs161 q161 f161 ks161])⟩), (7, ⟨40, 4, true, [[.int .i64 k1, .int .i64 0, .imm 0 3 true [], .osl (.loc 57)]]⟩), (6, ⟨40, 4, true, [[.int .i64 0, .int .i64 0, .imm 0 3 true [], .imm 0 4 true []]]⟩)], [⟨40, 4, true, [[.int .i64 k3, .int .i64 n3, .imm p3 3 e3 (fcellss fs3), .imm q3 4 f3 (pcellss ks3)]]⟩], O, tk158⟩) (Sub.trans (Sub.drop (k := 56) rfl) (Sub.trans (Sub.drop (k := 11) rfl) (Sub.trans (Sub.drop (k := 3) rfl) (Sub.env _ ⟨rfl, rfl, rfl, rfl, rfl, rfl, rfl, trivial⟩)))) ?_
     refine run_region ?_
     refine yB rfl ?_
     refine yL rfl ?_
     refine run_ops_nil ?_
     exact run_loop_end ⟨n, _, Nat.le_refl _, ⟨(IntKind.i64.wrap (0 + 1)), (([] : List LP) ++ [LP.mk k161 n161 p161 e161 fs161 q161 f161 ks161]), tk158, (show tkj114 ≤ tk158 by omega), (show Fr tkj114 tk158 _ from (Fr.pcons ((show Fr tkj114 tk158 _ from hf162 rfl)) (show Fr tk158 tk158 _ from Fr.nil _ _) (by omega) (by omega)).mono (by omega) (by omega)), hM, rfl⟩, Sub.pk [1, 2, 6, 7, 44, 45, 46] rfl⟩
    refine AOp.step rfl rfl rfl (ltb rfl) (buildSlice_step (d := 56) hG rfl rfl rfl rfl rfl (by rfl) (by rfl) (by rfl) (by decide)) (fun _ h => absurd h List.not_mem_nil) ?_
    refine AAny.one (i := 1) (by kernel_rfl) (AOp.rd rfl rfl rfl (ltb rfl) (aload_rd hG rfl rfl rfl (by first | (simp [ldok]; done) | exact List.not_mem_nil | trivial)) ?_)
    obtain ⟨hc164, hM⟩ := chk_t hM
    try rw [show ((pers ([] : List LP)) ++ [(Pf.mk k161 n161 (fers fs161) (pers ks161))] : List Pf) = (pers (([] : List LP) ++ [LP.mk k161 n161 p161 e161 fs161 q161 f161 ks161])) from pers_app ([] : List LP) [LP.mk k161 n161 p161 e161 fs161 q161 f161 ks161]] at hM
    refine AAny.one (i := 7) (by kernel_rfl) (AOp.step rfl rfl rfl (ltb rfl) (appendFM_step (d := 57) hG rfl rfl rfl rfl rfl rfl rfl (pcellss_sz ([] : List LP)) rfl (pcellss_sz ([LP.mk k161 n161 p161 e161 fs161 q161 f161 ks161])) (plen ([] : List LP)) (plen ([LP.mk k161 n161 p161 e161 fs161 q161 f161 ks161])) (by simp [pers]) hc164 (by decide) (pcellss_app _ _)) (fun _ h => absurd h List.not_mem_nil) ?_)
    refine yTF hG 8 (by kernel_rfl) rfl ?_
    refine yW hG 9 (by kernel_rfl) rfl (by kernel_rfl) rfl ?_
    refine AAny.done (by kernel_rfl) ?_
    refine run_blk ?_
    refine run_sub_code (σ' := ⟨[(1, .int .i64 i115), (2, .fn (.func 205) [] [.optr (.bor 0) 0 0]), (6, .optr (.loc 6) 0 0), (7, .optr (.loc 7) 0 0), (44, .imm q1 4 f1 (pcellss ks1)), (45, .int .i64 (((pers ks1)).length : Int)), (46, .int .i64 0)], [(57, ⟨40, 4, false, pcellss (([] : List LP) ++ [LP.mk k161 n161 p161 e161 fs161 q161 f161 ks161])⟩), (7, ⟨40, 4, true, [[.int .i64 k1, .int .i64 0, .imm 0 3 true [], .osl (.loc 57)]]⟩), (6, ⟨40, 4, true, [[.int .i64 0, .int .i64 0, .imm 0 3 true [], .imm 0 4 true []]]⟩)], [⟨40, 4, true, [[.int .i64 k3, .int .i64 n3, .imm p3 3 e3 (fcellss fs3), .imm q3 4 f3 (pcellss ks3)]]⟩], O, tk158⟩) (Sub.trans (Sub.drop (k := 56) rfl) (Sub.trans (Sub.drop (k := 11) rfl) (Sub.trans (Sub.drop (k := 3) rfl) (Sub.env _ ⟨rfl, rfl, rfl, rfl, rfl, rfl, rfl, trivial⟩)))) ?_
    refine run_region ?_
    refine yB rfl ?_
    refine yL rfl ?_
    refine run_ops_nil ?_
    exact run_loop_end ⟨n, _, Nat.le_refl _, ⟨(IntKind.i64.wrap (0 + 1)), (([] : List LP) ++ [LP.mk k161 n161 p161 e161 fs161 q161 f161 ks161]), tk158, (show tkj114 ≤ tk158 by omega), (show Fr tkj114 tk158 _ from (Fr.pcons ((show Fr tkj114 tk158 _ from hf162 rfl)) (show Fr tk158 tk158 _ from Fr.nil _ _) (by omega) (by omega)).mono (by omega) (by omega)), hM, rfl⟩, Sub.pk [1, 2, 6, 7, 44, 45, 46] rfl⟩
   replace hM := ite_f hb142 hM
   refine run_exit_to rfl ?_
   refine run_sr ?_
   refine yD hG rfl ?_
   refine yS hG rfl ?_
   refine run_ops_nil ?_
   refine run_ret_to ?_
   replace hM := some_t hM
   subst hM
   refine fin_x hG rfl rfl rfl (v' := .agg [.int .i64 k1, .int .i64 0, .imm 0 3 true (fcellss []), .imm 0 4 true (pcellss [])]) (by rfl) ⟨out_same (Bor.one hX0 rfl), (show tk ≤ tkj114 by omega), _, rfl, ⟨k1, 0, 0, true, [], 0, true, [], rfl, rfl, fun _ => Fr.nil _ _⟩⟩
  clear hM
  obtain ⟨i117, ks118, tki_Expr_moved__fn_i_reduced_c1v_L3, hle165, hfr118, hM, rfl⟩ := hI
  obtain _ | m := m
  ·exact absurd hM (by rw [i_Expr_moved__fn_i_reduced_c1v_L3]; exact fun h => by cases h)
  rw [i_Expr_moved__fn_i_reduced_c1v_L3] at hM
  refine run_sr ?_
  refine yB rfl ?_
  refine run_ops_nil ?_
  refine run_seq ?_
  refine run_ifd rfl rfl (fun hb119 => ?_) (fun hb119 => ?_)
  ·replace hM := ite_t hb119 hM
   refine run_skip ?_
   refine run_seq ?_
   refine run_block ?_
   refine run_sr ?_
   obtain ⟨y120, hy121, hM⟩ := bind_t hM
   obtain ⟨k122, n122, p122, e122, fs122, q122, f122, ks122, rfl, hc123, hi124⟩ := pidx (ks := ks1) hy121
   refine run_pu rfl (indexImm_step hG rfl rfl rfl hi124 rfl rfl rfl rfl hc123) rfl (ltb rfl) ?_
   refine yD hG rfl ?_
   refine run_op rfl (alloc_step (d := 11) hG rfl rfl rfl) rfl (ltb rfl) ?_
   refine yS hG rfl ?_
   refine run_ops_nil ?_
   refine run_draw [.loc 7, .bor 0, .loc 57] (n := 10) mixed rfl (by intro x hx; simp only [List.mem_cons, List.not_mem_nil, or_false] at hx; rcases hx with rfl | rfl | rfl <;> rfl) ?_
   refine yTF hG 0 (by kernel_rfl) rfl ?_
   refine yTL hG 2 (by kernel_rfl) rfl ?_
   refine yTV 3 (by kernel_rfl) rfl ?_
   refine yTV 4 (by kernel_rfl) rfl ?_
   refine AAny.each (rs := [1, 5]) (by kernel_rfl) (fun h => by cases h) (fun i hi => ?_)
   simp only [List.mem_cons, List.not_mem_nil, or_false] at hi
   rcases hi with rfl | rfl
   ·refine AOp.rd rfl rfl rfl (ltb rfl) (aload_rd hG rfl rfl rfl (by first | (simp [ldok]; done) | exact List.not_mem_nil | trivial)) ?_
    obtain ⟨r125, hg126, hM⟩ := bind_t hM
    refine AAny.one (i := 5) (by kernel_rfl) (AOp.call rfl rfl rfl rfl (ltb rfl) rfl rfl rfl (fun _ h => absurd h List.not_mem_nil) (by intro x hx; have hx : x ∈ [ID.bor 0] := hx; simp only [List.mem_cons, List.not_mem_nil, or_false] at hx; subst hx; simp) (ih_i_Expr_moved__fn_i_reduced_c1v k122 n122 p122 e122 fs122 q122 f122 ks122 i115 (.bor 0) k3 n3 p3 e3 fs3 q3 f3 ks3 hg126 _ _ rfl) (callK_retX (fun v tk127 (hle128 : tki_Expr_moved__fn_i_reduced_c1v_L3 ≤ tk127) h129 => ?_)))
    obtain ⟨k130, n130, p130, e130, fs130, q130, f130, ks130, rfl, rfl, hf131⟩ := h129
    refine AAny.one (i := 6) (by kernel_rfl) (AOp.step rfl rfl rfl (ltb rfl) (buildSlice_step (d := 56) hG rfl rfl rfl rfl rfl (by rfl) (by rfl) (by rfl) (by decide)) (fun _ h => absurd h List.not_mem_nil) ?_)
    obtain ⟨hc132, hM⟩ := chk_t hM
    try rw [show ((pers ks118) ++ [(Pf.mk k130 n130 (fers fs130) (pers ks130))] : List Pf) = (pers (ks118 ++ [LP.mk k130 n130 p130 e130 fs130 q130 f130 ks130])) from pers_app ks118 [LP.mk k130 n130 p130 e130 fs130 q130 f130 ks130]] at hM
    refine AAny.one (i := 7) (by kernel_rfl) (AOp.step rfl rfl rfl (ltb rfl) (appendM_step hG rfl rfl rfl rfl rfl rfl rfl rfl rfl rfl rfl (pcellss_sz ([LP.mk k130 n130 p130 e130 fs130 q130 f130 ks130])) (plen ks118) (plen ([LP.mk k130 n130 p130 e130 fs130 q130 f130 ks130])) hc132 (by decide) (pcellss_app _ _)) (by intro x hx; simp only [List.mem_cons, List.not_mem_nil, or_false] at hx; subst hx; simp) ?_)
    refine yTF hG 8 (by kernel_rfl) rfl ?_
    refine yW hG 9 (by kernel_rfl) rfl (by kernel_rfl) rfl ?_
    refine AAny.done (by kernel_rfl) ?_
    refine run_blk ?_
    refine run_sub_code (σ' := ⟨[(1, .int .i64 i115), (2, .fn (.func 205) [] [.optr (.bor 0) 0 0]), (6, .optr (.loc 6) 0 0), (7, .optr (.loc 7) 0 0), (44, .imm q1 4 f1 (pcellss ks1)), (45, .int .i64 (((pers ks1)).length : Int)), (46, .int .i64 i117)], [(57, ⟨40, 4, false, pcellss (ks118 ++ [LP.mk k130 n130 p130 e130 fs130 q130 f130 ks130])⟩), (7, ⟨40, 4, true, [[.int .i64 k1, .int .i64 0, .imm 0 3 true [], .osl (.loc 57)]]⟩), (6, ⟨40, 4, true, [[.int .i64 0, .int .i64 0, .imm 0 3 true [], .imm 0 4 true []]]⟩)], [⟨40, 4, true, [[.int .i64 k3, .int .i64 n3, .imm p3 3 e3 (fcellss fs3), .imm q3 4 f3 (pcellss ks3)]]⟩], O, tk127⟩) (Sub.trans (Sub.drop (k := 56) rfl) (Sub.trans (Sub.drop (k := 11) rfl) (Sub.env _ ⟨rfl, rfl, rfl, rfl, rfl, rfl, rfl, trivial⟩))) ?_
    refine run_region ?_
    refine yB rfl ?_
    refine yL rfl ?_
    refine run_ops_nil ?_
    exact run_loop_end ⟨m, _, Nat.lt_succ_self _, ⟨(IntKind.i64.wrap (i117 + 1)), (ks118 ++ [LP.mk k130 n130 p130 e130 fs130 q130 f130 ks130]), tk127, (show tkj114 ≤ tk127 by omega), (show Fr tkj114 tk127 _ from (Fr.psnoc (show Fr tkj114 tki_Expr_moved__fn_i_reduced_c1v_L3 _ from (hfr118).mono (by omega) (by omega)) ((show Fr tki_Expr_moved__fn_i_reduced_c1v_L3 tk127 _ from hf131 rfl)) (by omega) (by omega)).mono (by omega) (by omega)), hM, rfl⟩, Sub.pk [1, 2, 6, 7, 44, 45, 46] rfl⟩
   obtain ⟨r133, hg134, hM⟩ := bind_t hM
   refine AOp.call rfl rfl rfl rfl (ltb rfl) rfl rfl rfl (fun _ h => absurd h List.not_mem_nil) (by intro x hx; have hx : x ∈ [ID.bor 0] := hx; simp only [List.mem_cons, List.not_mem_nil, or_false] at hx; subst hx; simp) (ih_i_Expr_moved__fn_i_reduced_c1v k122 n122 p122 e122 fs122 q122 f122 ks122 i115 (.bor 0) k3 n3 p3 e3 fs3 q3 f3 ks3 hg134 _ _ rfl) (callK_retX (fun v tk135 (hle136 : tki_Expr_moved__fn_i_reduced_c1v_L3 ≤ tk135) h137 => ?_))
   obtain ⟨k138, n138, p138, e138, fs138, q138, f138, ks138, rfl, rfl, hf139⟩ := h137
   refine AAny.each (rs := [1, 6]) (by kernel_rfl) (fun h => by cases h) (fun i hi => ?_)
   simp only [List.mem_cons, List.not_mem_nil, or_false] at hi
   rcases hi with rfl | rfl
   ·refine AOp.rd rfl rfl rfl (ltb rfl) (aload_rd hG rfl rfl rfl (by first | (simp [ldok]; done) | exact List.not_mem_nil | trivial)) ?_
    refine AAny.one (i := 6) (by kernel_rfl) (AOp.step rfl rfl rfl (ltb rfl) (buildSlice_step (d := 56) hG rfl rfl rfl rfl rfl (by rfl) (by rfl) (by rfl) (by decide)) (fun _ h => absurd h List.not_mem_nil) ?_)
    obtain ⟨hc140, hM⟩ := chk_t hM
    try rw [show ((pers ks118) ++ [(Pf.mk k138 n138 (fers fs138) (pers ks138))] : List Pf) = (pers (ks118 ++ [LP.mk k138 n138 p138 e138 fs138 q138 f138 ks138])) from pers_app ks118 [LP.mk k138 n138 p138 e138 fs138 q138 f138 ks138]] at hM
    refine AAny.one (i := 7) (by kernel_rfl) (AOp.step rfl rfl rfl (ltb rfl) (appendM_step hG rfl rfl rfl rfl rfl rfl rfl rfl rfl rfl rfl (pcellss_sz ([LP.mk k138 n138 p138 e138 fs138 q138 f138 ks138])) (plen ks118) (plen ([LP.mk k138 n138 p138 e138 fs138 q138 f138 ks138])) hc140 (by decide) (pcellss_app _ _)) (by intro x hx; simp only [List.mem_cons, List.not_mem_nil, or_false] at hx; subst hx; simp) ?_)
    refine yTF hG 8 (by kernel_rfl) rfl ?_
    refine yW hG 9 (by kernel_rfl) rfl (by kernel_rfl) rfl ?_
    refine AAny.done (by kernel_rfl) ?_
    refine run_blk ?_
    refine run_sub_code (σ' := ⟨[(1, .int .i64 i115), (2, .fn (.func 205) [] [.optr (.bor 0) 0 0]), (6, .optr (.loc 6) 0 0), (7, .optr (.loc 7) 0 0), (44, .imm q1 4 f1 (pcellss ks1)), (45, .int .i64 (((pers ks1)).length : Int)), (46, .int .i64 i117)], [(57, ⟨40, 4, false, pcellss (ks118 ++ [LP.mk k138 n138 p138 e138 fs138 q138 f138 ks138])⟩), (7, ⟨40, 4, true, [[.int .i64 k1, .int .i64 0, .imm 0 3 true [], .osl (.loc 57)]]⟩), (6, ⟨40, 4, true, [[.int .i64 0, .int .i64 0, .imm 0 3 true [], .imm 0 4 true []]]⟩)], [⟨40, 4, true, [[.int .i64 k3, .int .i64 n3, .imm p3 3 e3 (fcellss fs3), .imm q3 4 f3 (pcellss ks3)]]⟩], O, tk135⟩) (Sub.trans (Sub.drop (k := 56) rfl) (Sub.trans (Sub.drop (k := 11) rfl) (Sub.env _ ⟨rfl, rfl, rfl, rfl, rfl, rfl, rfl, trivial⟩))) ?_
    refine run_region ?_
    refine yB rfl ?_
    refine yL rfl ?_
    refine run_ops_nil ?_
    exact run_loop_end ⟨m, _, Nat.lt_succ_self _, ⟨(IntKind.i64.wrap (i117 + 1)), (ks118 ++ [LP.mk k138 n138 p138 e138 fs138 q138 f138 ks138]), tk135, (show tkj114 ≤ tk135 by omega), (show Fr tkj114 tk135 _ from (Fr.psnoc (show Fr tkj114 tki_Expr_moved__fn_i_reduced_c1v_L3 _ from (hfr118).mono (by omega) (by omega)) ((show Fr tki_Expr_moved__fn_i_reduced_c1v_L3 tk135 _ from hf139 rfl)) (by omega) (by omega)).mono (by omega) (by omega)), hM, rfl⟩, Sub.pk [1, 2, 6, 7, 44, 45, 46] rfl⟩
   refine AOp.step rfl rfl rfl (ltb rfl) (buildSlice_step (d := 56) hG rfl rfl rfl rfl rfl (by rfl) (by rfl) (by rfl) (by decide)) (fun _ h => absurd h List.not_mem_nil) ?_
   refine AAny.one (i := 1) (by kernel_rfl) (AOp.rd rfl rfl rfl (ltb rfl) (aload_rd hG rfl rfl rfl (by first | (simp [ldok]; done) | exact List.not_mem_nil | trivial)) ?_)
   obtain ⟨hc141, hM⟩ := chk_t hM
   try rw [show ((pers ks118) ++ [(Pf.mk k138 n138 (fers fs138) (pers ks138))] : List Pf) = (pers (ks118 ++ [LP.mk k138 n138 p138 e138 fs138 q138 f138 ks138])) from pers_app ks118 [LP.mk k138 n138 p138 e138 fs138 q138 f138 ks138]] at hM
   refine AAny.one (i := 7) (by kernel_rfl) (AOp.step rfl rfl rfl (ltb rfl) (appendM_step hG rfl rfl rfl rfl rfl rfl rfl rfl rfl rfl rfl (pcellss_sz ([LP.mk k138 n138 p138 e138 fs138 q138 f138 ks138])) (plen ks118) (plen ([LP.mk k138 n138 p138 e138 fs138 q138 f138 ks138])) hc141 (by decide) (pcellss_app _ _)) (by intro x hx; simp only [List.mem_cons, List.not_mem_nil, or_false] at hx; subst hx; simp) ?_)
   refine yTF hG 8 (by kernel_rfl) rfl ?_
   refine yW hG 9 (by kernel_rfl) rfl (by kernel_rfl) rfl ?_
   refine AAny.done (by kernel_rfl) ?_
   refine run_blk ?_
   refine run_sub_code (σ' := ⟨[(1, .int .i64 i115), (2, .fn (.func 205) [] [.optr (.bor 0) 0 0]), (6, .optr (.loc 6) 0 0), (7, .optr (.loc 7) 0 0), (44, .imm q1 4 f1 (pcellss ks1)), (45, .int .i64 (((pers ks1)).length : Int)), (46, .int .i64 i117)], [(57, ⟨40, 4, false, pcellss (ks118 ++ [LP.mk k138 n138 p138 e138 fs138 q138 f138 ks138])⟩), (7, ⟨40, 4, true, [[.int .i64 k1, .int .i64 0, .imm 0 3 true [], .osl (.loc 57)]]⟩), (6, ⟨40, 4, true, [[.int .i64 0, .int .i64 0, .imm 0 3 true [], .imm 0 4 true []]]⟩)], [⟨40, 4, true, [[.int .i64 k3, .int .i64 n3, .imm p3 3 e3 (fcellss fs3), .imm q3 4 f3 (pcellss ks3)]]⟩], O, tk135⟩) (Sub.trans (Sub.drop (k := 56) rfl) (Sub.trans (Sub.drop (k := 11) rfl) (Sub.env _ ⟨rfl, rfl, rfl, rfl, rfl, rfl, rfl, trivial⟩))) ?_
   refine run_region ?_
   refine yB rfl ?_
   refine yL rfl ?_
   refine run_ops_nil ?_
   exact run_loop_end ⟨m, _, Nat.lt_succ_self _, ⟨(IntKind.i64.wrap (i117 + 1)), (ks118 ++ [LP.mk k138 n138 p138 e138 fs138 q138 f138 ks138]), tk135, (show tkj114 ≤ tk135 by omega), (show Fr tkj114 tk135 _ from (Fr.psnoc (show Fr tkj114 tki_Expr_moved__fn_i_reduced_c1v_L3 _ from (hfr118).mono (by omega) (by omega)) ((show Fr tki_Expr_moved__fn_i_reduced_c1v_L3 tk135 _ from hf139 rfl)) (by omega) (by omega)).mono (by omega) (by omega)), hM, rfl⟩, Sub.pk [1, 2, 6, 7, 44, 45, 46] rfl⟩
  replace hM := ite_f hb119 hM
  refine run_exit_to rfl ?_
  refine run_sr ?_
  refine yD hG rfl ?_
  refine yS hG rfl ?_
  refine run_ops_nil ?_
  refine run_ret_to ?_
  refine fin_sub (Sub.freeze (k := 57) rfl rfl) ?_
  replace hM := some_t hM
  subst hM
  refine fin_x hG rfl rfl rfl (v' := .agg [.int .i64 k1, .int .i64 0, .imm 0 3 true (fcellss []), .imm tki_Expr_moved__fn_i_reduced_c1v_L3 4 false (pcellss ks118)]) (by rfl) ⟨out_same (Bor.one hX0 rfl), (show tk ≤ (tki_Expr_moved__fn_i_reduced_c1v_L3 + 1) by omega), _, rfl, ⟨k1, 0, 0, true, [], tki_Expr_moved__fn_i_reduced_c1v_L3, false, ks118, rfl, rfl, fun _ => (show Fr tk (tki_Expr_moved__fn_i_reduced_c1v_L3 + 1) _ from (Fr.app (show Fr tkj114 tkj114 _ from Fr.nil _ _) (show Fr tkj114 (tki_Expr_moved__fn_i_reduced_c1v_L3 + 1) _ from Fr.pstop (show Fr tkj114 tki_Expr_moved__fn_i_reduced_c1v_L3 _ from (hfr118).mono (by omega) (by omega)) (by omega) (by omega)) (by omega) (by omega)).mono (by omega) (by omega))⟩⟩
 clear hM
 obtain ⟨i12, ks13, tki_Expr_moved__fn_i_reduced_c1v_L1, hle168, hfr13, hM, rfl⟩ := hI
 obtain _ | m := m
 ·exact absurd hM (by rw [i_Expr_moved__fn_i_reduced_c1v_L1]; exact fun h => by cases h)
 rw [i_Expr_moved__fn_i_reduced_c1v_L1] at hM
 refine run_sr ?_
 refine yB rfl ?_
 refine run_ops_nil ?_
 refine run_seq ?_
 refine run_ifd rfl rfl (fun hb14 => ?_) (fun hb14 => ?_)
 ·replace hM := ite_t hb14 hM
  refine run_skip ?_
  refine run_seq ?_
  refine run_block ?_
  refine run_sr ?_
  obtain ⟨y15, hy16, hM⟩ := bind_t hM
  obtain ⟨k17, n17, q17, f17, ks17, rfl, hc18, hi19⟩ := fidx (ks := fs1) hy16
  refine run_pu rfl (indexImm_step hG rfl rfl rfl hi19 rfl rfl rfl rfl hc18) rfl (ltb rfl) ?_
  refine yD hG rfl ?_
  refine run_op rfl (alloc_step (d := 9) hG rfl rfl rfl) rfl (ltb rfl) ?_
  refine yS hG rfl ?_
  refine run_ops_nil ?_
  refine run_draw [.loc 7, .loc 35] (n := 8) mixed rfl (by intro x hx; simp only [List.mem_cons, List.not_mem_nil, or_false] at hx; rcases hx with rfl | rfl <;> rfl) ?_
  refine yTF hG 0 (by kernel_rfl) rfl ?_
  refine yTL hG 2 (by kernel_rfl) rfl ?_
  refine AAny.each (rs := [1, 3]) (by kernel_rfl) (fun h => by cases h) (fun i hi => ?_)
  simp only [List.mem_cons, List.not_mem_nil, or_false] at hi
  rcases hi with rfl | rfl
  ·refine AOp.rd rfl rfl rfl (ltb rfl) (aload_rd hG rfl rfl rfl (by first | (simp [ldok]; done) | exact List.not_mem_nil | trivial)) ?_
   obtain ⟨r20, hg21, hM⟩ := bind_t hM
   refine yC 3 (by kernel_rfl) rfl rfl (i_cloneType_ok n k17 n17 q17 f17 ks17 hg21 _ _) (callK_retX (fun v tk22 (hle23 : tki_Expr_moved__fn_i_reduced_c1v_L1 ≤ tk22) h24 => ?_))
   obtain ⟨k25, n25, q25, f25, ks25, rfl, rfl, hf26⟩ := h24
   refine AAny.one (i := 4) (by kernel_rfl) (AOp.step rfl rfl rfl (ltb rfl) (buildSlice_step (d := 34) hG rfl rfl rfl rfl rfl (by rfl) (by rfl) (by rfl) (by decide)) (fun _ h => absurd h List.not_mem_nil) ?_)
   obtain ⟨hc27, hM⟩ := chk_t hM
   try rw [show ((fers ks13) ++ [(F.mk k25 n25 (fers ks25))] : List F) = (fers (ks13 ++ [LF.mk k25 n25 q25 f25 ks25])) from fers_app ks13 [LF.mk k25 n25 q25 f25 ks25]] at hM
   refine AAny.one (i := 5) (by kernel_rfl) (AOp.step rfl rfl rfl (ltb rfl) (appendM_step hG rfl rfl rfl rfl rfl rfl rfl rfl rfl rfl rfl (fcellss_sz ([LF.mk k25 n25 q25 f25 ks25])) (flen ks13) (flen ([LF.mk k25 n25 q25 f25 ks25])) hc27 (by decide) (fcellss_app _ _)) (by intro x hx; simp only [List.mem_cons, List.not_mem_nil, or_false] at hx; subst hx; simp) ?_)
   refine yTF hG 6 (by kernel_rfl) rfl ?_
   refine yW hG 7 (by kernel_rfl) rfl (by kernel_rfl) rfl ?_
   refine AAny.done (by kernel_rfl) ?_
   refine run_blk ?_
   refine run_region ?_
   refine yB rfl ?_
   refine yL rfl ?_
   refine run_ops_nil ?_
   exact run_loop_end ⟨m, _, Nat.lt_succ_self _, ⟨(IntKind.i64.wrap (i12 + 1)), (ks13 ++ [LF.mk k25 n25 q25 f25 ks25]), tk22, (show tk ≤ tk22 by omega), (show Fr tk tk22 _ from (Fr.fsnoc (show Fr tk tki_Expr_moved__fn_i_reduced_c1v_L1 _ from (hfr13).mono (by omega) (by omega)) ((show Fr tki_Expr_moved__fn_i_reduced_c1v_L1 tk22 _ from hf26 rfl)) (by omega) (by omega)).mono (by omega) (by omega)), hM, rfl⟩, Sub.trans (Sub.drop (k := 34) rfl) (Sub.trans (Sub.drop (k := 9) rfl) (Sub.pk [1, 2, 3, 6, 7, 24, 25, 26] rfl))⟩
  obtain ⟨r28, hg29, hM⟩ := bind_t hM
  refine yI rfl rfl (i_cloneType_ok n k17 n17 q17 f17 ks17 hg29 _ _) (callK_retX (fun v tk30 (hle31 : tki_Expr_moved__fn_i_reduced_c1v_L1 ≤ tk30) h32 => ?_))
  obtain ⟨k33, n33, q33, f33, ks33, rfl, rfl, hf34⟩ := h32
  refine AAny.each (rs := [1, 4]) (by kernel_rfl) (fun h => by cases h) (fun i hi => ?_)
  simp only [List.mem_cons, List.not_mem_nil, or_false] at hi
  rcases hi with rfl | rfl
  ·refine AOp.rd rfl rfl rfl (ltb rfl) (aload_rd hG rfl rfl rfl (by first | (simp [ldok]; done) | exact List.not_mem_nil | trivial)) ?_
   refine AAny.one (i := 4) (by kernel_rfl) (AOp.step rfl rfl rfl (ltb rfl) (buildSlice_step (d := 34) hG rfl rfl rfl rfl rfl (by rfl) (by rfl) (by rfl) (by decide)) (fun _ h => absurd h List.not_mem_nil) ?_)
   obtain ⟨hc35, hM⟩ := chk_t hM
   try rw [show ((fers ks13) ++ [(F.mk k33 n33 (fers ks33))] : List F) = (fers (ks13 ++ [LF.mk k33 n33 q33 f33 ks33])) from fers_app ks13 [LF.mk k33 n33 q33 f33 ks33]] at hM
   refine AAny.one (i := 5) (by kernel_rfl) (AOp.step rfl rfl rfl (ltb rfl) (appendM_step hG rfl rfl rfl rfl rfl rfl rfl rfl rfl rfl rfl (fcellss_sz ([LF.mk k33 n33 q33 f33 ks33])) (flen ks13) (flen ([LF.mk k33 n33 q33 f33 ks33])) hc35 (by decide) (fcellss_app _ _)) (by intro x hx; simp only [List.mem_cons, List.not_mem_nil, or_false] at hx; subst hx; simp) ?_)
   refine yTF hG 6 (by kernel_rfl) rfl ?_
   refine yW hG 7 (by kernel_rfl) rfl (by kernel_rfl) rfl ?_
   refine AAny.done (by kernel_rfl) ?_
   refine run_blk ?_
   refine run_region ?_
   refine yB rfl ?_
   refine yL rfl ?_
   refine run_ops_nil ?_
   exact run_loop_end ⟨m, _, Nat.lt_succ_self _, ⟨(IntKind.i64.wrap (i12 + 1)), (ks13 ++ [LF.mk k33 n33 q33 f33 ks33]), tk30, (show tk ≤ tk30 by omega), (show Fr tk tk30 _ from (Fr.fsnoc (show Fr tk tki_Expr_moved__fn_i_reduced_c1v_L1 _ from (hfr13).mono (by omega) (by omega)) ((show Fr tki_Expr_moved__fn_i_reduced_c1v_L1 tk30 _ from hf34 rfl)) (by omega) (by omega)).mono (by omega) (by omega)), hM, rfl⟩, Sub.trans (Sub.drop (k := 34) rfl) (Sub.trans (Sub.drop (k := 9) rfl) (Sub.pk [1, 2, 3, 6, 7, 24, 25, 26] rfl))⟩
  refine AOp.step rfl rfl rfl (ltb rfl) (buildSlice_step (d := 34) hG rfl rfl rfl rfl rfl (by rfl) (by rfl) (by rfl) (by decide)) (fun _ h => absurd h List.not_mem_nil) ?_
  refine AAny.one (i := 1) (by kernel_rfl) (AOp.rd rfl rfl rfl (ltb rfl) (aload_rd hG rfl rfl rfl (by first | (simp [ldok]; done) | exact List.not_mem_nil | trivial)) ?_)
  obtain ⟨hc36, hM⟩ := chk_t hM
  try rw [show ((fers ks13) ++ [(F.mk k33 n33 (fers ks33))] : List F) = (fers (ks13 ++ [LF.mk k33 n33 q33 f33 ks33])) from fers_app ks13 [LF.mk k33 n33 q33 f33 ks33]] at hM
  refine AAny.one (i := 5) (by kernel_rfl) (AOp.step rfl rfl rfl (ltb rfl) (appendM_step hG rfl rfl rfl rfl rfl rfl rfl rfl rfl rfl rfl (fcellss_sz ([LF.mk k33 n33 q33 f33 ks33])) (flen ks13) (flen ([LF.mk k33 n33 q33 f33 ks33])) hc36 (by decide) (fcellss_app _ _)) (by intro x hx; simp only [List.mem_cons, List.not_mem_nil, or_false] at hx; subst hx; simp) ?_)
  refine yTF hG 6 (by kernel_rfl) rfl ?_
  refine yW hG 7 (by kernel_rfl) rfl (by kernel_rfl) rfl ?_
  refine AAny.done (by kernel_rfl) ?_
  refine run_blk ?_
  refine run_region ?_
  refine yB rfl ?_
  refine yL rfl ?_
  refine run_ops_nil ?_
  exact run_loop_end ⟨m, _, Nat.lt_succ_self _, ⟨(IntKind.i64.wrap (i12 + 1)), (ks13 ++ [LF.mk k33 n33 q33 f33 ks33]), tk30, (show tk ≤ tk30 by omega), (show Fr tk tk30 _ from (Fr.fsnoc (show Fr tk tki_Expr_moved__fn_i_reduced_c1v_L1 _ from (hfr13).mono (by omega) (by omega)) ((show Fr tki_Expr_moved__fn_i_reduced_c1v_L1 tk30 _ from hf34 rfl)) (by omega) (by omega)).mono (by omega) (by omega)), hM, rfl⟩, Sub.trans (Sub.drop (k := 34) rfl) (Sub.trans (Sub.drop (k := 9) rfl) (Sub.pk [1, 2, 3, 6, 7, 24, 25, 26] rfl))⟩
 replace hM := ite_f hb14 hM
 refine run_exit_to rfl ?_
 refine run_seq ?_
 refine run_sr ?_
 refine yF hG rfl ?_
 refine yD hG rfl ?_
 refine yB rfl ?_
 refine run_ops_nil ?_
 obtain ⟨j37, hj90, hM⟩ := jn_t hM
 refine run_cutL [.code _] (fun σ' => ∃ (i38 : Int) (tkj37 : Nat), tki_Expr_moved__fn_i_reduced_c1v_L1 ≤ tkj37 ∧ j37 i38 = some r ∧ Sub ⟨Go.Proofs.Try.prog, S0, Go.Proofs.Try.f204.ntmps, [X0], fun _ => False, []⟩ σ' ⟨[(1, .int .i64 i38), (2, .fn (.func 205) [] [.optr (.bor 0) 0 0]), (3, .optr (.loc 3) 0 0), (6, .optr (.loc 6) 0 0), (7, .optr (.loc 7) 0 0)], [(35, ⟨42, 3, false, fcellss ks13⟩), (7, ⟨40, 4, true, [[.int .i64 k1, .int .i64 0, .osl (.loc 35), .imm 0 4 true []]]⟩), (6, ⟨40, 4, true, [[.int .i64 0, .int .i64 0, .imm 0 3 true [], .imm 0 4 true []]]⟩), (3, ⟨40, 4, true, [[.int .i64 k1, .int .i64 n1, .imm p1 3 e1 (fcellss fs1), .imm q1 4 f1 (pcellss ks1)]]⟩)], [⟨40, 4, true, [[.int .i64 k3, .int .i64 n3, .imm p3 3 e3 (fcellss fs3), .imm q3 4 f3 (pcellss ks3)]]⟩], O, tkj37⟩) rfl ?_ ?_
 ·refine run_ifd rfl rfl (fun hb39 => ?_) (fun hb39 => ?_)
  ·replace hM := ite_t hb39 hM
   refine run_region ?_
   refine yL rfl ?_
   refine yB rfl ?_
   refine yR rfl ?_
   refine run_ops_nil ?_
   exact ⟨(IntKind.i64.wrap (i2 + 1)), tki_Expr_moved__fn_i_reduced_c1v_L1, (show tki_Expr_moved__fn_i_reduced_c1v_L1 ≤ tki_Expr_moved__fn_i_reduced_c1v_L1 by omega), hM, Sub.pk [1, 2, 3, 6, 7] rfl⟩
  replace hM := ite_f hb39 hM
  refine run_skip ?_
  exact ⟨i2, tki_Expr_moved__fn_i_reduced_c1v_L1, (show tki_Expr_moved__fn_i_reduced_c1v_L1 ≤ tki_Expr_moved__fn_i_reduced_c1v_L1 by omega), hM, Sub.pk [1, 2, 3, 6, 7] rfl⟩
 clear hM
 rintro σ' ⟨i38, tkj37, hle89, hM, hsub⟩
 rw [hj90] at hM
 clear hj90
 refine run_sub_code hsub ?_
 refine run_seq ?_
 refine run_sr ?_
 refine yF hG rfl ?_
 refine yD hG rfl ?_
 refine run_pu rfl (lenImm_step hG rfl rfl rfl rfl (plen _)) rfl (ltb rfl) ?_
 refine yL rfl ?_
 refine run_ops_nil ?_
 refine run_block ?_
 refine run_peel (fun m σ => ∃ (i40 : Int) (ks41 : List LP) (tki_Expr_moved__fn_i_reduced_c1v_L2 : Nat), tkj37 ≤ tki_Expr_moved__fn_i_reduced_c1v_L2 ∧ Fr tkj37 tki_Expr_moved__fn_i_reduced_c1v_L2 (ptoks ks41) ∧ i_Expr_moved__fn_i_reduced_c1v_L2 (i_Expr_moved__fn_i_reduced_c1v n) (Pf.mk k1 n1 (fers fs1) (pers ks1)) (Pf.mk k3 n3 (fers fs3) (pers ks3)) (fers ks13) i38 m i40 (pers ks41) = some r ∧ σ = ⟨[(1, .int .i64 i38), (2, .fn (.func 205) [] [.optr (.bor 0) 0 0]), (6, .optr (.loc 6) 0 0), (7, .optr (.loc 7) 0 0), (44, .imm q1 4 f1 (pcellss ks1)), (45, .int .i64 (((pers ks1)).length : Int)), (46, .int .i64 i40)], [(57, ⟨40, 4, false, pcellss ks41⟩), (35, ⟨42, 3, false, fcellss ks13⟩), (7, ⟨40, 4, true, [[.int .i64 k1, .int .i64 0, .osl (.loc 35), .osl (.loc 57)]]⟩), (6, ⟨40, 4, true, [[.int .i64 0, .int .i64 0, .imm 0 3 true [], .imm 0 4 true []]]⟩)], [⟨40, 4, true, [[.int .i64 k3, .int .i64 n3, .imm p3 3 e3 (fcellss fs3), .imm q3 4 f3 (pcellss ks3)]]⟩], O, tki_Expr_moved__fn_i_reduced_c1v_L2⟩) n ?_ (fun m σ hI => ?_)
 ·refine run_sr ?_
  refine yB rfl ?_
  refine run_ops_nil ?_
  refine run_seq ?_
  refine run_ifd rfl rfl (fun hb65 => ?_) (fun hb65 => ?_)
  ·replace hM := ite_t hb65 hM
   refine run_skip ?_
   refine run_seq ?_
   refine run_block ?_
   refine run_sr ?_
   obtain ⟨y66, hy67, hM⟩ := bind_t hM
   obtain ⟨k68, n68, p68, e68, fs68, q68, f68, ks68, rfl, hc69, hi70⟩ := pidx (ks := ks1) hy67
   refine run_pu rfl (indexImm_step hG rfl rfl rfl hi70 rfl rfl rfl rfl hc69) rfl (ltb rfl) ?_
   refine yD hG rfl ?_
   refine run_op rfl (alloc_step (d := 11) hG rfl rfl rfl) rfl (ltb rfl) ?_
   refine yS hG rfl ?_
   refine run_ops_nil ?_
   refine run_draw [.loc 7, .bor 0] (n := 10) mixed rfl (by intro x hx; simp only [List.mem_cons, List.not_mem_nil, or_false] at hx; rcases hx with rfl | rfl <;> rfl) ?_
   refine yTF hG 0 (by kernel_rfl) rfl ?_
   refine yTL hG 2 (by kernel_rfl) rfl ?_
   refine yTV 3 (by kernel_rfl) rfl ?_
   refine yTV 4 (by kernel_rfl) rfl ?_
   refine AAny.each (rs := [1, 5]) (by kernel_rfl) (fun h => by cases h) (fun i hi => ?_)
   simp only [List.mem_cons, List.not_mem_nil, or_false] at hi
   rcases hi with rfl | rfl
   ·refine AOp.rd rfl rfl rfl (ltb rfl) (aload_rd hG rfl rfl rfl (by first | (simp [ldok]; done) | exact List.not_mem_nil | trivial)) ?_
    obtain ⟨r71, hg72, hM⟩ := bind_t hM
    refine AAny.one (i := 5) (by kernel_rfl) (AOp.call rfl rfl rfl rfl (ltb rfl) rfl rfl rfl (fun _ h => absurd h List.not_mem_nil) (by intro x hx; have hx : x ∈ [ID.bor 0] := hx; simp only [List.mem_cons, List.not_mem_nil, or_false] at hx; subst hx; simp) (ih_i_Expr_moved__fn_i_reduced_c1v k68 n68 p68 e68 fs68 q68 f68 ks68 i38 (.bor 0) k3 n3 p3 e3 fs3 q3 f3 ks3 hg72 _ _ rfl) (callK_retX (fun v tk73 (hle74 : tkj37 ≤ tk73) h75 => ?_)))
    obtain ⟨k76, n76, p76, e76, fs76, q76, f76, ks76, rfl, rfl, hf77⟩ := h75
    refine AAny.one (i := 6) (by kernel_rfl) (AOp.step rfl rfl rfl (ltb rfl) (buildSlice_step (d := 56) hG rfl rfl rfl rfl rfl (by rfl) (by rfl) (by rfl) (by decide)) (fun _ h => absurd h List.not_mem_nil) ?_)
    obtain ⟨hc78, hM⟩ := chk_t hM
    try rw [show ((pers ([] : List LP)) ++ [(Pf.mk k76 n76 (fers fs76) (pers ks76))] : List Pf) = (pers (([] : List LP) ++ [LP.mk k76 n76 p76 e76 fs76 q76 f76 ks76])) from pers_app ([] : List LP) [LP.mk k76 n76 p76 e76 fs76 q76 f76 ks76]] at hM
    refine AAny.one (i := 7) (by kernel_rfl) (AOp.step rfl rfl rfl (ltb rfl) (appendFM_step (d := 57) hG rfl rfl rfl rfl rfl rfl rfl (pcellss_sz ([] : List LP)) rfl (pcellss_sz ([LP.mk k76 n76 p76 e76 fs76 q76 f76 ks76])) (plen ([] : List LP)) (plen ([LP.mk k76 n76 p76 e76 fs76 q76 f76 ks76])) (by simp [pers]) hc78 (by decide) (pcellss_app _ _)) (fun _ h => absurd h List.not_mem_nil) ?_)
    refine yTF hG 8 (by kernel_rfl) rfl ?_
    refine yW hG 9 (by kernel_rfl) rfl (by kernel_rfl) rfl ?_
    refine AAny.done (by kernel_rfl) ?_
    refine run_blk ?_
    refine run_sub_code (σ' := ⟨[(1, .int .i64 i38), (2, .fn (.func 205) [] [.optr (.bor 0) 0 0]), (6, .optr (.loc 6) 0 0), (7, .optr (.loc 7) 0 0), (44, .imm q1 4 f1 (pcellss ks1)), (45, .int .i64 (((pers ks1)).length : Int)), (46, .int .i64 0)], [(57, ⟨40, 4, false, pcellss (([] : List LP) ++ [LP.mk k76 n76 p76 e76 fs76 q76 f76 ks76])⟩), (35, ⟨42, 3, false, fcellss ks13⟩), (7, ⟨40, 4, true, [[.int .i64 k1, .int .i64 0, .osl (.loc 35), .osl (.loc 57)]]⟩), (6, ⟨40, 4, true, [[.int .i64 0, .int .i64 0, .imm 0 3 true [], .imm 0 4 true []]]⟩)], [⟨40, 4, true, [[.int .i64 k3, .int .i64 n3, .imm p3 3 e3 (fcellss fs3), .imm q3 4 f3 (pcellss ks3)]]⟩], O, tk73⟩) (Sub.trans (Sub.drop (k := 56) rfl) (Sub.trans (Sub.drop (k := 11) rfl) (Sub.trans (Sub.drop (k := 3) rfl) (Sub.env _ ⟨rfl, rfl, rfl, rfl, rfl, rfl, rfl, trivial⟩)))) ?_
    refine run_region ?_
    refine yB rfl ?_
    refine yL rfl ?_
    refine run_ops_nil ?_
    exact run_loop_end ⟨n, _, Nat.le_refl _, ⟨(IntKind.i64.wrap (0 + 1)), (([] : List LP) ++ [LP.mk k76 n76 p76 e76 fs76 q76 f76 ks76]), tk73, (show tkj37 ≤ tk73 by omega), (show Fr tkj37 tk73 _ from (Fr.pcons ((show Fr tkj37 tk73 _ from hf77 rfl)) (show Fr tk73 tk73 _ from Fr.nil _ _) (by omega) (by omega)).mono (by omega) (by omega)), hM, rfl⟩, Sub.pk [1, 2, 6, 7, 44, 45, 46] rfl⟩
   obtain ⟨r79, hg80, hM⟩ := bind_t hM
   refine AOp.call rfl rfl rfl rfl (ltb rfl) rfl rfl rfl (fun _ h => absurd h List.not_mem_nil) (by intro x hx; have hx : x ∈ [ID.bor 0] := hx; simp only [List.mem_cons, List.not_mem_nil, or_false] at hx; subst hx; simp) (ih_i_Expr_moved__fn_i_reduced_c1v k68 n68 p68 e68 fs68 q68 f68 ks68 i38 (.bor 0) k3 n3 p3 e3 fs3 q3 f3 ks3 hg80 _ _ rfl) (callK_retX (fun v tk81 (hle82 : tkj37 ≤ tk81) h83 => ?_))
   obtain ⟨k84, n84, p84, e84, fs84, q84, f84, ks84, rfl, rfl, hf85⟩ := h83
   refine AAny.each (rs := [1, 6]) (by kernel_rfl) (fun h => by cases h) (fun i hi => ?_)
   simp only [List.mem_cons, List.not_mem_nil, or_false] at hi
   rcases hi with rfl | rfl
   ·refine AOp.rd rfl rfl rfl (ltb rfl) (aload_rd hG rfl rfl rfl (by first | (simp [ldok]; done) | exact List.not_mem_nil | trivial)) ?_
    refine AAny.one (i := 6) (by kernel_rfl) (AOp.step rfl rfl rfl (ltb rfl) (buildSlice_step (d := 56) hG rfl rfl rfl rfl rfl (by rfl) (by rfl) (by rfl) (by decide)) (fun _ h => absurd h List.not_mem_nil) ?_)
    obtain ⟨hc86, hM⟩ := chk_t hM
    try rw [show ((pers ([] : List LP)) ++ [(Pf.mk k84 n84 (fers fs84) (pers ks84))] : List Pf) = (pers (([] : List LP) ++ [LP.mk k84 n84 p84 e84 fs84 q84 f84 ks84])) from pers_app ([] : List LP) [LP.mk k84 n84 p84 e84 fs84 q84 f84 ks84]] at hM
    refine AAny.one (i := 7) (by kernel_rfl) (AOp.step rfl rfl rfl (ltb rfl) (appendFM_step (d := 57) hG rfl rfl rfl rfl rfl rfl rfl (pcellss_sz ([] : List LP)) rfl (pcellss_sz ([LP.mk k84 n84 p84 e84 fs84 q84 f84 ks84])) (plen ([] : List LP)) (plen ([LP.mk k84 n84 p84 e84 fs84 q84 f84 ks84])) (by simp [pers]) hc86 (by decide) (pcellss_app _ _)) (fun _ h => absurd h List.not_mem_nil) ?_)
    refine yTF hG 8 (by kernel_rfl) rfl ?_
    refine yW hG 9 (by kernel_rfl) rfl (by kernel_rfl) rfl ?_
    refine AAny.done (by kernel_rfl) ?_
    refine run_blk ?_
    refine run_sub_code (σ' := ⟨[(1, .int .i64 i38), (2, .fn (.func 205) [] [.optr (.bor 0) 0 0]), (6, .optr (.loc 6) 0 0), (7, .optr (.loc 7) 0 0), (44, .imm q1 4 f1 (pcellss ks1)), (45, .int .i64 (((pers ks1)).length : Int)), (46, .int .i64 0)], [(57, ⟨40, 4, false, pcellss (([] : List LP) ++ [LP.mk k84 n84 p84 e84 fs84 q84 f84 ks84])⟩), (35, ⟨42, 3, false, fcellss ks13⟩), (7, ⟨40, 4, true, [[.int .i64 k1, .int .i64 0, .osl (.loc 35), .osl (.loc 57)]]⟩), (6, ⟨40, 4, true, [[.int .i64 0, .int .i64 0, .imm 0 3 true [], .imm 0 4 true []]]⟩)], [⟨40, 4, true, [[.int .i64 k3, .int .i64 n3, .imm p3 3 e3 (fcellss fs3), .imm q3 4 f3 (pcellss ks3)]]⟩], O, tk81⟩) (Sub.trans (Sub.drop (k := 56) rfl) (Sub.trans (Sub.drop (k := 11) rfl) (Sub.trans (Sub.drop (k := 3) rfl) (Sub.env _ ⟨rfl, rfl, rfl, rfl, rfl, rfl, rfl, trivial⟩)))) ?_
    refine run_region ?_
    refine yB rfl ?_
    refine yL rfl ?_
    refine run_ops_nil ?_
    exact run_loop_end ⟨n, _, Nat.le_refl _, ⟨(IntKind.i64.wrap (0 + 1)), (([] : List LP) ++ [LP.mk k84 n84 p84 e84 fs84 q84 f84 ks84]), tk81, (show tkj37 ≤ tk81 by omega), (show Fr tkj37 tk81 _ from (Fr.pcons ((show Fr tkj37 tk81 _ from hf85 rfl)) (show Fr tk81 tk81 _ from Fr.nil _ _) (by omega) (by omega)).mono (by omega) (by omega)), hM, rfl⟩, Sub.pk [1, 2, 6, 7, 44, 45, 46] rfl⟩
   refine AOp.step rfl rfl rfl (ltb rfl) (buildSlice_step (d := 56) hG rfl rfl rfl rfl rfl (by rfl) (by rfl) (by rfl) (by decide)) (fun _ h => absurd h List.not_mem_nil) ?_
   refine AAny.one (i := 1) (by kernel_rfl) (AOp.rd rfl rfl rfl (ltb rfl) (aload_rd hG rfl rfl rfl (by first | (simp [ldok]; done) | exact List.not_mem_nil | trivial)) ?_)
   obtain ⟨hc87, hM⟩ := chk_t hM
   try rw [show ((pers ([] : List LP)) ++ [(Pf.mk k84 n84 (fers fs84) (pers ks84))] : List Pf) = (pers (([] : List LP) ++ [LP.mk k84 n84 p84 e84 fs84 q84 f84 ks84])) from pers_app ([] : List LP) [LP.mk k84 n84 p84 e84 fs84 q84 f84 ks84]] at hM
   refine AAny.one (i := 7) (by kernel_rfl) (AOp.step rfl rfl rfl (ltb rfl) (appendFM_step (d := 57) hG rfl rfl rfl rfl rfl rfl rfl (pcellss_sz ([] : List LP)) rfl (pcellss_sz ([LP.mk k84 n84 p84 e84 fs84 q84 f84 ks84])) (plen ([] : List LP)) (plen ([LP.mk k84 n84 p84 e84 fs84 q84 f84 ks84])) (by simp [pers]) hc87 (by decide) (pcellss_app _ _)) (fun _ h => absurd h List.not_mem_nil) ?_)
   refine yTF hG 8 (by kernel_rfl) rfl ?_
   refine yW hG 9 (by kernel_rfl) rfl (by kernel_rfl) rfl ?_
   refine AAny.done (by kernel_rfl) ?_
   refine run_blk ?_
   refine run_sub_code (σ' := ⟨[(1, .int .i64 i38), (2, .fn (.func 205) [] [.optr (.bor 0) 0 0]), (6, .optr (.loc 6) 0 0), (7, .optr (.loc 7) 0 0), (44, .imm q1 4 f1 (pcellss ks1)), (45, .int .i64 (((pers ks1)).length : Int)), (46, .int .i64 0)], [(57, ⟨40, 4, false, pcellss (([] : List LP) ++ [LP.mk k84 n84 p84 e84 fs84 q84 f84 ks84])⟩), (35, ⟨42, 3, false, fcellss ks13⟩), (7, ⟨40, 4, true, [[.int .i64 k1, .int .i64 0, .osl (.loc 35), .osl (.loc 57)]]⟩), (6, ⟨40, 4, true, [[.int .i64 0, .int .i64 0, .imm 0 3 true [], .imm 0 4 true []]]⟩)], [⟨40, 4, true, [[.int .i64 k3, .int .i64 n3, .imm p3 3 e3 (fcellss fs3), .imm q3 4 f3 (pcellss ks3)]]⟩], O, tk81⟩) (Sub.trans (Sub.drop (k := 56) rfl) (Sub.trans (Sub.drop (k := 11) rfl) (Sub.trans (Sub.drop (k := 3) rfl) (Sub.env _ ⟨rfl, rfl, rfl, rfl, rfl, rfl, rfl, trivial⟩)))) ?_
   refine run_region ?_
   refine yB rfl ?_
   refine yL rfl ?_
   refine run_ops_nil ?_
   exact run_loop_end ⟨n, _, Nat.le_refl _, ⟨(IntKind.i64.wrap (0 + 1)), (([] : List LP) ++ [LP.mk k84 n84 p84 e84 fs84 q84 f84 ks84]), tk81, (show tkj37 ≤ tk81 by omega), (show Fr tkj37 tk81 _ from (Fr.pcons ((show Fr tkj37 tk81 _ from hf85 rfl)) (show Fr tk81 tk81 _ from Fr.nil _ _) (by omega) (by omega)).mono (by omega) (by omega)), hM, rfl⟩, Sub.pk [1, 2, 6, 7, 44, 45, 46] rfl⟩
  replace hM := ite_f hb65 hM
  refine run_exit_to rfl ?_
  refine run_sr ?_
  refine yD hG rfl ?_
  refine yS hG rfl ?_
  refine run_ops_nil ?_
  refine run_ret_to ?_
  refine fin_sub (Sub.freeze (k := 35) rfl rfl) ?_
  replace hM := some_t hM
  subst hM
  refine fin_x hG rfl rfl rfl (v' := .agg [.int .i64 k1, .int .i64 0, .imm tkj37 3 false (fcellss ks13), .imm 0 4 true (pcellss [])]) (by rfl) ⟨out_same (Bor.one hX0 rfl), (show tk ≤ (tkj37 + 1) by omega), _, rfl, ⟨k1, 0, tkj37, false, ks13, 0, true, [], rfl, rfl, fun _ => (show Fr tk (tkj37 + 1) _ from (Fr.app (show Fr tk (tkj37 + 1) _ from Fr.fstop (show Fr tk tkj37 _ from (hfr13).mono (by omega) (by omega)) (by omega) (by omega)) (show Fr (tkj37 + 1) (tkj37 + 1) _ from Fr.nil _ _) (by omega) (by omega)).mono (by omega) (by omega))⟩⟩
 clear hM
 obtain ⟨i40, ks41, tki_Expr_moved__fn_i_reduced_c1v_L2, hle88, hfr41, hM, rfl⟩ := hI
 obtain _ | m := m
 ·exact absurd hM (by rw [i_Expr_moved__fn_i_reduced_c1v_L2]; exact fun h => by cases h)
 rw [i_Expr_moved__fn_i_reduced_c1v_L2] at hM
 refine run_sr ?_
 refine yB rfl ?_
 refine run_ops_nil ?_
 refine run_seq ?_
 refine run_ifd rfl rfl (fun hb42 => ?_) (fun hb42 => ?_)
 ·replace hM := ite_t hb42 hM
  refine run_skip ?_
  refine run_seq ?_
  refine run_block ?_
  refine run_sr ?_
  obtain ⟨y43, hy44, hM⟩ := bind_t hM
  obtain ⟨k45, n45, p45, e45, fs45, q45, f45, ks45, rfl, hc46, hi47⟩ := pidx (ks := ks1) hy44
  refine run_pu rfl (indexImm_step hG rfl rfl rfl hi47 rfl rfl rfl rfl hc46) rfl (ltb rfl) ?_
  refine yD hG rfl ?_
  refine run_op rfl (alloc_step (d := 11) hG rfl rfl rfl) rfl (ltb rfl) ?_
  refine yS hG rfl ?_
  refine run_ops_nil ?_
  refine run_draw [.loc 7, .bor 0, .loc 57] (n := 10) mixed rfl (by intro x hx; simp only [List.mem_cons, List.not_mem_nil, or_false] at hx; rcases hx with rfl | rfl | rfl <;> rfl) ?_
  refine yTF hG 0 (by kernel_rfl) rfl ?_
  refine yTL hG 2 (by kernel_rfl) rfl ?_
  refine yTV 3 (by kernel_rfl) rfl ?_
  refine yTV 4 (by kernel_rfl) rfl ?_
  refine AAny.each (rs := [1, 5]) (by kernel_rfl) (fun h => by cases h) (fun i hi => ?_)
  simp only [List.mem_cons, List.not_mem_nil, or_false] at hi
  rcases hi with rfl | rfl
  ·refine AOp.rd rfl rfl rfl (ltb rfl) (aload_rd hG rfl rfl rfl (by first | (simp [ldok]; done) | exact List.not_mem_nil | trivial)) ?_
   obtain ⟨r48, hg49, hM⟩ := bind_t hM
   refine AAny.one (i := 5) (by kernel_rfl) (AOp.call rfl rfl rfl rfl (ltb rfl) rfl rfl rfl (fun _ h => absurd h List.not_mem_nil) (by intro x hx; have hx : x ∈ [ID.bor 0] := hx; simp only [List.mem_cons, List.not_mem_nil, or_false] at hx; subst hx; simp) (ih_i_Expr_moved__fn_i_reduced_c1v k45 n45 p45 e45 fs45 q45 f45 ks45 i38 (.bor 0) k3 n3 p3 e3 fs3 q3 f3 ks3 hg49 _ _ rfl) (callK_retX (fun v tk50 (hle51 : tki_Expr_moved__fn_i_reduced_c1v_L2 ≤ tk50) h52 => ?_)))
   obtain ⟨k53, n53, p53, e53, fs53, q53, f53, ks53, rfl, rfl, hf54⟩ := h52
   refine AAny.one (i := 6) (by kernel_rfl) (AOp.step rfl rfl rfl (ltb rfl) (buildSlice_step (d := 56) hG rfl rfl rfl rfl rfl (by rfl) (by rfl) (by rfl) (by decide)) (fun _ h => absurd h List.not_mem_nil) ?_)
   obtain ⟨hc55, hM⟩ := chk_t hM
   try rw [show ((pers ks41) ++ [(Pf.mk k53 n53 (fers fs53) (pers ks53))] : List Pf) = (pers (ks41 ++ [LP.mk k53 n53 p53 e53 fs53 q53 f53 ks53])) from pers_app ks41 [LP.mk k53 n53 p53 e53 fs53 q53 f53 ks53]] at hM
   refine AAny.one (i := 7) (by kernel_rfl) (AOp.step rfl rfl rfl (ltb rfl) (appendM_step hG rfl rfl rfl rfl rfl rfl rfl rfl rfl rfl rfl (pcellss_sz ([LP.mk k53 n53 p53 e53 fs53 q53 f53 ks53])) (plen ks41) (plen ([LP.mk k53 n53 p53 e53 fs53 q53 f53 ks53])) hc55 (by decide) (pcellss_app _ _)) (by intro x hx; simp only [List.mem_cons, List.not_mem_nil, or_false] at hx; subst hx; simp) ?_)
   refine yTF hG 8 (by kernel_rfl) rfl ?_
   refine yW hG 9 (by kernel_rfl) rfl (by kernel_rfl) rfl ?_
   refine AAny.done (by kernel_rfl) ?_
   refine run_blk ?_
   refine run_sub_code (σ' := ⟨[(1, .int .i64 i38), (2, .fn (.func 205) [] [.optr (.bor 0) 0 0]), (6, .optr (.loc 6) 0 0), (7, .optr (.loc 7) 0 0), (44, .imm q1 4 f1 (pcellss ks1)), (45, .int .i64 (((pers ks1)).length : Int)), (46, .int .i64 i40)], [(57, ⟨40, 4, false, pcellss (ks41 ++ [LP.mk k53 n53 p53 e53 fs53 q53 f53 ks53])⟩), (35, ⟨42, 3, false, fcellss ks13⟩), (7, ⟨40, 4, true, [[.int .i64 k1, .int .i64 0, .osl (.loc 35), .osl (.loc 57)]]⟩), (6, ⟨40, 4, true, [[.int .i64 0, .int .i64 0, .imm 0 3 true [], .imm 0 4 true []]]⟩)], [⟨40, 4, true, [[.int .i64 k3, .int .i64 n3, .imm p3 3 e3 (fcellss fs3), .imm q3 4 f3 (pcellss ks3)]]⟩], O, tk50⟩) (Sub.trans (Sub.drop (k := 56) rfl) (Sub.trans (Sub.drop (k := 11) rfl) (Sub.env _ ⟨rfl, rfl, rfl, rfl, rfl, rfl, rfl, trivial⟩))) ?_
   refine run_region ?_
   refine yB rfl ?_
   refine yL rfl ?_
   refine run_ops_nil ?_
   exact run_loop_end ⟨m, _, Nat.lt_succ_self _, ⟨(IntKind.i64.wrap (i40 + 1)), (ks41 ++ [LP.mk k53 n53 p53 e53 fs53 q53 f53 ks53]), tk50, (show tkj37 ≤ tk50 by omega), (show Fr tkj37 tk50 _ from (Fr.psnoc (show Fr tkj37 tki_Expr_moved__fn_i_reduced_c1v_L2 _ from (hfr41).mono (by omega) (by omega)) ((show Fr tki_Expr_moved__fn_i_reduced_c1v_L2 tk50 _ from hf54 rfl)) (by omega) (by omega)).mono (by omega) (by omega)), hM, rfl⟩, Sub.pk [1, 2, 6, 7, 44, 45, 46] rfl⟩
  obtain ⟨r56, hg57, hM⟩ := bind_t hM
  refine AOp.call rfl rfl rfl rfl (ltb rfl) rfl rfl rfl (fun _ h => absurd h List.not_mem_nil) (by intro x hx; have hx : x ∈ [ID.bor 0] := hx; simp only [List.mem_cons, List.not_mem_nil, or_false] at hx; subst hx; simp) (ih_i_Expr_moved__fn_i_reduced_c1v k45 n45 p45 e45 fs45 q45 f45 ks45 i38 (.bor 0) k3 n3 p3 e3 fs3 q3 f3 ks3 hg57 _ _ rfl) (callK_retX (fun v tk58 (hle59 : tki_Expr_moved__fn_i_reduced_c1v_L2 ≤ tk58) h60 => ?_))
  obtain ⟨k61, n61, p61, e61, fs61, q61, f61, ks61, rfl, rfl, hf62⟩ := h60
  refine AAny.each (rs := [1, 6]) (by kernel_rfl) (fun h => by cases h) (fun i hi => ?_)
  simp only [List.mem_cons, List.not_mem_nil, or_false] at hi
  rcases hi with rfl | rfl
  ·refine AOp.rd rfl rfl rfl (ltb rfl) (aload_rd hG rfl rfl rfl (by first | (simp [ldok]; done) | exact List.not_mem_nil | trivial)) ?_
   refine AAny.one (i := 6) (by kernel_rfl) (AOp.step rfl rfl rfl (ltb rfl) (buildSlice_step (d := 56) hG rfl rfl rfl rfl rfl (by rfl) (by rfl) (by rfl) (by decide)) (fun _ h => absurd h List.not_mem_nil) ?_)
   obtain ⟨hc63, hM⟩ := chk_t hM
   try rw [show ((pers ks41) ++ [(Pf.mk k61 n61 (fers fs61) (pers ks61))] : List Pf) = (pers (ks41 ++ [LP.mk k61 n61 p61 e61 fs61 q61 f61 ks61])) from pers_app ks41 [LP.mk k61 n61 p61 e61 fs61 q61 f61 ks61]] at hM
   refine AAny.one (i := 7) (by kernel_rfl) (AOp.step rfl rfl rfl (ltb rfl) (appendM_step hG rfl rfl rfl rfl rfl rfl rfl rfl rfl rfl rfl (pcellss_sz ([LP.mk k61 n61 p61 e61 fs61 q61 f61 ks61])) (plen ks41) (plen ([LP.mk k61 n61 p61 e61 fs61 q61 f61 ks61])) hc63 (by decide) (pcellss_app _ _)) (by intro x hx; simp only [List.mem_cons, List.not_mem_nil, or_false] at hx; subst hx; simp) ?_)
   refine yTF hG 8 (by kernel_rfl) rfl ?_
   refine yW hG 9 (by kernel_rfl) rfl (by kernel_rfl) rfl ?_
   refine AAny.done (by kernel_rfl) ?_
   refine run_blk ?_
   refine run_sub_code (σ' := ⟨[(1, .int .i64 i38), (2, .fn (.func 205) [] [.optr (.bor 0) 0 0]), (6, .optr (.loc 6) 0 0), (7, .optr (.loc 7) 0 0), (44, .imm q1 4 f1 (pcellss ks1)), (45, .int .i64 (((pers ks1)).length : Int)), (46, .int .i64 i40)], [(57, ⟨40, 4, false, pcellss (ks41 ++ [LP.mk k61 n61 p61 e61 fs61 q61 f61 ks61])⟩), (35, ⟨42, 3, false, fcellss ks13⟩), (7, ⟨40, 4, true, [[.int .i64 k1, .int .i64 0, .osl (.loc 35), .osl (.loc 57)]]⟩), (6, ⟨40, 4, true, [[.int .i64 0, .int .i64 0, .imm 0 3 true [], .imm 0 4 true []]]⟩)], [⟨40, 4, true, [[.int .i64 k3, .int .i64 n3, .imm p3 3 e3 (fcellss fs3), .imm q3 4 f3 (pcellss ks3)]]⟩], O, tk58⟩) (Sub.trans (Sub.drop (k := 56) rfl) (Sub.trans (Sub.drop (k := 11) rfl) (Sub.env _ ⟨rfl, rfl, rfl, rfl, rfl, rfl, rfl, trivial⟩))) ?_
   refine run_region ?_
   refine yB rfl ?_
   refine yL rfl ?_
   refine run_ops_nil ?_
   exact run_loop_end ⟨m, _, Nat.lt_succ_self _, ⟨(IntKind.i64.wrap (i40 + 1)), (ks41 ++ [LP.mk k61 n61 p61 e61 fs61 q61 f61 ks61]), tk58, (show tkj37 ≤ tk58 by omega), (show Fr tkj37 tk58 _ from (Fr.psnoc (show Fr tkj37 tki_Expr_moved__fn_i_reduced_c1v_L2 _ from (hfr41).mono (by omega) (by omega)) ((show Fr tki_Expr_moved__fn_i_reduced_c1v_L2 tk58 _ from hf62 rfl)) (by omega) (by omega)).mono (by omega) (by omega)), hM, rfl⟩, Sub.pk [1, 2, 6, 7, 44, 45, 46] rfl⟩
  refine AOp.step rfl rfl rfl (ltb rfl) (buildSlice_step (d := 56) hG rfl rfl rfl rfl rfl (by rfl) (by rfl) (by rfl) (by decide)) (fun _ h => absurd h List.not_mem_nil) ?_
  refine AAny.one (i := 1) (by kernel_rfl) (AOp.rd rfl rfl rfl (ltb rfl) (aload_rd hG rfl rfl rfl (by first | (simp [ldok]; done) | exact List.not_mem_nil | trivial)) ?_)
  obtain ⟨hc64, hM⟩ := chk_t hM
  try rw [show ((pers ks41) ++ [(Pf.mk k61 n61 (fers fs61) (pers ks61))] : List Pf) = (pers (ks41 ++ [LP.mk k61 n61 p61 e61 fs61 q61 f61 ks61])) from pers_app ks41 [LP.mk k61 n61 p61 e61 fs61 q61 f61 ks61]] at hM
  refine AAny.one (i := 7) (by kernel_rfl) (AOp.step rfl rfl rfl (ltb rfl) (appendM_step hG rfl rfl rfl rfl rfl rfl rfl rfl rfl rfl rfl (pcellss_sz ([LP.mk k61 n61 p61 e61 fs61 q61 f61 ks61])) (plen ks41) (plen ([LP.mk k61 n61 p61 e61 fs61 q61 f61 ks61])) hc64 (by decide) (pcellss_app _ _)) (by intro x hx; simp only [List.mem_cons, List.not_mem_nil, or_false] at hx; subst hx; simp) ?_)
  refine yTF hG 8 (by kernel_rfl) rfl ?_
  refine yW hG 9 (by kernel_rfl) rfl (by kernel_rfl) rfl ?_
  refine AAny.done (by kernel_rfl) ?_
  refine run_blk ?_
  refine run_sub_code (σ' := ⟨[(1, .int .i64 i38), (2, .fn (.func 205) [] [.optr (.bor 0) 0 0]), (6, .optr (.loc 6) 0 0), (7, .optr (.loc 7) 0 0), (44, .imm q1 4 f1 (pcellss ks1)), (45, .int .i64 (((pers ks1)).length : Int)), (46, .int .i64 i40)], [(57, ⟨40, 4, false, pcellss (ks41 ++ [LP.mk k61 n61 p61 e61 fs61 q61 f61 ks61])⟩), (35, ⟨42, 3, false, fcellss ks13⟩), (7, ⟨40, 4, true, [[.int .i64 k1, .int .i64 0, .osl (.loc 35), .osl (.loc 57)]]⟩), (6, ⟨40, 4, true, [[.int .i64 0, .int .i64 0, .imm 0 3 true [], .imm 0 4 true []]]⟩)], [⟨40, 4, true, [[.int .i64 k3, .int .i64 n3, .imm p3 3 e3 (fcellss fs3), .imm q3 4 f3 (pcellss ks3)]]⟩], O, tk58⟩) (Sub.trans (Sub.drop (k := 56) rfl) (Sub.trans (Sub.drop (k := 11) rfl) (Sub.env _ ⟨rfl, rfl, rfl, rfl, rfl, rfl, rfl, trivial⟩))) ?_
  refine run_region ?_
  refine yB rfl ?_
  refine yL rfl ?_
  refine run_ops_nil ?_
  exact run_loop_end ⟨m, _, Nat.lt_succ_self _, ⟨(IntKind.i64.wrap (i40 + 1)), (ks41 ++ [LP.mk k61 n61 p61 e61 fs61 q61 f61 ks61]), tk58, (show tkj37 ≤ tk58 by omega), (show Fr tkj37 tk58 _ from (Fr.psnoc (show Fr tkj37 tki_Expr_moved__fn_i_reduced_c1v_L2 _ from (hfr41).mono (by omega) (by omega)) ((show Fr tki_Expr_moved__fn_i_reduced_c1v_L2 tk58 _ from hf62 rfl)) (by omega) (by omega)).mono (by omega) (by omega)), hM, rfl⟩, Sub.pk [1, 2, 6, 7, 44, 45, 46] rfl⟩
 replace hM := ite_f hb42 hM
 refine run_exit_to rfl ?_
 refine run_sr ?_
 refine yD hG rfl ?_
 refine yS hG rfl ?_
 refine run_ops_nil ?_
 refine run_ret_to ?_
 refine fin_sub (Sub.freeze (k := 35) rfl rfl) ?_
 refine fin_sub (Sub.freeze (k := 57) rfl rfl) ?_
 replace hM := some_t hM
 subst hM
 refine fin_x hG rfl rfl rfl (v' := .agg [.int .i64 k1, .int .i64 0, .imm tki_Expr_moved__fn_i_reduced_c1v_L2 3 false (fcellss ks13), .imm (tki_Expr_moved__fn_i_reduced_c1v_L2 + 1) 4 false (pcellss ks41)]) (by rfl) ⟨out_same (Bor.one hX0 rfl), (show tk ≤ ((tki_Expr_moved__fn_i_reduced_c1v_L2 + 1) + 1) by omega), _, rfl, ⟨k1, 0, tki_Expr_moved__fn_i_reduced_c1v_L2, false, ks13, (tki_Expr_moved__fn_i_reduced_c1v_L2 + 1), false, ks41, rfl, rfl, fun _ => (show Fr tk ((tki_Expr_moved__fn_i_reduced_c1v_L2 + 1) + 1) _ from by first | exact Fr.fpab (q1 := tki_Expr_moved__fn_i_reduced_c1v_L2) (q := (tki_Expr_moved__fn_i_reduced_c1v_L2 + 1)) (show Fr tk tki_Expr_moved__fn_i_reduced_c1v_L1 _ from hfr13) (show Fr tkj37 tki_Expr_moved__fn_i_reduced_c1v_L2 _ from hfr41) (by omega) (by omega) (by omega) (by omega) (by omega) (by omega) (by omega) (by omega) (by omega) | exact Fr.fpba (q1 := tki_Expr_moved__fn_i_reduced_c1v_L2) (q := (tki_Expr_moved__fn_i_reduced_c1v_L2 + 1)) (show Fr tk tki_Expr_moved__fn_i_reduced_c1v_L1 _ from hfr13) (show Fr tkj37 tki_Expr_moved__fn_i_reduced_c1v_L2 _ from hfr41) (by omega) (by omega) (by omega) (by omega) (by omega) (by omega) (by omega) (by omega) (by omega))⟩⟩

theorem i_Expr_moved__fn_i_reduced_c1v_all : ∀ (n : Nat), (∀ (k1 : Int) (n1 : Int) (p1 : Nat) (e1 : Bool) (fs1 : List LF) (q1 : Nat) (f1 : Bool) (ks1 : List LP) (i2 : Int) (X0 : ID) (k3 : Int) (n3 : Int) (p3 : Nat) (e3 : Bool) (fs3 : List LF) (q3 : Nat) (f3 : Bool) (ks3 : List LP) {r : Pf}, i_Expr_moved__fn_i_reduced_c1v n (Pf.mk k1 n1 (fers fs1) (pers ks1)) i2 (Pf.mk k3 n3 (fers fs3) (pers ks3)) = some r → ∀ (O : Heap) (tk : Nat), O X0 = some ⟨40, 4, true, [[.int .i64 k3, .int .i64 n3, .imm p3 3 e3 (fcellss fs3), .imm q3 4 f3 (pcellss ks3)]]⟩ → ACalls Go.Proofs.Try.prog 204 [.agg [.int .i64 k1, .int .i64 n1, .imm p1 3 e1 (fcellss fs1), .imm q1 4 f1 (pcellss ks1)], .int .i64 i2, .fn (.func 205) [] [.optr X0 0 0]] O tk (RetX O tk (fun v tk' => VP true tk tk' r v)))
 | 0 => by intro k1 n1 p1 e1 fs1 q1 f1 ks1 i2 X0 k3 n3 p3 e3 fs3 q3 f3 ks3 r hM; rw [i_Expr_moved__fn_i_reduced_c1v] at hM; cases hM
 | n + 1 => have ih := i_Expr_moved__fn_i_reduced_c1v_all n; i_Expr_moved__fn_i_reduced_c1v_st n (ih)

theorem i_Expr_moved__fn_i_reduced_c1v_ok (n : Nat) : ∀ (k1 : Int) (n1 : Int) (p1 : Nat) (e1 : Bool) (fs1 : List LF) (q1 : Nat) (f1 : Bool) (ks1 : List LP) (i2 : Int) (X0 : ID) (k3 : Int) (n3 : Int) (p3 : Nat) (e3 : Bool) (fs3 : List LF) (q3 : Nat) (f3 : Bool) (ks3 : List LP) {r : Pf}, i_Expr_moved__fn_i_reduced_c1v n (Pf.mk k1 n1 (fers fs1) (pers ks1)) i2 (Pf.mk k3 n3 (fers fs3) (pers ks3)) = some r → ∀ (O : Heap) (tk : Nat), O X0 = some ⟨40, 4, true, [[.int .i64 k3, .int .i64 n3, .imm p3 3 e3 (fcellss fs3), .imm q3 4 f3 (pcellss ks3)]]⟩ → ACalls Go.Proofs.Try.prog 204 [.agg [.int .i64 k1, .int .i64 n1, .imm p1 3 e1 (fcellss fs1), .imm q1 4 f1 (pcellss ks1)], .int .i64 i2, .fn (.func 205) [] [.optr X0 0 0]] O tk (RetX O tk (fun v tk' => VP true tk tk' r v)) := i_Expr_moved__fn_i_reduced_c1v_all n

def i_reduced (n : Nat) (x1 : Pf) (x2 : Pf) : Option Pf :=
 (i_Expr_moved__fn_i_reduced_c1v n x1 0 x2).bind fun r3 =>
 some r3

set_option maxRecDepth 100000 in
theorem i_reduced_ok (n : Nat) : ∀ (k1 : Int) (n1 : Int) (p1 : Nat) (e1 : Bool) (fs1 : List LF) (q1 : Nat) (f1 : Bool) (ks1 : List LP) (k2 : Int) (n2 : Int) (p2 : Nat) (e2 : Bool) (fs2 : List LF) (q2 : Nat) (f2 : Bool) (ks2 : List LP) {r : Pf}, i_reduced n (Pf.mk k1 n1 (fers fs1) (pers ks1)) (Pf.mk k2 n2 (fers fs2) (pers ks2)) = some r → ∀ (O : Heap) (tk : Nat), ACalls Go.Proofs.Try.prog 163 [.agg [.int .i64 k1, .int .i64 n1, .imm p1 3 e1 (fcellss fs1), .imm q1 4 f1 (pcellss ks1)], .agg [.int .i64 k2, .int .i64 n2, .imm p2 3 e2 (fcellss fs2), .imm q2 4 f2 (pcellss ks2)]] O tk (RetX O tk (fun v tk' => VP true tk tk' r v)) := by
 intro k1 n1 p1 e1 fs1 q1 f1 ks1 k2 n2 p2 e2 fs2 q2 f2 ks2 r hM O tk
 unfold i_reduced at hM
 refine acalls_of_run Go.Proofs.Try.func163 rfl rfl [] [] (Bor.nil _) [(0, .agg [.int .i64 k1, .int .i64 n1, .imm p1 3 e1 (fcellss fs1), .imm q1 4 f1 (pcellss ks1)]), (1, .agg [.int .i64 k2, .int .i64 n2, .imm p2 3 e2 (fcellss fs2), .imm q2 4 f2 (pcellss ks2)])] (.cons (.agg _) (.cons (.agg _) (.nil _))) (leb rfl) (fun _ h => by cases h) (fun S0 hO htk hfz => ?_)
 refine run_sr ?_
 refine run_op rfl (box_step (d := 2) rfl rfl rfl rfl rfl) rfl (ltb rfl) ?_
 refine run_op rfl (box_step (d := 3) rfl rfl rfl rfl rfl) rfl (ltb rfl) ?_
 refine run_op rfl (alloc_step (d := 4) hG rfl rfl rfl) rfl (ltb rfl) ?_
 refine run_ops_nil ?_
 refine run_sr ?_
 refine yD hG rfl ?_
 refine run_pu rfl (makeFunc_step (first := []) (cap := [.tmp 3]) rfl rfl rfl) rfl (ltb rfl) ?_
 obtain ⟨r3, hg4, hM⟩ := bind_t hM
 refine yK rfl (i_Expr_moved__fn_i_reduced_c1v_ok n k1 n1 p1 e1 fs1 q1 f1 ks1 0 (.loc 3) k2 n2 p2 e2 fs2 q2 f2 ks2 hg4 _ _ rfl) (callK_retX (fun v tk5 (hle6 : tk ≤ tk5) h7 => ?_))
 obtain ⟨k8, n8, p8, e8, fs8, q8, f8, ks8, rfl, rfl, hf9⟩ := h7
 refine yS hG rfl ?_
 refine run_ops_nil ?_
 refine run_ret_to ?_
 replace hM := some_t hM
 subst hM
 refine fin_x hG rfl rfl rfl (v' := .agg [.int .i64 k8, .int .i64 n8, .imm p8 3 e8 (fcellss fs8), .imm q8 4 f8 (pcellss ks8)]) (by rfl) ⟨rfl, (show tk ≤ tk5 by omega), _, rfl, ⟨k8, n8, p8, e8, fs8, q8, f8, ks8, rfl, rfl, fun _ => (show Fr tk tk5 _ from ((show Fr tk tk5 _ from hf9 rfl)).mono (by omega) (by omega))⟩⟩

end Go.Am.Ytpkeophkdemcpaa
