/- Printed by a program of ours: Lean functions that do what the Go functions do, and the contracts. -/
import Derived.Test.YtpkeophkdemcpaaMi4
import Derived.Test.YtpkeophkdemcpaaTypes
import Derived.Test.YtpkeophkdemcpaaMc1
import Derived.Test.YtpkeophkdemcpaaMxPB
import Derived.Test.YtpkeophkdemcpaaMz
-- packed
namespace Go.Am.Ytpkeophkdemcpaa
open Go Go.Am

set_option maxRecDepth 100000 in
theorem s_l08Two_ex (i1 : Int) (k2 : Int) (n2 : Int) (q2 : Nat) (f2 : Bool) (ks2 : List LF) (k3 : Int) (n3 : Int) (q3 : Nat) (f3 : Bool) (ks3 : List LF) (O : Heap) (tk : Nat) : ACalls Go.Proofs.Try.prog 120 [.int .i64 i1, .agg [.int .i64 k2, .int .i64 n2, .imm q2 3 f2 (fcellss ks2)], .agg [.int .i64 k3, .int .i64 n3, .imm q3 3 f3 (fcellss ks3)]] O tk (RetN O (.agg [.int .i64 i1, .int .i64 0, .imm tk 3 false (fcellss [LF.mk k2 n2 q2 f2 ks2, LF.mk k3 n3 q3 f3 ks3])]) (tk + 1)) := by
 refine acalls_of_run Go.Proofs.Try.func120 rfl rfl [] [] (Bor.nil _) [(0, .int .i64 i1), (1, .agg [.int .i64 k2, .int .i64 n2, .imm q2 3 f2 (fcellss ks2)]), (2, .agg [.int .i64 k3, .int .i64 n3, .imm q3 3 f3 (fcellss ks3)])] (.cons (entS rfl) (.cons (.agg _) (.cons (.agg _) (.nil _)))) (leb rfl) (fun _ h => by cases h) (fun S0 hO htk hfz => ?_)
 refine run_sr ?_
 refine run_op rfl (box_step (d := 4) rfl rfl rfl rfl rfl) rfl (ltb rfl) ?_
 refine run_op rfl (box_step (d := 5) rfl rfl rfl rfl rfl) rfl (ltb rfl) ?_
 refine run_op rfl (alloc_step (d := 6) hG rfl rfl rfl) rfl (ltb rfl) ?_
 refine yN ?_
 refine run_sr ?_
 refine yL rfl ?_
 refine yD hG rfl ?_
 refine yD hG rfl ?_
 refine run_op rfl (buildSlice_step (d := 10) hG rfl rfl rfl rfl rfl (by rfl) (by rfl) (by rfl) (by decide)) rfl (ltb rfl) ?_
 refine run_pu rfl (build_step hG rfl (by rfl) rfl (fun h => by cases h) (by rfl)) rfl (ltb rfl) ?_
 refine yS hG rfl ?_
 refine yN ?_
 refine run_ret_to ?_
 refine fin_sub (Sub.freeze (k := 10) rfl rfl) ?_
 refine fin_x hG rfl rfl rfl (v' := .agg [.int .i64 i1, .int .i64 0, .imm tk 3 false (fcellss [LF.mk k2 n2 q2 f2 ks2, LF.mk k3 n3 q3 f3 ks3])]) (by rfl) ⟨rfl, rfl, rfl⟩

def s_l08Proves_L1 (rec_s_l08Proves : List F → Pf → Int → Option (F × Int × Int)) (n : Nat) (x2 : Pf) (l27 : List F) (l28 : List F) (i29 : Int) (i30 : Int) (l31 : List F) : Nat → Int → Int → Option (F × Int × Int)
 | 0, _, _ => none
 | m + 1, i44, i45 =>
  if i45 < ((x2.kids).length : Int) then
   (idx x2.kids i45).bind fun y47 =>
   (rec_s_l08Proves l27 y47 i44).bind fun r52 =>
   if (r52.2.1 != 0) = true then
    some ((F.mk 0 0 []), r52.2.1, r52.2.2)
   else
    (idx l28 i45).bind fun y70 =>
    (s_l08Same n r52.1 y70).bind fun r75 =>
    if (!r75) = true then
     some ((F.mk 0 0 []), 19, i44)
    else
     (idx x2.kids i45).bind fun y83 =>
     (s_l08Size n y83).bind fun r88 =>
     s_l08Proves_L1 rec_s_l08Proves n x2 l27 l28 i29 i30 l31 m (IntKind.i64.wrap (i44 + r88)) (IntKind.i64.wrap (i45 + 1))
  else
   some ((F.mk i29 i30 l31), 0, 0)

def s_l08Proves : Nat → List F → Pf → Int → Option (F × Int × Int)
 | 0, _, _, _ => none
 | n + 1, l1, x2, i3 =>
  if x2.kind = 1 then
   if x2.n ≥ ((l1).length : Int) then
    some ((F.mk 0 0 []), 7, i3)
   else
    (idx l1 (IntKind.i64.wrap ((IntKind.i64.wrap (((l1).length : Int) - 1)) - x2.n))).bind fun y6 =>
    some (y6, 0, 0)
  else
   (idx x2.forms 0).bind fun y11 =>
   jn (fun (i17 : Int) (i18 : Int) (l19 : List F) =>
    jn (fun (l27 : List F) (l28 : List F) (i29 : Int) (i30 : Int) (l31 : List F) =>
     s_l08Proves_L1 (s_l08Proves n) n x2 l27 l28 i29 i30 l31 n (IntKind.i64.wrap (i3 + 1)) 0) fun j26 =>
    if x2.kind = 2 then
     j26 l1 ([y11, (F.mk i17 i18 l19)]) 2 0 ([y11, (F.mk i17 i18 l19)])
    else
     if x2.kind = 3 then
      j26 l1 ([(F.mk 2 0 [y11, (F.mk i17 i18 l19)])]) y11.kind y11.n y11.kids
     else
      if x2.kind = 4 then
       j26 l1 ([(F.mk 2 0 [y11, (F.mk i17 i18 l19)])]) i17 i18 l19
      else
       if x2.kind = 5 then
        (s_l08More l1 y11).bind fun r36 =>
        j26 r36 ([(F.mk i17 i18 l19)]) 3 0 ([y11, (F.mk i17 i18 l19)])
       else
        if x2.kind = 6 then
         j26 l1 ([(F.mk 3 0 [y11, (F.mk i17 i18 l19)]), y11]) i17 i18 l19
        else
         j26 l1 ([(F.mk i17 i18 l19)]) y11.kind y11.n y11.kids) fun j16 =>
   if ((x2.forms).length : Int) > 1 then
    (idx x2.forms 1).bind fun y21 =>
    j16 y21.kind y21.n y21.kids
   else
    j16 4 0 ([])

def s_l08Proves_P (n : Nat) : Prop := ∀ (q1 : Nat) (f1 : Bool) (ks1 : List LF) (k2 : Int) (n2 : Int) (p2 : Nat) (e2 : Bool) (fs2 : List LF) (q2 : Nat) (f2 : Bool) (ks2 : List LP) (i3 : Int) {r : (F × Int × Int)}, s_l08Proves n (fers ks1) (Pf.mk k2 n2 (fers fs2) (pers ks2)) i3 = some r → ∀ (O : Heap) (tk : Nat), ACalls Go.Proofs.Try.prog 93 [.imm q1 3 f1 (fcellss ks1), .agg [.int .i64 k2, .int .i64 n2, .imm p2 3 e2 (fcellss fs2), .imm q2 4 f2 (pcellss ks2)], .int .i64 i3] O tk (RetX O tk (fun v tk' => ∃ r0' r1' r2' v0' v1' v2', r = (r0', r1', r2') ∧ v = .tup [v0', v1', v2'] ∧ VF false tk tk' r0' v0' ∧ v1' = .int .i64 r1' ∧ v2' = .int .i64 r2'))

set_option maxHeartbeats 2000000 in
set_option maxRecDepth 100000 in
theorem s_l08Proves_st (n : Nat) (ih_s_l08Proves : s_l08Proves_P n) : s_l08Proves_P (n + 1) := by
 intro q1 f1 ks1 k2 n2 p2 e2 fs2 q2 f2 ks2 i3 r hM O tk
 rw [s_l08Proves] at hM
 refine acalls_of_run Go.Proofs.Try.func93 rfl rfl [] [] (Bor.nil _) [(0, .imm q1 3 f1 (fcellss ks1)), (1, .agg [.int .i64 k2, .int .i64 n2, .imm p2 3 e2 (fcellss fs2), .imm q2 4 f2 (pcellss ks2)]), (2, .int .i64 i3)] (.cons (entS rfl) (.cons (.agg _) (.cons (entS rfl) (.nil _)))) (leb rfl) (fun _ h => by cases h) (fun S0 hO htk hfz => ?_)
 refine run_sr ?_
 refine run_op rfl (box_step (d := 4) rfl rfl rfl rfl rfl) rfl (ltb rfl) ?_
 refine run_op rfl (alloc_step (d := 6) hG rfl rfl rfl) rfl (ltb rfl) ?_
 refine yR rfl ?_
 refine yR rfl ?_
 refine yN ?_
 refine run_sr ?_
 refine run_pu rfl (build_step hG rfl (by rfl) rfl (fun h => by cases h) (by rfl)) rfl (ltb rfl) ?_
 refine run_op rfl (alloc_step (d := 9) hG rfl rfl rfl) rfl (ltb rfl) ?_
 refine yS hG rfl ?_
 refine yN ?_
 refine run_seq ?_
 refine run_sr ?_
 refine yF hG rfl ?_
 refine yD hG rfl ?_
 refine yB rfl ?_
 refine yN ?_
 refine run_ifd rfl rfl (fun hb4 => ?_) (fun hb4 => ?_)
 ·replace hM := ite_t hb4 hM
  refine run_seq ?_
  refine run_sr ?_
  refine yF hG rfl ?_
  refine yD hG rfl ?_
  refine yL rfl ?_
  refine run_pu rfl (lenImm_step hG rfl rfl rfl rfl (flen _)) rfl (ltb rfl) ?_
  refine yB rfl ?_
  refine yN ?_
  refine run_sub_code (σ' := ⟨[(0, .imm q1 3 f1 (fcellss ks1)), (2, .int .i64 i3), (4, .optr (.loc 4) 0 0), (6, .optr (.loc 6) 0 0), (7, .int .i64 0), (8, .int .i64 0), (9, .optr (.loc 9) 0 0), (27, .bool (decide (n2 ≥ (((fers ks1)).length : Int))))], [(9, ⟨28, 3, true, [[.int .i64 0, .int .i64 0, .imm 0 3 true []]]⟩), (6, ⟨28, 3, true, [[.int .i64 0, .int .i64 0, .imm 0 3 true []]]⟩), (4, ⟨26, 4, true, [[.int .i64 k2, .int .i64 n2, .imm p2 3 e2 (fcellss fs2), .imm q2 4 f2 (pcellss ks2)]]⟩)], [], O, tk⟩) (Sub.env _ ⟨rfl, rfl, rfl, rfl, rfl, rfl, rfl, rfl, trivial⟩) ?_
  refine run_ifd rfl rfl (fun hb5 => ?_) (fun hb5 => ?_)
  ·replace hM := ite_t hb5 hM
   refine run_sr ?_
   refine yD hG rfl ?_
   refine yL rfl ?_
   refine yS hG rfl ?_
   refine yR rfl ?_
   refine yR rfl ?_
   refine yN ?_
   refine run_ret_to ?_
   obtain rfl := some_t hM
   refine fin_x hG rfl rfl rfl (v' := .tup [.agg [.int .i64 0, .int .i64 0, .imm 0 3 true (fcellss [])], .int .i64 7, .int .i64 i3]) (by rfl) ⟨rfl, (show tk ≤ tk by omega), _, rfl, ⟨_, _, _, _, _, _, rfl, rfl, ⟨0, 0, 0, true, [], rfl, rfl, fun h => by cases h⟩, rfl, rfl⟩⟩
  replace hM := ite_f hb5 hM
  refine run_skip ?_
  refine run_sr ?_
  refine yL rfl ?_
  refine yL rfl ?_
  refine run_pu rfl (lenImm_step hG rfl rfl rfl rfl (flen _)) rfl (ltb rfl) ?_
  refine yB rfl ?_
  refine yF hG rfl ?_
  refine yD hG rfl ?_
  refine yB rfl ?_
  obtain ⟨y6, hy7, hM⟩ := bind_t hM
  obtain ⟨k8, n8, q8, f8, ks8, rfl, hc9, hi10⟩ := fidx (ks := ks1) hy7
  refine run_pu rfl (indexImm_step hG rfl rfl rfl hi10 rfl rfl rfl rfl hc9) rfl (ltb rfl) ?_
  refine yD hG rfl ?_
  refine yS hG rfl ?_
  refine yR rfl ?_
  refine yR rfl ?_
  refine yN ?_
  refine run_ret_to ?_
  obtain rfl := some_t hM
  refine fin_x hG rfl rfl rfl (v' := .tup [.agg [.int .i64 k8, .int .i64 n8, .imm q8 3 f8 (fcellss ks8)], .int .i64 0, .int .i64 0]) (by rfl) ⟨rfl, (show tk ≤ tk by omega), _, rfl, ⟨_, _, _, _, _, _, rfl, rfl, ⟨k8, n8, q8, f8, ks8, rfl, rfl, fun h => by cases h⟩, rfl, rfl⟩⟩
 replace hM := ite_f hb4 hM
 refine run_skip ?_
 refine run_sr ?_
 refine yF hG rfl ?_
 refine yD hG rfl ?_
 obtain ⟨y11, hy12, hM⟩ := bind_t hM
 obtain ⟨k13, n13, q13, f13, ks13, rfl, hc14, hi15⟩ := fidx (ks := fs2) hy12
 refine run_pu rfl (indexImm_step hG rfl rfl rfl hi15 rfl rfl rfl rfl hc14) rfl (ltb rfl) ?_
 refine yD hG rfl ?_
 refine run_op rfl (alloc_step (d := 10) hG rfl rfl rfl) rfl (ltb rfl) ?_
 refine yS hG rfl ?_
 refine yN ?_
 refine run_sub_code (σ' := ⟨[(0, .imm q1 3 f1 (fcellss ks1)), (2, .int .i64 i3), (4, .optr (.loc 4) 0 0), (6, .optr (.loc 6) 0 0), (7, .int .i64 0), (8, .int .i64 0), (9, .optr (.loc 9) 0 0), (10, .optr (.loc 10) 0 0)], [(10, ⟨28, 3, true, [[.int .i64 k13, .int .i64 n13, .imm q13 3 f13 (fcellss ks13)]]⟩), (9, ⟨28, 3, true, [[.int .i64 0, .int .i64 0, .imm 0 3 true []]]⟩), (6, ⟨28, 3, true, [[.int .i64 0, .int .i64 0, .imm 0 3 true []]]⟩), (4, ⟨26, 4, true, [[.int .i64 k2, .int .i64 n2, .imm p2 3 e2 (fcellss fs2), .imm q2 4 f2 (pcellss ks2)]]⟩)], [], O, tk⟩) (Sub.env _ ⟨rfl, rfl, rfl, rfl, rfl, rfl, rfl, rfl, trivial⟩) ?_
 refine run_sr ?_
 refine run_pu rfl (build_step hG rfl (by rfl) rfl (fun h => by cases h) (by rfl)) rfl (ltb rfl) ?_
 refine run_op rfl (alloc_step (d := 11) hG rfl rfl rfl) rfl (ltb rfl) ?_
 refine yS hG rfl ?_
 refine yN ?_
 refine run_seq ?_
 refine run_sr ?_
 refine yF hG rfl ?_
 refine yD hG rfl ?_
 refine run_pu rfl (lenImm_step hG rfl rfl rfl rfl (flen _)) rfl (ltb rfl) ?_
 refine yB rfl ?_
 refine yN ?_
 obtain ⟨j16, hj99, hM⟩ := jn_t hM
 refine run_cutL [.code _] (fun σ' => ∃ (i17 : Int) (i18 : Int) (q19 : Nat) (f19 : Bool) (ks19 : List LF) (tkj16 : Nat), tk ≤ tkj16 ∧ j16 i17 i18 (fers ks19) = some r ∧ Sub ⟨Go.Proofs.Try.prog, S0, Go.Proofs.Try.f93.ntmps, [], fun _ => False, []⟩ σ' ⟨[(0, .imm q1 3 f1 (fcellss ks1)), (2, .int .i64 i3), (4, .optr (.loc 4) 0 0), (6, .optr (.loc 6) 0 0), (7, .int .i64 0), (8, .int .i64 0), (9, .optr (.loc 9) 0 0), (10, .optr (.loc 10) 0 0), (11, .optr (.loc 11) 0 0)], [(11, ⟨28, 3, true, [[.int .i64 i17, .int .i64 i18, .imm q19 3 f19 (fcellss ks19)]]⟩), (10, ⟨28, 3, true, [[.int .i64 k13, .int .i64 n13, .imm q13 3 f13 (fcellss ks13)]]⟩), (9, ⟨28, 3, true, [[.int .i64 0, .int .i64 0, .imm 0 3 true []]]⟩), (6, ⟨28, 3, true, [[.int .i64 0, .int .i64 0, .imm 0 3 true []]]⟩), (4, ⟨26, 4, true, [[.int .i64 k2, .int .i64 n2, .imm p2 3 e2 (fcellss fs2), .imm q2 4 f2 (pcellss ks2)]]⟩)], [], O, tkj16⟩) rfl ?_ ?_
 ·refine run_ifd rfl rfl (fun hb20 => ?_) (fun hb20 => ?_)
  ·replace hM := ite_t hb20 hM
   refine run_region ?_
   refine yF hG rfl ?_
   refine yD hG rfl ?_
   obtain ⟨y21, hy22, hM⟩ := bind_t hM
   obtain ⟨k23, n23, q23, f23, ks23, rfl, hc24, hi25⟩ := fidx (ks := fs2) hy22
   refine run_pu rfl (indexImm_step hG rfl rfl rfl hi25 rfl rfl rfl rfl hc24) rfl (ltb rfl) ?_
   refine yD hG rfl ?_
   refine yS hG rfl ?_
   refine yN ?_
   exact ⟨k23, n23, q23, f23, ks23, tk, (show tk ≤ tk by omega), hM, Sub.pk [0, 2, 4, 6, 7, 8, 9, 10, 11] rfl⟩
  replace hM := ite_f hb20 hM
  refine run_skip ?_
  exact ⟨4, 0, 0, true, [], tk, (show tk ≤ tk by omega), hM, Sub.pk [0, 2, 4, 6, 7, 8, 9, 10, 11] rfl⟩
 clear hM
 rintro σ' ⟨i17, i18, q19, f19, ks19, tkj16, hle98, hM, hsub⟩
 rw [hj99] at hM
 clear hj99
 refine run_sub_code hsub ?_
 refine run_sr ?_
 refine run_op rfl (buildSlice_step (d := 52) hG rfl rfl rfl rfl rfl (by rfl) (by rfl) (by rfl) (by decide)) rfl (ltb rfl) ?_
 refine yR rfl ?_
 refine yN ?_
 refine run_sr ?_
 refine run_pu rfl (build_step hG rfl (by rfl) rfl (fun h => by cases h) (by rfl)) rfl (ltb rfl) ?_
 refine run_op rfl (alloc_step (d := 13) hG rfl rfl rfl) rfl (ltb rfl) ?_
 refine yS hG rfl ?_
 refine yN ?_
 refine run_seq ?_
 refine run_sr ?_
 refine yF hG rfl ?_
 refine yD hG rfl ?_
 refine yN ?_
 refine run_block ?_
 refine run_sr ?_
 refine yB rfl ?_
 refine yR rfl ?_
 refine yN ?_
 obtain ⟨j26, hj97, hM⟩ := jn_t hM
 refine run_cutL [.code _, .blk 0] (fun σ' => ∃ (q27 : Nat) (f27 : Bool) (ks27 : List LF) (q28 : Nat) (f28 : Bool) (ks28 : List LF) (i29 : Int) (i30 : Int) (q31 : Nat) (f31 : Bool) (ks31 : List LF) (tkj26 : Nat), tkj16 ≤ tkj26 ∧ j26 (fers ks27) (fers ks28) i29 i30 (fers ks31) = some r ∧ Sub ⟨Go.Proofs.Try.prog, S0, Go.Proofs.Try.f93.ntmps, [], fun _ => False, []⟩ σ' ⟨[(0, .imm q27 3 f27 (fcellss ks27)), (2, .int .i64 i3), (4, .optr (.loc 4) 0 0), (6, .optr (.loc 6) 0 0), (7, .int .i64 0), (8, .int .i64 0), (9, .optr (.loc 9) 0 0), (12, .imm q28 3 f28 (fcellss ks28)), (13, .optr (.loc 13) 0 0)], [(13, ⟨28, 3, true, [[.int .i64 i29, .int .i64 i30, .imm q31 3 f31 (fcellss ks31)]]⟩), (9, ⟨28, 3, true, [[.int .i64 0, .int .i64 0, .imm 0 3 true []]]⟩), (6, ⟨28, 3, true, [[.int .i64 0, .int .i64 0, .imm 0 3 true []]]⟩), (4, ⟨26, 4, true, [[.int .i64 k2, .int .i64 n2, .imm p2 3 e2 (fcellss fs2), .imm q2 4 f2 (pcellss ks2)]]⟩)], [], O, tkj26⟩) rfl ?_ ?_
 ·refine run_ifd rfl rfl (fun hb32 => ?_) (fun hb32 => ?_)
  ·replace hM := ite_t hb32 hM
   refine run_sr ?_
   refine yD hG rfl ?_
   refine yD hG rfl ?_
   refine run_op rfl (buildSlice_step (d := 63) hG rfl rfl rfl rfl rfl (by rfl) (by rfl) (by rfl) (by decide)) rfl (ltb rfl) ?_
   refine yR rfl ?_
   refine yN ?_
   refine run_region ?_
   refine yD hG rfl ?_
   refine yD hG rfl ?_
   refine yK rfl (s_l08Two_ex 2 k13 n13 q13 f13 ks13 i17 i18 q19 f19 ks19 _ _) (callK_retN ?_)
   skip
   refine yS hG rfl ?_
   refine yN ?_
   refine run_blk ?_
   exact ⟨q1, f1, ks1, (tkj16 + 1), false, [LF.mk k13 n13 q13 f13 ks13, LF.mk i17 i18 q19 f19 ks19], 2, 0, tkj16, false, [LF.mk k13 n13 q13 f13 ks13, LF.mk i17 i18 q19 f19 ks19], ((tkj16 + 1) + 1), (show tkj16 ≤ ((tkj16 + 1) + 1) by omega), hM, Sub.trans (Sub.freeze (k := 63) rfl rfl) (Sub.trans (Sub.drop (k := 52) rfl) (Sub.trans (Sub.drop (k := 11) rfl) (Sub.trans (Sub.drop (k := 10) rfl) (Sub.pk [0, 2, 4, 6, 7, 8, 9, 12, 13] rfl))))⟩
  replace hM := ite_f hb32 hM
  refine run_sr ?_
  refine yB rfl ?_
  refine yR rfl ?_
  refine yN ?_
  refine run_ifd rfl rfl (fun hb33 => ?_) (fun hb33 => ?_)
  ·replace hM := ite_t hb33 hM
   refine run_sr ?_
   refine yD hG rfl ?_
   refine yD hG rfl ?_
   refine yK rfl (s_l08Two_ex 2 k13 n13 q13 f13 ks13 i17 i18 q19 f19 ks19 _ _) (callK_retN ?_)
   skip
   refine run_op rfl (buildSlice_step (d := 72) hG rfl rfl rfl rfl rfl (by rfl) (by rfl) (by rfl) (by decide)) rfl (ltb rfl) ?_
   refine yR rfl ?_
   refine yN ?_
   refine run_sub_code (σ' := ⟨[(0, .imm q1 3 f1 (fcellss ks1)), (2, .int .i64 i3), (4, .optr (.loc 4) 0 0), (6, .optr (.loc 6) 0 0), (7, .int .i64 0), (8, .int .i64 0), (9, .optr (.loc 9) 0 0), (10, .optr (.loc 10) 0 0), (12, .osl (.loc 72)), (13, .optr (.loc 13) 0 0)], [(72, ⟨28, 3, false, fcellss [LF.mk 2 0 tkj16 false [LF.mk k13 n13 q13 f13 ks13, LF.mk i17 i18 q19 f19 ks19]]⟩), (13, ⟨28, 3, true, [[.int .i64 0, .int .i64 0, .imm 0 3 true []]]⟩), (10, ⟨28, 3, true, [[.int .i64 k13, .int .i64 n13, .imm q13 3 f13 (fcellss ks13)]]⟩), (9, ⟨28, 3, true, [[.int .i64 0, .int .i64 0, .imm 0 3 true []]]⟩), (6, ⟨28, 3, true, [[.int .i64 0, .int .i64 0, .imm 0 3 true []]]⟩), (4, ⟨26, 4, true, [[.int .i64 k2, .int .i64 n2, .imm p2 3 e2 (fcellss fs2), .imm q2 4 f2 (pcellss ks2)]]⟩)], [], O, (tkj16 + 1)⟩) (Sub.trans (Sub.drop (k := 52) rfl) (Sub.trans (Sub.drop (k := 11) rfl) (Sub.env _ ⟨rfl, rfl, rfl, rfl, rfl, rfl, rfl, rfl, rfl, rfl, trivial⟩))) ?_
   refine run_region ?_
   refine yD hG rfl ?_
   refine yS hG rfl ?_
   refine yN ?_
   refine run_blk ?_
   exact ⟨q1, f1, ks1, (tkj16 + 1), false, [LF.mk 2 0 tkj16 false [LF.mk k13 n13 q13 f13 ks13, LF.mk i17 i18 q19 f19 ks19]], k13, n13, q13, f13, ks13, ((tkj16 + 1) + 1), (show tkj16 ≤ ((tkj16 + 1) + 1) by omega), hM, Sub.trans (Sub.freeze (k := 72) rfl rfl) (Sub.trans (Sub.drop (k := 10) rfl) (Sub.pk [0, 2, 4, 6, 7, 8, 9, 12, 13] rfl))⟩
  replace hM := ite_f hb33 hM
  refine run_sr ?_
  refine yB rfl ?_
  refine yR rfl ?_
  refine yN ?_
  refine run_ifd rfl rfl (fun hb34 => ?_) (fun hb34 => ?_)
  ·replace hM := ite_t hb34 hM
   refine run_sr ?_
   refine yD hG rfl ?_
   refine yD hG rfl ?_
   refine yK rfl (s_l08Two_ex 2 k13 n13 q13 f13 ks13 i17 i18 q19 f19 ks19 _ _) (callK_retN ?_)
   skip
   refine run_op rfl (buildSlice_step (d := 79) hG rfl rfl rfl rfl rfl (by rfl) (by rfl) (by rfl) (by decide)) rfl (ltb rfl) ?_
   refine yR rfl ?_
   refine yN ?_
   refine run_sub_code (σ' := ⟨[(0, .imm q1 3 f1 (fcellss ks1)), (2, .int .i64 i3), (4, .optr (.loc 4) 0 0), (6, .optr (.loc 6) 0 0), (7, .int .i64 0), (8, .int .i64 0), (9, .optr (.loc 9) 0 0), (11, .optr (.loc 11) 0 0), (12, .osl (.loc 79)), (13, .optr (.loc 13) 0 0)], [(79, ⟨28, 3, false, fcellss [LF.mk 2 0 tkj16 false [LF.mk k13 n13 q13 f13 ks13, LF.mk i17 i18 q19 f19 ks19]]⟩), (13, ⟨28, 3, true, [[.int .i64 0, .int .i64 0, .imm 0 3 true []]]⟩), (11, ⟨28, 3, true, [[.int .i64 i17, .int .i64 i18, .imm q19 3 f19 (fcellss ks19)]]⟩), (9, ⟨28, 3, true, [[.int .i64 0, .int .i64 0, .imm 0 3 true []]]⟩), (6, ⟨28, 3, true, [[.int .i64 0, .int .i64 0, .imm 0 3 true []]]⟩), (4, ⟨26, 4, true, [[.int .i64 k2, .int .i64 n2, .imm p2 3 e2 (fcellss fs2), .imm q2 4 f2 (pcellss ks2)]]⟩)], [], O, (tkj16 + 1)⟩) (Sub.trans (Sub.drop (k := 52) rfl) (Sub.trans (Sub.drop (k := 10) rfl) (Sub.env _ ⟨rfl, rfl, rfl, rfl, rfl, rfl, rfl, rfl, rfl, rfl, trivial⟩))) ?_
   refine run_region ?_
   refine yD hG rfl ?_
   refine yS hG rfl ?_
   refine yN ?_
   refine run_blk ?_
   exact ⟨q1, f1, ks1, (tkj16 + 1), false, [LF.mk 2 0 tkj16 false [LF.mk k13 n13 q13 f13 ks13, LF.mk i17 i18 q19 f19 ks19]], i17, i18, q19, f19, ks19, ((tkj16 + 1) + 1), (show tkj16 ≤ ((tkj16 + 1) + 1) by omega), hM, Sub.trans (Sub.freeze (k := 79) rfl rfl) (Sub.trans (Sub.drop (k := 11) rfl) (Sub.pk [0, 2, 4, 6, 7, 8, 9, 12, 13] rfl))⟩
  replace hM := ite_f hb34 hM
  refine run_sr ?_
  refine yB rfl ?_
  refine yR rfl ?_
  refine yN ?_
  refine run_sub_code (σ' := ⟨[(0, .imm q1 3 f1 (fcellss ks1)), (2, .int .i64 i3), (4, .optr (.loc 4) 0 0), (6, .optr (.loc 6) 0 0), (7, .int .i64 0), (8, .int .i64 0), (9, .optr (.loc 9) 0 0), (10, .optr (.loc 10) 0 0), (11, .optr (.loc 11) 0 0), (12, .osl (.loc 52)), (13, .optr (.loc 13) 0 0), (55, .int .i64 k2), (81, .bool (k2 == 5))], [(13, ⟨28, 3, true, [[.int .i64 0, .int .i64 0, .imm 0 3 true []]]⟩), (52, ⟨28, 3, false, fcellss []⟩), (11, ⟨28, 3, true, [[.int .i64 i17, .int .i64 i18, .imm q19 3 f19 (fcellss ks19)]]⟩), (10, ⟨28, 3, true, [[.int .i64 k13, .int .i64 n13, .imm q13 3 f13 (fcellss ks13)]]⟩), (9, ⟨28, 3, true, [[.int .i64 0, .int .i64 0, .imm 0 3 true []]]⟩), (6, ⟨28, 3, true, [[.int .i64 0, .int .i64 0, .imm 0 3 true []]]⟩), (4, ⟨26, 4, true, [[.int .i64 k2, .int .i64 n2, .imm p2 3 e2 (fcellss fs2), .imm q2 4 f2 (pcellss ks2)]]⟩)], [], O, tkj16⟩) (Sub.env _ ⟨rfl, rfl, rfl, rfl, rfl, rfl, rfl, rfl, rfl, rfl, rfl, rfl, rfl, trivial⟩) ?_
  refine run_ifd rfl rfl (fun hb35 => ?_) (fun hb35 => ?_)
  ·replace hM := ite_t hb35 hM
   refine run_sr ?_
   refine yD hG rfl ?_
   refine run_op rfl (buildSlice_step (d := 84) hG rfl rfl rfl rfl rfl (by rfl) (by rfl) (by rfl) (by decide)) rfl (ltb rfl) ?_
   refine yR rfl ?_
   refine yN ?_
   refine run_sr ?_
   refine yL rfl ?_
   refine yD hG rfl ?_
   obtain ⟨r36, hg37, hM⟩ := bind_t hM
   refine yK rfl (s_l08More_ok q1 f1 ks1 k13 n13 q13 f13 ks13 hg37 _ _) (callK_retX (fun v tk38 (hle39 : tkj16 ≤ tk38) h40 => ?_))
   obtain ⟨q41, f41, ks41, rfl, rfl, hf42⟩ := h40
   refine yR rfl ?_
   refine yN ?_
   refine run_region ?_
   refine yD hG rfl ?_
   refine yD hG rfl ?_
   refine yK rfl (s_l08Two_ex 3 k13 n13 q13 f13 ks13 i17 i18 q19 f19 ks19 _ _) (callK_retN ?_)
   skip
   refine yS hG rfl ?_
   refine yN ?_
   refine run_blk ?_
   exact ⟨q41, f41, ks41, (tk38 + 1), false, [LF.mk i17 i18 q19 f19 ks19], 3, 0, tk38, false, [LF.mk k13 n13 q13 f13 ks13, LF.mk i17 i18 q19 f19 ks19], ((tk38 + 1) + 1), (show tkj16 ≤ ((tk38 + 1) + 1) by omega), hM, Sub.trans (Sub.freeze (k := 84) rfl rfl) (Sub.trans (Sub.drop (k := 52) rfl) (Sub.trans (Sub.drop (k := 11) rfl) (Sub.trans (Sub.drop (k := 10) rfl) (Sub.pk [0, 2, 4, 6, 7, 8, 9, 12, 13] rfl))))⟩
  replace hM := ite_f hb35 hM
  refine run_sr ?_
  refine yB rfl ?_
  refine yR rfl ?_
  refine yN ?_
  refine run_ifd rfl rfl (fun hb43 => ?_) (fun hb43 => ?_)
  ·replace hM := ite_t hb43 hM
   refine run_seq ?_
   refine run_draw [] (n := 6) mixed rfl yE ?_
   refine yTL hG 0 (by kernel_rfl) rfl ?_
   refine yTL hG 1 (by kernel_rfl) rfl ?_
   refine yTL hG 3 (by kernel_rfl) rfl ?_
   refine yC 2 (by kernel_rfl) rfl rfl (s_l08Two_ex 3 k13 n13 q13 f13 ks13 i17 i18 q19 f19 ks19 _ _) (callK_retN ?_)
   skip
   refine AAny.one (i := 4) (by kernel_rfl) (AOp.step rfl rfl rfl (ltb rfl) (buildSlice_step (d := 97) hG rfl rfl rfl rfl rfl (by rfl) (by rfl) (by rfl) (by decide)) yE ?_)
   refine yTW 5 (by kernel_rfl) rfl ?_
   refine AAny.done (by kernel_rfl) ?_
   refine run_region ?_
   refine yD hG rfl ?_
   refine yS hG rfl ?_
   refine yN ?_
   refine run_blk ?_
   exact ⟨q1, f1, ks1, (tkj16 + 1), false, [LF.mk 3 0 tkj16 false [LF.mk k13 n13 q13 f13 ks13, LF.mk i17 i18 q19 f19 ks19], LF.mk k13 n13 q13 f13 ks13], i17, i18, q19, f19, ks19, ((tkj16 + 1) + 1), (show tkj16 ≤ ((tkj16 + 1) + 1) by omega), hM, Sub.trans (Sub.freeze (k := 97) rfl rfl) (Sub.trans (Sub.drop (k := 52) rfl) (Sub.trans (Sub.drop (k := 11) rfl) (Sub.trans (Sub.drop (k := 10) rfl) (Sub.pk [0, 2, 4, 6, 7, 8, 9, 12, 13] rfl))))⟩
  replace hM := ite_f hb43 hM
  refine run_sr ?_
  refine yD hG rfl ?_
  refine run_op rfl (buildSlice_step (d := 57) hG rfl rfl rfl rfl rfl (by rfl) (by rfl) (by rfl) (by decide)) rfl (ltb rfl) ?_
  refine yR rfl ?_
  refine yN ?_
  refine run_region ?_
  refine yD hG rfl ?_
  refine yS hG rfl ?_
  refine yN ?_
  refine run_blk ?_
  exact ⟨q1, f1, ks1, tkj16, false, [LF.mk i17 i18 q19 f19 ks19], k13, n13, q13, f13, ks13, (tkj16 + 1), (show tkj16 ≤ (tkj16 + 1) by omega), hM, Sub.trans (Sub.freeze (k := 57) rfl rfl) (Sub.trans (Sub.drop (k := 52) rfl) (Sub.trans (Sub.drop (k := 11) rfl) (Sub.trans (Sub.drop (k := 10) rfl) (Sub.pk [0, 2, 4, 6, 7, 8, 9, 12, 13] rfl))))⟩
 clear hM
 rintro σ' ⟨q27, f27, ks27, q28, f28, ks28, i29, i30, q31, f31, ks31, tkj26, hle96, hM, hsub⟩
 rw [hj97] at hM
 clear hj97
 refine run_sub_code hsub ?_
 refine run_sr ?_
 refine yL rfl ?_
 refine yB rfl ?_
 refine yR rfl ?_
 refine yN ?_
 refine run_seq ?_
 refine run_sr ?_
 refine yR rfl ?_
 refine yN ?_
 refine run_block ?_
 refine run_rounds (fun m σ => ∃ (i44 : Int) (i45 : Int) (tks_l08Proves_L1 : Nat), tkj26 ≤ tks_l08Proves_L1 ∧ s_l08Proves_L1 (s_l08Proves n) n (Pf.mk k2 n2 (fers fs2) (pers ks2)) (fers ks27) (fers ks28) i29 i30 (fers ks31) m i44 i45 = some r ∧ σ = ⟨[(0, .imm q27 3 f27 (fcellss ks27)), (4, .optr (.loc 4) 0 0), (6, .optr (.loc 6) 0 0), (7, .int .i64 0), (8, .int .i64 0), (9, .optr (.loc 9) 0 0), (12, .imm q28 3 f28 (fcellss ks28)), (13, .optr (.loc 13) 0 0), (14, .int .i64 i44), (15, .int .i64 i45)], [(13, ⟨28, 3, true, [[.int .i64 i29, .int .i64 i30, .imm q31 3 f31 (fcellss ks31)]]⟩), (9, ⟨28, 3, true, [[.int .i64 0, .int .i64 0, .imm 0 3 true []]]⟩), (6, ⟨28, 3, true, [[.int .i64 0, .int .i64 0, .imm 0 3 true []]]⟩), (4, ⟨26, 4, true, [[.int .i64 k2, .int .i64 n2, .imm p2 3 e2 (fcellss fs2), .imm q2 4 f2 (pcellss ks2)]]⟩)], [], O, tks_l08Proves_L1⟩) n (Sub.pk [0, 4, 6, 7, 8, 9, 12, 13, 14, 15] rfl) ⟨(IntKind.i64.wrap (i3 + 1)), 0, tkj26, Nat.le_refl _, hM, rfl⟩ (fun m σ hI => ?_)
 clear hM
 obtain ⟨i44, i45, tks_l08Proves_L1, hle95, hM, rfl⟩ := hI
 obtain _ | m := m
 ·exact absurd hM (by rw [s_l08Proves_L1]; exact fun h => by cases h)
 rw [s_l08Proves_L1] at hM
 refine run_seq ?_
 refine run_sr ?_
 refine yL rfl ?_
 refine yF hG rfl ?_
 refine yD hG rfl ?_
 refine run_pu rfl (lenImm_step hG rfl rfl rfl rfl (plen _)) rfl (ltb rfl) ?_
 refine yB rfl ?_
 refine yN ?_
 refine run_ifd rfl rfl (fun hb46 => ?_) (fun hb46 => ?_)
 ·replace hM := ite_t hb46 hM
  refine run_skip ?_
  refine run_seq ?_
  refine run_block ?_
  refine run_sr ?_
  refine yL rfl ?_
  refine yF hG rfl ?_
  refine yD hG rfl ?_
  refine yL rfl ?_
  obtain ⟨y47, hy48, hM⟩ := bind_t hM
  obtain ⟨k49, n49, p49, e49, fs49, q49, f49, ks49, rfl, hc50, hi51⟩ := pidx (ks := ks2) hy48
  refine run_pu rfl (indexImm_step hG rfl rfl rfl hi51 rfl rfl rfl rfl hc50) rfl (ltb rfl) ?_
  refine yD hG rfl ?_
  refine yL rfl ?_
  obtain ⟨r52, hg53, hM⟩ := bind_t hM
  refine yK rfl (ih_s_l08Proves q27 f27 ks27 k49 n49 p49 e49 fs49 q49 f49 ks49 i44 hg53 _ _) (callK_retX (fun v tk54 (hle55 : tks_l08Proves_L1 ≤ tk54) h56 => ?_))
  obtain ⟨ra63, ra64, ra65, va66, va67, va68, rfl, rfl, ⟨k57, n57, q57, f57, ks57, rfl, rfl, hf58⟩, rfl, rfl⟩ := h56
  refine yL rfl ?_
  refine run_pu rfl (extract_step rfl rfl rfl) rfl (ltb rfl) ?_
  refine run_pu rfl (extract_step rfl rfl rfl) rfl (ltb rfl) ?_
  refine run_pu rfl (extract_step rfl rfl rfl) rfl (ltb rfl) ?_
  refine run_op rfl (alloc_step (d := 16) hG rfl rfl rfl) rfl (ltb rfl) ?_
  refine yS hG rfl ?_
  refine yR rfl ?_
  refine yR rfl ?_
  refine yN ?_
  refine run_sub_code (σ' := ⟨[(0, .imm q27 3 f27 (fcellss ks27)), (4, .optr (.loc 4) 0 0), (6, .optr (.loc 6) 0 0), (7, .int .i64 0), (8, .int .i64 0), (9, .optr (.loc 9) 0 0), (12, .imm q28 3 f28 (fcellss ks28)), (13, .optr (.loc 13) 0 0), (14, .int .i64 i44), (15, .int .i64 i45), (16, .optr (.loc 16) 0 0), (17, .int .i64 ra64), (18, .int .i64 ra65)], [(16, ⟨28, 3, true, [[.int .i64 k57, .int .i64 n57, .imm q57 3 f57 (fcellss ks57)]]⟩), (13, ⟨28, 3, true, [[.int .i64 i29, .int .i64 i30, .imm q31 3 f31 (fcellss ks31)]]⟩), (9, ⟨28, 3, true, [[.int .i64 0, .int .i64 0, .imm 0 3 true []]]⟩), (6, ⟨28, 3, true, [[.int .i64 0, .int .i64 0, .imm 0 3 true []]]⟩), (4, ⟨26, 4, true, [[.int .i64 k2, .int .i64 n2, .imm p2 3 e2 (fcellss fs2), .imm q2 4 f2 (pcellss ks2)]]⟩)], [], O, tk54⟩) (Sub.env _ ⟨rfl, rfl, rfl, rfl, rfl, rfl, rfl, rfl, rfl, rfl, rfl, rfl, rfl, trivial⟩) ?_
  refine run_seq ?_
  refine run_sr ?_
  refine yL rfl ?_
  refine yB rfl ?_
  refine yN ?_
  refine run_ifb rfl rfl (fun hb69 => ?_) (fun hb69 => ?_)
  ·replace hM := ite_t hb69 hM
   refine run_sr ?_
   refine yD hG rfl ?_
   refine yL rfl ?_
   refine yL rfl ?_
   refine yS hG rfl ?_
   refine yR rfl ?_
   refine yR rfl ?_
   refine yN ?_
   refine run_ret_to ?_
   obtain rfl := some_t hM
   refine fin_x hG rfl rfl rfl (v' := .tup [.agg [.int .i64 0, .int .i64 0, .imm 0 3 true (fcellss [])], .int .i64 ra64, .int .i64 ra65]) (by rfl) ⟨rfl, (show tk ≤ tk54 by omega), _, rfl, ⟨_, _, _, _, _, _, rfl, rfl, ⟨0, 0, 0, true, [], rfl, rfl, fun h => by cases h⟩, rfl, rfl⟩⟩
  replace hM := ite_f hb69 hM
  refine run_skip ?_
  refine run_seq ?_
  refine run_seq ?_
  refine run_draw [] (n := 7) mixed rfl yE ?_
  refine yTL hG 0 (by kernel_rfl) rfl ?_
  refine yTV 1 (by kernel_rfl) rfl ?_
  refine yTV 2 (by kernel_rfl) rfl ?_
  obtain ⟨y70, hy71, hM⟩ := bind_t hM
  obtain ⟨k72, n72, q72, f72, ks72, rfl, hc73, hi74⟩ := fidx (ks := ks28) hy71
  refine yT 3 (by kernel_rfl) rfl rfl rfl (ltb rfl) ((indexImm_step hG rfl rfl rfl hi74 rfl rfl rfl rfl hc73).rd _) ?_
  refine yTL hG 4 (by kernel_rfl) rfl ?_
  obtain ⟨r75, hg76, hM⟩ := bind_t hM
  refine yC 5 (by kernel_rfl) rfl rfl (s_l08Same_ok n k57 n57 q57 f57 ks57 k72 n72 q72 f72 ks72 hg76 _ _) (callK_retX (fun v tk77 (hle78 : tk54 ≤ tk77) h79 => ?_))
  subst h79
  refine yT 6 (by kernel_rfl) rfl rfl rfl (ltb rfl) ((aun_step rfl rfl rfl).rd _) ?_
  refine AAny.done (by kernel_rfl) ?_
  refine run_ifb rfl rfl (fun hb82 => ?_) (fun hb82 => ?_)
  ·replace hM := ite_t hb82 hM
   refine run_sr ?_
   refine yD hG rfl ?_
   refine yL rfl ?_
   refine yS hG rfl ?_
   refine yR rfl ?_
   refine yR rfl ?_
   refine yN ?_
   refine run_ret_to ?_
   obtain rfl := some_t hM
   refine fin_x hG rfl rfl rfl (v' := .tup [.agg [.int .i64 0, .int .i64 0, .imm 0 3 true (fcellss [])], .int .i64 19, .int .i64 i44]) (by rfl) ⟨rfl, (show tk ≤ tk77 by omega), _, rfl, ⟨_, _, _, _, _, _, rfl, rfl, ⟨0, 0, 0, true, [], rfl, rfl, fun h => by cases h⟩, rfl, rfl⟩⟩
  replace hM := ite_f hb82 hM
  refine run_skip ?_
  refine run_region ?_
  refine yL rfl ?_
  refine yF hG rfl ?_
  refine yD hG rfl ?_
  refine yL rfl ?_
  obtain ⟨y83, hy84, hM⟩ := bind_t hM
  obtain ⟨k85, n85, p85, e85, fs85, q85, f85, ks85, rfl, hc86, hi87⟩ := pidx (ks := ks2) hy84
  refine run_pu rfl (indexImm_step hG rfl rfl rfl hi87 rfl rfl rfl rfl hc86) rfl (ltb rfl) ?_
  refine yD hG rfl ?_
  obtain ⟨r88, hg89, hM⟩ := bind_t hM
  refine yK rfl (s_l08Size_ok n k85 n85 p85 e85 fs85 q85 f85 ks85 hg89 _ _) (callK_retX (fun v tk90 (hle91 : tk77 ≤ tk90) h92 => ?_))
  subst h92
  refine yB rfl ?_
  refine yR rfl ?_
  refine yN ?_
  refine run_blk ?_
  refine run_sub_code (σ' := ⟨[(0, .imm q27 3 f27 (fcellss ks27)), (4, .optr (.loc 4) 0 0), (6, .optr (.loc 6) 0 0), (7, .int .i64 0), (8, .int .i64 0), (9, .optr (.loc 9) 0 0), (12, .imm q28 3 f28 (fcellss ks28)), (13, .optr (.loc 13) 0 0), (14, .int .i64 (IntKind.i64.wrap (i44 + r88))), (15, .int .i64 i45)], [(13, ⟨28, 3, true, [[.int .i64 i29, .int .i64 i30, .imm q31 3 f31 (fcellss ks31)]]⟩), (9, ⟨28, 3, true, [[.int .i64 0, .int .i64 0, .imm 0 3 true []]]⟩), (6, ⟨28, 3, true, [[.int .i64 0, .int .i64 0, .imm 0 3 true []]]⟩), (4, ⟨26, 4, true, [[.int .i64 k2, .int .i64 n2, .imm p2 3 e2 (fcellss fs2), .imm q2 4 f2 (pcellss ks2)]]⟩)], [], O, tk90⟩) (Sub.trans (Sub.drop (k := 16) rfl) (Sub.env _ ⟨rfl, rfl, rfl, rfl, rfl, rfl, rfl, rfl, rfl, rfl, trivial⟩)) ?_
  refine run_region ?_
  refine yL rfl ?_
  refine yB rfl ?_
  refine yR rfl ?_
  refine yN ?_
  exact run_loop_end ⟨m, _, Nat.lt_succ_self _, ⟨(IntKind.i64.wrap (i44 + r88)), (IntKind.i64.wrap (i45 + 1)), tk90, (show tkj26 ≤ tk90 by omega), hM, rfl⟩, Sub.pk [0, 4, 6, 7, 8, 9, 12, 13, 14, 15] rfl⟩
 replace hM := ite_f hb46 hM
 refine run_exit_to rfl ?_
 refine run_sr ?_
 refine yD hG rfl ?_
 refine yS hG rfl ?_
 refine yR rfl ?_
 refine yR rfl ?_
 refine yN ?_
 refine run_ret_to ?_
 obtain rfl := some_t hM
 refine fin_x hG rfl rfl rfl (v' := .tup [.agg [.int .i64 i29, .int .i64 i30, .imm q31 3 f31 (fcellss ks31)], .int .i64 0, .int .i64 0]) (by rfl) ⟨rfl, (show tk ≤ tks_l08Proves_L1 by omega), _, rfl, ⟨_, _, _, _, _, _, rfl, rfl, ⟨i29, i30, q31, f31, ks31, rfl, rfl, fun h => by cases h⟩, rfl, rfl⟩⟩

theorem s_l08Proves_all : ∀ (n : Nat), (s_l08Proves_P n)
 | 0 => by intro q1 f1 ks1 k2 n2 p2 e2 fs2 q2 f2 ks2 i3 r hM; rw [s_l08Proves] at hM; cases hM
 | n + 1 => have ih := s_l08Proves_all n; s_l08Proves_st n (ih)

theorem s_l08Proves_ok (n : Nat) : s_l08Proves_P n := s_l08Proves_all n

end Go.Am.Ytpkeophkdemcpaa
