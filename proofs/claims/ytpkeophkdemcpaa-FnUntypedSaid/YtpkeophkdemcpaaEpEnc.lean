/- Printed by a program of ours: Lean functions that do what the Go functions do, and the contracts. -/
import Derived.Test.YtpkeophkdemcpaaTypes
import Derived.Test.YtpkeophkdemcpaaMi4
import Derived.Test.YtpkeophkdemcpaaMc1
import Derived.Test.YtpkeophkdemcpaaMb3
import Derived.Test.YtpkeophkdemcpaaMxB
import Derived.Test.YtpkeophkdemcpaaMz

-- packed
namespace Go.Am.Ytpkeophkdemcpaa
open Go Go.Am

set_option maxRecDepth 100000 in
theorem i_lam_ex (k1 : Int) (n1 : Int) (s1 : ByteArray) (q1 : Nat) (f1 : Bool) (ks1 : List LT) (O : Heap) (tk : Nat) : ACalls Go.Proofs.Try.prog 155 [.agg [.int .i64 k1, .int .i64 n1, .str s1, .imm q1 4 f1 (cellss ks1)]] O tk (RetN O (.agg [.int .i64 4, .int .i64 0, .str ⟨#[]⟩, .imm tk 4 false (cellss [LT.mk k1 n1 s1 q1 f1 ks1])]) (tk + 1)) := by
 refine acalls_of_run Go.Proofs.Try.func155 rfl rfl [] [] (Bor.nil _) [(0, .agg [.int .i64 k1, .int .i64 n1, .str s1, .imm q1 4 f1 (cellss ks1)])] (.cons (.agg _) (.nil _)) (leb rfl) (fun _ h => by cases h) (fun S0 hO htk hfz => ?_)
 refine run_sr ?_
 refine run_op rfl (box_step (d := 1) rfl rfl rfl rfl rfl) rfl (ltb rfl) ?_
 refine run_op rfl (alloc_step (d := 2) hG rfl rfl rfl) rfl (ltb rfl) ?_
 refine yN ?_
 refine run_sr ?_
 refine yD hG rfl ?_
 refine run_op rfl (buildSlice_step (d := 4) hG rfl rfl rfl rfl rfl (by rfl) (by rfl) (by rfl) (by decide)) rfl (ltb rfl) ?_
 refine run_pu rfl (build_step hG rfl (by rfl) rfl (fun h => by cases h) (by rfl)) rfl (ltb rfl) ?_
 refine yS hG rfl ?_
 refine yN ?_
 refine run_ret_to ?_
 refine fin_sub (Sub.freeze (k := 4) rfl rfl) ?_
 refine fin_x hG rfl rfl rfl (v' := .agg [.int .i64 4, .int .i64 0, .str ⟨#[]⟩, .imm tk 4 false (cellss [LT.mk k1 n1 s1 q1 f1 ks1])]) (by rfl) ⟨rfl, rfl, rfl⟩

set_option maxRecDepth 100000 in
theorem i_variable_ex (i1 : Int) (q2 : Nat) (f2 : Bool) (ks2 : List LT) (O : Heap) (tk : Nat) : ACalls Go.Proofs.Try.prog 201 [.int .i64 i1, .imm q2 4 f2 (cellss ks2)] O tk (RetN O (.agg [.int .i64 5, .int .i64 i1, .str ⟨#[]⟩, .imm q2 4 f2 (cellss ks2)]) tk) := by
 refine acalls_of_run Go.Proofs.Try.func201 rfl rfl [] [] (Bor.nil _) [(0, .int .i64 i1), (1, .imm q2 4 f2 (cellss ks2))] (.cons (entS rfl) (.cons (entS rfl) (.nil _))) (leb rfl) (fun _ h => by cases h) (fun S0 hO htk hfz => ?_)
 refine run_sr ?_
 refine run_op rfl (alloc_step (d := 4) hG rfl rfl rfl) rfl (ltb rfl) ?_
 refine yN ?_
 refine run_sr ?_
 refine yL rfl ?_
 refine yL rfl ?_
 refine run_pu rfl (build_step hG rfl (by rfl) rfl (fun h => by cases h) (by rfl)) rfl (ltb rfl) ?_
 refine yS hG rfl ?_
 refine yN ?_
 refine run_ret_to ?_
 refine fin_x hG rfl rfl rfl (v' := .agg [.int .i64 5, .int .i64 i1, .str ⟨#[]⟩, .imm q2 4 f2 (cellss ks2)]) (by rfl) ⟨rfl, rfl, rfl⟩

set_option maxRecDepth 100000 in
theorem g_Clip_X_ex (q1 : Nat) (f1 : Bool) (l1 : List Int) (O : Heap) (tk : Nat) : ACalls Go.Proofs.Try.prog 202 [.imm q1 1 f1 ((l1 : List Int).map fun n => [AV.int .i64 n])] O tk (RetN O (.imm 1 1 true ((l1 : List Int).map fun n => [AV.int .i64 n])) tk) := by
 refine acalls_of_run Go.Proofs.Try.func202 rfl rfl [] [] (Bor.nil _) [(0, .imm q1 1 f1 ((l1 : List Int).map fun n => [AV.int .i64 n]))] (.cons (entS rfl) (.nil _)) (leb rfl) (fun _ h => by cases h) (fun S0 hO htk hfz => ?_)
 refine run_sr ?_
 refine yR rfl ?_
 refine yN ?_
 refine run_sr ?_
 refine yL rfl ?_
 refine yL rfl ?_
 refine run_pu rfl (lenImm_step hG rfl rfl rfl rfl (ilen _)) rfl (ltb rfl) ?_
 refine yL rfl ?_
 refine run_pu rfl (lenImm_step hG rfl rfl rfl rfl (ilen _)) rfl (ltb rfl) ?_
 refine run_pu rfl (clip_step hG rfl rfl rfl rfl rfl rfl (ilen _) rfl rfl) rfl (ltb rfl) ?_
 refine yR rfl ?_
 refine yN ?_
 refine run_ret_to ?_
 refine fin_x hG rfl rfl rfl (v' := .imm 1 1 true ((l1 : List Int).map fun n => [AV.int .i64 n])) (by rfl) ⟨rfl, rfl, rfl⟩

def i_levels_with (l1 : List Int) (i2 : Int) : Option (List Int) :=
 chk ((l1).length + ([i2]).length ≤ 1099511627776) <|
 some (l1 ++ [i2])

set_option maxRecDepth 100000 in
theorem i_levels_with_ok : ∀ (q1 : Nat) (f1 : Bool) (l1 : List Int) (i2 : Int) {r : (List Int)}, i_levels_with l1 i2 = some r → ∀ (O : Heap) (tk : Nat), ACalls Go.Proofs.Try.prog 154 [.imm q1 1 f1 ((l1 : List Int).map fun n => [AV.int .i64 n]), .int .i64 i2] O tk (RetX O tk (fun v tk' => VIs r v)) := by
 intro q1 f1 l1 i2 r hM O tk
 unfold i_levels_with at hM
 refine acalls_of_run Go.Proofs.Try.func154 rfl rfl [] [] (Bor.nil _) [(0, .imm q1 1 f1 ((l1 : List Int).map fun n => [AV.int .i64 n])), (1, .int .i64 i2)] (.cons (entS rfl) (.cons (entS rfl) (.nil _))) (leb rfl) (fun _ h => by cases h) (fun S0 hO htk hfz => ?_)
 refine run_sr ?_
 refine yR rfl ?_
 refine yN ?_
 refine run_sr ?_
 refine yL rfl ?_
 refine yK rfl (g_Clip_X_ex q1 f1 l1 _ _) (callK_retN ?_)
 skip
 refine yL rfl ?_
 refine run_op rfl (buildSlice_step (d := 8) hG rfl rfl rfl rfl rfl (by rfl) (by rfl) (by rfl) (by decide)) rfl (ltb rfl) ?_
 obtain ⟨hc3, hM⟩ := chk_t hM
 refine run_op rfl (appendFM_step (d := 9) hG rfl rfl rfl rfl rfl rfl rfl (icells_sz l1) rfl (icells_sz _) (ilen _) (ilen _) (by simp) hc3 (by decide) (icells_app _ _)) rfl (ltb rfl) ?_
 refine yR rfl ?_
 refine yN ?_
 refine run_ret_to ?_
 refine fin_sub (Sub.freeze (k := 9) rfl rfl) ?_
 obtain rfl := some_t hM
 refine fin_x hG rfl rfl rfl (v' := .imm tk 1 false (((l1 ++ [i2]) : List Int).map fun n => [AV.int .i64 n])) (by rfl) ⟨rfl, (show tk ≤ (tk + 1) by omega), _, rfl, ⟨tk, false, rfl⟩⟩

def i_levels_variable (l1 : List Int) (i2 : Int) (i3 : Int) : Option T :=
 (idx l1 (IntKind.i64.wrap ((IntKind.i64.wrap (((l1).length : Int) - 1)) - i2))).bind fun y4 =>
 some (T.mk 5 (IntKind.i64.wrap ((IntKind.i64.wrap (i3 - 1)) - y4)) ⟨#[]⟩ [])

set_option maxRecDepth 100000 in
theorem i_levels_variable_ok : ∀ (q1 : Nat) (f1 : Bool) (l1 : List Int) (i2 : Int) (i3 : Int) {r : T}, i_levels_variable l1 i2 i3 = some r → ∀ (O : Heap) (tk : Nat), ACalls Go.Proofs.Try.prog 152 [.imm q1 1 f1 ((l1 : List Int).map fun n => [AV.int .i64 n]), .int .i64 i2, .int .i64 i3] O tk (RetX O tk (fun v tk' => VT true tk tk' r v)) := by
 intro q1 f1 l1 i2 i3 r hM O tk
 unfold i_levels_variable at hM
 refine acalls_of_run Go.Proofs.Try.func152 rfl rfl [] [] (Bor.nil _) [(0, .imm q1 1 f1 ((l1 : List Int).map fun n => [AV.int .i64 n])), (1, .int .i64 i2), (2, .int .i64 i3)] (.cons (entS rfl) (.cons (entS rfl) (.cons (entS rfl) (.nil _)))) (leb rfl) (fun _ h => by cases h) (fun S0 hO htk hfz => ?_)
 refine run_sr ?_
 refine run_op rfl (alloc_step (d := 6) hG rfl rfl rfl) rfl (ltb rfl) ?_
 refine yN ?_
 refine run_sr ?_
 refine yL rfl ?_
 refine yB rfl ?_
 refine yL rfl ?_
 refine yL rfl ?_
 refine run_pu rfl (lenImm_step hG rfl rfl rfl rfl (ilen _)) rfl (ltb rfl) ?_
 refine yB rfl ?_
 refine yL rfl ?_
 refine yB rfl ?_
 obtain ⟨y4, hy5, hM⟩ := bind_t hM
 obtain ⟨hc7, hi8⟩ := iidx (k := .i64) hy5
 refine run_pu rfl (indexImm_step hG rfl rfl rfl hi8 rfl rfl rfl rfl hc7) rfl (ltb rfl) ?_
 refine yD hG rfl ?_
 refine yB rfl ?_
 refine yK rfl (ACalls.args (args' := [.int .i64 (IntKind.i64.wrap ((IntKind.i64.wrap (i3 - 1)) - y4)), .imm 0 4 true (cellss [])]) rfl (i_variable_ex (IntKind.i64.wrap ((IntKind.i64.wrap (i3 - 1)) - y4)) 0 true [] _ _)) (callK_retN ?_)
 skip
 refine yS hG rfl ?_
 refine yN ?_
 refine run_ret_to ?_
 obtain rfl := some_t hM
 refine fin_x hG rfl rfl rfl (v' := .agg [.int .i64 5, .int .i64 (IntKind.i64.wrap ((IntKind.i64.wrap (i3 - 1)) - y4)), .str ⟨#[]⟩, .imm 0 4 true (cellss [])]) (by rfl) ⟨rfl, (show tk ≤ tk by omega), _, rfl, ⟨5, (IntKind.i64.wrap ((IntKind.i64.wrap (i3 - 1)) - y4)), ⟨#[]⟩, 0, true, [], rfl, rfl, fun _ => Fr.nil _ _⟩⟩

def i_levels_exprTerm : Nat → List Int → Pf → Int → Option (Rz T)
 | 0, _, _, _ => none
 | n + 1, l1, x2, i3 =>
  if x2.kind = 1 then
   if x2.n ≥ ((l1).length : Int) then
    some (.stop 7 0)
   else
    (i_levels_variable l1 x2.n i3).bind fun r6 =>
    some (.ok r6)
  else
   if x2.kind = 2 then
    (idx x2.kids 0).bind fun y14 =>
    (idx x2.kids 1).bind fun y19 =>
    zb (i_levels_exprTerm n l1 y14 i3) fun r24 =>
    zb (i_levels_exprTerm n l1 y19 i3) fun r33 =>
    some (.ok (T.mk 6 0 ⟨#[97, 112, 112]⟩ [r24, r33]))
   else
    (idx x2.forms 0).bind fun y42 =>
    (idx x2.kids 0).bind fun y47 =>
    (i_typeTerm n y42).bind fun r52 =>
    (i_levels_with l1 i3).bind fun r59 =>
    zb (i_levels_exprTerm n r59 y47 (IntKind.i64.wrap (i3 + 1))) fun r66 =>
    some (.ok (T.mk 6 0 ⟨#[108, 97, 109]⟩ [r52, (T.mk 4 0 ⟨#[]⟩ [r66])]))

def i_levels_exprTerm_P (n : Nat) : Prop := ∀ (q1 : Nat) (f1 : Bool) (l1 : List Int) (k2 : Int) (n2 : Int) (p2 : Nat) (e2 : Bool) (fs2 : List LF) (q2 : Nat) (f2 : Bool) (ks2 : List LP) (i3 : Int) {r : (Rz T)}, i_levels_exprTerm n l1 (Pf.mk k2 n2 (fers fs2) (pers ks2)) i3 = some r → ∀ (O : Heap) (tk : Nat), ACalls Go.Proofs.Try.prog 75 [.imm q1 1 f1 ((l1 : List Int).map fun n => [AV.int .i64 n]), .agg [.int .i64 k2, .int .i64 n2, .imm p2 3 e2 (fcellss fs2), .imm q2 4 f2 (pcellss ks2)], .int .i64 i3] O tk (RetZ HT O tk r (fun r v tk' => VT true tk tk' r v))

set_option maxHeartbeats 2000000 in
set_option maxRecDepth 100000 in
theorem i_levels_exprTerm_st (n : Nat) (ih_i_levels_exprTerm : i_levels_exprTerm_P n) : i_levels_exprTerm_P (n + 1) := by
 intro q1 f1 l1 k2 n2 p2 e2 fs2 q2 f2 ks2 i3 r hM O tk
 rw [i_levels_exprTerm] at hM
 refine acalls_of_run Go.Proofs.Try.func75 rfl rfl [] [] (Bor.nil _) [(0, .imm q1 1 f1 ((l1 : List Int).map fun n => [AV.int .i64 n])), (1, .agg [.int .i64 k2, .int .i64 n2, .imm p2 3 e2 (fcellss fs2), .imm q2 4 f2 (pcellss ks2)]), (2, .int .i64 i3)] (.cons (entS rfl) (.cons (.agg _) (.cons (entS rfl) (.nil _)))) (leb rfl) (fun _ h => by cases h) (fun S0 hO htk hfz => ?_)
 refine run_sr ?_
 refine run_op rfl (box_step (d := 4) rfl rfl rfl rfl rfl) rfl (ltb rfl) ?_
 refine run_op rfl (alloc_step (d := 6) hG rfl rfl rfl) rfl (ltb rfl) ?_
 refine yN ?_
 refine run_seq ?_
 refine run_sr ?_
 refine yF hG rfl ?_
 refine yD hG rfl ?_
 refine yN ?_
 refine run_block ?_
 refine run_sr ?_
 refine yB rfl ?_
 refine yR rfl ?_
 refine yN ?_
 refine run_ifd rfl rfl (fun hb4 => ?_) (fun hb4 => ?_)
 ·replace hM := ite_t hb4 hM
  refine run_seq ?_
  refine run_sr ?_
  refine yF hG rfl ?_
  refine yD hG rfl ?_
  refine yL rfl ?_
  refine run_pu rfl (lenImm_step hG rfl rfl rfl rfl (ilen _)) rfl (ltb rfl) ?_
  refine yB rfl ?_
  refine yN ?_
  refine run_ifd rfl rfl (fun hb5 => ?_) (fun hb5 => ?_)
  ·replace hM := ite_t hb5 hM
   refine run_region ?_
   obtain rfl := some_t hM
   exact run_call rfl rfl rfl (ltb rfl) rfl rfl rfl yE (i_stop_ok 7 0 _ _) (callK_retS (run_pan_at (⟨rfl, (show tk ≤ tk by omega), rfl⟩)))
  replace hM := ite_f hb5 hM
  refine run_skip ?_
  refine run_sr ?_
  refine yL rfl ?_
  refine yF hG rfl ?_
  refine yD hG rfl ?_
  refine yL rfl ?_
  obtain ⟨r6, hg7, hM⟩ := bind_t hM
  refine yK rfl (i_levels_variable_ok q1 f1 l1 n2 i3 hg7 _ _) (callK_retX (fun v tk8 (hle9 : tk ≤ tk8) h10 => ?_))
  obtain ⟨k11, n11, s11, q11, f11, ks11, rfl, rfl, hf12⟩ := h10
  refine yS hG rfl ?_
  refine yN ?_
  refine run_ret_to ?_
  obtain rfl := some_t hM
  refine fin_x hG rfl rfl rfl (v' := .agg [.int .i64 k11, .int .i64 n11, .str s11, .imm q11 4 f11 (cellss ks11)]) (by rfl) ⟨rfl, (show tk ≤ tk8 by omega), _, rfl, ⟨k11, n11, s11, q11, f11, ks11, rfl, rfl, fun _ => (show Fr tk tk8 _ from ((show Fr tk tk8 _ from hf12 rfl)).mono (by omega) (by omega))⟩⟩
 replace hM := ite_f hb4 hM
 refine run_sr ?_
 refine yB rfl ?_
 refine yR rfl ?_
 refine yN ?_
 refine run_ifd rfl rfl (fun hb13 => ?_) (fun hb13 => ?_)
 ·replace hM := ite_t hb13 hM
  refine run_seq ?_
  refine run_draw [.loc 6] (n := 17) mixed rfl (by intro x hx; simp only [List.mem_cons, List.not_mem_nil, or_false] at hx; rcases hx with rfl <;> rfl) ?_
  refine yTV 0 (by kernel_rfl) rfl ?_
  refine yTF hG 1 (by kernel_rfl) rfl ?_
  refine yTL hG 2 (by kernel_rfl) rfl ?_
  obtain ⟨y14, hy15, hM⟩ := bind_t hM
  obtain ⟨k16, n16, p16, e16, fs16, q16, f16, ks16, rfl, hc17, hi18⟩ := pidx (ks := ks2) hy15
  refine yT 3 (by kernel_rfl) rfl rfl rfl (ltb rfl) ((indexImm_step hG rfl rfl rfl hi18 rfl rfl rfl rfl hc17).rd _) ?_
  refine yTL hG 4 (by kernel_rfl) rfl ?_
  refine yTV 5 (by kernel_rfl) rfl ?_
  refine yTV 7 (by kernel_rfl) rfl ?_
  refine yTF hG 8 (by kernel_rfl) rfl ?_
  refine yTL hG 9 (by kernel_rfl) rfl ?_
  obtain ⟨y19, hy20, hM⟩ := bind_t hM
  obtain ⟨k21, n21, p21, e21, fs21, q21, f21, ks21, rfl, hc22, hi23⟩ := pidx (ks := ks2) hy20
  refine yT 10 (by kernel_rfl) rfl rfl rfl (ltb rfl) ((indexImm_step hG rfl rfl rfl hi23 rfl rfl rfl rfl hc22).rd _) ?_
  refine yTL hG 11 (by kernel_rfl) rfl ?_
  refine yTV 12 (by kernel_rfl) rfl ?_
  obtain ⟨z29, hg25, hM⟩ := zb_t hM
  refine yC 6 (by kernel_rfl) rfl rfl (ih_i_levels_exprTerm q1 f1 l1 k16 n16 p16 e16 fs16 q16 f16 ks16 i3 hg25 _ _) (callK_retZ (fun r24 v tk26 hz32 (hle27 : tk ≤ tk26) h28 => ?_) (fun c p tk26 hz (_ : tk ≤ tk26) => by subst hz; obtain rfl := bd_stop hM; exact run_pan_at (⟨rfl, (show tk ≤ tk26 by omega), rfl⟩)))
  subst hz32
  replace hM := bd_ok hM
  obtain ⟨k30, n30, s30, q30, f30, ks30, rfl, rfl, hf31⟩ := h28
  obtain ⟨z38, hg34, hM⟩ := zb_t hM
  refine yC 13 (by kernel_rfl) rfl rfl (ih_i_levels_exprTerm q1 f1 l1 k21 n21 p21 e21 fs21 q21 f21 ks21 i3 hg34 _ _) (callK_retZ (fun r33 v tk35 hz41 (hle36 : tk26 ≤ tk35) h37 => ?_) (fun c p tk35 hz (_ : tk26 ≤ tk35) => by subst hz; obtain rfl := bd_stop hM; exact run_pan_at (⟨rfl, (show tk ≤ tk35 by omega), rfl⟩)))
  subst hz41
  replace hM := bd_ok hM
  obtain ⟨k39, n39, s39, q39, f39, ks39, rfl, rfl, hf40⟩ := h37
  refine AAny.one (i := 14) (by kernel_rfl) (AOp.step rfl rfl rfl (ltb rfl) (buildSlice_step (d := 38) hG rfl rfl rfl rfl rfl (by rfl) (by rfl) (by rfl) (by decide)) yE ?_)
  refine AAny.sub (Sub.freeze (k := 38) rfl rfl) (by intro x hx; simp only [List.mem_cons, List.not_mem_nil, or_false] at hx; rcases hx with rfl <;> rfl) ?_
  refine yC 15 (by kernel_rfl) rfl rfl (i_constant_ex ⟨#[97, 112, 112]⟩ tk35 false [LT.mk k30 n30 s30 q30 f30 ks30, LT.mk k39 n39 s39 q39 f39 ks39] _ _) (callK_retN ?_)
  skip
  refine yW hG 16 (by kernel_rfl) rfl (by kernel_rfl) rfl ?_
  refine AAny.done (by kernel_rfl) ?_
  refine run_ret_to ?_
  obtain rfl := some_t hM
  refine fin_x hG rfl rfl rfl (v' := .agg [.int .i64 6, .int .i64 0, .str ⟨#[97, 112, 112]⟩, .imm tk35 4 false (cellss [LT.mk k30 n30 s30 q30 f30 ks30, LT.mk k39 n39 s39 q39 f39 ks39])]) (by rfl) ⟨rfl, (show tk ≤ (tk35 + 1) by omega), _, rfl, ⟨6, 0, ⟨#[97, 112, 112]⟩, tk35, false, [LT.mk k30 n30 s30 q30 f30 ks30, LT.mk k39 n39 s39 q39 f39 ks39], rfl, rfl, fun _ => (show Fr tk (tk35 + 1) _ from (show Fr tk (tk35 + 1) _ from Fr.tstop (show Fr tk tk35 _ from (Fr.tcons (show Fr tk tk26 _ from ((show Fr tk tk26 _ from hf31 rfl)).mono (by omega) (by omega)) (Fr.tcons ((show Fr tk26 tk35 _ from hf40 rfl)) (show Fr tk35 tk35 _ from Fr.nil _ _) (by omega) (by omega)) (by omega) (by omega)).mono (by omega) (by omega)) (by omega) (by omega)).mono (by omega) (by omega))⟩⟩
 replace hM := ite_f hb13 hM
 refine run_skip ?_
 refine run_blk ?_
 refine run_seq ?_
 refine run_draw [.loc 6] (n := 19) mixed rfl (by intro x hx; simp only [List.mem_cons, List.not_mem_nil, or_false] at hx; rcases hx with rfl <;> rfl) ?_
 refine yTF hG 0 (by kernel_rfl) rfl ?_
 refine yTL hG 1 (by kernel_rfl) rfl ?_
 obtain ⟨y42, hy43, hM⟩ := bind_t hM
 obtain ⟨k44, n44, q44, f44, ks44, rfl, hc45, hi46⟩ := fidx (ks := fs2) hy43
 refine yT 2 (by kernel_rfl) rfl rfl rfl (ltb rfl) ((indexImm_step hG rfl rfl rfl hi46 rfl rfl rfl rfl hc45).rd _) ?_
 refine yTL hG 3 (by kernel_rfl) rfl ?_
 refine yTV 5 (by kernel_rfl) rfl ?_
 refine yTV 6 (by kernel_rfl) rfl ?_
 refine yTF hG 8 (by kernel_rfl) rfl ?_
 refine yTL hG 9 (by kernel_rfl) rfl ?_
 obtain ⟨y47, hy48, hM⟩ := bind_t hM
 obtain ⟨k49, n49, p49, e49, fs49, q49, f49, ks49, rfl, hc50, hi51⟩ := pidx (ks := ks2) hy48
 refine yT 10 (by kernel_rfl) rfl rfl rfl (ltb rfl) ((indexImm_step hG rfl rfl rfl hi51 rfl rfl rfl rfl hc50).rd _) ?_
 refine yTL hG 11 (by kernel_rfl) rfl ?_
 refine yTV 12 (by kernel_rfl) rfl ?_
 refine yT 13 (by kernel_rfl) rfl rfl rfl (ltb rfl) ((abin_step rfl rfl rfl rfl (fun _ h => by cases h)).rd _) ?_
 obtain ⟨r52, hg53, hM⟩ := bind_t hM
 refine yC 4 (by kernel_rfl) rfl rfl (i_typeTerm_ok n k44 n44 q44 f44 ks44 hg53 _ _) (callK_retX (fun v tk54 (hle55 : tk ≤ tk54) h56 => ?_))
 obtain ⟨k57, n57, s57, q57, f57, ks57, rfl, rfl, hf58⟩ := h56
 obtain ⟨r59, hg60, hM⟩ := bind_t hM
 refine yC 7 (by kernel_rfl) rfl rfl (i_levels_with_ok q1 f1 l1 i3 hg60 _ _) (callK_retX (fun v tk61 (hle62 : tk54 ≤ tk61) h63 => ?_))
 obtain ⟨q64, f64, rfl⟩ := h63
 obtain ⟨z71, hg67, hM⟩ := zb_t hM
 refine yC 14 (by kernel_rfl) rfl rfl (ih_i_levels_exprTerm q64 f64 r59 k49 n49 p49 e49 fs49 q49 f49 ks49 (IntKind.i64.wrap (i3 + 1)) hg67 _ _) (callK_retZ (fun r66 v tk68 hz74 (hle69 : tk61 ≤ tk68) h70 => ?_) (fun c p tk68 hz (_ : tk61 ≤ tk68) => by subst hz; obtain rfl := bd_stop hM; exact run_pan_at (⟨rfl, (show tk ≤ tk68 by omega), rfl⟩)))
 subst hz74
 replace hM := bd_ok hM
 obtain ⟨k72, n72, s72, q72, f72, ks72, rfl, rfl, hf73⟩ := h70
 refine yC 15 (by kernel_rfl) rfl rfl (i_lam_ex k72 n72 s72 q72 f72 ks72 _ _) (callK_retN ?_)
 skip
 refine AAny.one (i := 16) (by kernel_rfl) (AOp.step rfl rfl rfl (ltb rfl) (buildSlice_step (d := 56) hG rfl rfl rfl rfl rfl (by rfl) (by rfl) (by rfl) (by decide)) yE ?_)
 refine AAny.sub (Sub.freeze (k := 56) rfl rfl) (by intro x hx; simp only [List.mem_cons, List.not_mem_nil, or_false] at hx; rcases hx with rfl <;> rfl) ?_
 refine yC 17 (by kernel_rfl) rfl rfl (i_constant_ex ⟨#[108, 97, 109]⟩ (tk68 + 1) false [LT.mk k57 n57 s57 q57 f57 ks57, LT.mk 4 0 ⟨#[]⟩ tk68 false [LT.mk k72 n72 s72 q72 f72 ks72]] _ _) (callK_retN ?_)
 skip
 refine yW hG 18 (by kernel_rfl) rfl (by kernel_rfl) rfl ?_
 refine AAny.done (by kernel_rfl) ?_
 refine run_ret_to ?_
 obtain rfl := some_t hM
 refine fin_x hG rfl rfl rfl (v' := .agg [.int .i64 6, .int .i64 0, .str ⟨#[108, 97, 109]⟩, .imm (tk68 + 1) 4 false (cellss [LT.mk k57 n57 s57 q57 f57 ks57, LT.mk 4 0 ⟨#[]⟩ tk68 false [LT.mk k72 n72 s72 q72 f72 ks72]])]) (by rfl) ⟨rfl, (show tk ≤ ((tk68 + 1) + 1) by omega), _, rfl, ⟨6, 0, ⟨#[108, 97, 109]⟩, (tk68 + 1), false, [LT.mk k57 n57 s57 q57 f57 ks57, LT.mk 4 0 ⟨#[]⟩ tk68 false [LT.mk k72 n72 s72 q72 f72 ks72]], rfl, rfl, fun _ => (show Fr tk ((tk68 + 1) + 1) _ from (show Fr tk ((tk68 + 1) + 1) _ from Fr.tstop (show Fr tk (tk68 + 1) _ from (Fr.tcons (show Fr tk tk61 _ from ((show Fr tk tk54 _ from hf58 rfl)).mono (by omega) (by omega)) (Fr.tcons (show Fr tk61 (tk68 + 1) _ from Fr.tstop (show Fr tk61 tk68 _ from (Fr.tcons ((show Fr tk61 tk68 _ from hf73 rfl)) (show Fr tk68 tk68 _ from Fr.nil _ _) (by omega) (by omega)).mono (by omega) (by omega)) (by omega) (by omega)) (show Fr (tk68 + 1) (tk68 + 1) _ from Fr.nil _ _) (by omega) (by omega)) (by omega) (by omega)).mono (by omega) (by omega)) (by omega) (by omega)).mono (by omega) (by omega))⟩⟩

theorem i_levels_exprTerm_all : ∀ (n : Nat), (i_levels_exprTerm_P n)
 | 0 => by intro q1 f1 l1 k2 n2 p2 e2 fs2 q2 f2 ks2 i3 r hM; rw [i_levels_exprTerm] at hM; cases hM
 | n + 1 => have ih := i_levels_exprTerm_all n; i_levels_exprTerm_st n (ih)

theorem i_levels_exprTerm_ok (n : Nat) : i_levels_exprTerm_P n := i_levels_exprTerm_all n

def i_firstLevels_L1 (i1 : Int) (i2 : Int) (i3 : Int) : Nat → Int → List Int → Option (List Int)
 | 0, _, _ => none
 | m + 1, i4, l5 =>
  if i4 < i1 then
   chk ((l5).length + ([(IntKind.i64.wrap (i3 + (IntKind.i64.wrap (i2 * i4))))]).length ≤ 1099511627776) <|
   i_firstLevels_L1 i1 i2 i3 m (IntKind.i64.wrap (i4 + 1)) (l5 ++ [(IntKind.i64.wrap (i3 + (IntKind.i64.wrap (i2 * i4))))])
  else
   some l5

def i_firstLevels (n : Nat) (i1 : Int) (i2 : Int) (i3 : Int) : Option (List Int) :=
 i_firstLevels_L1 i1 i2 i3 n 0 ([])

set_option maxRecDepth 100000 in
theorem i_firstLevels_ok (n : Nat) : ∀ (i1 : Int) (i2 : Int) (i3 : Int) {r : (List Int)}, i_firstLevels n i1 i2 i3 = some r → ∀ (O : Heap) (tk : Nat), ACalls Go.Proofs.Try.prog 72 [.int .i64 i1, .int .i64 i2, .int .i64 i3] O tk (RetX O tk (fun v tk' => VIs r v)) := by
 intro i1 i2 i3 r hM O tk
 unfold i_firstLevels at hM
 refine acalls_of_run Go.Proofs.Try.func72 rfl rfl [] [] (Bor.nil _) [(0, .int .i64 i1), (1, .int .i64 i2), (2, .int .i64 i3)] (.cons (entS rfl) (.cons (entS rfl) (.cons (entS rfl) (.nil _)))) (leb rfl) (fun _ h => by cases h) (fun S0 hO htk hfz => ?_)
 refine run_sr ?_
 refine yR rfl ?_
 refine yN ?_
 refine run_sr ?_
 refine run_op rfl (buildSlice_step (d := 9) hG rfl rfl rfl rfl rfl (by rfl) (by rfl) (by rfl) (by decide)) rfl (ltb rfl) ?_
 refine yR rfl ?_
 refine yN ?_
 refine run_seq ?_
 refine run_sr ?_
 refine yL rfl ?_
 refine yL rfl ?_
 refine yN ?_
 refine run_block ?_
 refine run_rounds (fun m σ => ∃ (i4 : Int) (l5 : List Int) (tki_firstLevels_L1 : Nat), tk ≤ tki_firstLevels_L1 ∧ i_firstLevels_L1 i1 i2 i3 m i4 l5 = some r ∧ σ = ⟨[(1, .int .i64 i2), (2, .int .i64 i3), (6, .imm 0 0 true []), (7, .osl (.loc 9)), (10, .int .i64 i1), (11, .int .i64 i4)], [(9, ⟨3, 1, false, (l5 : List Int).map fun n => [AV.int .i64 n]⟩)], [], O, tki_firstLevels_L1⟩) n (Sub.pk [1, 2, 6, 7, 10, 11] rfl) ⟨0, [], tk, Nat.le_refl _, hM, rfl⟩ (fun m σ hI => ?_)
 clear hM
 obtain ⟨i4, l5, tki_firstLevels_L1, hle8, hM, rfl⟩ := hI
 obtain _ | m := m
 ·exact absurd hM (by rw [i_firstLevels_L1]; exact fun h => by cases h)
 rw [i_firstLevels_L1] at hM
 refine run_sr ?_
 refine yB rfl ?_
 refine yN ?_
 refine run_seq ?_
 refine run_ifd rfl rfl (fun hb6 => ?_) (fun hb6 => ?_)
 ·replace hM := ite_t hb6 hM
  refine run_skip ?_
  refine run_seq ?_
  refine run_block ?_
  refine run_sr ?_
  refine yL rfl ?_
  refine yR rfl ?_
  refine yN ?_
  refine run_region ?_
  refine yL rfl ?_
  refine yL rfl ?_
  refine yL rfl ?_
  refine yL rfl ?_
  refine yB rfl ?_
  refine yB rfl ?_
  refine run_op rfl (buildSlice_step (d := 20) hG rfl rfl rfl rfl rfl (by rfl) (by rfl) (by rfl) (by decide)) rfl (ltb rfl) ?_
  obtain ⟨hc7, hM⟩ := chk_t hM
  refine run_op rfl (appendM_step hG rfl rfl rfl rfl rfl rfl rfl rfl rfl rfl rfl (icells_sz _) (ilen _) (ilen _) hc7 (by decide) (icells_app _ _)) rfl (ltb rfl) ?_
  refine yR rfl ?_
  refine yN ?_
  refine run_blk ?_
  refine run_region ?_
  refine yB rfl ?_
  refine yL rfl ?_
  refine yN ?_
  exact run_loop_end ⟨m, _, Nat.lt_succ_self _, ⟨(IntKind.i64.wrap (i4 + 1)), (l5 ++ [(IntKind.i64.wrap (i3 + (IntKind.i64.wrap (i2 * i4))))]), tki_firstLevels_L1, (show tk ≤ tki_firstLevels_L1 by omega), hM, rfl⟩, Sub.trans (Sub.drop (k := 20) rfl) (Sub.pk [1, 2, 6, 7, 10, 11] rfl)⟩
 replace hM := ite_f hb6 hM
 refine run_exit_to rfl ?_
 refine run_sr ?_
 refine yL rfl ?_
 refine yR rfl ?_
 refine yN ?_
 refine run_ret_to ?_
 refine fin_sub (Sub.freeze (k := 9) rfl rfl) ?_
 obtain rfl := some_t hM
 refine fin_x hG rfl rfl rfl (v' := .imm tki_firstLevels_L1 1 false ((l5 : List Int).map fun n => [AV.int .i64 n])) (by rfl) ⟨rfl, (show tk ≤ (tki_firstLevels_L1 + 1) by omega), _, rfl, ⟨tki_firstLevels_L1, false, rfl⟩⟩

def s_l09Place (l1 : List Int) (i2 : Int) : Option (List Int) :=
 chk ((([] : List Int)).length + (l1).length ≤ 1099511627776) <|
 chk (((([] : List Int) ++ l1)).length + ([i2]).length ≤ 1099511627776) <|
 some ((([] : List Int) ++ l1) ++ [i2])

def s_l09Level_L1 (i1 : Int) (i2 : Int) : Nat → Int → List Int → Option (List Int)
 | 0, _, _ => none
 | m + 1, i3, l4 =>
  if i3 < i1 then
   chk ((l4).length + ([(IntKind.i64.wrap (i3 * i2))]).length ≤ 1099511627776) <|
   s_l09Level_L1 i1 i2 m (IntKind.i64.wrap (i3 + 1)) (l4 ++ [(IntKind.i64.wrap (i3 * i2))])
  else
   some l4

def s_l09Level (n : Nat) (i1 : Int) (i2 : Int) : Option (List Int) :=
 s_l09Level_L1 i1 i2 n 0 ([])

def s_l09Tree : Nat → Pf → List Int → Int → Option T
 | 0, _, _, _ => none
 | n + 1, x1, l2, i3 =>
  if x1.kind = 1 then
   (idx l2 (IntKind.i64.wrap ((IntKind.i64.wrap (((l2).length : Int) - 1)) - x1.n))).bind fun y5 =>
   some (T.mk 5 (IntKind.i64.wrap ((IntKind.i64.wrap (i3 - 1)) - y5)) ⟨#[]⟩ [])
  else
   if x1.kind = 3 then
    (idx x1.forms 0).bind fun y11 =>
    (idx x1.kids 0).bind fun y16 =>
    (s_l09TypeTree n y11).bind fun r21 =>
    (s_l09Place l2 i3).bind fun r28 =>
    (s_l09Tree n y16 r28 (IntKind.i64.wrap (i3 + 1))).bind fun r35 =>
    some (T.mk 6 0 ⟨#[108, 97, 109]⟩ [r21, (T.mk 4 0 ⟨#[]⟩ [r35])])
   else
    (idx x1.kids 0).bind fun y42 =>
    (idx x1.kids 1).bind fun y47 =>
    (s_l09Tree n y42 l2 i3).bind fun r52 =>
    (s_l09Tree n y47 l2 i3).bind fun r59 =>
    some (T.mk 6 0 ⟨#[97, 112, 112]⟩ [r52, r59])

end Go.Am.Ytpkeophkdemcpaa
