/- Printed by a program of ours: Lean functions that do what the Go functions do, and the contracts. -/
import Derived.Test.YtpkeophkdemcpaaTypes
import Derived.Test.YtpkeophkdemcpaaMi4
import Derived.Test.YtpkeophkdemcpaaMc1
import Derived.Test.YtpkeophkdemcpaaMb3
import Derived.Test.YtpkeophkdemcpaaMz
import Derived.Test.YtpkeophkdemcpaaEpEnc
import Derived.Test.YtpkeophkdemcpaaMxTypeOf
-- packed
namespace Go.Am.Ytpkeophkdemcpaa
open Go Go.Am

def s_l09Typing : Nat → List F → Pf → List Int → Int → Option (T × F)
 | 0, _, _, _, _ => none
 | n + 1, l1, x2, l3, i4 =>
  if x2.kind = 1 then
   (idx l3 (IntKind.i64.wrap ((IntKind.i64.wrap (((l3).length : Int) - 1)) - x2.n))).bind fun y6 =>
   (idx l1 (IntKind.i64.wrap ((IntKind.i64.wrap (((l1).length : Int) - 1)) - x2.n))).bind fun y11 =>
   some ((T.mk 5 (IntKind.i64.wrap ((IntKind.i64.wrap (i4 - 2)) - y6)) ⟨#[]⟩ []), y11)
  else
   if x2.kind = 3 then
    (s_l09Place l3 i4).bind fun r17 =>
    jn (fun (i25 : Int) (i26 : Int) (l27 : List F) (i28 : Int) (i29 : Int) (t30 : ByteArray) (l31 : List T) =>
     (idx x2.kids 0).bind fun y221 =>
     (s_l09Tree n y221 r17 (IntKind.i64.wrap (i4 + 1))).bind fun r226 =>
     (idx x2.forms 0).bind fun y233 =>
     (idx x2.forms 0).bind fun y238 =>
     (s_l09TypeTree n y233).bind fun r243 =>
     (s_l09TypeTree n (F.mk i25 i26 l27)).bind fun r250 =>
     some ((T.mk 6 0 ⟨#[111, 102, 108, 97, 109]⟩ [r243, r250, (T.mk 4 0 ⟨#[]⟩ [r226]), (T.mk 4 0 ⟨#[]⟩ [(T.mk 4 0 ⟨#[]⟩ [(T.mk i28 i29 t30 l31)])])]), (F.mk 2 0 [y238, (F.mk i25 i26 l27)]))) fun j24 =>
    (idx x2.forms 0).bind fun y33 =>
    (idx x2.kids 0).bind fun y38 =>
    (s_l09More l1 y33).bind fun r43 =>
    (s_l09Typing n r43 y38 r17 (IntKind.i64.wrap (i4 + 2))).bind fun r50 =>
    j24 r50.2.kind r50.2.n r50.2.kids r50.1.kind r50.1.n r50.1.name r50.1.kids
   else
    (idx x2.kids 0).bind fun y259 =>
    (s_l09Typing n l1 y259 l3 i4).bind fun r264 =>
    (idx x2.kids 1).bind fun y277 =>
    (s_l09Typing n l1 y277 l3 i4).bind fun r282 =>
    (idx x2.kids 0).bind fun y295 =>
    (idx x2.kids 1).bind fun y300 =>
    (idx r264.2.kids 1).bind fun y305 =>
    (idx r264.2.kids 1).bind fun y310 =>
    (s_l09Tree n y295 l3 i4).bind fun r315 =>
    (s_l09Tree n y300 l3 i4).bind fun r322 =>
    (s_l09TypeTree n r282.2).bind fun r329 =>
    (s_l09TypeTree n y305).bind fun r336 =>
    some ((T.mk 6 0 ⟨#[111, 102, 97, 112, 112]⟩ [r315, r322, r329, r336, r264.1, r282.1]), y310)

end Go.Am.Ytpkeophkdemcpaa
-- packed
namespace Go.Am.Ytpkeophkdemcpaa
open Go Go.Am

set_option maxRecDepth 100000 in
theorem i_ofFamily_ex (k1 : Int) (n1 : Int) (s1 : ByteArray) (q1 : Nat) (f1 : Bool) (ks1 : List LT) (k2 : Int) (n2 : Int) (s2 : ByteArray) (q2 : Nat) (f2 : Bool) (ks2 : List LT) (O : Heap) (tk : Nat) : ACalls Go.Proofs.Try.prog 74 [.agg [.int .i64 k1, .int .i64 n1, .str s1, .imm q1 4 f1 (cellss ks1)], .agg [.int .i64 k2, .int .i64 n2, .str s2, .imm q2 4 f2 (cellss ks2)]] O tk (RetN O (.agg [.int .i64 3, .int .i64 0, .str ⟨#[111, 102]⟩, .imm tk 4 false (cellss [LT.mk k1 n1 s1 q1 f1 ks1, LT.mk k2 n2 s2 q2 f2 ks2])]) (tk + 1)) := by
 refine acalls_of_run Go.Proofs.Try.func74 rfl rfl [] [] (Bor.nil _) [(0, .agg [.int .i64 k1, .int .i64 n1, .str s1, .imm q1 4 f1 (cellss ks1)]), (1, .agg [.int .i64 k2, .int .i64 n2, .str s2, .imm q2 4 f2 (cellss ks2)])] (.cons (.agg _) (.cons (.agg _) (.nil _))) (leb rfl) (fun _ h => by cases h) (fun S0 hO htk hfz => ?_)
 refine run_sr ?_
 refine run_op rfl (box_step (d := 2) rfl rfl rfl rfl rfl) rfl (ltb rfl) ?_
 refine run_op rfl (box_step (d := 3) rfl rfl rfl rfl rfl) rfl (ltb rfl) ?_
 refine run_op rfl (alloc_step (d := 4) hG rfl rfl rfl) rfl (ltb rfl) ?_
 refine yN ?_
 refine run_sr ?_
 refine yD hG rfl ?_
 refine yD hG rfl ?_
 refine run_op rfl (buildSlice_step (d := 7) hG rfl rfl rfl rfl rfl (by rfl) (by rfl) (by rfl) (by decide)) rfl (ltb rfl) ?_
 refine run_pu rfl (build_step hG rfl (by rfl) rfl (fun h => by cases h) (by rfl)) rfl (ltb rfl) ?_
 refine yS hG rfl ?_
 refine yN ?_
 refine run_ret_to ?_
 refine fin_sub (Sub.freeze (k := 7) rfl rfl) ?_
 refine fin_x hG rfl rfl rfl (v' := .agg [.int .i64 3, .int .i64 0, .str ⟨#[111, 102]⟩, .imm tk 4 false (cellss [LT.mk k1 n1 s1 q1 f1 ks1, LT.mk k2 n2 s2 q2 f2 ks2])]) (by rfl) ⟨rfl, rfl, rfl⟩

def i_typer_typing__c : Nat → (List F × List Int × List Int) → Pf → Int → Option (Rz T)
 | 0, _, _, _ => none
 | n + 1, z1, x5, i6 =>
  if x5.kind = 1 then
   (i_levels_variable z1.2.2 x5.n i6).bind fun r8 =>
   some (.ok r8)
  else
   if x5.kind = 2 then
    jn (fun (i17 : Int) (i18 : Int) (l19 : List F) (l20 : List Pf) (i21 : Int) (i22 : Int) (l23 : List F) (l24 : List Pf) =>
     jn (fun (i36 : Int) (i37 : Int) (l38 : List F) =>
      (idx l38 0).bind fun y57 =>
      (idx l38 1).bind fun y62 =>
      zb (i_levels_exprTerm n z1.2.1 (Pf.mk i21 i22 l23 l24) i6) fun r67 =>
      zb (i_levels_exprTerm n z1.2.1 (Pf.mk i17 i18 l19 l20) i6) fun r76 =>
      (i_typeTerm n y57).bind fun r85 =>
      (i_typeTerm n y62).bind fun r92 =>
      zb (i_typer_typing__c n (z1.1, z1.2.1, z1.2.2) (Pf.mk i21 i22 l23 l24) i6) fun r99 =>
      zb (i_typer_typing__c n (z1.1, z1.2.1, z1.2.2) (Pf.mk i17 i18 l19 l20) i6) fun r108 =>
      some (.ok (T.mk 6 0 ⟨#[111, 102, 97, 112, 112]⟩ [r67, r76, r85, r92, r99, r108]))) fun j35 =>
     zb (i_typeOf n z1.1 (Pf.mk i21 i22 l23 l24) 0) fun r39 =>
     j35 r39.kind r39.n r39.kids) fun j16 =>
    (idx x5.kids 0).bind fun y25 =>
    (idx x5.kids 1).bind fun y30 =>
    j16 y30.kind y30.n y30.forms y30.kids y25.kind y25.n y25.forms y25.kids
   else
    jn (fun (l122 : List Int) (l123 : List Int) (l124 : List F) =>
     (idx x5.kids 0).bind fun y160 =>
     (idx x5.forms 0).bind fun y165 =>
     (i_typeTerm n y165).bind fun r170 =>
     zb (i_typeOf n l124 y160 0) fun r177 =>
     (i_typeTerm n r177).bind fun r186 =>
     zb (i_levels_exprTerm n l122 y160 (IntKind.i64.wrap (i6 + 1))) fun r193 =>
     zb (i_typer_typing__c n (l124, l122, l123) y160 (IntKind.i64.wrap (i6 + 2))) fun r202 =>
     some (.ok (T.mk 6 0 ⟨#[111, 102, 108, 97, 109]⟩ [r170, r186, (T.mk 4 0 ⟨#[]⟩ [r193]), (T.mk 4 0 ⟨#[]⟩ [(T.mk 4 0 ⟨#[]⟩ [r202])])]))) fun j121 =>
    (idx x5.forms 0).bind fun y125 =>
    chk ((z1.1).length + ([y125]).length ≤ 1099511627776) <|
    (i_levels_with z1.2.1 i6).bind fun r131 =>
    (i_levels_with z1.2.2 (IntKind.i64.wrap (i6 + 1))).bind fun r138 =>
    j121 r131 r138 (z1.1 ++ [y125])

def i_typer_typing__c_P (n : Nat) : Prop := ∀ (q2 : Nat) (f2 : Bool) (ks2 : List LF) (q3 : Nat) (f3 : Bool) (l3 : List Int) (q4 : Nat) (f4 : Bool) (l4 : List Int) (k5 : Int) (n5 : Int) (p5 : Nat) (e5 : Bool) (fs5 : List LF) (q5 : Nat) (f5 : Bool) (ks5 : List LP) (i6 : Int) {r : (Rz T)}, i_typer_typing__c n ((fers ks2), l3, l4) (Pf.mk k5 n5 (fers fs5) (pers ks5)) i6 = some r → ∀ (O : Heap) (tk : Nat), ACalls Go.Proofs.Try.prog 73 [.cptr [.imm q2 3 f2 (fcellss ks2), .imm q3 1 f3 ((l3 : List Int).map fun n => [AV.int .i64 n]), .imm q4 1 f4 ((l4 : List Int).map fun n => [AV.int .i64 n])], .agg [.int .i64 k5, .int .i64 n5, .imm p5 3 e5 (fcellss fs5), .imm q5 4 f5 (pcellss ks5)], .int .i64 i6] O tk (RetZ HT O tk r (fun r v tk' => VT true tk tk' r v))

set_option maxHeartbeats 20000000 in
set_option maxHeartbeats 20000000 in
set_option maxRecDepth 100000 in
theorem i_typer_typing__c_st (n : Nat) (ih_i_typer_typing__c : i_typer_typing__c_P n) : i_typer_typing__c_P (n + 1) := by
 intro q2 f2 ks2 q3 f3 l3 q4 f4 l4 k5 n5 p5 e5 fs5 q5 f5 ks5 i6 r hM O tk
 rw [i_typer_typing__c] at hM
 refine acalls_of_run Go.Proofs.Try.func73 rfl rfl [] [] (Bor.nil _) [(0, .cptr [.imm q2 3 f2 (fcellss ks2), .imm q3 1 f3 ((l3 : List Int).map fun n => [AV.int .i64 n]), .imm q4 1 f4 ((l4 : List Int).map fun n => [AV.int .i64 n])]), (1, .agg [.int .i64 k5, .int .i64 n5, .imm p5 3 e5 (fcellss fs5), .imm q5 4 f5 (pcellss ks5)]), (2, .int .i64 i6)] (.cons (.cptr _) (.cons (.agg _) (.cons (entS rfl) (.nil _)))) (leb rfl) (fun _ h => by cases h) (fun S0 hO htk hfz => ?_)
 refine run_sr ?_
 refine run_op rfl (box_step (d := 4) rfl rfl rfl rfl rfl) rfl (ltb rfl) ?_
 refine run_op rfl (alloc_step (d := 6) hG rfl rfl rfl) rfl (ltb rfl) ?_
 refine yN ?_
 refine run_seq ?_
 refine run_sr ?_
 refine yF hG rfl ?_
 refine yD hG rfl ?_
 refine yN ?_
 refine run_block ?_
 refine run_sr ?_
 refine yB rfl ?_
 refine yR rfl ?_
 refine yN ?_
 refine run_ifd rfl rfl (fun hb7 => ?_) (fun hb7 => ?_)
 ·replace hM := ite_t hb7 hM
  refine run_seq ?_
  refine run_draw [.loc 6] (n := 9) mixed rfl (by intro x hx; simp only [List.mem_cons, List.not_mem_nil, or_false] at hx; rcases hx with rfl <;> rfl) ?_
  refine yTV 0 (by kernel_rfl) rfl ?_
  refine yT 1 (by kernel_rfl) rfl rfl rfl (ltb rfl) ((nilCheck_step rfl rfl ⟨_, rfl⟩).rd _) ?_
  refine yTF hG 2 (by kernel_rfl) rfl ?_
  refine yTL hG 3 (by kernel_rfl) rfl ?_
  refine yTF hG 4 (by kernel_rfl) rfl ?_
  refine yTL hG 5 (by kernel_rfl) rfl ?_
  refine yTV 6 (by kernel_rfl) rfl ?_
  obtain ⟨r8, hg9, hM⟩ := bind_t hM
  refine yC 7 (by kernel_rfl) rfl rfl (i_levels_variable_ok q4 f4 l4 n5 i6 hg9 _ _) (callK_retX (fun v tk10 (hle11 : tk ≤ tk10) h12 => ?_))
  obtain ⟨k13, n13, s13, q13, f13, ks13, rfl, rfl, hf14⟩ := h12
  refine yW hG 8 (by kernel_rfl) rfl (by kernel_rfl) rfl ?_
  refine AAny.done (by kernel_rfl) ?_
  refine run_ret_to ?_
  replace hM := some_t hM
  subst hM
  refine fin_x hG rfl rfl rfl (v' := .agg [.int .i64 k13, .int .i64 n13, .str s13, .imm q13 4 f13 (cellss ks13)]) (by rfl) ⟨rfl, (show tk ≤ tk10 by omega), _, rfl, ⟨k13, n13, s13, q13, f13, ks13, rfl, rfl, fun _ => (show Fr tk tk10 _ from ((show Fr tk tk10 _ from hf14 rfl)).mono (by omega) (by omega))⟩⟩
 replace hM := ite_f hb7 hM
 refine run_sr ?_
 refine yB rfl ?_
 refine yR rfl ?_
 refine yN ?_
 refine run_ifd rfl rfl (fun hb15 => ?_) (fun hb15 => ?_)
 ·replace hM := ite_t hb15 hM
  refine run_seq ?_
  obtain ⟨j16, hj120, hM⟩ := jn_t hM
  refine run_cutL [.code _] (fun σ' => ∃ (i17 : Int) (i18 : Int) (q19 : Nat) (f19 : Bool) (ks19 : List LF) (q20 : Nat) (f20 : Bool) (ks20 : List LP) (i21 : Int) (i22 : Int) (q23 : Nat) (f23 : Bool) (ks23 : List LF) (q24 : Nat) (f24 : Bool) (ks24 : List LP) (tkj16 : Nat), tk ≤ tkj16 ∧ j16 i17 i18 (fers ks19) (pers ks20) i21 i22 (fers ks23) (pers ks24) = some r ∧ Sub ⟨Go.Proofs.Try.prog, S0, Go.Proofs.Try.f73.ntmps, [], fun _ => False, []⟩ σ' ⟨[(0, .cptr [.imm q2 3 f2 (fcellss ks2), .imm q3 1 f3 ((l3 : List Int).map fun n => [AV.int .i64 n]), .imm q4 1 f4 ((l4 : List Int).map fun n => [AV.int .i64 n])]), (2, .int .i64 i6), (4, .optr (.loc 4) 0 0), (6, .optr (.loc 6) 0 0), (7, .optr (.loc 7) 0 0), (8, .optr (.loc 8) 0 0)], [(8, ⟨40, 4, true, [[.int .i64 i17, .int .i64 i18, .imm q19 3 f19 (fcellss ks19), .imm q20 4 f20 (pcellss ks20)]]⟩), (7, ⟨40, 4, true, [[.int .i64 i21, .int .i64 i22, .imm q23 3 f23 (fcellss ks23), .imm q24 4 f24 (pcellss ks24)]]⟩), (6, ⟨51, 4, true, [[.int .i64 0, .int .i64 0, .str ⟨#[]⟩, .imm 0 4 true []]]⟩), (4, ⟨40, 4, true, [[.int .i64 k5, .int .i64 n5, .imm p5 3 e5 (fcellss fs5), .imm q5 4 f5 (pcellss ks5)]]⟩)], [], O, tkj16⟩) rfl ?_ ?_
  ·refine run_draw [] (n := 12) mixed rfl yE ?_
   refine yTF hG 0 (by kernel_rfl) rfl ?_
   refine yTL hG 1 (by kernel_rfl) rfl ?_
   obtain ⟨y25, hy26, hM⟩ := bind_t hM
   obtain ⟨k27, n27, p27, e27, fs27, q27, f27, ks27, rfl, hc28, hi29⟩ := pidx (ks := ks5) hy26
   refine yT 2 (by kernel_rfl) rfl rfl rfl (ltb rfl) ((indexImm_step hG rfl rfl rfl hi29 rfl rfl rfl rfl hc28).rd _) ?_
   refine yTL hG 3 (by kernel_rfl) rfl ?_
   refine yTF hG 4 (by kernel_rfl) rfl ?_
   refine yTL hG 5 (by kernel_rfl) rfl ?_
   obtain ⟨y30, hy31, hM⟩ := bind_t hM
   obtain ⟨k32, n32, p32, e32, fs32, q32, f32, ks32, rfl, hc33, hi34⟩ := pidx (ks := ks5) hy31
   refine yT 6 (by kernel_rfl) rfl rfl rfl (ltb rfl) ((indexImm_step hG rfl rfl rfl hi34 rfl rfl rfl rfl hc33).rd _) ?_
   refine yTL hG 7 (by kernel_rfl) rfl ?_
   refine AAny.eachN (rs := [8, 9]) (by kernel_rfl) (fun h => by cases h) (fun i hi => ?_)
   simp only [List.mem_cons, List.not_mem_nil, or_false] at hi
   rcases hi with rfl | rfl
   ·refine AOpN.alloc hG rfl rfl rfl (ltb rfl) rfl rfl rfl ?_
    refine AAny.eachN (rs := [9]) (by kernel_rfl) (fun h => by cases h) (fun i hi => ?_)
    simp only [List.mem_cons, List.not_mem_nil, or_false] at hi
    subst hi
    ·refine AOpN.alloc hG rfl rfl rfl (ltb rfl) rfl rfl rfl ?_
     refine yW hG 10 (by kernel_rfl) rfl (by kernel_rfl) rfl ?_
     refine yW hG 11 (by kernel_rfl) rfl (by kernel_rfl) rfl ?_
     refine AAny.done (by kernel_rfl) ?_
     exact ⟨k32, n32, p32, e32, fs32, q32, f32, ks32, k27, n27, p27, e27, fs27, q27, f27, ks27, tk, (show tk ≤ tk by omega), hM, Sub.pk [0, 2, 4, 6, 7, 8] rfl⟩
   refine AOpN.alloc hG rfl rfl rfl (ltb rfl) rfl rfl rfl ?_
   refine AAny.eachN (rs := [8]) (by kernel_rfl) (fun h => by cases h) (fun i hi => ?_)
   simp only [List.mem_cons, List.not_mem_nil, or_false] at hi
   subst hi
   ·refine AOpN.alloc hG rfl rfl rfl (ltb rfl) rfl rfl rfl ?_
    refine yW hG 10 (by kernel_rfl) rfl (by kernel_rfl) rfl ?_
    refine yW hG 11 (by kernel_rfl) rfl (by kernel_rfl) rfl ?_
    refine AAny.done (by kernel_rfl) ?_
    exact ⟨k32, n32, p32, e32, fs32, q32, f32, ks32, k27, n27, p27, e27, fs27, q27, f27, ks27, tk, (show tk ≤ tk by omega), hM, Sub.trans (Sub.perm (.swap _ _ _ _ _ rfl)) (Sub.pk [0, 2, 4, 6, 7, 8] rfl)⟩
  clear hM
  rintro σ' ⟨i17, i18, q19, f19, ks19, q20, f20, ks20, i21, i22, q23, f23, ks23, q24, f24, ks24, tkj16, hle119, hM, hsub⟩
  rw [hj120] at hM
  clear hj120
  refine run_sub_code hsub ?_
  refine run_seq ?_
  obtain ⟨j35, hj118, hM⟩ := jn_t hM
  refine run_cutL [.code _] (fun σ' => ∃ (i36 : Int) (i37 : Int) (q38 : Nat) (f38 : Bool) (ks38 : List LF) (tkj35 : Nat), tkj16 ≤ tkj35 ∧ j35 i36 i37 (fers ks38) = some r ∧ Sub ⟨Go.Proofs.Try.prog, S0, Go.Proofs.Try.f73.ntmps, [], fun _ => False, []⟩ σ' ⟨[(0, .cptr [.imm q2 3 f2 (fcellss ks2), .imm q3 1 f3 ((l3 : List Int).map fun n => [AV.int .i64 n]), .imm q4 1 f4 ((l4 : List Int).map fun n => [AV.int .i64 n])]), (2, .int .i64 i6), (4, .optr (.loc 4) 0 0), (6, .optr (.loc 6) 0 0), (7, .optr (.loc 7) 0 0), (8, .optr (.loc 8) 0 0), (9, .optr (.loc 9) 0 0)], [(9, ⟨42, 3, true, [[.int .i64 i36, .int .i64 i37, .imm q38 3 f38 (fcellss ks38)]]⟩), (8, ⟨40, 4, true, [[.int .i64 i17, .int .i64 i18, .imm q19 3 f19 (fcellss ks19), .imm q20 4 f20 (pcellss ks20)]]⟩), (7, ⟨40, 4, true, [[.int .i64 i21, .int .i64 i22, .imm q23 3 f23 (fcellss ks23), .imm q24 4 f24 (pcellss ks24)]]⟩), (6, ⟨51, 4, true, [[.int .i64 0, .int .i64 0, .str ⟨#[]⟩, .imm 0 4 true []]]⟩), (4, ⟨40, 4, true, [[.int .i64 k5, .int .i64 n5, .imm p5 3 e5 (fcellss fs5), .imm q5 4 f5 (pcellss ks5)]]⟩)], [], O, tkj35⟩) rfl ?_ ?_
  ·refine run_draw [] (n := 8) mixed rfl yE ?_
   refine yTV 0 (by kernel_rfl) rfl ?_
   refine yT 1 (by kernel_rfl) rfl rfl rfl (ltb rfl) ((nilCheck_step rfl rfl ⟨_, rfl⟩).rd _) ?_
   refine yTF hG 2 (by kernel_rfl) rfl ?_
   refine yTL hG 3 (by kernel_rfl) rfl ?_
   refine yTL hG 4 (by kernel_rfl) rfl ?_
   refine AAny.eachN (rs := [5, 6]) (by kernel_rfl) (fun h => by cases h) (fun i hi => ?_)
   simp only [List.mem_cons, List.not_mem_nil, or_false] at hi
   rcases hi with rfl | rfl
   ·refine AOpN.of ?_
    obtain ⟨z44, hg40, hM⟩ := zb_t hM
    refine yI rfl rfl (i_typeOf_ok n q2 f2 ks2 i21 i22 q23 f23 ks23 q24 f24 ks24 0 hg40 _ _) (callK_retZ (fun r39 v tk41 hz47 (hle42 : tkj16 ≤ tk41) h43 => ?_) (fun c p tk41 hz (_ : tkj16 ≤ tk41) => by subst hz; obtain rfl := bd_stop hM; exact run_pan_at (cut_pan (⟨rfl, (show tk ≤ tk41 by omega), rfl⟩))))
    subst hz47
    replace hM := bd_ok hM
    obtain ⟨k45, n45, q45, f45, ks45, rfl, rfl, hf46⟩ := h43
    refine AAny.eachN (rs := [6]) (by kernel_rfl) (fun h => by cases h) (fun i hi => ?_)
    simp only [List.mem_cons, List.not_mem_nil, or_false] at hi
    subst hi
    ·refine AOpN.alloc hG rfl rfl rfl (ltb rfl) rfl rfl rfl ?_
     refine yW hG 7 (by kernel_rfl) rfl (by kernel_rfl) rfl ?_
     refine AAny.done (by kernel_rfl) ?_
     exact ⟨k45, n45, q45, f45, ks45, tk41, (show tkj16 ≤ tk41 by omega), hM, Sub.pk [0, 2, 4, 6, 7, 8, 9] rfl⟩
   refine AOpN.alloc hG rfl rfl rfl (ltb rfl) rfl rfl rfl ?_
   obtain ⟨z53, hg49, hM⟩ := zb_t hM
   refine yC 5 (by kernel_rfl) rfl rfl (i_typeOf_ok n q2 f2 ks2 i21 i22 q23 f23 ks23 q24 f24 ks24 0 hg49 _ _) (callK_retZ (fun r48 v tk50 hz56 (hle51 : tkj16 ≤ tk50) h52 => ?_) (fun c p tk50 hz (_ : tkj16 ≤ tk50) => by subst hz; obtain rfl := bd_stop hM; exact run_pan_at (cut_pan (⟨rfl, (show tk ≤ tk50 by omega), rfl⟩))))
   subst hz56
   replace hM := bd_ok hM
   obtain ⟨k54, n54, q54, f54, ks54, rfl, rfl, hf55⟩ := h52
   refine yW hG 7 (by kernel_rfl) rfl (by kernel_rfl) rfl ?_
   refine AAny.done (by kernel_rfl) ?_
   exact ⟨k54, n54, q54, f54, ks54, tk50, (show tkj16 ≤ tk50 by omega), hM, Sub.pk [0, 2, 4, 6, 7, 8, 9] rfl⟩
  clear hM
  rintro σ' ⟨i36, i37, q38, f38, ks38, tkj35, hle117, hM, hsub⟩
  rw [hj118] at hM
  clear hj118
  refine run_sub_code hsub ?_
  refine run_seq ?_
  refine run_draw [.loc 6] (n := 35) mixed rfl (by intro x hx; simp only [List.mem_cons, List.not_mem_nil, or_false] at hx; rcases hx with rfl <;> rfl) ?_
  refine yTV 0 (by kernel_rfl) rfl ?_
  refine yT 1 (by kernel_rfl) rfl rfl rfl (ltb rfl) ((nilCheck_step rfl rfl ⟨_, rfl⟩).rd _) ?_
  refine yTF hG 2 (by kernel_rfl) rfl ?_
  refine yTL hG 3 (by kernel_rfl) rfl ?_
  refine yTL hG 4 (by kernel_rfl) rfl ?_
  refine yTV 5 (by kernel_rfl) rfl ?_
  refine yTV 7 (by kernel_rfl) rfl ?_
  refine yT 8 (by kernel_rfl) rfl rfl rfl (ltb rfl) ((nilCheck_step rfl rfl ⟨_, rfl⟩).rd _) ?_
  refine yTF hG 9 (by kernel_rfl) rfl ?_
  refine yTL hG 10 (by kernel_rfl) rfl ?_
  refine yTL hG 11 (by kernel_rfl) rfl ?_
  refine yTV 12 (by kernel_rfl) rfl ?_
  refine yTF hG 14 (by kernel_rfl) rfl ?_
  refine yTL hG 15 (by kernel_rfl) rfl ?_
  obtain ⟨y57, hy58, hM⟩ := bind_t hM
  obtain ⟨k59, n59, q59, f59, ks59, rfl, hc60, hi61⟩ := fidx (ks := ks38) hy58
  refine yT 16 (by kernel_rfl) rfl rfl rfl (ltb rfl) ((indexImm_step hG rfl rfl rfl hi61 rfl rfl rfl rfl hc60).rd _) ?_
  refine yTL hG 17 (by kernel_rfl) rfl ?_
  refine yTF hG 19 (by kernel_rfl) rfl ?_
  refine yTL hG 20 (by kernel_rfl) rfl ?_
  obtain ⟨y62, hy63, hM⟩ := bind_t hM
  obtain ⟨k64, n64, q64, f64, ks64, rfl, hc65, hi66⟩ := fidx (ks := ks38) hy63
  refine yT 21 (by kernel_rfl) rfl rfl rfl (ltb rfl) ((indexImm_step hG rfl rfl rfl hi66 rfl rfl rfl rfl hc65).rd _) ?_
  refine yTL hG 22 (by kernel_rfl) rfl ?_
  refine yTV 24 (by kernel_rfl) rfl ?_
  refine yTL hG 25 (by kernel_rfl) rfl ?_
  refine yTV 26 (by kernel_rfl) rfl ?_
  refine yTV 28 (by kernel_rfl) rfl ?_
  refine yTL hG 29 (by kernel_rfl) rfl ?_
  refine yTV 30 (by kernel_rfl) rfl ?_
  obtain ⟨z72, hg68, hM⟩ := zb_t hM
  refine yC 6 (by kernel_rfl) rfl rfl (i_levels_exprTerm_ok n q3 f3 l3 i21 i22 q23 f23 ks23 q24 f24 ks24 i6 hg68 _ _) (callK_retZ (fun r67 v tk69 hz75 (hle70 : tkj35 ≤ tk69) h71 => ?_) (fun c p tk69 hz (_ : tkj35 ≤ tk69) => by subst hz; obtain rfl := bd_stop hM; exact run_pan_at (⟨rfl, (show tk ≤ tk69 by omega), rfl⟩)))
  subst hz75
  replace hM := bd_ok hM
  obtain ⟨k73, n73, s73, q73, f73, ks73, rfl, rfl, hf74⟩ := h71
  obtain ⟨z81, hg77, hM⟩ := zb_t hM
  refine yC 13 (by kernel_rfl) rfl rfl (i_levels_exprTerm_ok n q3 f3 l3 i17 i18 q19 f19 ks19 q20 f20 ks20 i6 hg77 _ _) (callK_retZ (fun r76 v tk78 hz84 (hle79 : tk69 ≤ tk78) h80 => ?_) (fun c p tk78 hz (_ : tk69 ≤ tk78) => by subst hz; obtain rfl := bd_stop hM; exact run_pan_at (⟨rfl, (show tk ≤ tk78 by omega), rfl⟩)))
  subst hz84
  replace hM := bd_ok hM
  obtain ⟨k82, n82, s82, q82, f82, ks82, rfl, rfl, hf83⟩ := h80
  obtain ⟨r85, hg86, hM⟩ := bind_t hM
  refine yC 18 (by kernel_rfl) rfl rfl (i_typeTerm_ok n k59 n59 q59 f59 ks59 hg86 _ _) (callK_retX (fun v tk87 (hle88 : tk78 ≤ tk87) h89 => ?_))
  obtain ⟨k90, n90, s90, q90, f90, ks90, rfl, rfl, hf91⟩ := h89
  obtain ⟨r92, hg93, hM⟩ := bind_t hM
  refine yC 23 (by kernel_rfl) rfl rfl (i_typeTerm_ok n k64 n64 q64 f64 ks64 hg93 _ _) (callK_retX (fun v tk94 (hle95 : tk87 ≤ tk94) h96 => ?_))
  obtain ⟨k97, n97, s97, q97, f97, ks97, rfl, rfl, hf98⟩ := h96
  obtain ⟨z104, hg100, hM⟩ := zb_t hM
  refine yC 27 (by kernel_rfl) rfl rfl (ih_i_typer_typing__c q2 f2 ks2 q3 f3 l3 q4 f4 l4 i21 i22 q23 f23 ks23 q24 f24 ks24 i6 hg100 _ _) (callK_retZ (fun r99 v tk101 hz107 (hle102 : tk94 ≤ tk101) h103 => ?_) (fun c p tk101 hz (_ : tk94 ≤ tk101) => by subst hz; obtain rfl := bd_stop hM; exact run_pan_at (⟨rfl, (show tk ≤ tk101 by omega), rfl⟩)))
  subst hz107
  replace hM := bd_ok hM
  obtain ⟨k105, n105, s105, q105, f105, ks105, rfl, rfl, hf106⟩ := h103
  obtain ⟨z113, hg109, hM⟩ := zb_t hM
  refine yC 31 (by kernel_rfl) rfl rfl (ih_i_typer_typing__c q2 f2 ks2 q3 f3 l3 q4 f4 l4 i17 i18 q19 f19 ks19 q20 f20 ks20 i6 hg109 _ _) (callK_retZ (fun r108 v tk110 hz116 (hle111 : tk101 ≤ tk110) h112 => ?_) (fun c p tk110 hz (_ : tk101 ≤ tk110) => by subst hz; obtain rfl := bd_stop hM; exact run_pan_at (⟨rfl, (show tk ≤ tk110 by omega), rfl⟩)))
  subst hz116
  replace hM := bd_ok hM
  obtain ⟨k114, n114, s114, q114, f114, ks114, rfl, rfl, hf115⟩ := h112
  refine AAny.one (i := 32) (by kernel_rfl) (AOp.step rfl rfl rfl (ltb rfl) (buildSlice_step (d := 72) hG rfl rfl rfl rfl rfl (by rfl) (by rfl) (by rfl) (by decide)) yE ?_)
  refine AAny.sub (Sub.freeze (k := 72) rfl rfl) (by intro x hx; simp only [List.mem_cons, List.not_mem_nil, or_false] at hx; rcases hx with rfl <;> rfl) ?_
  refine yC 33 (by kernel_rfl) rfl rfl (i_constant_ex ⟨#[111, 102, 97, 112, 112]⟩ tk110 false [LT.mk k73 n73 s73 q73 f73 ks73, LT.mk k82 n82 s82 q82 f82 ks82, LT.mk k90 n90 s90 q90 f90 ks90, LT.mk k97 n97 s97 q97 f97 ks97, LT.mk k105 n105 s105 q105 f105 ks105, LT.mk k114 n114 s114 q114 f114 ks114] _ _) (callK_retN ?_)
  skip
  refine yW hG 34 (by kernel_rfl) rfl (by kernel_rfl) rfl ?_
  refine AAny.done (by kernel_rfl) ?_
  refine run_ret_to ?_
  replace hM := some_t hM
  subst hM
  refine fin_x hG rfl rfl rfl (v' := .agg [.int .i64 6, .int .i64 0, .str ⟨#[111, 102, 97, 112, 112]⟩, .imm tk110 4 false (cellss [LT.mk k73 n73 s73 q73 f73 ks73, LT.mk k82 n82 s82 q82 f82 ks82, LT.mk k90 n90 s90 q90 f90 ks90, LT.mk k97 n97 s97 q97 f97 ks97, LT.mk k105 n105 s105 q105 f105 ks105, LT.mk k114 n114 s114 q114 f114 ks114])]) (by rfl) ⟨rfl, (show tk ≤ (tk110 + 1) by omega), _, rfl, ⟨6, 0, ⟨#[111, 102, 97, 112, 112]⟩, tk110, false, [LT.mk k73 n73 s73 q73 f73 ks73, LT.mk k82 n82 s82 q82 f82 ks82, LT.mk k90 n90 s90 q90 f90 ks90, LT.mk k97 n97 s97 q97 f97 ks97, LT.mk k105 n105 s105 q105 f105 ks105, LT.mk k114 n114 s114 q114 f114 ks114], rfl, rfl, fun _ => (show Fr tk (tk110 + 1) _ from (show Fr tkj35 (tk110 + 1) _ from Fr.tstop (show Fr tkj35 tk110 _ from (Fr.tcons (show Fr tkj35 tk69 _ from ((show Fr tkj35 tk69 _ from hf74 rfl)).mono (by omega) (by omega)) (Fr.tcons (show Fr tk69 tk78 _ from ((show Fr tk69 tk78 _ from hf83 rfl)).mono (by omega) (by omega)) (Fr.tcons (show Fr tk78 tk87 _ from ((show Fr tk78 tk87 _ from hf91 rfl)).mono (by omega) (by omega)) (Fr.tcons (show Fr tk87 tk94 _ from ((show Fr tk87 tk94 _ from hf98 rfl)).mono (by omega) (by omega)) (Fr.tcons (show Fr tk94 tk101 _ from ((show Fr tk94 tk101 _ from hf106 rfl)).mono (by omega) (by omega)) (Fr.tcons ((show Fr tk101 tk110 _ from hf115 rfl)) (show Fr tk110 tk110 _ from Fr.nil _ _) (by omega) (by omega)) (by omega) (by omega)) (by omega) (by omega)) (by omega) (by omega)) (by omega) (by omega)) (by omega) (by omega)).mono (by omega) (by omega)) (by omega) (by omega)).mono (by omega) (by omega))⟩⟩
 replace hM := ite_f hb15 hM
 refine run_skip ?_
 refine run_blk ?_
 refine run_seq ?_
 obtain ⟨j121, hj212, hM⟩ := jn_t hM
 refine run_cutL [.code _] (fun σ' => ∃ (q122 : Nat) (f122 : Bool) (l122 : List Int) (q123 : Nat) (f123 : Bool) (l123 : List Int) (ks124 : List LF) (tkj121 : Nat), tk ≤ tkj121 ∧ j121 l122 l123 (fers ks124) = some r ∧ Sub ⟨Go.Proofs.Try.prog, S0, Go.Proofs.Try.f73.ntmps, [], fun _ => False, []⟩ σ' ⟨[(2, .int .i64 i6), (4, .optr (.loc 4) 0 0), (6, .optr (.loc 6) 0 0), (10, .optr (.loc 99) 0 0)], [(99, ⟨116, 3, true, [[.osl (.loc 84), .imm q122 1 f122 ((l122 : List Int).map fun n => [AV.int .i64 n]), .imm q123 1 f123 ((l123 : List Int).map fun n => [AV.int .i64 n])]]⟩), (84, ⟨42, 3, false, fcellss ks124⟩), (6, ⟨51, 4, true, [[.int .i64 0, .int .i64 0, .str ⟨#[]⟩, .imm 0 4 true []]]⟩), (4, ⟨40, 4, true, [[.int .i64 k5, .int .i64 n5, .imm p5 3 e5 (fcellss fs5), .imm q5 4 f5 (pcellss ks5)]]⟩)], [], O, tkj121⟩) rfl ?_ ?_
 ·refine run_draw [] (n := 27) mixed rfl yE ?_
  refine yTV 0 (by kernel_rfl) rfl ?_
  refine yT 1 (by kernel_rfl) rfl rfl rfl (ltb rfl) ((nilCheck_step rfl rfl ⟨_, rfl⟩).rd _) ?_
  refine yTF hG 2 (by kernel_rfl) rfl ?_
  refine yTL hG 3 (by kernel_rfl) rfl ?_
  refine yTF hG 5 (by kernel_rfl) rfl ?_
  refine yTL hG 6 (by kernel_rfl) rfl ?_
  obtain ⟨y125, hy126, hM⟩ := bind_t hM
  obtain ⟨k127, n127, q127, f127, ks127, rfl, hc128, hi129⟩ := fidx (ks := fs5) hy126
  refine yT 7 (by kernel_rfl) rfl rfl rfl (ltb rfl) ((indexImm_step hG rfl rfl rfl hi129 rfl rfl rfl rfl hc128).rd _) ?_
  refine yTL hG 8 (by kernel_rfl) rfl ?_
  refine yTV 11 (by kernel_rfl) rfl ?_
  refine yT 12 (by kernel_rfl) rfl rfl rfl (ltb rfl) ((nilCheck_step rfl rfl ⟨_, rfl⟩).rd _) ?_
  refine yTF hG 13 (by kernel_rfl) rfl ?_
  refine yTL hG 14 (by kernel_rfl) rfl ?_
  refine yTV 15 (by kernel_rfl) rfl ?_
  refine yTV 17 (by kernel_rfl) rfl ?_
  refine yT 18 (by kernel_rfl) rfl rfl rfl (ltb rfl) ((nilCheck_step rfl rfl ⟨_, rfl⟩).rd _) ?_
  refine yTF hG 19 (by kernel_rfl) rfl ?_
  refine yTL hG 20 (by kernel_rfl) rfl ?_
  refine yTV 21 (by kernel_rfl) rfl ?_
  refine yT 22 (by kernel_rfl) rfl rfl rfl (ltb rfl) ((abin_step rfl rfl rfl rfl (fun _ h => by cases h)).rd _) ?_
  refine AAny.each (rs := [4, 9]) (by kernel_rfl) (fun h => by cases h) (fun i hi => ?_)
  simp only [List.mem_cons, List.not_mem_nil, or_false] at hi
  rcases hi with rfl | rfl
  ·refine yI rfl rfl (g_Clip_Type_ex q2 f2 ks2 _ _) (callK_retN ?_)
   skip
   refine AAny.one (i := 9) (by kernel_rfl) (AOp.step rfl rfl rfl (ltb rfl) (buildSlice_step (d := 83) hG rfl rfl rfl rfl rfl (by rfl) (by rfl) (by rfl) (by decide)) yE ?_)
   obtain ⟨hc130, hM⟩ := chk_t hM
   try rw [show ((fers ks2) ++ [(F.mk k127 n127 (fers ks127))] : List F) = (fers (ks2 ++ [LF.mk k127 n127 q127 f127 ks127])) from fers_app ks2 [LF.mk k127 n127 q127 f127 ks127]] at hM
   refine AAny.one (i := 10) (by kernel_rfl) (AOp.step rfl rfl rfl (ltb rfl) (appendFM_step (d := 84) hG rfl rfl rfl rfl rfl rfl rfl (fcellss_sz ks2) rfl (fcellss_sz ([LF.mk k127 n127 q127 f127 ks127])) (flen ks2) (flen ([LF.mk k127 n127 q127 f127 ks127])) (by simp [fers]) hc130 (by decide) (fcellss_app _ _)) yE ?_)
   obtain ⟨r131, hg132, hM⟩ := bind_t hM
   refine yC 16 (by kernel_rfl) rfl rfl (i_levels_with_ok q3 f3 l3 i6 hg132 _ _) (callK_retX (fun v tk133 (hle134 : tk ≤ tk133) h135 => ?_))
   obtain ⟨q136, f136, rfl⟩ := h135
   obtain ⟨r138, hg139, hM⟩ := bind_t hM
   refine yC 23 (by kernel_rfl) rfl rfl (i_levels_with_ok q4 f4 l4 (IntKind.i64.wrap (i6 + 1)) hg139 _ _) (callK_retX (fun v tk140 (hle141 : tk133 ≤ tk140) h142 => ?_))
   obtain ⟨q143, f143, rfl⟩ := h142
   refine yT 24 (by kernel_rfl) rfl rfl rfl (ltb rfl) ((build_step hG rfl (by rfl) rfl (fun h => by cases h) (by rfl)).rd _) ?_
   refine AAny.one (i := 25) (by kernel_rfl) (AOp.step rfl rfl rfl (ltb rfl) (box_step (d := 99) rfl rfl rfl rfl rfl) yE ?_)
   refine yTW 26 (by kernel_rfl) rfl ?_
   refine AAny.done (by kernel_rfl) ?_
   exact ⟨q136, f136, r131, q143, f143, r138, (ks2 ++ [LF.mk k127 n127 q127 f127 ks127]), tk140, (show tk ≤ tk140 by omega), hM, Sub.trans (Sub.drop (k := 83) rfl) (Sub.pk [2, 4, 6, 10] rfl)⟩
  refine AOp.step rfl rfl rfl (ltb rfl) (buildSlice_step (d := 83) hG rfl rfl rfl rfl rfl (by rfl) (by rfl) (by rfl) (by decide)) yE ?_
  refine yC 4 (by kernel_rfl) rfl rfl (g_Clip_Type_ex q2 f2 ks2 _ _) (callK_retN ?_)
  skip
  obtain ⟨hc145, hM⟩ := chk_t hM
  try rw [show ((fers ks2) ++ [(F.mk k127 n127 (fers ks127))] : List F) = (fers (ks2 ++ [LF.mk k127 n127 q127 f127 ks127])) from fers_app ks2 [LF.mk k127 n127 q127 f127 ks127]] at hM
  refine AAny.one (i := 10) (by kernel_rfl) (AOp.step rfl rfl rfl (ltb rfl) (appendFM_step (d := 84) hG rfl rfl rfl rfl rfl rfl rfl (fcellss_sz ks2) rfl (fcellss_sz ([LF.mk k127 n127 q127 f127 ks127])) (flen ks2) (flen ([LF.mk k127 n127 q127 f127 ks127])) (by simp [fers]) hc145 (by decide) (fcellss_app _ _)) yE ?_)
  obtain ⟨r146, hg147, hM⟩ := bind_t hM
  refine yC 16 (by kernel_rfl) rfl rfl (i_levels_with_ok q3 f3 l3 i6 hg147 _ _) (callK_retX (fun v tk148 (hle149 : tk ≤ tk148) h150 => ?_))
  obtain ⟨q151, f151, rfl⟩ := h150
  obtain ⟨r153, hg154, hM⟩ := bind_t hM
  refine yC 23 (by kernel_rfl) rfl rfl (i_levels_with_ok q4 f4 l4 (IntKind.i64.wrap (i6 + 1)) hg154 _ _) (callK_retX (fun v tk155 (hle156 : tk148 ≤ tk155) h157 => ?_))
  obtain ⟨q158, f158, rfl⟩ := h157
  refine yT 24 (by kernel_rfl) rfl rfl rfl (ltb rfl) ((build_step hG rfl (by rfl) rfl (fun h => by cases h) (by rfl)).rd _) ?_
  refine AAny.one (i := 25) (by kernel_rfl) (AOp.step rfl rfl rfl (ltb rfl) (box_step (d := 99) rfl rfl rfl rfl rfl) yE ?_)
  refine yTW 26 (by kernel_rfl) rfl ?_
  refine AAny.done (by kernel_rfl) ?_
  exact ⟨q151, f151, r146, q158, f158, r153, (ks2 ++ [LF.mk k127 n127 q127 f127 ks127]), tk155, (show tk ≤ tk155 by omega), hM, Sub.trans (Sub.drop (k := 83) rfl) (Sub.pk [2, 4, 6, 10] rfl)⟩
 clear hM
 rintro σ' ⟨q122, f122, l122, q123, f123, l123, ks124, tkj121, hle211, hM, hsub⟩
 rw [hj212] at hM
 clear hj212
 refine run_sub_code hsub ?_
 refine run_sr ?_
 refine yF hG rfl ?_
 refine yD hG rfl ?_
 obtain ⟨y160, hy161, hM⟩ := bind_t hM
 obtain ⟨k162, n162, p162, e162, fs162, q162, f162, ks162, rfl, hc163, hi164⟩ := pidx (ks := ks5) hy161
 refine run_pu rfl (indexImm_step hG rfl rfl rfl hi164 rfl rfl rfl rfl hc163) rfl (ltb rfl) ?_
 refine yD hG rfl ?_
 refine run_op rfl (alloc_step (d := 11) hG rfl rfl rfl) rfl (ltb rfl) ?_
 refine yS hG rfl ?_
 refine yN ?_
 refine run_seq ?_
 refine run_sub_code (Sub.freeze (k := 84) rfl rfl) ?_
 refine run_sub_code (Sub.frbox (k := 99) (env' := [(2, .int .i64 i6), (4, .optr (.loc 4) 0 0), (6, .optr (.loc 6) 0 0), (10, .cptr [.imm tkj121 3 false (fcellss ks124), .imm q122 1 f122 ((l122 : List Int).map fun n => [AV.int .i64 n]), .imm q123 1 f123 ((l123 : List Int).map fun n => [AV.int .i64 n])]), (100, .optr (.loc 4) 0 3), (101, .imm q5 4 f5 (pcellss ks5)), (102, .cptr [.int .i64 k162, .int .i64 n162, .imm p162 3 e162 (fcellss fs162), .imm q162 4 f162 (pcellss ks162)]), (103, .agg [.int .i64 k162, .int .i64 n162, .imm p162 3 e162 (fcellss fs162), .imm q162 4 f162 (pcellss ks162)]), (11, .optr (.loc 11) 0 0)]) rfl rfl (.keep 2 _ _ rfl (.keep 4 _ _ rfl (.keep 6 _ _ rfl (.ptr 10 0 _ rfl (.keep 100 _ _ rfl (.keep 101 _ _ rfl (.keep 102 _ _ rfl (.keep 103 _ _ rfl (.keep 11 _ _ rfl .nil)))))))))) ?_
 refine run_draw [.loc 6] (n := 31) mixed rfl (by intro x hx; simp only [List.mem_cons, List.not_mem_nil, or_false] at hx; rcases hx with rfl <;> rfl) ?_
 refine yTF hG 0 (by kernel_rfl) rfl ?_
 refine yTL hG 1 (by kernel_rfl) rfl ?_
 obtain ⟨y165, hy166, hM⟩ := bind_t hM
 obtain ⟨k167, n167, q167, f167, ks167, rfl, hc168, hi169⟩ := fidx (ks := fs5) hy166
 refine yT 2 (by kernel_rfl) rfl rfl rfl (ltb rfl) ((indexImm_step hG rfl rfl rfl hi169 rfl rfl rfl rfl hc168).rd _) ?_
 refine yTL hG 3 (by kernel_rfl) rfl ?_
 refine yTV 5 (by kernel_rfl) rfl ?_
 refine yT 6 (by kernel_rfl) rfl rfl rfl (ltb rfl) ((nilCheck_step rfl rfl ⟨_, rfl⟩).rd _) ?_
 refine yTF hG 7 (by kernel_rfl) rfl ?_
 refine yTL hG 8 (by kernel_rfl) rfl ?_
 refine yTL hG 9 (by kernel_rfl) rfl ?_
 refine yTV 12 (by kernel_rfl) rfl ?_
 refine yT 13 (by kernel_rfl) rfl rfl rfl (ltb rfl) ((nilCheck_step rfl rfl ⟨_, rfl⟩).rd _) ?_
 refine yTF hG 14 (by kernel_rfl) rfl ?_
 refine yTL hG 15 (by kernel_rfl) rfl ?_
 refine yTL hG 16 (by kernel_rfl) rfl ?_
 refine yTV 17 (by kernel_rfl) rfl ?_
 refine yT 18 (by kernel_rfl) rfl rfl rfl (ltb rfl) ((abin_step rfl rfl rfl rfl (fun _ h => by cases h)).rd _) ?_
 refine yTV 21 (by kernel_rfl) rfl ?_
 refine yTL hG 22 (by kernel_rfl) rfl ?_
 refine yTV 23 (by kernel_rfl) rfl ?_
 refine yT 24 (by kernel_rfl) rfl rfl rfl (ltb rfl) ((abin_step rfl rfl rfl rfl (fun _ h => by cases h)).rd _) ?_
 obtain ⟨r170, hg171, hM⟩ := bind_t hM
 refine yC 4 (by kernel_rfl) rfl rfl (i_typeTerm_ok n k167 n167 q167 f167 ks167 hg171 _ _) (callK_retX (fun v tk172 (hle173 : (tkj121 + 1) ≤ tk172) h174 => ?_))
 obtain ⟨k175, n175, s175, q175, f175, ks175, rfl, rfl, hf176⟩ := h174
 obtain ⟨z182, hg178, hM⟩ := zb_t hM
 refine yC 10 (by kernel_rfl) rfl rfl (i_typeOf_ok n tkj121 false ks124 k162 n162 p162 e162 fs162 q162 f162 ks162 0 hg178 _ _) (callK_retZ (fun r177 v tk179 hz185 (hle180 : tk172 ≤ tk179) h181 => ?_) (fun c p tk179 hz (_ : tk172 ≤ tk179) => by subst hz; obtain rfl := bd_stop hM; exact run_pan_at (⟨rfl, (show tk ≤ tk179 by omega), rfl⟩)))
 subst hz185
 replace hM := bd_ok hM
 obtain ⟨k183, n183, q183, f183, ks183, rfl, rfl, hf184⟩ := h181
 obtain ⟨r186, hg187, hM⟩ := bind_t hM
 refine yC 11 (by kernel_rfl) rfl rfl (i_typeTerm_ok n k183 n183 q183 f183 ks183 hg187 _ _) (callK_retX (fun v tk188 (hle189 : tk179 ≤ tk188) h190 => ?_))
 obtain ⟨k191, n191, s191, q191, f191, ks191, rfl, rfl, hf192⟩ := h190
 obtain ⟨z198, hg194, hM⟩ := zb_t hM
 refine yC 19 (by kernel_rfl) rfl rfl (i_levels_exprTerm_ok n q122 f122 l122 k162 n162 p162 e162 fs162 q162 f162 ks162 (IntKind.i64.wrap (i6 + 1)) hg194 _ _) (callK_retZ (fun r193 v tk195 hz201 (hle196 : tk188 ≤ tk195) h197 => ?_) (fun c p tk195 hz (_ : tk188 ≤ tk195) => by subst hz; obtain rfl := bd_stop hM; exact run_pan_at (⟨rfl, (show tk ≤ tk195 by omega), rfl⟩)))
 subst hz201
 replace hM := bd_ok hM
 obtain ⟨k199, n199, s199, q199, f199, ks199, rfl, rfl, hf200⟩ := h197
 refine yC 20 (by kernel_rfl) rfl rfl (i_lam_ex k199 n199 s199 q199 f199 ks199 _ _) (callK_retN ?_)
 skip
 obtain ⟨z207, hg203, hM⟩ := zb_t hM
 refine yC 25 (by kernel_rfl) rfl rfl (ih_i_typer_typing__c tkj121 false ks124 q122 f122 l122 q123 f123 l123 k162 n162 p162 e162 fs162 q162 f162 ks162 (IntKind.i64.wrap (i6 + 2)) hg203 _ _) (callK_retZ (fun r202 v tk204 hz210 (hle205 : (tk195 + 1) ≤ tk204) h206 => ?_) (fun c p tk204 hz (_ : (tk195 + 1) ≤ tk204) => by subst hz; obtain rfl := bd_stop hM; exact run_pan_at (⟨rfl, (show tk ≤ tk204 by omega), rfl⟩)))
 subst hz210
 replace hM := bd_ok hM
 obtain ⟨k208, n208, s208, q208, f208, ks208, rfl, rfl, hf209⟩ := h206
 refine yC 26 (by kernel_rfl) rfl rfl (i_lam_ex k208 n208 s208 q208 f208 ks208 _ _) (callK_retN ?_)
 skip
 refine yC 27 (by kernel_rfl) rfl rfl (i_lam_ex 4 0 ⟨#[]⟩ tk204 false [LT.mk k208 n208 s208 q208 f208 ks208] _ _) (callK_retN ?_)
 skip
 refine AAny.one (i := 28) (by kernel_rfl) (AOp.step rfl rfl rfl (ltb rfl) (buildSlice_step (d := 132) hG rfl rfl rfl rfl rfl (by rfl) (by rfl) (by rfl) (by decide)) yE ?_)
 refine AAny.sub (Sub.freeze (k := 132) rfl rfl) (by intro x hx; simp only [List.mem_cons, List.not_mem_nil, or_false] at hx; rcases hx with rfl <;> rfl) ?_
 refine yC 29 (by kernel_rfl) rfl rfl (i_constant_ex ⟨#[111, 102, 108, 97, 109]⟩ ((tk204 + 1) + 1) false [LT.mk k175 n175 s175 q175 f175 ks175, LT.mk k191 n191 s191 q191 f191 ks191, LT.mk 4 0 ⟨#[]⟩ tk195 false [LT.mk k199 n199 s199 q199 f199 ks199], LT.mk 4 0 ⟨#[]⟩ (tk204 + 1) false [LT.mk 4 0 ⟨#[]⟩ tk204 false [LT.mk k208 n208 s208 q208 f208 ks208]]] _ _) (callK_retN ?_)
 skip
 refine yW hG 30 (by kernel_rfl) rfl (by kernel_rfl) rfl ?_
 refine AAny.done (by kernel_rfl) ?_
 refine run_ret_to ?_
 replace hM := some_t hM
 subst hM
 refine fin_x hG rfl rfl rfl (v' := .agg [.int .i64 6, .int .i64 0, .str ⟨#[111, 102, 108, 97, 109]⟩, .imm ((tk204 + 1) + 1) 4 false (cellss [LT.mk k175 n175 s175 q175 f175 ks175, LT.mk k191 n191 s191 q191 f191 ks191, LT.mk 4 0 ⟨#[]⟩ tk195 false [LT.mk k199 n199 s199 q199 f199 ks199], LT.mk 4 0 ⟨#[]⟩ (tk204 + 1) false [LT.mk 4 0 ⟨#[]⟩ tk204 false [LT.mk k208 n208 s208 q208 f208 ks208]]])]) (by rfl) ⟨rfl, (show tk ≤ (((tk204 + 1) + 1) + 1) by omega), _, rfl, ⟨6, 0, ⟨#[111, 102, 108, 97, 109]⟩, ((tk204 + 1) + 1), false, [LT.mk k175 n175 s175 q175 f175 ks175, LT.mk k191 n191 s191 q191 f191 ks191, LT.mk 4 0 ⟨#[]⟩ tk195 false [LT.mk k199 n199 s199 q199 f199 ks199], LT.mk 4 0 ⟨#[]⟩ (tk204 + 1) false [LT.mk 4 0 ⟨#[]⟩ tk204 false [LT.mk k208 n208 s208 q208 f208 ks208]]], rfl, rfl, fun _ => (show Fr tk (((tk204 + 1) + 1) + 1) _ from (show Fr (tkj121 + 1) (((tk204 + 1) + 1) + 1) _ from Fr.tstop (show Fr (tkj121 + 1) ((tk204 + 1) + 1) _ from (Fr.tcons (show Fr (tkj121 + 1) tk179 _ from ((show Fr (tkj121 + 1) tk172 _ from hf176 rfl)).mono (by omega) (by omega)) (Fr.tcons (show Fr tk179 tk188 _ from ((show Fr tk179 tk188 _ from hf192 rfl)).mono (by omega) (by omega)) (Fr.tcons (show Fr tk188 (tk195 + 1) _ from (show Fr tk188 (tk195 + 1) _ from Fr.tstop (show Fr tk188 tk195 _ from (Fr.tcons ((show Fr tk188 tk195 _ from hf200 rfl)) (show Fr tk195 tk195 _ from Fr.nil _ _) (by omega) (by omega)).mono (by omega) (by omega)) (by omega) (by omega)).mono (by omega) (by omega)) (Fr.tcons (show Fr (tk195 + 1) ((tk204 + 1) + 1) _ from Fr.tstop (show Fr (tk195 + 1) (tk204 + 1) _ from (Fr.tcons (show Fr (tk195 + 1) (tk204 + 1) _ from Fr.tstop (show Fr (tk195 + 1) tk204 _ from (Fr.tcons ((show Fr (tk195 + 1) tk204 _ from hf209 rfl)) (show Fr tk204 tk204 _ from Fr.nil _ _) (by omega) (by omega)).mono (by omega) (by omega)) (by omega) (by omega)) (show Fr (tk204 + 1) (tk204 + 1) _ from Fr.nil _ _) (by omega) (by omega)).mono (by omega) (by omega)) (by omega) (by omega)) (show Fr ((tk204 + 1) + 1) ((tk204 + 1) + 1) _ from Fr.nil _ _) (by omega) (by omega)) (by omega) (by omega)) (by omega) (by omega)) (by omega) (by omega)).mono (by omega) (by omega)) (by omega) (by omega)).mono (by omega) (by omega))⟩⟩

theorem i_typer_typing__c_all : ∀ (n : Nat), (i_typer_typing__c_P n)
 | 0 => by intro q2 f2 ks2 q3 f3 l3 q4 f4 l4 k5 n5 p5 e5 fs5 q5 f5 ks5 i6 r hM; rw [i_typer_typing__c] at hM; cases hM
 | n + 1 => have ih := i_typer_typing__c_all n; i_typer_typing__c_st n (ih)

theorem i_typer_typing__c_ok (n : Nat) : i_typer_typing__c_P n := i_typer_typing__c_all n

def i_EncodeTyping (n : Nat) (l1 : List F) (x2 : Pf) : Option (Rz (T × T × Int)) :=
 (i_TypeOf n l1 x2).bind fun r3 =>
 if (r3.2.1 != 0) = true then
  some (.ok ((T.mk 0 0 ⟨#[]⟩ []), (T.mk 0 0 ⟨#[]⟩ []), r3.2.1))
 else
  (i_firstLevels n ((l1).length : Int) 2 0).bind fun r21 =>
  (i_firstLevels n ((l1).length : Int) 2 1).bind fun r28 =>
  zb (i_typer_typing__c n (l1, r21, r28) x2 (IntKind.i64.wrap (2 * ((l1).length : Int)))) fun r35 =>
  jn (fun (i45 : Int) (i46 : Int) (t47 : ByteArray) (l48 : List T) =>
   (i_tooBig n r35).bind fun r89 =>
   if r89 = true then
    some (.ok ((T.mk 0 0 ⟨#[]⟩ []), (T.mk 0 0 ⟨#[]⟩ []), 11))
   else
    (i_tooBig n (T.mk i45 i46 t47 l48)).bind fun r97 =>
    if r97 = true then
     some (.ok ((T.mk 0 0 ⟨#[]⟩ []), (T.mk 0 0 ⟨#[]⟩ []), 11))
    else
     some (.ok (r35, (T.mk i45 i46 t47 l48), 0))) fun j44 =>
  zb (i_levels_exprTerm n r21 x2 (IntKind.i64.wrap (2 * ((l1).length : Int)))) fun r50 =>
  (i_typeTerm n r3.1).bind fun r59 =>
  j44 3 0 (⟨#[111, 102]⟩) ([r50, r59])

set_option maxHeartbeats 20000000 in
set_option maxHeartbeats 20000000 in
set_option maxRecDepth 100000 in
theorem i_EncodeTyping_ok (n : Nat) : ∀ (q1 : Nat) (f1 : Bool) (ks1 : List LF) (k2 : Int) (n2 : Int) (p2 : Nat) (e2 : Bool) (fs2 : List LF) (q2 : Nat) (f2 : Bool) (ks2 : List LP) {r : (Rz (T × T × Int))}, i_EncodeTyping n (fers ks1) (Pf.mk k2 n2 (fers fs2) (pers ks2)) = some r → ∀ (O : Heap) (tk : Nat), ACalls Go.Proofs.Try.prog 18 [.imm q1 3 f1 (fcellss ks1), .agg [.int .i64 k2, .int .i64 n2, .imm p2 3 e2 (fcellss fs2), .imm q2 4 f2 (pcellss ks2)]] O tk (RetZ HT O tk r (fun r v tk' => ∃ r0' r1' r2' v0' v1' v2' mid, r = (r0', r1', r2') ∧ v = .tup [v0', v1', v2'] ∧ tk ≤ mid ∧ mid ≤ tk' ∧ VT true tk mid r0' v0' ∧ VT true mid tk' r1' v1' ∧ v2' = .int .i64 r2')) := by
 intro q1 f1 ks1 k2 n2 p2 e2 fs2 q2 f2 ks2 r hM O tk
 unfold i_EncodeTyping at hM
 refine acalls_of_run Go.Proofs.Try.func18 rfl rfl [] [] (Bor.nil _) [(0, .imm q1 3 f1 (fcellss ks1)), (1, .agg [.int .i64 k2, .int .i64 n2, .imm p2 3 e2 (fcellss fs2), .imm q2 4 f2 (pcellss ks2)])] (.cons (entS rfl) (.cons (.agg _) (.nil _))) (leb rfl) (fun _ h => by cases h) (fun S0 hO htk hfz => ?_)
 refine run_sr ?_
 refine run_op rfl (box_step (d := 3) rfl rfl rfl rfl rfl) rfl (ltb rfl) ?_
 refine run_op rfl (alloc_step (d := 4) hG rfl rfl rfl) rfl (ltb rfl) ?_
 refine run_op rfl (alloc_step (d := 5) hG rfl rfl rfl) rfl (ltb rfl) ?_
 refine yR rfl ?_
 refine yN ?_
 refine run_sr ?_
 refine yL rfl ?_
 refine yD hG rfl ?_
 obtain ⟨r3, hg4, hM⟩ := bind_t hM
 refine yK rfl (i_TypeOf_ok n q1 f1 ks1 k2 n2 p2 e2 fs2 q2 f2 ks2 hg4 _ _) (callK_retX (fun v tk5 (hle6 : tk ≤ tk5) h7 => ?_))
 obtain ⟨ra14, ra15, ra16, va17, va18, va19, rfl, rfl, ⟨k8, n8, q8, f8, ks8, rfl, rfl, hf9⟩, rfl, rfl⟩ := h7
 refine yL rfl ?_
 refine run_pu rfl (extract_step rfl rfl rfl) rfl (ltb rfl) ?_
 refine run_pu rfl (extract_step rfl rfl rfl) rfl (ltb rfl) ?_
 refine run_pu rfl (extract_step rfl rfl rfl) rfl (ltb rfl) ?_
 refine run_op rfl (alloc_step (d := 7) hG rfl rfl rfl) rfl (ltb rfl) ?_
 refine yS hG rfl ?_
 refine yR rfl ?_
 refine yR rfl ?_
 refine yN ?_
 refine run_sub_code (σ' := ⟨[(0, .imm q1 3 f1 (fcellss ks1)), (3, .optr (.loc 3) 0 0), (4, .optr (.loc 4) 0 0), (5, .optr (.loc 5) 0 0), (6, .int .i64 0), (7, .optr (.loc 7) 0 0), (8, .int .i64 ra15)], [(7, ⟨42, 3, true, [[.int .i64 k8, .int .i64 n8, .imm q8 3 f8 (fcellss ks8)]]⟩), (5, ⟨51, 4, true, [[.int .i64 0, .int .i64 0, .str ⟨#[]⟩, .imm 0 4 true []]]⟩), (4, ⟨51, 4, true, [[.int .i64 0, .int .i64 0, .str ⟨#[]⟩, .imm 0 4 true []]]⟩), (3, ⟨40, 4, true, [[.int .i64 k2, .int .i64 n2, .imm p2 3 e2 (fcellss fs2), .imm q2 4 f2 (pcellss ks2)]]⟩)], [], O, tk5⟩) (Sub.env _ ⟨rfl, rfl, rfl, rfl, rfl, rfl, rfl, trivial⟩) ?_
 refine run_seq ?_
 refine run_sr ?_
 refine yL rfl ?_
 refine yB rfl ?_
 refine yN ?_
 refine run_ifb rfl rfl (fun hb20 => ?_) (fun hb20 => ?_)
 ·replace hM := ite_t hb20 hM
  refine run_sr ?_
  refine run_pu rfl (build_step hG rfl (by rfl) rfl (fun h => by cases h) (by rfl)) rfl (ltb rfl) ?_
  refine run_pu rfl (build_step hG rfl (by rfl) rfl (fun h => by cases h) (by rfl)) rfl (ltb rfl) ?_
  refine yL rfl ?_
  refine yS hG rfl ?_
  refine yS hG rfl ?_
  refine yR rfl ?_
  refine yN ?_
  refine run_ret_to ?_
  replace hM := some_t hM
  subst hM
  refine fin_x hG rfl rfl rfl (v' := .tup [.agg [.int .i64 0, .int .i64 0, .str ⟨#[]⟩, .imm 0 4 true (cellss [])], .agg [.int .i64 0, .int .i64 0, .str ⟨#[]⟩, .imm 0 4 true (cellss [])], .int .i64 ra15]) (by rfl) ⟨rfl, (show tk ≤ tk5 by omega), _, rfl, ⟨_, _, _, _, _, _, tk, rfl, rfl, (show tk ≤ tk by omega), (show tk ≤ tk5 by omega), ⟨0, 0, ⟨#[]⟩, 0, true, [], rfl, rfl, fun _ => Fr.nil _ _⟩, ⟨0, 0, ⟨#[]⟩, 0, true, [], rfl, rfl, fun _ => Fr.nil _ _⟩, rfl⟩⟩
 replace hM := ite_f hb20 hM
 refine run_skip ?_
 refine run_sr ?_
 refine yL rfl ?_
 refine run_pu rfl (lenImm_step hG rfl rfl rfl rfl (flen _)) rfl (ltb rfl) ?_
 refine yR rfl ?_
 refine yN ?_
 refine run_sr ?_
 refine yL rfl ?_
 refine yL rfl ?_
 obtain ⟨r21, hg22, hM⟩ := bind_t hM
 refine yK rfl (i_firstLevels_ok n (((fers ks1)).length : Int) 2 0 hg22 _ _) (callK_retX (fun v tk23 (hle24 : tk5 ≤ tk23) h25 => ?_))
 obtain ⟨q26, f26, rfl⟩ := h25
 refine yL rfl ?_
 obtain ⟨r28, hg29, hM⟩ := bind_t hM
 refine yK rfl (i_firstLevels_ok n (((fers ks1)).length : Int) 2 1 hg29 _ _) (callK_retX (fun v tk30 (hle31 : tk23 ≤ tk30) h32 => ?_))
 obtain ⟨q33, f33, rfl⟩ := h32
 refine run_pu rfl (build_step hG rfl (by rfl) rfl (fun h => by cases h) (by rfl)) rfl (ltb rfl) ?_
 refine run_op rfl (box_step (d := 34) rfl rfl rfl rfl rfl) rfl (ltb rfl) ?_
 refine yR rfl ?_
 refine yN ?_
 refine run_sr ?_
 refine yL rfl ?_
 refine yD hG rfl ?_
 refine yL rfl ?_
 refine yB rfl ?_
 refine run_sub_ops (Sub.frbox (k := 34) (env' := [(0, .imm q1 3 f1 (fcellss ks1)), (3, .optr (.loc 3) 0 0), (4, .optr (.loc 4) 0 0), (5, .optr (.loc 5) 0 0), (6, .int .i64 0), (7, .optr (.loc 7) 0 0), (8, .int .i64 ra15), (21, .int .i64 ra15), (22, .bool (ra15 != 0)), (26, .imm q1 3 f1 (fcellss ks1)), (27, .int .i64 (((fers ks1)).length : Int)), (10, .int .i64 (((fers ks1)).length : Int)), (28, .imm q1 3 f1 (fcellss ks1)), (29, .int .i64 (((fers ks1)).length : Int)), (30, .imm q26 1 f26 ((r21 : List Int).map fun n => [AV.int .i64 n])), (31, .int .i64 (((fers ks1)).length : Int)), (32, .imm q33 1 f33 ((r28 : List Int).map fun n => [AV.int .i64 n])), (33, .agg [.imm q1 3 f1 (fcellss ks1), .imm q26 1 f26 ((r21 : List Int).map fun n => [AV.int .i64 n]), .imm q33 1 f33 ((r28 : List Int).map fun n => [AV.int .i64 n])]), (34, .cptr [.imm q1 3 f1 (fcellss ks1), .imm q26 1 f26 ((r21 : List Int).map fun n => [AV.int .i64 n]), .imm q33 1 f33 ((r28 : List Int).map fun n => [AV.int .i64 n])]), (11, .cptr [.imm q1 3 f1 (fcellss ks1), .imm q26 1 f26 ((r21 : List Int).map fun n => [AV.int .i64 n]), .imm q33 1 f33 ((r28 : List Int).map fun n => [AV.int .i64 n])]), (35, .cptr [.imm q1 3 f1 (fcellss ks1), .imm q26 1 f26 ((r21 : List Int).map fun n => [AV.int .i64 n]), .imm q33 1 f33 ((r28 : List Int).map fun n => [AV.int .i64 n])]), (36, .agg [.int .i64 k2, .int .i64 n2, .imm p2 3 e2 (fcellss fs2), .imm q2 4 f2 (pcellss ks2)]), (37, .int .i64 (((fers ks1)).length : Int)), (38, .int .i64 (IntKind.i64.wrap (2 * (((fers ks1)).length : Int))))]) rfl rfl (.keep 0 _ _ rfl (.keep 3 _ _ rfl (.keep 4 _ _ rfl (.keep 5 _ _ rfl (.keep 6 _ _ rfl (.keep 7 _ _ rfl (.keep 8 _ _ rfl (.keep 21 _ _ rfl (.keep 22 _ _ rfl (.keep 26 _ _ rfl (.keep 27 _ _ rfl (.keep 10 _ _ rfl (.keep 28 _ _ rfl (.keep 29 _ _ rfl (.keep 30 _ _ rfl (.keep 31 _ _ rfl (.keep 32 _ _ rfl (.keep 33 _ _ rfl (.ptr 34 0 _ rfl (.ptr 11 0 _ rfl (.ptr 35 0 _ rfl (.keep 36 _ _ rfl (.keep 37 _ _ rfl (.keep 38 _ _ rfl .nil))))))))))))))))))))))))) ?_
 obtain ⟨z40, hg36, hM⟩ := zb_t hM
 refine yK rfl (i_typer_typing__c_ok n q1 f1 ks1 q26 f26 r21 q33 f33 r28 k2 n2 p2 e2 fs2 q2 f2 ks2 (IntKind.i64.wrap (2 * (((fers ks1)).length : Int))) hg36 _ _) (callK_retZ (fun r35 v tk37 hz43 (hle38 : tk30 ≤ tk37) h39 => ?_) (fun c p tk37 hz (_ : tk30 ≤ tk37) => by subst hz; obtain rfl := bd_stop hM; exact run_pan_at (⟨rfl, (show tk ≤ tk37 by omega), rfl⟩)))
 subst hz43
 replace hM := bd_ok hM
 obtain ⟨k41, n41, s41, q41, f41, ks41, rfl, rfl, hf42⟩ := h39
 refine run_op rfl (alloc_step (d := 12) hG rfl rfl rfl) rfl (ltb rfl) ?_
 refine yS hG rfl ?_
 refine yN ?_
 refine run_sub_code (σ' := ⟨[(3, .optr (.loc 3) 0 0), (4, .optr (.loc 4) 0 0), (5, .optr (.loc 5) 0 0), (6, .int .i64 0), (7, .optr (.loc 7) 0 0), (10, .int .i64 (((fers ks1)).length : Int)), (11, .cptr [.imm q1 3 f1 (fcellss ks1), .imm q26 1 f26 ((r21 : List Int).map fun n => [AV.int .i64 n]), .imm q33 1 f33 ((r28 : List Int).map fun n => [AV.int .i64 n])]), (12, .optr (.loc 12) 0 0)], [(12, ⟨51, 4, true, [[.int .i64 k41, .int .i64 n41, .str s41, .imm q41 4 f41 (cellss ks41)]]⟩), (7, ⟨42, 3, true, [[.int .i64 k8, .int .i64 n8, .imm q8 3 f8 (fcellss ks8)]]⟩), (5, ⟨51, 4, true, [[.int .i64 0, .int .i64 0, .str ⟨#[]⟩, .imm 0 4 true []]]⟩), (4, ⟨51, 4, true, [[.int .i64 0, .int .i64 0, .str ⟨#[]⟩, .imm 0 4 true []]]⟩), (3, ⟨40, 4, true, [[.int .i64 k2, .int .i64 n2, .imm p2 3 e2 (fcellss fs2), .imm q2 4 f2 (pcellss ks2)]]⟩)], [], O, tk37⟩) (Sub.env _ ⟨rfl, rfl, rfl, rfl, rfl, rfl, rfl, rfl, trivial⟩) ?_
 refine run_seq ?_
 obtain ⟨j44, hj106, hM⟩ := jn_t hM
 refine run_cutL [.code _] (fun σ' => ∃ (i45 : Int) (i46 : Int) (t47 : ByteArray) (q48 : Nat) (f48 : Bool) (ks48 : List LT) (tkj44 : Nat), tk37 ≤ tkj44 ∧ Fr tk37 tkj44 (tstoks q48 ks48) ∧ j44 i45 i46 t47 (ers ks48) = some r ∧ Sub ⟨Go.Proofs.Try.prog, S0, Go.Proofs.Try.f18.ntmps, [], fun _ => False, []⟩ σ' ⟨[(4, .optr (.loc 4) 0 0), (5, .optr (.loc 5) 0 0), (6, .int .i64 0), (12, .optr (.loc 12) 0 0), (13, .optr (.loc 13) 0 0)], [(13, ⟨51, 4, true, [[.int .i64 i45, .int .i64 i46, .str t47, .imm q48 4 f48 (cellss ks48)]]⟩), (12, ⟨51, 4, true, [[.int .i64 k41, .int .i64 n41, .str s41, .imm q41 4 f41 (cellss ks41)]]⟩), (7, ⟨42, 3, true, [[.int .i64 k8, .int .i64 n8, .imm q8 3 f8 (fcellss ks8)]]⟩), (5, ⟨51, 4, true, [[.int .i64 0, .int .i64 0, .str ⟨#[]⟩, .imm 0 4 true []]]⟩), (4, ⟨51, 4, true, [[.int .i64 0, .int .i64 0, .str ⟨#[]⟩, .imm 0 4 true []]]⟩), (3, ⟨40, 4, true, [[.int .i64 k2, .int .i64 n2, .imm p2 3 e2 (fcellss fs2), .imm q2 4 f2 (pcellss ks2)]]⟩)], [], O, tkj44⟩) rfl ?_ ?_
 ·refine run_draw [] (n := 13) mixed rfl yE ?_
  refine yTV 0 (by kernel_rfl) rfl ?_
  refine yT 1 (by kernel_rfl) rfl rfl rfl (ltb rfl) ((nilCheck_step rfl rfl ⟨_, rfl⟩).rd _) ?_
  refine yTF hG 2 (by kernel_rfl) rfl ?_
  refine yTL hG 3 (by kernel_rfl) rfl ?_
  refine yTL hG 4 (by kernel_rfl) rfl ?_
  refine yTV 5 (by kernel_rfl) rfl ?_
  refine yT 6 (by kernel_rfl) rfl rfl rfl (ltb rfl) ((abin_step rfl rfl rfl rfl (fun _ h => by cases h)).rd _) ?_
  refine yTL hG 8 (by kernel_rfl) rfl ?_
  refine AAny.eachN (rs := [7, 11]) (by kernel_rfl) (fun h => by cases h) (fun i hi => ?_)
  simp only [List.mem_cons, List.not_mem_nil, or_false] at hi
  rcases hi with rfl | rfl
  ·refine AOpN.of ?_
   obtain ⟨z55, hg51, hM⟩ := zb_t hM
   refine yI rfl rfl (i_levels_exprTerm_ok n q26 f26 r21 k2 n2 p2 e2 fs2 q2 f2 ks2 (IntKind.i64.wrap (2 * (((fers ks1)).length : Int))) hg51 _ _) (callK_retZ (fun r50 v tk52 hz58 (hle53 : tk37 ≤ tk52) h54 => ?_) (fun c p tk52 hz (_ : tk37 ≤ tk52) => by subst hz; obtain rfl := bd_stop hM; exact run_pan_at (cut_pan (⟨rfl, (show tk ≤ tk52 by omega), rfl⟩))))
   subst hz58
   replace hM := bd_ok hM
   obtain ⟨k56, n56, s56, q56, f56, ks56, rfl, rfl, hf57⟩ := h54
   refine AAny.eachN (rs := [9, 11]) (by kernel_rfl) (fun h => by cases h) (fun i hi => ?_)
   simp only [List.mem_cons, List.not_mem_nil, or_false] at hi
   rcases hi with rfl | rfl
   ·refine AOpN.of ?_
    obtain ⟨r59, hg60, hM⟩ := bind_t hM
    refine yI rfl rfl (i_typeTerm_ok n k8 n8 q8 f8 ks8 hg60 _ _) (callK_retX (fun v tk61 (hle62 : tk52 ≤ tk61) h63 => ?_))
    obtain ⟨k64, n64, s64, q64, f64, ks64, rfl, rfl, hf65⟩ := h63
    refine AAny.eachN (rs := [10, 11]) (by kernel_rfl) (fun h => by cases h) (fun i hi => ?_)
    simp only [List.mem_cons, List.not_mem_nil, or_false] at hi
    rcases hi with rfl | rfl
    ·refine AOpN.of ?_
     refine yI rfl rfl (i_ofFamily_ex k56 n56 s56 q56 f56 ks56 k64 n64 s64 q64 f64 ks64 _ _) (callK_retN ?_)
     skip
     refine AAny.eachN (rs := [11]) (by kernel_rfl) (fun h => by cases h) (fun i hi => ?_)
     simp only [List.mem_cons, List.not_mem_nil, or_false] at hi
     subst hi
     ·refine AOpN.alloc hG rfl rfl rfl (ltb rfl) rfl rfl rfl ?_
      refine yW hG 12 (by kernel_rfl) rfl (by kernel_rfl) rfl ?_
      refine AAny.done (by kernel_rfl) ?_
      exact ⟨3, 0, ⟨#[111, 102]⟩, tk61, false, [LT.mk k56 n56 s56 q56 f56 ks56, LT.mk k64 n64 s64 q64 f64 ks64], (tk61 + 1), (show tk37 ≤ (tk61 + 1) by omega), (show Fr tk37 (tk61 + 1) _ from (show Fr tk37 (tk61 + 1) _ from Fr.tstop (show Fr tk37 tk61 _ from (Fr.tcons (show Fr tk37 tk52 _ from ((show Fr tk37 tk52 _ from hf57 rfl)).mono (by omega) (by omega)) (Fr.tcons ((show Fr tk52 tk61 _ from hf65 rfl)) (show Fr tk61 tk61 _ from Fr.nil _ _) (by omega) (by omega)) (by omega) (by omega)).mono (by omega) (by omega)) (by omega) (by omega)).mono (by omega) (by omega)), hM, Sub.pk [4, 5, 6, 12, 13] rfl⟩
    refine AOpN.alloc hG rfl rfl rfl (ltb rfl) rfl rfl rfl ?_
    refine yC 10 (by kernel_rfl) rfl rfl (i_ofFamily_ex k56 n56 s56 q56 f56 ks56 k64 n64 s64 q64 f64 ks64 _ _) (callK_retN ?_)
    skip
    refine yW hG 12 (by kernel_rfl) rfl (by kernel_rfl) rfl ?_
    refine AAny.done (by kernel_rfl) ?_
    exact ⟨3, 0, ⟨#[111, 102]⟩, tk61, false, [LT.mk k56 n56 s56 q56 f56 ks56, LT.mk k64 n64 s64 q64 f64 ks64], (tk61 + 1), (show tk37 ≤ (tk61 + 1) by omega), (show Fr tk37 (tk61 + 1) _ from (show Fr tk37 (tk61 + 1) _ from Fr.tstop (show Fr tk37 tk61 _ from (Fr.tcons (show Fr tk37 tk52 _ from ((show Fr tk37 tk52 _ from hf57 rfl)).mono (by omega) (by omega)) (Fr.tcons ((show Fr tk52 tk61 _ from hf65 rfl)) (show Fr tk61 tk61 _ from Fr.nil _ _) (by omega) (by omega)) (by omega) (by omega)).mono (by omega) (by omega)) (by omega) (by omega)).mono (by omega) (by omega)), hM, Sub.pk [4, 5, 6, 12, 13] rfl⟩
   refine AOpN.alloc hG rfl rfl rfl (ltb rfl) rfl rfl rfl ?_
   obtain ⟨r66, hg67, hM⟩ := bind_t hM
   refine yC 9 (by kernel_rfl) rfl rfl (i_typeTerm_ok n k8 n8 q8 f8 ks8 hg67 _ _) (callK_retX (fun v tk68 (hle69 : tk52 ≤ tk68) h70 => ?_))
   obtain ⟨k71, n71, s71, q71, f71, ks71, rfl, rfl, hf72⟩ := h70
   refine yC 10 (by kernel_rfl) rfl rfl (i_ofFamily_ex k56 n56 s56 q56 f56 ks56 k71 n71 s71 q71 f71 ks71 _ _) (callK_retN ?_)
   skip
   refine yW hG 12 (by kernel_rfl) rfl (by kernel_rfl) rfl ?_
   refine AAny.done (by kernel_rfl) ?_
   exact ⟨3, 0, ⟨#[111, 102]⟩, tk68, false, [LT.mk k56 n56 s56 q56 f56 ks56, LT.mk k71 n71 s71 q71 f71 ks71], (tk68 + 1), (show tk37 ≤ (tk68 + 1) by omega), (show Fr tk37 (tk68 + 1) _ from (show Fr tk37 (tk68 + 1) _ from Fr.tstop (show Fr tk37 tk68 _ from (Fr.tcons (show Fr tk37 tk52 _ from ((show Fr tk37 tk52 _ from hf57 rfl)).mono (by omega) (by omega)) (Fr.tcons ((show Fr tk52 tk68 _ from hf72 rfl)) (show Fr tk68 tk68 _ from Fr.nil _ _) (by omega) (by omega)) (by omega) (by omega)).mono (by omega) (by omega)) (by omega) (by omega)).mono (by omega) (by omega)), hM, Sub.pk [4, 5, 6, 12, 13] rfl⟩
  refine AOpN.alloc hG rfl rfl rfl (ltb rfl) rfl rfl rfl ?_
  obtain ⟨z78, hg74, hM⟩ := zb_t hM
  refine yC 7 (by kernel_rfl) rfl rfl (i_levels_exprTerm_ok n q26 f26 r21 k2 n2 p2 e2 fs2 q2 f2 ks2 (IntKind.i64.wrap (2 * (((fers ks1)).length : Int))) hg74 _ _) (callK_retZ (fun r73 v tk75 hz81 (hle76 : tk37 ≤ tk75) h77 => ?_) (fun c p tk75 hz (_ : tk37 ≤ tk75) => by subst hz; obtain rfl := bd_stop hM; exact run_pan_at (cut_pan (⟨rfl, (show tk ≤ tk75 by omega), rfl⟩))))
  subst hz81
  replace hM := bd_ok hM
  obtain ⟨k79, n79, s79, q79, f79, ks79, rfl, rfl, hf80⟩ := h77
  obtain ⟨r82, hg83, hM⟩ := bind_t hM
  refine yC 9 (by kernel_rfl) rfl rfl (i_typeTerm_ok n k8 n8 q8 f8 ks8 hg83 _ _) (callK_retX (fun v tk84 (hle85 : tk75 ≤ tk84) h86 => ?_))
  obtain ⟨k87, n87, s87, q87, f87, ks87, rfl, rfl, hf88⟩ := h86
  refine yC 10 (by kernel_rfl) rfl rfl (i_ofFamily_ex k79 n79 s79 q79 f79 ks79 k87 n87 s87 q87 f87 ks87 _ _) (callK_retN ?_)
  skip
  refine yW hG 12 (by kernel_rfl) rfl (by kernel_rfl) rfl ?_
  refine AAny.done (by kernel_rfl) ?_
  exact ⟨3, 0, ⟨#[111, 102]⟩, tk84, false, [LT.mk k79 n79 s79 q79 f79 ks79, LT.mk k87 n87 s87 q87 f87 ks87], (tk84 + 1), (show tk37 ≤ (tk84 + 1) by omega), (show Fr tk37 (tk84 + 1) _ from (show Fr tk37 (tk84 + 1) _ from Fr.tstop (show Fr tk37 tk84 _ from (Fr.tcons (show Fr tk37 tk75 _ from ((show Fr tk37 tk75 _ from hf80 rfl)).mono (by omega) (by omega)) (Fr.tcons ((show Fr tk75 tk84 _ from hf88 rfl)) (show Fr tk84 tk84 _ from Fr.nil _ _) (by omega) (by omega)) (by omega) (by omega)).mono (by omega) (by omega)) (by omega) (by omega)).mono (by omega) (by omega)), hM, Sub.pk [4, 5, 6, 12, 13] rfl⟩
 clear hM
 rintro σ' ⟨i45, i46, t47, q48, f48, ks48, tkj44, hle105, hfr49, hM, hsub⟩
 rw [hj106] at hM
 clear hj106
 refine run_sub_code hsub ?_
 refine run_seq ?_
 refine run_sr ?_
 refine yD hG rfl ?_
 obtain ⟨r89, hg90, hM⟩ := bind_t hM
 refine yK rfl (i_tooBig_ok n k41 n41 s41 q41 f41 ks41 hg90 _ _) (callK_retX (fun v tk91 (hle92 : tkj44 ≤ tk91) h93 => ?_))
 subst h93
 refine yL rfl ?_
 refine run_splitb (i := 53) rfl (fun hb96 => ?_) (fun hb96 => ?_)
 ·replace hM := ite_t hb96 hM
  refine yO rfl ?_
  refine yO rfl ?_
  refine yP rfl ?_
  refine yN ?_
  refine run_if rfl rfl (fun _ => ?_) (fun h => by cases h)
  refine run_sr ?_
  refine run_pu rfl (build_step hG rfl (by rfl) rfl (fun h => by cases h) (by rfl)) rfl (ltb rfl) ?_
  refine run_pu rfl (build_step hG rfl (by rfl) rfl (fun h => by cases h) (by rfl)) rfl (ltb rfl) ?_
  refine yS hG rfl ?_
  refine yS hG rfl ?_
  refine yR rfl ?_
  refine yN ?_
  refine run_ret_to ?_
  replace hM := some_t hM
  subst hM
  refine fin_x hG rfl rfl rfl (v' := .tup [.agg [.int .i64 0, .int .i64 0, .str ⟨#[]⟩, .imm 0 4 true (cellss [])], .agg [.int .i64 0, .int .i64 0, .str ⟨#[]⟩, .imm 0 4 true (cellss [])], .int .i64 11]) (by rfl) ⟨rfl, (show tk ≤ tk91 by omega), _, rfl, ⟨_, _, _, _, _, _, tk, rfl, rfl, (show tk ≤ tk by omega), (show tk ≤ tk91 by omega), ⟨0, 0, ⟨#[]⟩, 0, true, [], rfl, rfl, fun _ => Fr.nil _ _⟩, ⟨0, 0, ⟨#[]⟩, 0, true, [], rfl, rfl, fun _ => Fr.nil _ _⟩, rfl⟩⟩
 replace hM := ite_f hb96 hM
 refine run_rdG (on_of rfl rfl rfl rfl) (aload_rd hG rfl rfl rfl (by first | (simp [ldok]; done) | exact List.not_mem_nil | trivial)) rfl (ltb rfl) ?_
 obtain ⟨r97, hg98, hM⟩ := bind_t hM
 refine yG (on_of rfl rfl rfl rfl) rfl (i_tooBig_ok n i45 i46 t47 q48 f48 ks48 hg98 _ _) (callK_retX (fun v tk99 (hle100 : tk91 ≤ tk99) h101 => ?_))
 subst h101
 refine yP rfl ?_
 refine yN ?_
 refine run_ifb rfl rfl (fun hb104 => ?_) (fun hb104 => ?_)
 ·replace hM := ite_t hb104 hM
  refine run_sr ?_
  refine run_pu rfl (build_step hG rfl (by rfl) rfl (fun h => by cases h) (by rfl)) rfl (ltb rfl) ?_
  refine run_pu rfl (build_step hG rfl (by rfl) rfl (fun h => by cases h) (by rfl)) rfl (ltb rfl) ?_
  refine yS hG rfl ?_
  refine yS hG rfl ?_
  refine yR rfl ?_
  refine yN ?_
  refine run_ret_to ?_
  replace hM := some_t hM
  subst hM
  refine fin_x hG rfl rfl rfl (v' := .tup [.agg [.int .i64 0, .int .i64 0, .str ⟨#[]⟩, .imm 0 4 true (cellss [])], .agg [.int .i64 0, .int .i64 0, .str ⟨#[]⟩, .imm 0 4 true (cellss [])], .int .i64 11]) (by rfl) ⟨rfl, (show tk ≤ tk99 by omega), _, rfl, ⟨_, _, _, _, _, _, tk, rfl, rfl, (show tk ≤ tk by omega), (show tk ≤ tk99 by omega), ⟨0, 0, ⟨#[]⟩, 0, true, [], rfl, rfl, fun _ => Fr.nil _ _⟩, ⟨0, 0, ⟨#[]⟩, 0, true, [], rfl, rfl, fun _ => Fr.nil _ _⟩, rfl⟩⟩
 replace hM := ite_f hb104 hM
 refine run_skip ?_
 refine run_seq ?_
 refine run_draw [.loc 4, .loc 5] (n := 5) mixed rfl (by intro x hx; simp only [List.mem_cons, List.not_mem_nil, or_false] at hx; rcases hx with rfl | rfl <;> rfl) ?_
 refine yTL hG 0 (by kernel_rfl) rfl ?_
 refine yTL hG 1 (by kernel_rfl) rfl ?_
 refine yW hG 2 (by kernel_rfl) rfl (by kernel_rfl) rfl ?_
 refine yW hG 3 (by kernel_rfl) rfl (by kernel_rfl) rfl ?_
 refine yTW 4 (by kernel_rfl) rfl ?_
 refine AAny.done (by kernel_rfl) ?_
 refine run_ret_to ?_
 replace hM := some_t hM
 subst hM
 refine fin_x hG rfl rfl rfl (v' := .tup [.agg [.int .i64 k41, .int .i64 n41, .str s41, .imm q41 4 f41 (cellss ks41)], .agg [.int .i64 i45, .int .i64 i46, .str t47, .imm q48 4 f48 (cellss ks48)], .int .i64 0]) (by rfl) ⟨rfl, (show tk ≤ tk99 by omega), _, rfl, ⟨_, _, _, _, _, _, tk37, rfl, rfl, (show tk ≤ tk37 by omega), (show tk37 ≤ tk99 by omega), ⟨k41, n41, s41, q41, f41, ks41, rfl, rfl, fun _ => (show Fr tk tk37 _ from ((show Fr tk30 tk37 _ from hf42 rfl)).mono (by omega) (by omega))⟩, ⟨i45, i46, t47, q48, f48, ks48, rfl, rfl, fun _ => (show Fr tk37 tk99 _ from (hfr49).mono (by omega) (by omega))⟩, rfl⟩⟩

def s_EncodeTyping (n : Nat) (l1 : List F) (x2 : Pf) : Option (T × T × Int) :=
 if ((l1).length : Int) > 4096 then
  some ((T.mk 0 0 ⟨#[]⟩ []), (T.mk 0 0 ⟨#[]⟩ []), 2)
 else
  (s_l09Ctx n l1).bind fun r4 =>
  if (!r4) = true then
   some ((T.mk 0 0 ⟨#[]⟩ []), (T.mk 0 0 ⟨#[]⟩ []), 1)
  else
   (s_ExprOK n x2).bind fun r12 =>
   if (!r12) = true then
    some ((T.mk 0 0 ⟨#[]⟩ []), (T.mk 0 0 ⟨#[]⟩ []), 1)
   else
    (s_l09TypeOf n l1 x2 0).bind fun r20 =>
    if (r20.2.1 != 0) = true then
     some ((T.mk 0 0 ⟨#[]⟩ []), (T.mk 0 0 ⟨#[]⟩ []), r20.2.1)
    else
     (s_l09Level n ((l1).length : Int) 2).bind fun r38 =>
     (s_l09Typing n l1 x2 r38 (IntKind.i64.wrap (2 * ((l1).length : Int)))).bind fun r45 =>
     jn (fun (i59 : Int) (i60 : Int) (t61 : ByteArray) (l62 : List T) =>
      (s_l03Big n r45.1).bind fun r99 =>
      if r99 = true then
       some ((T.mk 0 0 ⟨#[]⟩ []), (T.mk 0 0 ⟨#[]⟩ []), 11)
      else
       (s_l03Big n (T.mk i59 i60 t61 l62)).bind fun r107 =>
       if r107 = true then
        some ((T.mk 0 0 ⟨#[]⟩ []), (T.mk 0 0 ⟨#[]⟩ []), 11)
       else
        some (r45.1, (T.mk i59 i60 t61 l62), 0)) fun j58 =>
     (s_l09Tree n x2 r38 (IntKind.i64.wrap (2 * ((l1).length : Int)))).bind fun r64 =>
     (s_l09TypeTree n r45.2).bind fun r71 =>
     j58 3 0 (⟨#[111, 102]⟩) ([r64, r71])

end Go.Am.Ytpkeophkdemcpaa
