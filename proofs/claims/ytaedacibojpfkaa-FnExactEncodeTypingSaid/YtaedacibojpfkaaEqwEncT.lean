/- Printed by a program of ours: Lean functions that do what the Go functions do, and the contracts. -/
import Derived.Test.YtaedacibojpfkaaTypes
import Derived.Test.YtaedacibojpfkaaMsExpr
import Derived.Test.YtaedacibojpfkaaMsTree
import Derived.Test.YtaedacibojpfkaaEqEncT
import Derived.Test.YtaedacibojpfkaaMlExpr
import Derived.Test.YtaedacibojpfkaaMlType
import Derived.Test.YtaedacibojpfkaaMeTree
import Derived.Test.YtaedacibojpfkaaMhTree
import Derived.Test.YtaedacibojpfkaaMz
-- packed
namespace Go.Am.Ytaedacibojpfkaa
open Go Go.Am

def w_FnExactEncodeTyping (n : Nat) (l1 : List F) (x2 : Pf) : Option (Rz Bool) :=
 (w_szTypeS n l1 1048576).bind fun r3 =>
 if r3 < 0 then
  some (.ok true)
 else
  (w_szExpr n x2 r3).bind fun r11 =>
  if r11 < 0 then
   some (.ok true)
  else
   jn (fun (i20 : Int) (i21 : Int) (i22 : Int) (t23 : ByteArray) (l24 : List T) (i25 : Int) (i26 : Int) (t27 : ByteArray) (l28 : List T) =>
    (w_toTypeS n l1).bind fun r466 =>
    (w_toExpr n x2).bind fun r473 =>
    zb (i_EncodeTyping n r466 r473) fun r481 =>
    (w_eqTree n r481.1 (T.mk i25 i26 t27 l28)).bind fun r502 =>
    if (!r502) = true then
     some (.ok false)
    else
     (w_eqTree n r481.2.1 (T.mk i21 i22 t23 l24)).bind fun r510 =>
     if (!r510) = true then
      some (.ok false)
     else
      if (r481.2.2 != i20) = true then
       some (.ok false)
      else
       (w_toTypeS n l1).bind fun r519 =>
       (w_eqTypeS n r466 r519).bind fun r526 =>
       if (!r526) = true then
        some (.ok false)
       else
        (w_toExpr n x2).bind fun r534 =>
        (w_eqExpr n r473 r534).bind fun r541 =>
        if (!r541) = true then
         some (.ok false)
        else
         (w_markTypeS r466 1).bind fun r549 =>
         (w_markExpr r473 r549.2).bind fun r558 =>
         if r558.2 < 0 then
          some (.ok false)
         else
          (w_eqTree n r481.1 (T.mk i25 i26 t27 l28)).bind fun r572 =>
          if (!r572) = true then
           some (.ok false)
          else
           (w_eqTree n r481.2.1 (T.mk i21 i22 t23 l24)).bind fun r580 =>
           if (!r580) = true then
            some (.ok false)
           else
            if (r481.2.2 != i20) = true then
             some (.ok false)
            else
             (w_markTree r481.1 1).bind fun r589 =>
             (w_markTree r481.2.1 r589.2).bind fun r598 =>
             (w_heldTree n (T.mk r481.1.kind r481.1.n r481.1.name r589.1) 1).bind fun r607 =>
             if r607 < 0 then
              some (.ok false)
             else
              (w_heldTree n (T.mk r481.2.1.kind r481.2.1.n r481.2.1.name r598.1) r607).bind fun r615 =>
              if r615 < 0 then
               some (.ok false)
              else
               if (r615 != r598.2) = true then
                some (.ok false)
               else
                jn (fun (i625 : Int) (i626 : Int) (i627 : Int) (t628 : ByteArray) (l629 : List T) (i630 : Int) (i631 : Int) (t632 : ByteArray) (l633 : List T) =>
                 (w_eqTree n (T.mk i630 i631 t632 l633) (T.mk i25 i26 t27 l28)).bind fun r1166 =>
                 if (!r1166) = true then
                  some (.ok false)
                 else
                  (w_eqTree n (T.mk i626 i627 t628 l629) (T.mk i21 i22 t23 l24)).bind fun r1174 =>
                  if (!r1174) = true then
                   some (.ok false)
                  else
                   if (i625 != i20) = true then
                    some (.ok false)
                   else
                    (w_heldTree n (T.mk r481.1.kind r481.1.n r481.1.name r589.1) 1).bind fun r1183 =>
                    if r1183 < 0 then
                     some (.ok false)
                    else
                     (w_heldTree n (T.mk r481.2.1.kind r481.2.1.n r481.2.1.name r598.1) r1183).bind fun r1191 =>
                     if r1191 < 0 then
                      some (.ok false)
                     else
                      if (r1191 != r598.2) = true then
                       some (.ok false)
                      else
                       some (.ok true)) fun j624 =>
                (w_toTypeS n l1).bind fun r636 =>
                (w_toExpr n x2).bind fun r643 =>
                zb (i_EncodeTyping n r636 r643) fun r651 =>
                j624 r651.2.2 r651.2.1.kind r651.2.1.n r651.2.1.name r651.2.1.kids r651.1.kind r651.1.n r651.1.name r651.1.kids) fun j19 =>
   (w_toTypeS n l1).bind fun r31 =>
   (w_toExpr n x2).bind fun r38 =>
   (s_EncodeTyping n r31 r38).bind fun r45 =>
   j19 r45.2.2 r45.2.1.kind r45.2.1.n r45.2.1.name r45.2.1.kids r45.1.kind r45.1.n r45.1.name r45.1.kids

set_option maxHeartbeats 20000000 in
set_option maxHeartbeats 20000000 in
set_option maxRecDepth 100000 in
theorem w_FnExactEncodeTyping_ok (n : Nat) : ∀ (q1 : Nat) (f1 : Bool) (ks1 : List LF) (k2 : Int) (n2 : Int) (p2 : Nat) (e2 : Bool) (fs2 : List LF) (q2 : Nat) (f2 : Bool) (ks2 : List LP) {r : (Rz Bool)}, w_FnExactEncodeTyping n (fers ks1) (Pf.mk k2 n2 (fers fs2) (pers ks2)) = some r → (∀ x ∈ fstoks q1 ks1, x = 0) → (∀ x ∈ fstoks p2 fs2, x = 0) → (∀ x ∈ pstoks q2 ks2, x = 0) → ∀ (O : Heap) (tk : Nat), O = (fun _ => none) → 2 ≤ tk → ACalls Go.Proofs.Try.prog 8 [.imm q1 3 f1 (fcellss ks1), .agg [.int .i64 k2, .int .i64 n2, .imm p2 3 e2 (fcellss fs2), .imm q2 4 f2 (pcellss ks2)]] O tk (RetZ HT O tk r (fun r v tk' => v = .bool r)) := by
 intro q1 f1 ks1 k2 n2 p2 e2 fs2 q2 f2 ks2 r hM ho0 ho1 ho2 O tk hOn h2tk
 unfold w_FnExactEncodeTyping at hM
 refine acalls_of_run Go.Proofs.Try.func8 rfl rfl [] [] (Bor.nil _) [(0, .imm q1 3 f1 (fcellss ks1)), (1, .agg [.int .i64 k2, .int .i64 n2, .imm p2 3 e2 (fcellss fs2), .imm q2 4 f2 (pcellss ks2)])] (.cons (entS rfl) (.cons (.agg _) (.nil _))) (leb rfl) (fun _ h => by cases h) (fun S0 hO htk hfz => ?_)
 refine run_sr ?_
 refine run_op rfl (box_step (d := 3) rfl rfl rfl rfl rfl) rfl (ltb rfl) ?_
 refine yR rfl ?_
 refine run_ops_nil ?_
 refine run_sr ?_
 refine yR rfl ?_
 refine run_ops_nil ?_
 refine run_sr ?_
 refine yL rfl ?_
 refine yL rfl ?_
 obtain ⟨r3, hg4, hM⟩ := bind_t hM
 refine yK rfl (w_szTypeS_ok n q1 f1 ks1 1048576 hg4 _ _) (callK_retX (fun v tk5 (hle6 : tk ≤ tk5) h7 => ?_))
 subst h7
 refine yR rfl ?_
 refine run_ops_nil ?_
 refine run_seq ?_
 refine run_sr ?_
 refine yL rfl ?_
 refine yB rfl ?_
 refine run_ops_nil ?_
 refine run_ifd rfl rfl (fun hb10 => ?_) (fun hb10 => ?_)
 ·replace hM := ite_t hb10 hM
  refine run_sr ?_
  refine yR rfl ?_
  refine run_ops_nil ?_
  refine run_ret_to ?_
  replace hM := some_t hM
  subst hM
  refine fin_x hG rfl rfl rfl (v' := .bool true) (by rfl) ⟨rfl, (show tk ≤ tk5 by omega), _, rfl, rfl⟩
 replace hM := ite_f hb10 hM
 refine run_skip ?_
 refine run_sr ?_
 refine yD hG rfl ?_
 refine yL rfl ?_
 obtain ⟨r11, hg12, hM⟩ := bind_t hM
 refine yK rfl (w_szExpr_ok n k2 n2 p2 e2 fs2 q2 f2 ks2 r3 hg12 _ _) (callK_retX (fun v tk13 (hle14 : tk5 ≤ tk13) h15 => ?_))
 subst h15
 refine yR rfl ?_
 refine run_ops_nil ?_
 refine run_seq ?_
 refine run_sr ?_
 refine yL rfl ?_
 refine yB rfl ?_
 refine run_ops_nil ?_
 refine run_sub_code (σ' := ⟨[(0, .imm q1 3 f1 (fcellss ks1)), (3, .optr (.loc 3) 0 0), (4, .bool false), (29, .bool (decide (r11 < 0)))], [(3, ⟨62, 4, true, [[.int .i64 k2, .int .i64 n2, .imm p2 3 e2 (fcellss fs2), .imm q2 4 f2 (pcellss ks2)]]⟩)], [], O, tk13⟩) (Sub.env _ ⟨rfl, rfl, rfl, rfl, trivial⟩) ?_
 refine run_ifd rfl rfl (fun hb18 => ?_) (fun hb18 => ?_)
 ·replace hM := ite_t hb18 hM
  refine run_sr ?_
  refine yR rfl ?_
  refine run_ops_nil ?_
  refine run_ret_to ?_
  replace hM := some_t hM
  subst hM
  refine fin_x hG rfl rfl rfl (v' := .bool true) (by rfl) ⟨rfl, (show tk ≤ tk13 by omega), _, rfl, rfl⟩
 replace hM := ite_f hb18 hM
 refine run_skip ?_
 refine run_seq ?_
 obtain ⟨j19, hj1203, hM⟩ := jn_t hM
 refine run_cutL [.code _] (fun σ' => ∃ (i20 : Int) (i21 : Int) (i22 : Int) (t23 : ByteArray) (q24 : Nat) (f24 : Bool) (ks24 : List LT) (i25 : Int) (i26 : Int) (t27 : ByteArray) (q28 : Nat) (f28 : Bool) (ks28 : List LT) (tkj19 : Nat), tk13 ≤ tkj19 ∧ Fr tk13 tkj19 (tstoks q24 ks24) ∧ Fr tk13 tkj19 (tstoks q28 ks28) ∧ j19 i20 i21 i22 t23 (ers ks24) i25 i26 t27 (ers ks28) = some r ∧ Sub ⟨Go.Proofs.Try.prog, S0, Go.Proofs.Try.f8.ntmps, [], fun _ => False, []⟩ σ' ⟨[(0, .imm q1 3 f1 (fcellss ks1)), (3, .optr (.loc 3) 0 0), (4, .bool false), (6, .optr (.loc 6) 0 0), (7, .optr (.loc 7) 0 0), (8, .int .i64 i20)], [(7, ⟨51, 4, true, [[.int .i64 i21, .int .i64 i22, .str t23, .imm q24 4 f24 (cellss ks24)]]⟩), (6, ⟨51, 4, true, [[.int .i64 i25, .int .i64 i26, .str t27, .imm q28 4 f28 (cellss ks28)]]⟩), (3, ⟨62, 4, true, [[.int .i64 k2, .int .i64 n2, .imm p2 3 e2 (fcellss fs2), .imm q2 4 f2 (pcellss ks2)]]⟩)], [], O, tkj19⟩) rfl ?_ ?_
 ·refine run_draw [] (n := 14) mixed rfl (fun _ h => absurd h List.not_mem_nil) ?_
  refine yTV 0 (by kernel_rfl) rfl ?_
  refine yTL hG 2 (by kernel_rfl) rfl ?_
  refine AAny.eachN (rs := [1, 9, 10]) (by kernel_rfl) (fun h => by cases h) (fun i hi => ?_)
  simp only [List.mem_cons, List.not_mem_nil, or_false] at hi
  rcases hi with rfl | rfl | rfl
  ·refine AOpN.of ?_
   obtain ⟨r31, hg32, hM⟩ := bind_t hM
   refine yI rfl rfl (w_toTypeS_ok n q1 f1 ks1 hg32 _ _) (callK_retX (fun v tk33 (hle34 : tk13 ≤ tk33) h35 => ?_))
   obtain ⟨q36, f36, ks36, rfl, rfl, hf37⟩ := h35
   refine AAny.eachN (rs := [3, 9, 10]) (by kernel_rfl) (fun h => by cases h) (fun i hi => ?_)
   simp only [List.mem_cons, List.not_mem_nil, or_false] at hi
   rcases hi with rfl | rfl | rfl
   ·refine AOpN.of ?_
    obtain ⟨r38, hg39, hM⟩ := bind_t hM
    refine yI rfl rfl (w_toExpr_ok n k2 n2 p2 e2 fs2 q2 f2 ks2 hg39 _ _) (callK_retX (fun v tk40 (hle41 : tk33 ≤ tk40) h42 => ?_))
    obtain ⟨k43, n43, p43, e43, fs43, q43, f43, ks43, rfl, rfl, hf44⟩ := h42
    refine AAny.eachN (rs := [4, 9, 10]) (by kernel_rfl) (fun h => by cases h) (fun i hi => ?_)
    simp only [List.mem_cons, List.not_mem_nil, or_false] at hi
    rcases hi with rfl | rfl | rfl
    ·refine AOpN.of ?_
     obtain ⟨r45, hg46, hM⟩ := bind_t hM
     refine yI rfl rfl (s_EncodeTyping_ok n q36 f36 ks36 k43 n43 p43 e43 fs43 q43 f43 ks43 hg46 _ _) (callK_retX (fun v tk47 (hle48 : tk40 ≤ tk47) h49 => ?_))
     obtain ⟨ra56, ra57, ra58, va59, va60, va61, rfl, rfl, ⟨k50, n50, s50, q50, f50, ks50, rfl, rfl, hf51⟩, ⟨k52, n52, s52, q52, f52, ks52, rfl, rfl, hf53⟩, rfl⟩ := h49
     refine yTV 5 (by kernel_rfl) rfl ?_
     refine yT 6 (by kernel_rfl) rfl rfl rfl (ltb rfl) ((extract_step rfl rfl rfl).rd _) ?_
     refine yT 7 (by kernel_rfl) rfl rfl rfl (ltb rfl) ((extract_step rfl rfl rfl).rd _) ?_
     refine yT 8 (by kernel_rfl) rfl rfl rfl (ltb rfl) ((extract_step rfl rfl rfl).rd _) ?_
     refine AAny.eachN (rs := [9, 10]) (by kernel_rfl) (fun h => by cases h) (fun i hi => ?_)
     simp only [List.mem_cons, List.not_mem_nil, or_false] at hi
     rcases hi with rfl | rfl
     ·refine AOpN.alloc hG rfl rfl rfl (ltb rfl) rfl rfl rfl ?_
      refine AAny.eachN (rs := [10]) (by kernel_rfl) (fun h => by cases h) (fun i hi => ?_)
      simp only [List.mem_cons, List.not_mem_nil, or_false] at hi
      subst hi
      ·refine AOpN.alloc hG rfl rfl rfl (ltb rfl) rfl rfl rfl ?_
       refine yW hG 11 (by kernel_rfl) rfl (by kernel_rfl) rfl ?_
       refine yW hG 12 (by kernel_rfl) rfl (by kernel_rfl) rfl ?_
       refine yTW 13 (by kernel_rfl) rfl ?_
       refine AAny.done (by kernel_rfl) ?_
       exact ⟨ra58, k52, n52, s52, q52, f52, ks52, k50, n50, s50, q50, f50, ks50, tk47, (show tk13 ≤ tk47 by omega), (show Fr tk13 tk47 _ from ((show Fr tk40 tk47 _ from hf53 rfl)).mono (by omega) (by omega)), (show Fr tk13 tk47 _ from ((show Fr tk40 tk47 _ from hf51 rfl)).mono (by omega) (by omega)), hM, Sub.pk [0, 3, 4, 6, 7, 8] rfl⟩
     refine AOpN.alloc hG rfl rfl rfl (ltb rfl) rfl rfl rfl ?_
     refine AAny.eachN (rs := [9]) (by kernel_rfl) (fun h => by cases h) (fun i hi => ?_)
     simp only [List.mem_cons, List.not_mem_nil, or_false] at hi
     subst hi
     ·refine AOpN.alloc hG rfl rfl rfl (ltb rfl) rfl rfl rfl ?_
      refine yW hG 11 (by kernel_rfl) rfl (by kernel_rfl) rfl ?_
      refine yW hG 12 (by kernel_rfl) rfl (by kernel_rfl) rfl ?_
      refine yTW 13 (by kernel_rfl) rfl ?_
      refine AAny.done (by kernel_rfl) ?_
      exact ⟨ra58, k52, n52, s52, q52, f52, ks52, k50, n50, s50, q50, f50, ks50, tk47, (show tk13 ≤ tk47 by omega), (show Fr tk13 tk47 _ from ((show Fr tk40 tk47 _ from hf53 rfl)).mono (by omega) (by omega)), (show Fr tk13 tk47 _ from ((show Fr tk40 tk47 _ from hf51 rfl)).mono (by omega) (by omega)), hM, Sub.trans (Sub.perm (.swap _ _ _ _ _ rfl)) (Sub.pk [0, 3, 4, 6, 7, 8] rfl)⟩
    ·refine AOpN.alloc hG rfl rfl rfl (ltb rfl) rfl rfl rfl ?_
     refine AAny.eachN (rs := [4, 10]) (by kernel_rfl) (fun h => by cases h) (fun i hi => ?_)
     simp only [List.mem_cons, List.not_mem_nil, or_false] at hi
     rcases hi with rfl | rfl
     ·refine AOpN.of ?_
      obtain ⟨r62, hg63, hM⟩ := bind_t hM
      refine yI rfl rfl (s_EncodeTyping_ok n q36 f36 ks36 k43 n43 p43 e43 fs43 q43 f43 ks43 hg63 _ _) (callK_retX (fun v tk64 (hle65 : tk40 ≤ tk64) h66 => ?_))
      obtain ⟨ra73, ra74, ra75, va76, va77, va78, rfl, rfl, ⟨k67, n67, s67, q67, f67, ks67, rfl, rfl, hf68⟩, ⟨k69, n69, s69, q69, f69, ks69, rfl, rfl, hf70⟩, rfl⟩ := h66
      refine yTV 5 (by kernel_rfl) rfl ?_
      refine yT 6 (by kernel_rfl) rfl rfl rfl (ltb rfl) ((extract_step rfl rfl rfl).rd _) ?_
      refine yT 7 (by kernel_rfl) rfl rfl rfl (ltb rfl) ((extract_step rfl rfl rfl).rd _) ?_
      refine yT 8 (by kernel_rfl) rfl rfl rfl (ltb rfl) ((extract_step rfl rfl rfl).rd _) ?_
      refine AAny.eachN (rs := [10]) (by kernel_rfl) (fun h => by cases h) (fun i hi => ?_)
      simp only [List.mem_cons, List.not_mem_nil, or_false] at hi
      subst hi
      ·refine AOpN.alloc hG rfl rfl rfl (ltb rfl) rfl rfl rfl ?_
       refine yW hG 11 (by kernel_rfl) rfl (by kernel_rfl) rfl ?_
       refine yW hG 12 (by kernel_rfl) rfl (by kernel_rfl) rfl ?_
       refine yTW 13 (by kernel_rfl) rfl ?_
       refine AAny.done (by kernel_rfl) ?_
       exact ⟨ra75, k69, n69, s69, q69, f69, ks69, k67, n67, s67, q67, f67, ks67, tk64, (show tk13 ≤ tk64 by omega), (show Fr tk13 tk64 _ from ((show Fr tk40 tk64 _ from hf70 rfl)).mono (by omega) (by omega)), (show Fr tk13 tk64 _ from ((show Fr tk40 tk64 _ from hf68 rfl)).mono (by omega) (by omega)), hM, Sub.pk [0, 3, 4, 6, 7, 8] rfl⟩
     refine AOpN.alloc hG rfl rfl rfl (ltb rfl) rfl rfl rfl ?_
     obtain ⟨r79, hg80, hM⟩ := bind_t hM
     refine yC 4 (by kernel_rfl) rfl rfl (s_EncodeTyping_ok n q36 f36 ks36 k43 n43 p43 e43 fs43 q43 f43 ks43 hg80 _ _) (callK_retX (fun v tk81 (hle82 : tk40 ≤ tk81) h83 => ?_))
     obtain ⟨ra90, ra91, ra92, va93, va94, va95, rfl, rfl, ⟨k84, n84, s84, q84, f84, ks84, rfl, rfl, hf85⟩, ⟨k86, n86, s86, q86, f86, ks86, rfl, rfl, hf87⟩, rfl⟩ := h83
     refine yTV 5 (by kernel_rfl) rfl ?_
     refine yT 6 (by kernel_rfl) rfl rfl rfl (ltb rfl) ((extract_step rfl rfl rfl).rd _) ?_
     refine yT 7 (by kernel_rfl) rfl rfl rfl (ltb rfl) ((extract_step rfl rfl rfl).rd _) ?_
     refine yT 8 (by kernel_rfl) rfl rfl rfl (ltb rfl) ((extract_step rfl rfl rfl).rd _) ?_
     refine yW hG 11 (by kernel_rfl) rfl (by kernel_rfl) rfl ?_
     refine yW hG 12 (by kernel_rfl) rfl (by kernel_rfl) rfl ?_
     refine yTW 13 (by kernel_rfl) rfl ?_
     refine AAny.done (by kernel_rfl) ?_
     exact ⟨ra92, k86, n86, s86, q86, f86, ks86, k84, n84, s84, q84, f84, ks84, tk81, (show tk13 ≤ tk81 by omega), (show Fr tk13 tk81 _ from ((show Fr tk40 tk81 _ from hf87 rfl)).mono (by omega) (by omega)), (show Fr tk13 tk81 _ from ((show Fr tk40 tk81 _ from hf85 rfl)).mono (by omega) (by omega)), hM, Sub.pk [0, 3, 4, 6, 7, 8] rfl⟩
    refine AOpN.alloc hG rfl rfl rfl (ltb rfl) rfl rfl rfl ?_
    refine AAny.eachN (rs := [4, 9]) (by kernel_rfl) (fun h => by cases h) (fun i hi => ?_)
    simp only [List.mem_cons, List.not_mem_nil, or_false] at hi
    rcases hi with rfl | rfl
    ·refine AOpN.of ?_
     obtain ⟨r96, hg97, hM⟩ := bind_t hM
     refine yI rfl rfl (s_EncodeTyping_ok n q36 f36 ks36 k43 n43 p43 e43 fs43 q43 f43 ks43 hg97 _ _) (callK_retX (fun v tk98 (hle99 : tk40 ≤ tk98) h100 => ?_))
     obtain ⟨ra107, ra108, ra109, va110, va111, va112, rfl, rfl, ⟨k101, n101, s101, q101, f101, ks101, rfl, rfl, hf102⟩, ⟨k103, n103, s103, q103, f103, ks103, rfl, rfl, hf104⟩, rfl⟩ := h100
     refine yTV 5 (by kernel_rfl) rfl ?_
     refine yT 6 (by kernel_rfl) rfl rfl rfl (ltb rfl) ((extract_step rfl rfl rfl).rd _) ?_
     refine yT 7 (by kernel_rfl) rfl rfl rfl (ltb rfl) ((extract_step rfl rfl rfl).rd _) ?_
     refine yT 8 (by kernel_rfl) rfl rfl rfl (ltb rfl) ((extract_step rfl rfl rfl).rd _) ?_
     refine AAny.eachN (rs := [9]) (by kernel_rfl) (fun h => by cases h) (fun i hi => ?_)
     simp only [List.mem_cons, List.not_mem_nil, or_false] at hi
     subst hi
     ·refine AOpN.alloc hG rfl rfl rfl (ltb rfl) rfl rfl rfl ?_
      refine yW hG 11 (by kernel_rfl) rfl (by kernel_rfl) rfl ?_
      refine yW hG 12 (by kernel_rfl) rfl (by kernel_rfl) rfl ?_
      refine yTW 13 (by kernel_rfl) rfl ?_
      refine AAny.done (by kernel_rfl) ?_
      exact ⟨ra109, k103, n103, s103, q103, f103, ks103, k101, n101, s101, q101, f101, ks101, tk98, (show tk13 ≤ tk98 by omega), (show Fr tk13 tk98 _ from ((show Fr tk40 tk98 _ from hf104 rfl)).mono (by omega) (by omega)), (show Fr tk13 tk98 _ from ((show Fr tk40 tk98 _ from hf102 rfl)).mono (by omega) (by omega)), hM, Sub.trans (Sub.perm (.swap _ _ _ _ _ rfl)) (Sub.pk [0, 3, 4, 6, 7, 8] rfl)⟩
    refine AOpN.alloc hG rfl rfl rfl (ltb rfl) rfl rfl rfl ?_
    obtain ⟨r113, hg114, hM⟩ := bind_t hM
    refine yC 4 (by kernel_rfl) rfl rfl (s_EncodeTyping_ok n q36 f36 ks36 k43 n43 p43 e43 fs43 q43 f43 ks43 hg114 _ _) (callK_retX (fun v tk115 (hle116 : tk40 ≤ tk115) h117 => ?_))
    obtain ⟨ra124, ra125, ra126, va127, va128, va129, rfl, rfl, ⟨k118, n118, s118, q118, f118, ks118, rfl, rfl, hf119⟩, ⟨k120, n120, s120, q120, f120, ks120, rfl, rfl, hf121⟩, rfl⟩ := h117
    refine yTV 5 (by kernel_rfl) rfl ?_
    refine yT 6 (by kernel_rfl) rfl rfl rfl (ltb rfl) ((extract_step rfl rfl rfl).rd _) ?_
    refine yT 7 (by kernel_rfl) rfl rfl rfl (ltb rfl) ((extract_step rfl rfl rfl).rd _) ?_
    refine yT 8 (by kernel_rfl) rfl rfl rfl (ltb rfl) ((extract_step rfl rfl rfl).rd _) ?_
    refine yW hG 11 (by kernel_rfl) rfl (by kernel_rfl) rfl ?_
    refine yW hG 12 (by kernel_rfl) rfl (by kernel_rfl) rfl ?_
    refine yTW 13 (by kernel_rfl) rfl ?_
    refine AAny.done (by kernel_rfl) ?_
    exact ⟨ra126, k120, n120, s120, q120, f120, ks120, k118, n118, s118, q118, f118, ks118, tk115, (show tk13 ≤ tk115 by omega), (show Fr tk13 tk115 _ from ((show Fr tk40 tk115 _ from hf121 rfl)).mono (by omega) (by omega)), (show Fr tk13 tk115 _ from ((show Fr tk40 tk115 _ from hf119 rfl)).mono (by omega) (by omega)), hM, Sub.trans (Sub.perm (.swap _ _ _ _ _ rfl)) (Sub.pk [0, 3, 4, 6, 7, 8] rfl)⟩
   ·refine AOpN.alloc hG rfl rfl rfl (ltb rfl) rfl rfl rfl ?_
    refine AAny.eachN (rs := [3, 10]) (by kernel_rfl) (fun h => by cases h) (fun i hi => ?_)
    simp only [List.mem_cons, List.not_mem_nil, or_false] at hi
    rcases hi with rfl | rfl
    ·refine AOpN.of ?_
     obtain ⟨r130, hg131, hM⟩ := bind_t hM
     refine yI rfl rfl (w_toExpr_ok n k2 n2 p2 e2 fs2 q2 f2 ks2 hg131 _ _) (callK_retX (fun v tk132 (hle133 : tk33 ≤ tk132) h134 => ?_))
     obtain ⟨k135, n135, p135, e135, fs135, q135, f135, ks135, rfl, rfl, hf136⟩ := h134
     refine AAny.eachN (rs := [4, 10]) (by kernel_rfl) (fun h => by cases h) (fun i hi => ?_)
     simp only [List.mem_cons, List.not_mem_nil, or_false] at hi
     rcases hi with rfl | rfl
     ·refine AOpN.of ?_
      obtain ⟨r137, hg138, hM⟩ := bind_t hM
      refine yI rfl rfl (s_EncodeTyping_ok n q36 f36 ks36 k135 n135 p135 e135 fs135 q135 f135 ks135 hg138 _ _) (callK_retX (fun v tk139 (hle140 : tk132 ≤ tk139) h141 => ?_))
      obtain ⟨ra148, ra149, ra150, va151, va152, va153, rfl, rfl, ⟨k142, n142, s142, q142, f142, ks142, rfl, rfl, hf143⟩, ⟨k144, n144, s144, q144, f144, ks144, rfl, rfl, hf145⟩, rfl⟩ := h141
      refine yTV 5 (by kernel_rfl) rfl ?_
      refine yT 6 (by kernel_rfl) rfl rfl rfl (ltb rfl) ((extract_step rfl rfl rfl).rd _) ?_
      refine yT 7 (by kernel_rfl) rfl rfl rfl (ltb rfl) ((extract_step rfl rfl rfl).rd _) ?_
      refine yT 8 (by kernel_rfl) rfl rfl rfl (ltb rfl) ((extract_step rfl rfl rfl).rd _) ?_
      refine AAny.eachN (rs := [10]) (by kernel_rfl) (fun h => by cases h) (fun i hi => ?_)
      simp only [List.mem_cons, List.not_mem_nil, or_false] at hi
      subst hi
      ·refine AOpN.alloc hG rfl rfl rfl (ltb rfl) rfl rfl rfl ?_
       refine yW hG 11 (by kernel_rfl) rfl (by kernel_rfl) rfl ?_
       refine yW hG 12 (by kernel_rfl) rfl (by kernel_rfl) rfl ?_
       refine yTW 13 (by kernel_rfl) rfl ?_
       refine AAny.done (by kernel_rfl) ?_
       exact ⟨ra150, k144, n144, s144, q144, f144, ks144, k142, n142, s142, q142, f142, ks142, tk139, (show tk13 ≤ tk139 by omega), (show Fr tk13 tk139 _ from ((show Fr tk132 tk139 _ from hf145 rfl)).mono (by omega) (by omega)), (show Fr tk13 tk139 _ from ((show Fr tk132 tk139 _ from hf143 rfl)).mono (by omega) (by omega)), hM, Sub.pk [0, 3, 4, 6, 7, 8] rfl⟩
     refine AOpN.alloc hG rfl rfl rfl (ltb rfl) rfl rfl rfl ?_
     obtain ⟨r154, hg155, hM⟩ := bind_t hM
     refine yC 4 (by kernel_rfl) rfl rfl (s_EncodeTyping_ok n q36 f36 ks36 k135 n135 p135 e135 fs135 q135 f135 ks135 hg155 _ _) (callK_retX (fun v tk156 (hle157 : tk132 ≤ tk156) h158 => ?_))
     obtain ⟨ra165, ra166, ra167, va168, va169, va170, rfl, rfl, ⟨k159, n159, s159, q159, f159, ks159, rfl, rfl, hf160⟩, ⟨k161, n161, s161, q161, f161, ks161, rfl, rfl, hf162⟩, rfl⟩ := h158
     refine yTV 5 (by kernel_rfl) rfl ?_
     refine yT 6 (by kernel_rfl) rfl rfl rfl (ltb rfl) ((extract_step rfl rfl rfl).rd _) ?_
     refine yT 7 (by kernel_rfl) rfl rfl rfl (ltb rfl) ((extract_step rfl rfl rfl).rd _) ?_
     refine yT 8 (by kernel_rfl) rfl rfl rfl (ltb rfl) ((extract_step rfl rfl rfl).rd _) ?_
     refine yW hG 11 (by kernel_rfl) rfl (by kernel_rfl) rfl ?_
     refine yW hG 12 (by kernel_rfl) rfl (by kernel_rfl) rfl ?_
     refine yTW 13 (by kernel_rfl) rfl ?_
     refine AAny.done (by kernel_rfl) ?_
     exact ⟨ra167, k161, n161, s161, q161, f161, ks161, k159, n159, s159, q159, f159, ks159, tk156, (show tk13 ≤ tk156 by omega), (show Fr tk13 tk156 _ from ((show Fr tk132 tk156 _ from hf162 rfl)).mono (by omega) (by omega)), (show Fr tk13 tk156 _ from ((show Fr tk132 tk156 _ from hf160 rfl)).mono (by omega) (by omega)), hM, Sub.pk [0, 3, 4, 6, 7, 8] rfl⟩
    refine AOpN.alloc hG rfl rfl rfl (ltb rfl) rfl rfl rfl ?_
    obtain ⟨r171, hg172, hM⟩ := bind_t hM
    refine yC 3 (by kernel_rfl) rfl rfl (w_toExpr_ok n k2 n2 p2 e2 fs2 q2 f2 ks2 hg172 _ _) (callK_retX (fun v tk173 (hle174 : tk33 ≤ tk173) h175 => ?_))
    obtain ⟨k176, n176, p176, e176, fs176, q176, f176, ks176, rfl, rfl, hf177⟩ := h175
    obtain ⟨r178, hg179, hM⟩ := bind_t hM
    refine yC 4 (by kernel_rfl) rfl rfl (s_EncodeTyping_ok n q36 f36 ks36 k176 n176 p176 e176 fs176 q176 f176 ks176 hg179 _ _) (callK_retX (fun v tk180 (hle181 : tk173 ≤ tk180) h182 => ?_))
    obtain ⟨ra189, ra190, ra191, va192, va193, va194, rfl, rfl, ⟨k183, n183, s183, q183, f183, ks183, rfl, rfl, hf184⟩, ⟨k185, n185, s185, q185, f185, ks185, rfl, rfl, hf186⟩, rfl⟩ := h182
    refine yTV 5 (by kernel_rfl) rfl ?_
    refine yT 6 (by kernel_rfl) rfl rfl rfl (ltb rfl) ((extract_step rfl rfl rfl).rd _) ?_
    refine yT 7 (by kernel_rfl) rfl rfl rfl (ltb rfl) ((extract_step rfl rfl rfl).rd _) ?_
    refine yT 8 (by kernel_rfl) rfl rfl rfl (ltb rfl) ((extract_step rfl rfl rfl).rd _) ?_
    refine yW hG 11 (by kernel_rfl) rfl (by kernel_rfl) rfl ?_
    refine yW hG 12 (by kernel_rfl) rfl (by kernel_rfl) rfl ?_
    refine yTW 13 (by kernel_rfl) rfl ?_
    refine AAny.done (by kernel_rfl) ?_
    exact ⟨ra191, k185, n185, s185, q185, f185, ks185, k183, n183, s183, q183, f183, ks183, tk180, (show tk13 ≤ tk180 by omega), (show Fr tk13 tk180 _ from ((show Fr tk173 tk180 _ from hf186 rfl)).mono (by omega) (by omega)), (show Fr tk13 tk180 _ from ((show Fr tk173 tk180 _ from hf184 rfl)).mono (by omega) (by omega)), hM, Sub.pk [0, 3, 4, 6, 7, 8] rfl⟩
   refine AOpN.alloc hG rfl rfl rfl (ltb rfl) rfl rfl rfl ?_
   refine AAny.eachN (rs := [3, 9]) (by kernel_rfl) (fun h => by cases h) (fun i hi => ?_)
   simp only [List.mem_cons, List.not_mem_nil, or_false] at hi
   rcases hi with rfl | rfl
   ·refine AOpN.of ?_
    obtain ⟨r195, hg196, hM⟩ := bind_t hM
    refine yI rfl rfl (w_toExpr_ok n k2 n2 p2 e2 fs2 q2 f2 ks2 hg196 _ _) (callK_retX (fun v tk197 (hle198 : tk33 ≤ tk197) h199 => ?_))
    obtain ⟨k200, n200, p200, e200, fs200, q200, f200, ks200, rfl, rfl, hf201⟩ := h199
    refine AAny.eachN (rs := [4, 9]) (by kernel_rfl) (fun h => by cases h) (fun i hi => ?_)
    simp only [List.mem_cons, List.not_mem_nil, or_false] at hi
    rcases hi with rfl | rfl
    ·refine AOpN.of ?_
     obtain ⟨r202, hg203, hM⟩ := bind_t hM
     refine yI rfl rfl (s_EncodeTyping_ok n q36 f36 ks36 k200 n200 p200 e200 fs200 q200 f200 ks200 hg203 _ _) (callK_retX (fun v tk204 (hle205 : tk197 ≤ tk204) h206 => ?_))
     obtain ⟨ra213, ra214, ra215, va216, va217, va218, rfl, rfl, ⟨k207, n207, s207, q207, f207, ks207, rfl, rfl, hf208⟩, ⟨k209, n209, s209, q209, f209, ks209, rfl, rfl, hf210⟩, rfl⟩ := h206
     refine yTV 5 (by kernel_rfl) rfl ?_
     refine yT 6 (by kernel_rfl) rfl rfl rfl (ltb rfl) ((extract_step rfl rfl rfl).rd _) ?_
     refine yT 7 (by kernel_rfl) rfl rfl rfl (ltb rfl) ((extract_step rfl rfl rfl).rd _) ?_
     refine yT 8 (by kernel_rfl) rfl rfl rfl (ltb rfl) ((extract_step rfl rfl rfl).rd _) ?_
     refine AAny.eachN (rs := [9]) (by kernel_rfl) (fun h => by cases h) (fun i hi => ?_)
     simp only [List.mem_cons, List.not_mem_nil, or_false] at hi
     subst hi
     ·refine AOpN.alloc hG rfl rfl rfl (ltb rfl) rfl rfl rfl ?_
      refine yW hG 11 (by kernel_rfl) rfl (by kernel_rfl) rfl ?_
      refine yW hG 12 (by kernel_rfl) rfl (by kernel_rfl) rfl ?_
      refine yTW 13 (by kernel_rfl) rfl ?_
      refine AAny.done (by kernel_rfl) ?_
      exact ⟨ra215, k209, n209, s209, q209, f209, ks209, k207, n207, s207, q207, f207, ks207, tk204, (show tk13 ≤ tk204 by omega), (show Fr tk13 tk204 _ from ((show Fr tk197 tk204 _ from hf210 rfl)).mono (by omega) (by omega)), (show Fr tk13 tk204 _ from ((show Fr tk197 tk204 _ from hf208 rfl)).mono (by omega) (by omega)), hM, Sub.trans (Sub.perm (.swap _ _ _ _ _ rfl)) (Sub.pk [0, 3, 4, 6, 7, 8] rfl)⟩
    refine AOpN.alloc hG rfl rfl rfl (ltb rfl) rfl rfl rfl ?_
    obtain ⟨r219, hg220, hM⟩ := bind_t hM
    refine yC 4 (by kernel_rfl) rfl rfl (s_EncodeTyping_ok n q36 f36 ks36 k200 n200 p200 e200 fs200 q200 f200 ks200 hg220 _ _) (callK_retX (fun v tk221 (hle222 : tk197 ≤ tk221) h223 => ?_))
    obtain ⟨ra230, ra231, ra232, va233, va234, va235, rfl, rfl, ⟨k224, n224, s224, q224, f224, ks224, rfl, rfl, hf225⟩, ⟨k226, n226, s226, q226, f226, ks226, rfl, rfl, hf227⟩, rfl⟩ := h223
    refine yTV 5 (by kernel_rfl) rfl ?_
    refine yT 6 (by kernel_rfl) rfl rfl rfl (ltb rfl) ((extract_step rfl rfl rfl).rd _) ?_
    refine yT 7 (by kernel_rfl) rfl rfl rfl (ltb rfl) ((extract_step rfl rfl rfl).rd _) ?_
    refine yT 8 (by kernel_rfl) rfl rfl rfl (ltb rfl) ((extract_step rfl rfl rfl).rd _) ?_
    refine yW hG 11 (by kernel_rfl) rfl (by kernel_rfl) rfl ?_
    refine yW hG 12 (by kernel_rfl) rfl (by kernel_rfl) rfl ?_
    refine yTW 13 (by kernel_rfl) rfl ?_
    refine AAny.done (by kernel_rfl) ?_
    exact ⟨ra232, k226, n226, s226, q226, f226, ks226, k224, n224, s224, q224, f224, ks224, tk221, (show tk13 ≤ tk221 by omega), (show Fr tk13 tk221 _ from ((show Fr tk197 tk221 _ from hf227 rfl)).mono (by omega) (by omega)), (show Fr tk13 tk221 _ from ((show Fr tk197 tk221 _ from hf225 rfl)).mono (by omega) (by omega)), hM, Sub.trans (Sub.perm (.swap _ _ _ _ _ rfl)) (Sub.pk [0, 3, 4, 6, 7, 8] rfl)⟩
   refine AOpN.alloc hG rfl rfl rfl (ltb rfl) rfl rfl rfl ?_
   obtain ⟨r236, hg237, hM⟩ := bind_t hM
   refine yC 3 (by kernel_rfl) rfl rfl (w_toExpr_ok n k2 n2 p2 e2 fs2 q2 f2 ks2 hg237 _ _) (callK_retX (fun v tk238 (hle239 : tk33 ≤ tk238) h240 => ?_))
   obtain ⟨k241, n241, p241, e241, fs241, q241, f241, ks241, rfl, rfl, hf242⟩ := h240
   obtain ⟨r243, hg244, hM⟩ := bind_t hM
   refine yC 4 (by kernel_rfl) rfl rfl (s_EncodeTyping_ok n q36 f36 ks36 k241 n241 p241 e241 fs241 q241 f241 ks241 hg244 _ _) (callK_retX (fun v tk245 (hle246 : tk238 ≤ tk245) h247 => ?_))
   obtain ⟨ra254, ra255, ra256, va257, va258, va259, rfl, rfl, ⟨k248, n248, s248, q248, f248, ks248, rfl, rfl, hf249⟩, ⟨k250, n250, s250, q250, f250, ks250, rfl, rfl, hf251⟩, rfl⟩ := h247
   refine yTV 5 (by kernel_rfl) rfl ?_
   refine yT 6 (by kernel_rfl) rfl rfl rfl (ltb rfl) ((extract_step rfl rfl rfl).rd _) ?_
   refine yT 7 (by kernel_rfl) rfl rfl rfl (ltb rfl) ((extract_step rfl rfl rfl).rd _) ?_
   refine yT 8 (by kernel_rfl) rfl rfl rfl (ltb rfl) ((extract_step rfl rfl rfl).rd _) ?_
   refine yW hG 11 (by kernel_rfl) rfl (by kernel_rfl) rfl ?_
   refine yW hG 12 (by kernel_rfl) rfl (by kernel_rfl) rfl ?_
   refine yTW 13 (by kernel_rfl) rfl ?_
   refine AAny.done (by kernel_rfl) ?_
   exact ⟨ra256, k250, n250, s250, q250, f250, ks250, k248, n248, s248, q248, f248, ks248, tk245, (show tk13 ≤ tk245 by omega), (show Fr tk13 tk245 _ from ((show Fr tk238 tk245 _ from hf251 rfl)).mono (by omega) (by omega)), (show Fr tk13 tk245 _ from ((show Fr tk238 tk245 _ from hf249 rfl)).mono (by omega) (by omega)), hM, Sub.trans (Sub.perm (.swap _ _ _ _ _ rfl)) (Sub.pk [0, 3, 4, 6, 7, 8] rfl)⟩
  ·refine AOpN.alloc hG rfl rfl rfl (ltb rfl) rfl rfl rfl ?_
   refine AAny.eachN (rs := [1, 10]) (by kernel_rfl) (fun h => by cases h) (fun i hi => ?_)
   simp only [List.mem_cons, List.not_mem_nil, or_false] at hi
   rcases hi with rfl | rfl
   ·refine AOpN.of ?_
    obtain ⟨r260, hg261, hM⟩ := bind_t hM
    refine yI rfl rfl (w_toTypeS_ok n q1 f1 ks1 hg261 _ _) (callK_retX (fun v tk262 (hle263 : tk13 ≤ tk262) h264 => ?_))
    obtain ⟨q265, f265, ks265, rfl, rfl, hf266⟩ := h264
    refine AAny.eachN (rs := [3, 10]) (by kernel_rfl) (fun h => by cases h) (fun i hi => ?_)
    simp only [List.mem_cons, List.not_mem_nil, or_false] at hi
    rcases hi with rfl | rfl
    ·refine AOpN.of ?_
     obtain ⟨r267, hg268, hM⟩ := bind_t hM
     refine yI rfl rfl (w_toExpr_ok n k2 n2 p2 e2 fs2 q2 f2 ks2 hg268 _ _) (callK_retX (fun v tk269 (hle270 : tk262 ≤ tk269) h271 => ?_))
     obtain ⟨k272, n272, p272, e272, fs272, q272, f272, ks272, rfl, rfl, hf273⟩ := h271
     refine AAny.eachN (rs := [4, 10]) (by kernel_rfl) (fun h => by cases h) (fun i hi => ?_)
     simp only [List.mem_cons, List.not_mem_nil, or_false] at hi
     rcases hi with rfl | rfl
     ·refine AOpN.of ?_
      obtain ⟨r274, hg275, hM⟩ := bind_t hM
      refine yI rfl rfl (s_EncodeTyping_ok n q265 f265 ks265 k272 n272 p272 e272 fs272 q272 f272 ks272 hg275 _ _) (callK_retX (fun v tk276 (hle277 : tk269 ≤ tk276) h278 => ?_))
      obtain ⟨ra285, ra286, ra287, va288, va289, va290, rfl, rfl, ⟨k279, n279, s279, q279, f279, ks279, rfl, rfl, hf280⟩, ⟨k281, n281, s281, q281, f281, ks281, rfl, rfl, hf282⟩, rfl⟩ := h278
      refine yTV 5 (by kernel_rfl) rfl ?_
      refine yT 6 (by kernel_rfl) rfl rfl rfl (ltb rfl) ((extract_step rfl rfl rfl).rd _) ?_
      refine yT 7 (by kernel_rfl) rfl rfl rfl (ltb rfl) ((extract_step rfl rfl rfl).rd _) ?_
      refine yT 8 (by kernel_rfl) rfl rfl rfl (ltb rfl) ((extract_step rfl rfl rfl).rd _) ?_
      refine AAny.eachN (rs := [10]) (by kernel_rfl) (fun h => by cases h) (fun i hi => ?_)
      simp only [List.mem_cons, List.not_mem_nil, or_false] at hi
      subst hi
      ·refine AOpN.alloc hG rfl rfl rfl (ltb rfl) rfl rfl rfl ?_
       refine yW hG 11 (by kernel_rfl) rfl (by kernel_rfl) rfl ?_
       refine yW hG 12 (by kernel_rfl) rfl (by kernel_rfl) rfl ?_
       refine yTW 13 (by kernel_rfl) rfl ?_
       refine AAny.done (by kernel_rfl) ?_
       exact ⟨ra287, k281, n281, s281, q281, f281, ks281, k279, n279, s279, q279, f279, ks279, tk276, (show tk13 ≤ tk276 by omega), (show Fr tk13 tk276 _ from ((show Fr tk269 tk276 _ from hf282 rfl)).mono (by omega) (by omega)), (show Fr tk13 tk276 _ from ((show Fr tk269 tk276 _ from hf280 rfl)).mono (by omega) (by omega)), hM, Sub.pk [0, 3, 4, 6, 7, 8] rfl⟩
     refine AOpN.alloc hG rfl rfl rfl (ltb rfl) rfl rfl rfl ?_
     obtain ⟨r291, hg292, hM⟩ := bind_t hM
     refine yC 4 (by kernel_rfl) rfl rfl (s_EncodeTyping_ok n q265 f265 ks265 k272 n272 p272 e272 fs272 q272 f272 ks272 hg292 _ _) (callK_retX (fun v tk293 (hle294 : tk269 ≤ tk293) h295 => ?_))
     obtain ⟨ra302, ra303, ra304, va305, va306, va307, rfl, rfl, ⟨k296, n296, s296, q296, f296, ks296, rfl, rfl, hf297⟩, ⟨k298, n298, s298, q298, f298, ks298, rfl, rfl, hf299⟩, rfl⟩ := h295
     refine yTV 5 (by kernel_rfl) rfl ?_
     refine yT 6 (by kernel_rfl) rfl rfl rfl (ltb rfl) ((extract_step rfl rfl rfl).rd _) ?_
     refine yT 7 (by kernel_rfl) rfl rfl rfl (ltb rfl) ((extract_step rfl rfl rfl).rd _) ?_
     refine yT 8 (by kernel_rfl) rfl rfl rfl (ltb rfl) ((extract_step rfl rfl rfl).rd _) ?_
     refine yW hG 11 (by kernel_rfl) rfl (by kernel_rfl) rfl ?_
     refine yW hG 12 (by kernel_rfl) rfl (by kernel_rfl) rfl ?_
     refine yTW 13 (by kernel_rfl) rfl ?_
     refine AAny.done (by kernel_rfl) ?_
     exact ⟨ra304, k298, n298, s298, q298, f298, ks298, k296, n296, s296, q296, f296, ks296, tk293, (show tk13 ≤ tk293 by omega), (show Fr tk13 tk293 _ from ((show Fr tk269 tk293 _ from hf299 rfl)).mono (by omega) (by omega)), (show Fr tk13 tk293 _ from ((show Fr tk269 tk293 _ from hf297 rfl)).mono (by omega) (by omega)), hM, Sub.pk [0, 3, 4, 6, 7, 8] rfl⟩
    refine AOpN.alloc hG rfl rfl rfl (ltb rfl) rfl rfl rfl ?_
    obtain ⟨r308, hg309, hM⟩ := bind_t hM
    refine yC 3 (by kernel_rfl) rfl rfl (w_toExpr_ok n k2 n2 p2 e2 fs2 q2 f2 ks2 hg309 _ _) (callK_retX (fun v tk310 (hle311 : tk262 ≤ tk310) h312 => ?_))
    obtain ⟨k313, n313, p313, e313, fs313, q313, f313, ks313, rfl, rfl, hf314⟩ := h312
    obtain ⟨r315, hg316, hM⟩ := bind_t hM
    refine yC 4 (by kernel_rfl) rfl rfl (s_EncodeTyping_ok n q265 f265 ks265 k313 n313 p313 e313 fs313 q313 f313 ks313 hg316 _ _) (callK_retX (fun v tk317 (hle318 : tk310 ≤ tk317) h319 => ?_))
    obtain ⟨ra326, ra327, ra328, va329, va330, va331, rfl, rfl, ⟨k320, n320, s320, q320, f320, ks320, rfl, rfl, hf321⟩, ⟨k322, n322, s322, q322, f322, ks322, rfl, rfl, hf323⟩, rfl⟩ := h319
    refine yTV 5 (by kernel_rfl) rfl ?_
    refine yT 6 (by kernel_rfl) rfl rfl rfl (ltb rfl) ((extract_step rfl rfl rfl).rd _) ?_
    refine yT 7 (by kernel_rfl) rfl rfl rfl (ltb rfl) ((extract_step rfl rfl rfl).rd _) ?_
    refine yT 8 (by kernel_rfl) rfl rfl rfl (ltb rfl) ((extract_step rfl rfl rfl).rd _) ?_
    refine yW hG 11 (by kernel_rfl) rfl (by kernel_rfl) rfl ?_
    refine yW hG 12 (by kernel_rfl) rfl (by kernel_rfl) rfl ?_
    refine yTW 13 (by kernel_rfl) rfl ?_
    refine AAny.done (by kernel_rfl) ?_
    exact ⟨ra328, k322, n322, s322, q322, f322, ks322, k320, n320, s320, q320, f320, ks320, tk317, (show tk13 ≤ tk317 by omega), (show Fr tk13 tk317 _ from ((show Fr tk310 tk317 _ from hf323 rfl)).mono (by omega) (by omega)), (show Fr tk13 tk317 _ from ((show Fr tk310 tk317 _ from hf321 rfl)).mono (by omega) (by omega)), hM, Sub.pk [0, 3, 4, 6, 7, 8] rfl⟩
   refine AOpN.alloc hG rfl rfl rfl (ltb rfl) rfl rfl rfl ?_
   obtain ⟨r332, hg333, hM⟩ := bind_t hM
   refine yC 1 (by kernel_rfl) rfl rfl (w_toTypeS_ok n q1 f1 ks1 hg333 _ _) (callK_retX (fun v tk334 (hle335 : tk13 ≤ tk334) h336 => ?_))
   obtain ⟨q337, f337, ks337, rfl, rfl, hf338⟩ := h336
   obtain ⟨r339, hg340, hM⟩ := bind_t hM
   refine yC 3 (by kernel_rfl) rfl rfl (w_toExpr_ok n k2 n2 p2 e2 fs2 q2 f2 ks2 hg340 _ _) (callK_retX (fun v tk341 (hle342 : tk334 ≤ tk341) h343 => ?_))
   obtain ⟨k344, n344, p344, e344, fs344, q344, f344, ks344, rfl, rfl, hf345⟩ := h343
   obtain ⟨r346, hg347, hM⟩ := bind_t hM
   refine yC 4 (by kernel_rfl) rfl rfl (s_EncodeTyping_ok n q337 f337 ks337 k344 n344 p344 e344 fs344 q344 f344 ks344 hg347 _ _) (callK_retX (fun v tk348 (hle349 : tk341 ≤ tk348) h350 => ?_))
   obtain ⟨ra357, ra358, ra359, va360, va361, va362, rfl, rfl, ⟨k351, n351, s351, q351, f351, ks351, rfl, rfl, hf352⟩, ⟨k353, n353, s353, q353, f353, ks353, rfl, rfl, hf354⟩, rfl⟩ := h350
   refine yTV 5 (by kernel_rfl) rfl ?_
   refine yT 6 (by kernel_rfl) rfl rfl rfl (ltb rfl) ((extract_step rfl rfl rfl).rd _) ?_
   refine yT 7 (by kernel_rfl) rfl rfl rfl (ltb rfl) ((extract_step rfl rfl rfl).rd _) ?_
   refine yT 8 (by kernel_rfl) rfl rfl rfl (ltb rfl) ((extract_step rfl rfl rfl).rd _) ?_
   refine yW hG 11 (by kernel_rfl) rfl (by kernel_rfl) rfl ?_
   refine yW hG 12 (by kernel_rfl) rfl (by kernel_rfl) rfl ?_
   refine yTW 13 (by kernel_rfl) rfl ?_
   refine AAny.done (by kernel_rfl) ?_
   exact ⟨ra359, k353, n353, s353, q353, f353, ks353, k351, n351, s351, q351, f351, ks351, tk348, (show tk13 ≤ tk348 by omega), (show Fr tk13 tk348 _ from ((show Fr tk341 tk348 _ from hf354 rfl)).mono (by omega) (by omega)), (show Fr tk13 tk348 _ from ((show Fr tk341 tk348 _ from hf352 rfl)).mono (by omega) (by omega)), hM, Sub.pk [0, 3, 4, 6, 7, 8] rfl⟩
  refine AOpN.alloc hG rfl rfl rfl (ltb rfl) rfl rfl rfl ?_
  refine AAny.eachN (rs := [1, 9]) (by kernel_rfl) (fun h => by cases h) (fun i hi => ?_)
  simp only [List.mem_cons, List.not_mem_nil, or_false] at hi
  rcases hi with rfl | rfl
  ·refine AOpN.of ?_
   obtain ⟨r363, hg364, hM⟩ := bind_t hM
   refine yI rfl rfl (w_toTypeS_ok n q1 f1 ks1 hg364 _ _) (callK_retX (fun v tk365 (hle366 : tk13 ≤ tk365) h367 => ?_))
   obtain ⟨q368, f368, ks368, rfl, rfl, hf369⟩ := h367
   refine AAny.eachN (rs := [3, 9]) (by kernel_rfl) (fun h => by cases h) (fun i hi => ?_)
   simp only [List.mem_cons, List.not_mem_nil, or_false] at hi
   rcases hi with rfl | rfl
   ·refine AOpN.of ?_
    obtain ⟨r370, hg371, hM⟩ := bind_t hM
    refine yI rfl rfl (w_toExpr_ok n k2 n2 p2 e2 fs2 q2 f2 ks2 hg371 _ _) (callK_retX (fun v tk372 (hle373 : tk365 ≤ tk372) h374 => ?_))
    obtain ⟨k375, n375, p375, e375, fs375, q375, f375, ks375, rfl, rfl, hf376⟩ := h374
    refine AAny.eachN (rs := [4, 9]) (by kernel_rfl) (fun h => by cases h) (fun i hi => ?_)
    simp only [List.mem_cons, List.not_mem_nil, or_false] at hi
    rcases hi with rfl | rfl
    ·refine AOpN.of ?_
     obtain ⟨r377, hg378, hM⟩ := bind_t hM
     refine yI rfl rfl (s_EncodeTyping_ok n q368 f368 ks368 k375 n375 p375 e375 fs375 q375 f375 ks375 hg378 _ _) (callK_retX (fun v tk379 (hle380 : tk372 ≤ tk379) h381 => ?_))
     obtain ⟨ra388, ra389, ra390, va391, va392, va393, rfl, rfl, ⟨k382, n382, s382, q382, f382, ks382, rfl, rfl, hf383⟩, ⟨k384, n384, s384, q384, f384, ks384, rfl, rfl, hf385⟩, rfl⟩ := h381
     refine yTV 5 (by kernel_rfl) rfl ?_
     refine yT 6 (by kernel_rfl) rfl rfl rfl (ltb rfl) ((extract_step rfl rfl rfl).rd _) ?_
     refine yT 7 (by kernel_rfl) rfl rfl rfl (ltb rfl) ((extract_step rfl rfl rfl).rd _) ?_
     refine yT 8 (by kernel_rfl) rfl rfl rfl (ltb rfl) ((extract_step rfl rfl rfl).rd _) ?_
     refine AAny.eachN (rs := [9]) (by kernel_rfl) (fun h => by cases h) (fun i hi => ?_)
     simp only [List.mem_cons, List.not_mem_nil, or_false] at hi
     subst hi
     ·refine AOpN.alloc hG rfl rfl rfl (ltb rfl) rfl rfl rfl ?_
      refine yW hG 11 (by kernel_rfl) rfl (by kernel_rfl) rfl ?_
      refine yW hG 12 (by kernel_rfl) rfl (by kernel_rfl) rfl ?_
      refine yTW 13 (by kernel_rfl) rfl ?_
      refine AAny.done (by kernel_rfl) ?_
      exact ⟨ra390, k384, n384, s384, q384, f384, ks384, k382, n382, s382, q382, f382, ks382, tk379, (show tk13 ≤ tk379 by omega), (show Fr tk13 tk379 _ from ((show Fr tk372 tk379 _ from hf385 rfl)).mono (by omega) (by omega)), (show Fr tk13 tk379 _ from ((show Fr tk372 tk379 _ from hf383 rfl)).mono (by omega) (by omega)), hM, Sub.trans (Sub.perm (.swap _ _ _ _ _ rfl)) (Sub.pk [0, 3, 4, 6, 7, 8] rfl)⟩
    refine AOpN.alloc hG rfl rfl rfl (ltb rfl) rfl rfl rfl ?_
    obtain ⟨r394, hg395, hM⟩ := bind_t hM
    refine yC 4 (by kernel_rfl) rfl rfl (s_EncodeTyping_ok n q368 f368 ks368 k375 n375 p375 e375 fs375 q375 f375 ks375 hg395 _ _) (callK_retX (fun v tk396 (hle397 : tk372 ≤ tk396) h398 => ?_))
    obtain ⟨ra405, ra406, ra407, va408, va409, va410, rfl, rfl, ⟨k399, n399, s399, q399, f399, ks399, rfl, rfl, hf400⟩, ⟨k401, n401, s401, q401, f401, ks401, rfl, rfl, hf402⟩, rfl⟩ := h398
    refine yTV 5 (by kernel_rfl) rfl ?_
    refine yT 6 (by kernel_rfl) rfl rfl rfl (ltb rfl) ((extract_step rfl rfl rfl).rd _) ?_
    refine yT 7 (by kernel_rfl) rfl rfl rfl (ltb rfl) ((extract_step rfl rfl rfl).rd _) ?_
    refine yT 8 (by kernel_rfl) rfl rfl rfl (ltb rfl) ((extract_step rfl rfl rfl).rd _) ?_
    refine yW hG 11 (by kernel_rfl) rfl (by kernel_rfl) rfl ?_
    refine yW hG 12 (by kernel_rfl) rfl (by kernel_rfl) rfl ?_
    refine yTW 13 (by kernel_rfl) rfl ?_
    refine AAny.done (by kernel_rfl) ?_
    exact ⟨ra407, k401, n401, s401, q401, f401, ks401, k399, n399, s399, q399, f399, ks399, tk396, (show tk13 ≤ tk396 by omega), (show Fr tk13 tk396 _ from ((show Fr tk372 tk396 _ from hf402 rfl)).mono (by omega) (by omega)), (show Fr tk13 tk396 _ from ((show Fr tk372 tk396 _ from hf400 rfl)).mono (by omega) (by omega)), hM, Sub.trans (Sub.perm (.swap _ _ _ _ _ rfl)) (Sub.pk [0, 3, 4, 6, 7, 8] rfl)⟩
   refine AOpN.alloc hG rfl rfl rfl (ltb rfl) rfl rfl rfl ?_
   obtain ⟨r411, hg412, hM⟩ := bind_t hM
   refine yC 3 (by kernel_rfl) rfl rfl (w_toExpr_ok n k2 n2 p2 e2 fs2 q2 f2 ks2 hg412 _ _) (callK_retX (fun v tk413 (hle414 : tk365 ≤ tk413) h415 => ?_))
   obtain ⟨k416, n416, p416, e416, fs416, q416, f416, ks416, rfl, rfl, hf417⟩ := h415
   obtain ⟨r418, hg419, hM⟩ := bind_t hM
   refine yC 4 (by kernel_rfl) rfl rfl (s_EncodeTyping_ok n q368 f368 ks368 k416 n416 p416 e416 fs416 q416 f416 ks416 hg419 _ _) (callK_retX (fun v tk420 (hle421 : tk413 ≤ tk420) h422 => ?_))
   obtain ⟨ra429, ra430, ra431, va432, va433, va434, rfl, rfl, ⟨k423, n423, s423, q423, f423, ks423, rfl, rfl, hf424⟩, ⟨k425, n425, s425, q425, f425, ks425, rfl, rfl, hf426⟩, rfl⟩ := h422
   refine yTV 5 (by kernel_rfl) rfl ?_
   refine yT 6 (by kernel_rfl) rfl rfl rfl (ltb rfl) ((extract_step rfl rfl rfl).rd _) ?_
   refine yT 7 (by kernel_rfl) rfl rfl rfl (ltb rfl) ((extract_step rfl rfl rfl).rd _) ?_
   refine yT 8 (by kernel_rfl) rfl rfl rfl (ltb rfl) ((extract_step rfl rfl rfl).rd _) ?_
   refine yW hG 11 (by kernel_rfl) rfl (by kernel_rfl) rfl ?_
   refine yW hG 12 (by kernel_rfl) rfl (by kernel_rfl) rfl ?_
   refine yTW 13 (by kernel_rfl) rfl ?_
   refine AAny.done (by kernel_rfl) ?_
   exact ⟨ra431, k425, n425, s425, q425, f425, ks425, k423, n423, s423, q423, f423, ks423, tk420, (show tk13 ≤ tk420 by omega), (show Fr tk13 tk420 _ from ((show Fr tk413 tk420 _ from hf426 rfl)).mono (by omega) (by omega)), (show Fr tk13 tk420 _ from ((show Fr tk413 tk420 _ from hf424 rfl)).mono (by omega) (by omega)), hM, Sub.trans (Sub.perm (.swap _ _ _ _ _ rfl)) (Sub.pk [0, 3, 4, 6, 7, 8] rfl)⟩
  refine AOpN.alloc hG rfl rfl rfl (ltb rfl) rfl rfl rfl ?_
  obtain ⟨r435, hg436, hM⟩ := bind_t hM
  refine yC 1 (by kernel_rfl) rfl rfl (w_toTypeS_ok n q1 f1 ks1 hg436 _ _) (callK_retX (fun v tk437 (hle438 : tk13 ≤ tk437) h439 => ?_))
  obtain ⟨q440, f440, ks440, rfl, rfl, hf441⟩ := h439
  obtain ⟨r442, hg443, hM⟩ := bind_t hM
  refine yC 3 (by kernel_rfl) rfl rfl (w_toExpr_ok n k2 n2 p2 e2 fs2 q2 f2 ks2 hg443 _ _) (callK_retX (fun v tk444 (hle445 : tk437 ≤ tk444) h446 => ?_))
  obtain ⟨k447, n447, p447, e447, fs447, q447, f447, ks447, rfl, rfl, hf448⟩ := h446
  obtain ⟨r449, hg450, hM⟩ := bind_t hM
  refine yC 4 (by kernel_rfl) rfl rfl (s_EncodeTyping_ok n q440 f440 ks440 k447 n447 p447 e447 fs447 q447 f447 ks447 hg450 _ _) (callK_retX (fun v tk451 (hle452 : tk444 ≤ tk451) h453 => ?_))
  obtain ⟨ra460, ra461, ra462, va463, va464, va465, rfl, rfl, ⟨k454, n454, s454, q454, f454, ks454, rfl, rfl, hf455⟩, ⟨k456, n456, s456, q456, f456, ks456, rfl, rfl, hf457⟩, rfl⟩ := h453
  refine yTV 5 (by kernel_rfl) rfl ?_
  refine yT 6 (by kernel_rfl) rfl rfl rfl (ltb rfl) ((extract_step rfl rfl rfl).rd _) ?_
  refine yT 7 (by kernel_rfl) rfl rfl rfl (ltb rfl) ((extract_step rfl rfl rfl).rd _) ?_
  refine yT 8 (by kernel_rfl) rfl rfl rfl (ltb rfl) ((extract_step rfl rfl rfl).rd _) ?_
  refine yW hG 11 (by kernel_rfl) rfl (by kernel_rfl) rfl ?_
  refine yW hG 12 (by kernel_rfl) rfl (by kernel_rfl) rfl ?_
  refine yTW 13 (by kernel_rfl) rfl ?_
  refine AAny.done (by kernel_rfl) ?_
  exact ⟨ra462, k456, n456, s456, q456, f456, ks456, k454, n454, s454, q454, f454, ks454, tk451, (show tk13 ≤ tk451 by omega), (show Fr tk13 tk451 _ from ((show Fr tk444 tk451 _ from hf457 rfl)).mono (by omega) (by omega)), (show Fr tk13 tk451 _ from ((show Fr tk444 tk451 _ from hf455 rfl)).mono (by omega) (by omega)), hM, Sub.trans (Sub.perm (.swap _ _ _ _ _ rfl)) (Sub.pk [0, 3, 4, 6, 7, 8] rfl)⟩
 clear hM
 rintro σ' ⟨i20, i21, i22, t23, q24, f24, ks24, i25, i26, t27, q28, f28, ks28, tkj19, hle1202, hfr29, hfr30, hM, hsub⟩
 rw [hj1203] at hM
 clear hj1203
 refine run_sub_code hsub ?_
 refine run_sr ?_
 refine yL rfl ?_
 obtain ⟨r466, hg467, hM⟩ := bind_t hM
 refine yK rfl (w_toTypeS_ok n q1 f1 ks1 hg467 _ _) (callK_retX (fun v tk468 (hle469 : tkj19 ≤ tk468) h470 => ?_))
 obtain ⟨q471, f471, ks471, rfl, rfl, hf472⟩ := h470
 refine yR rfl ?_
 refine run_ops_nil ?_
 refine run_sr ?_
 refine yD hG rfl ?_
 obtain ⟨r473, hg474, hM⟩ := bind_t hM
 refine yK rfl (w_toExpr_ok n k2 n2 p2 e2 fs2 q2 f2 ks2 hg474 _ _) (callK_retX (fun v tk475 (hle476 : tk468 ≤ tk475) h477 => ?_))
 obtain ⟨k478, n478, p478, e478, fs478, q478, f478, ks478, rfl, rfl, hf479⟩ := h477
 refine run_op rfl (alloc_step (d := 10) hG rfl rfl rfl) rfl (ltb rfl) ?_
 refine yS hG rfl ?_
 refine run_ops_nil ?_
 refine run_sr ?_
 refine yL rfl ?_
 refine yD hG rfl ?_
 obtain ⟨z486, hg482, hM⟩ := zb_t hM
 refine yK rfl (i_EncodeTyping_ok n q471 f471 ks471 k478 n478 p478 e478 fs478 q478 f478 ks478 hg482 _ _) (callK_retZ (fun r481 v tk483 hz493 (hle484 : tk475 ≤ tk483) h485 => ?_) (fun c p tk483 hz (_ : tk475 ≤ tk483) => by subst hz; obtain rfl := bd_stop hM; exact run_pan_at (⟨rfl, (show tk ≤ tk483 by omega), rfl⟩)))
 subst hz493
 replace hM := bd_ok hM
 obtain ⟨ra494, ra495, ra496, va497, va498, va499, tkm480, rfl, rfl, (hle500 : tk475 ≤ tkm480), (hle501 : tkm480 ≤ tk483), ⟨k487, n487, s487, q487, f487, ks487, rfl, rfl, hf488⟩, ⟨k489, n489, s489, q489, f489, ks489, rfl, rfl, hf490⟩, rfl⟩ := h485
 refine yL rfl ?_
 refine run_pu rfl (extract_step rfl rfl rfl) rfl (ltb rfl) ?_
 refine run_pu rfl (extract_step rfl rfl rfl) rfl (ltb rfl) ?_
 refine run_pu rfl (extract_step rfl rfl rfl) rfl (ltb rfl) ?_
 refine run_op rfl (alloc_step (d := 11) hG rfl rfl rfl) rfl (ltb rfl) ?_
 refine run_op rfl (alloc_step (d := 12) hG rfl rfl rfl) rfl (ltb rfl) ?_
 refine yS hG rfl ?_
 refine yS hG rfl ?_
 refine yR rfl ?_
 refine run_ops_nil ?_
 refine run_sub_code (σ' := ⟨[(0, .imm q1 3 f1 (fcellss ks1)), (3, .optr (.loc 3) 0 0), (4, .bool false), (6, .optr (.loc 6) 0 0), (7, .optr (.loc 7) 0 0), (8, .int .i64 i20), (9, .imm q471 3 f471 (fcellss ks471)), (10, .optr (.loc 10) 0 0), (11, .optr (.loc 11) 0 0), (12, .optr (.loc 12) 0 0), (13, .int .i64 ra496)], [(12, ⟨51, 4, true, [[.int .i64 k489, .int .i64 n489, .str s489, .imm q489 4 f489 (cellss ks489)]]⟩), (11, ⟨51, 4, true, [[.int .i64 k487, .int .i64 n487, .str s487, .imm q487 4 f487 (cellss ks487)]]⟩), (10, ⟨40, 4, true, [[.int .i64 k478, .int .i64 n478, .imm p478 3 e478 (fcellss fs478), .imm q478 4 f478 (pcellss ks478)]]⟩), (7, ⟨51, 4, true, [[.int .i64 i21, .int .i64 i22, .str t23, .imm q24 4 f24 (cellss ks24)]]⟩), (6, ⟨51, 4, true, [[.int .i64 i25, .int .i64 i26, .str t27, .imm q28 4 f28 (cellss ks28)]]⟩), (3, ⟨62, 4, true, [[.int .i64 k2, .int .i64 n2, .imm p2 3 e2 (fcellss fs2), .imm q2 4 f2 (pcellss ks2)]]⟩)], [], O, tk483⟩) (Sub.env _ ⟨rfl, rfl, rfl, rfl, rfl, rfl, rfl, rfl, rfl, rfl, rfl, trivial⟩) ?_
 refine run_seq ?_
 refine run_sr ?_
 refine yD hG rfl ?_
 refine yD hG rfl ?_
 obtain ⟨r502, hg503, hM⟩ := bind_t hM
 refine yK rfl (w_eqTree_ok n k487 n487 s487 q487 f487 ks487 i25 i26 t27 q28 f28 ks28 hg503 _ _) (callK_retX (fun v tk504 (hle505 : tk483 ≤ tk504) h506 => ?_))
 subst h506
 refine run_pu rfl (aun_step rfl rfl rfl) rfl (ltb rfl) ?_
 refine yL rfl ?_
 refine run_splitb (i := 54) rfl (fun hb509 => ?_) (fun hb509 => ?_)
 ·replace hM := ite_t hb509 hM
  refine yO rfl ?_
  refine yO rfl ?_
  refine yO rfl ?_
  refine yO rfl ?_
  refine yP rfl ?_
  refine yL rfl ?_
  refine yO rfl ?_
  refine yO rfl ?_
  refine yO rfl ?_
  refine yP rfl ?_
  refine run_ops_nil ?_
  refine run_if rfl rfl (fun _ => ?_) (fun h => by cases h)
  refine run_sr ?_
  refine yR rfl ?_
  refine run_ops_nil ?_
  refine run_ret_to ?_
  replace hM := some_t hM
  subst hM
  refine fin_x hG rfl rfl rfl (v' := .bool false) (by rfl) ⟨rfl, (show tk ≤ tk504 by omega), _, rfl, rfl⟩
 replace hM := ite_f hb509 hM
 refine run_rdG (on_of rfl rfl rfl rfl) (aload_rd hG rfl rfl rfl (by first | (simp [ldok]; done) | exact List.not_mem_nil | trivial)) rfl (ltb rfl) ?_
 refine run_rdG (on_of rfl rfl rfl rfl) (aload_rd hG rfl rfl rfl (by first | (simp [ldok]; done) | exact List.not_mem_nil | trivial)) rfl (ltb rfl) ?_
 obtain ⟨r510, hg511, hM⟩ := bind_t hM
 refine yG (on_of rfl rfl rfl rfl) rfl (w_eqTree_ok n k489 n489 s489 q489 f489 ks489 i21 i22 t23 q24 f24 ks24 hg511 _ _) (callK_retX (fun v tk512 (hle513 : tk504 ≤ tk512) h514 => ?_))
 subst h514
 refine run_puG (on_of rfl rfl rfl rfl) (aun_step rfl rfl rfl) rfl (ltb rfl) ?_
 refine yP rfl ?_
 refine yL rfl ?_
 refine run_splitb (i := 60) rfl (fun hb517 => ?_) (fun hb517 => ?_)
 ·replace hM := ite_t hb517 hM
  refine yO rfl ?_
  refine yO rfl ?_
  refine yO rfl ?_
  refine yP rfl ?_
  refine run_ops_nil ?_
  refine run_if rfl rfl (fun _ => ?_) (fun h => by cases h)
  refine run_sr ?_
  refine yR rfl ?_
  refine run_ops_nil ?_
  refine run_ret_to ?_
  replace hM := some_t hM
  subst hM
  refine fin_x hG rfl rfl rfl (v' := .bool false) (by rfl) ⟨rfl, (show tk ≤ tk512 by omega), _, rfl, rfl⟩
 replace hM := ite_f hb517 hM
 refine run_puG (on_of rfl rfl rfl rfl) (move_step (.inl rfl) rfl) rfl (ltb rfl) ?_
 refine run_puG (on_of rfl rfl rfl rfl) (move_step (.inl rfl) rfl) rfl (ltb rfl) ?_
 refine run_puG (on_of rfl rfl rfl rfl) (abin_step rfl rfl rfl rfl (fun _ h => by cases h)) rfl (ltb rfl) ?_
 refine yP rfl ?_
 refine run_ops_nil ?_
 refine run_sub_code (σ' := ⟨[(0, .imm q1 3 f1 (fcellss ks1)), (3, .optr (.loc 3) 0 0), (4, .bool false), (6, .optr (.loc 6) 0 0), (7, .optr (.loc 7) 0 0), (8, .int .i64 i20), (9, .imm q471 3 f471 (fcellss ks471)), (10, .optr (.loc 10) 0 0), (11, .optr (.loc 11) 0 0), (12, .optr (.loc 12) 0 0), (13, .int .i64 ra496), (64, .bool (ra496 != i20))], [(12, ⟨51, 4, true, [[.int .i64 k489, .int .i64 n489, .str s489, .imm q489 4 f489 (cellss ks489)]]⟩), (11, ⟨51, 4, true, [[.int .i64 k487, .int .i64 n487, .str s487, .imm q487 4 f487 (cellss ks487)]]⟩), (10, ⟨40, 4, true, [[.int .i64 k478, .int .i64 n478, .imm p478 3 e478 (fcellss fs478), .imm q478 4 f478 (pcellss ks478)]]⟩), (7, ⟨51, 4, true, [[.int .i64 i21, .int .i64 i22, .str t23, .imm q24 4 f24 (cellss ks24)]]⟩), (6, ⟨51, 4, true, [[.int .i64 i25, .int .i64 i26, .str t27, .imm q28 4 f28 (cellss ks28)]]⟩), (3, ⟨62, 4, true, [[.int .i64 k2, .int .i64 n2, .imm p2 3 e2 (fcellss fs2), .imm q2 4 f2 (pcellss ks2)]]⟩)], [], O, tk512⟩) (Sub.env _ ⟨rfl, rfl, rfl, rfl, rfl, rfl, rfl, rfl, rfl, rfl, rfl, rfl, trivial⟩) ?_
 refine run_ifb rfl rfl (fun hb518 => ?_) (fun hb518 => ?_)
 ·replace hM := ite_t hb518 hM
  refine run_sr ?_
  refine yR rfl ?_
  refine run_ops_nil ?_
  refine run_ret_to ?_
  replace hM := some_t hM
  subst hM
  refine fin_x hG rfl rfl rfl (v' := .bool false) (by rfl) ⟨rfl, (show tk ≤ tk512 by omega), _, rfl, rfl⟩
 replace hM := ite_f hb518 hM
 refine run_skip ?_
 refine run_seq ?_
 refine run_sr ?_
 refine yL rfl ?_
 refine yL rfl ?_
 obtain ⟨r519, hg520, hM⟩ := bind_t hM
 refine yK rfl (w_toTypeS_ok n q1 f1 ks1 hg520 _ _) (callK_retX (fun v tk521 (hle522 : tk512 ≤ tk521) h523 => ?_))
 obtain ⟨q524, f524, ks524, rfl, rfl, hf525⟩ := h523
 obtain ⟨r526, hg527, hM⟩ := bind_t hM
 refine yK rfl (w_eqTypeS_ok n q471 f471 ks471 q524 f524 ks524 hg527 _ _) (callK_retX (fun v tk528 (hle529 : tk521 ≤ tk528) h530 => ?_))
 subst h530
 refine run_pu rfl (aun_step rfl rfl rfl) rfl (ltb rfl) ?_
 refine run_ops_nil ?_
 refine run_ifb rfl rfl (fun hb533 => ?_) (fun hb533 => ?_)
 ·replace hM := ite_t hb533 hM
  refine run_sr ?_
  refine yR rfl ?_
  refine run_ops_nil ?_
  refine run_ret_to ?_
  replace hM := some_t hM
  subst hM
  refine fin_x hG rfl rfl rfl (v' := .bool false) (by rfl) ⟨rfl, (show tk ≤ tk528 by omega), _, rfl, rfl⟩
 replace hM := ite_f hb533 hM
 refine run_skip ?_
 refine run_seq ?_
 refine run_seq ?_
 refine run_draw [] (n := 5) mixed rfl (fun _ h => absurd h List.not_mem_nil) ?_
 refine yTL hG 0 (by kernel_rfl) rfl ?_
 refine yTL hG 1 (by kernel_rfl) rfl ?_
 obtain ⟨r534, hg535, hM⟩ := bind_t hM
 refine yC 2 (by kernel_rfl) rfl rfl (w_toExpr_ok n k2 n2 p2 e2 fs2 q2 f2 ks2 hg535 _ _) (callK_retX (fun v tk536 (hle537 : tk528 ≤ tk536) h538 => ?_))
 obtain ⟨k539, n539, p539, e539, fs539, q539, f539, ks539, rfl, rfl, hf540⟩ := h538
 obtain ⟨r541, hg542, hM⟩ := bind_t hM
 refine yC 3 (by kernel_rfl) rfl rfl (w_eqExpr_ok n k478 n478 p478 e478 fs478 q478 f478 ks478 k539 n539 p539 e539 fs539 q539 f539 ks539 hg542 _ _) (callK_retX (fun v tk543 (hle544 : tk536 ≤ tk543) h545 => ?_))
 subst h545
 refine yT 4 (by kernel_rfl) rfl rfl rfl (ltb rfl) ((aun_step rfl rfl rfl).rd _) ?_
 refine AAny.done (by kernel_rfl) ?_
 refine run_ifb rfl rfl (fun hb548 => ?_) (fun hb548 => ?_)
 ·replace hM := ite_t hb548 hM
  refine run_sr ?_
  refine yR rfl ?_
  refine run_ops_nil ?_
  refine run_ret_to ?_
  replace hM := some_t hM
  subst hM
  refine fin_x hG rfl rfl rfl (v' := .bool false) (by rfl) ⟨rfl, (show tk ≤ tk543 by omega), _, rfl, rfl⟩
 replace hM := ite_f hb548 hM
 refine run_skip ?_
 refine run_sr ?_
 refine yR rfl ?_
 refine run_ops_nil ?_
 refine run_sr ?_
 refine yL rfl ?_
 refine yL rfl ?_
 obtain ⟨r549, hg550, hM⟩ := bind_t hM
 refine run_callT rfl rfl rfl (ltb rfl) rfl rfl rfl rfl rfl hOn (fun x hx => by have := ((show Fr tkj19 tk468 _ from (show Fr tkj19 tk468 _ from hf472 rfl))).2 x hx; show S0.tk ≤ x; omega) (w_markTypeS_m q471 f471 ks471 1 _ (Fr.ge (show Fr tkj19 tk468 _ from (show Fr tkj19 tk468 _ from hf472 rfl)) (by omega)) ((show Fr tkj19 tk468 _ from (show Fr tkj19 tk468 _ from hf472 rfl))).1 hg550) (fun out S' hR (hle552 : tk543 ≤ S'.tk) => ?_)
 obtain ⟨ks553, k554, rfl, rfl, _, hst555, hln556, hu557⟩ := hR
 generalize S'.tk = tk551 at hle552 ⊢
 refine ⟨_, rfl, rfl, GF q471 f471 ks471 ks553, GF.turned (Fr.ge (show Fr tkj19 tk468 _ from (show Fr tkj19 tk468 _ from hf472 rfl)) (by omega)) hst555 hln556 hu557, [(0, .imm q1 3 f1 (fcellss ks1)), (3, .optr (.loc 3) 0 0), (4, .bool false), (6, .optr (.loc 6) 0 0), (7, .optr (.loc 7) 0 0), (8, .int .i64 i20), (9, .imm q471 3 f471 (fcellss ks553)), (10, .optr (.loc 10) 0 0), (11, .optr (.loc 11) 0 0), (12, .optr (.loc 12) 0 0), (13, .int .i64 ra496), (64, .bool (ra496 != i20)), (65, .imm q471 3 f471 (fcellss ks553)), (66, .imm q1 3 f1 (fcellss ks1)), (67, .imm q524 3 f524 (fcellss ks524)), (68, .bool r526), (69, .bool (!r526)), (70, .agg [.int .i64 k478, .int .i64 n478, .imm p478 3 e478 (fcellss fs478), .imm q478 4 f478 (pcellss ks478)]), (71, .agg [.int .i64 k2, .int .i64 n2, .imm p2 3 e2 (fcellss fs2), .imm q2 4 f2 (pcellss ks2)]), (72, .agg [.int .i64 k539, .int .i64 n539, .imm p539 3 e539 (fcellss fs539), .imm q539 4 f539 (pcellss ks539)]), (73, .bool r541), (74, .bool (!r541)), (14, .int .i64 1), (75, .imm q471 3 f471 (fcellss ks553)), (76, .int .i64 1)], [(12, ⟨51, 4, true, [[.int .i64 k489, .int .i64 n489, .str s489, .imm q489 4 f489 (cellss ks489)]]⟩), (11, ⟨51, 4, true, [[.int .i64 k487, .int .i64 n487, .str s487, .imm q487 4 f487 (cellss ks487)]]⟩), (10, ⟨40, 4, true, [[.int .i64 k478, .int .i64 n478, .imm p478 3 e478 (fcellss fs478), .imm q478 4 f478 (pcellss ks478)]]⟩), (7, ⟨51, 4, true, [[.int .i64 i21, .int .i64 i22, .str t23, .imm q24 4 f24 (cellss ks24)]]⟩), (6, ⟨51, 4, true, [[.int .i64 i25, .int .i64 i26, .str t27, .imm q28 4 f28 (cellss ks28)]]⟩), (3, ⟨62, 4, true, [[.int .i64 k2, .int .i64 n2, .imm p2 3 e2 (fcellss fs2), .imm q2 4 f2 (pcellss ks2)]]⟩)], (.cons _ _ _ _ rfl (Tn.av (fs_av (old_av ho0))) (.cons _ _ _ _ rfl (.optr _ _ _) (.cons _ _ _ _ rfl (Tn.av (.bool _)) (.cons _ _ _ _ rfl (.optr _ _ _) (.cons _ _ _ _ rfl (.optr _ _ _) (.cons _ _ _ _ rfl (Tn.av (.int _ _)) (.cons _ _ _ _ rfl (GF.tn hln556) (.cons _ _ _ _ rfl (.optr _ _ _) (.cons _ _ _ _ rfl (.optr _ _ _) (.cons _ _ _ _ rfl (.optr _ _ _) (.cons _ _ _ _ rfl (Tn.av (.int _ _)) (.cons _ _ _ _ rfl (Tn.av (.bool _)) (.cons _ _ _ _ rfl (GF.tn hln556) (.cons _ _ _ _ rfl (Tn.av (fs_av (old_av ho0))) (.cons _ _ _ _ rfl (Tn.av (fs_av (fr_av (show Fr tk512 tk521 _ from (show Fr tk512 tk521 _ from hf525 rfl)) (show Fr tkj19 tk468 _ from (show Fr tkj19 tk468 _ from hf472 rfl)) (by omega) (by omega)))) (.cons _ _ _ _ rfl (Tn.av (.bool _)) (.cons _ _ _ _ rfl (Tn.av (.bool _)) (.cons _ _ _ _ rfl (TnCs.agg (.cons _ _ _ _ (Tn.av (.int _ _)) (.cons _ _ _ _ (Tn.av (.int _ _)) (.cons _ _ _ _ (Tn.av (fs_av (fun x hx => fr_av (show Fr tk468 tk475 _ from (show Fr tk468 tk475 _ from hf479 rfl)) (show Fr tkj19 tk468 _ from (show Fr tkj19 tk468 _ from hf472 rfl)) (by omega) (by omega) x (List.mem_append.2 (.inl hx))))) (.cons _ _ _ _ (Tn.av (ps_av (fun x hx => fr_av (show Fr tk468 tk475 _ from (show Fr tk468 tk475 _ from hf479 rfl)) (show Fr tkj19 tk468 _ from (show Fr tkj19 tk468 _ from hf472 rfl)) (by omega) (by omega) x (List.mem_append.2 (.inr hx))))) .nil)))) rfl) (.cons _ _ _ _ rfl (TnCs.agg (.cons _ _ _ _ (Tn.av (.int _ _)) (.cons _ _ _ _ (Tn.av (.int _ _)) (.cons _ _ _ _ (Tn.av (fs_av (old_av ho1))) (.cons _ _ _ _ (Tn.av (ps_av (old_av ho2))) .nil)))) rfl) (.cons _ _ _ _ rfl (TnCs.agg (.cons _ _ _ _ (Tn.av (.int _ _)) (.cons _ _ _ _ (Tn.av (.int _ _)) (.cons _ _ _ _ (Tn.av (fs_av (fun x hx => fr_av (show Fr tk528 tk536 _ from (show Fr tk528 tk536 _ from hf540 rfl)) (show Fr tkj19 tk468 _ from (show Fr tkj19 tk468 _ from hf472 rfl)) (by omega) (by omega) x (List.mem_append.2 (.inl hx))))) (.cons _ _ _ _ (Tn.av (ps_av (fun x hx => fr_av (show Fr tk528 tk536 _ from (show Fr tk528 tk536 _ from hf540 rfl)) (show Fr tkj19 tk468 _ from (show Fr tkj19 tk468 _ from hf472 rfl)) (by omega) (by omega) x (List.mem_append.2 (.inr hx))))) .nil)))) rfl) (.cons _ _ _ _ rfl (Tn.av (.bool _)) (.cons _ _ _ _ rfl (Tn.av (.bool _)) (.cons _ _ _ _ rfl (Tn.av (.int _ _)) (.cons _ _ _ _ rfl (GF.tn hln556) (.cons _ _ _ _ rfl (Tn.av (.int _ _)) .nil))))))))))))))))))))))))), (.cons _ _ _ _ _ (TnCs.box (.cons _ _ _ _ (Tn.av (.int _ _)) (.cons _ _ _ _ (Tn.av (.int _ _)) (.cons _ _ _ _ (Tn.av (.str _)) (.cons _ _ _ _ (Tn.av (ts_av (fr_av (show Fr tkm480 tk483 _ from (show Fr tkm480 tk483 _ from hf490 rfl)) (show Fr tkj19 tk468 _ from (show Fr tkj19 tk468 _ from hf472 rfl)) (by omega) (by omega)))) .nil)))) rfl) (.cons _ _ _ _ _ (TnCs.box (.cons _ _ _ _ (Tn.av (.int _ _)) (.cons _ _ _ _ (Tn.av (.int _ _)) (.cons _ _ _ _ (Tn.av (.str _)) (.cons _ _ _ _ (Tn.av (ts_av (fr_av (show Fr tk475 tkm480 _ from (show Fr tk475 tkm480 _ from hf488 rfl)) (show Fr tkj19 tk468 _ from (show Fr tkj19 tk468 _ from hf472 rfl)) (by omega) (by omega)))) .nil)))) rfl) (.cons _ _ _ _ _ (TnCs.box (.cons _ _ _ _ (Tn.av (.int _ _)) (.cons _ _ _ _ (Tn.av (.int _ _)) (.cons _ _ _ _ (Tn.av (fs_av (fun x hx => fr_av (show Fr tk468 tk475 _ from (show Fr tk468 tk475 _ from hf479 rfl)) (show Fr tkj19 tk468 _ from (show Fr tkj19 tk468 _ from hf472 rfl)) (by omega) (by omega) x (List.mem_append.2 (.inl hx))))) (.cons _ _ _ _ (Tn.av (ps_av (fun x hx => fr_av (show Fr tk468 tk475 _ from (show Fr tk468 tk475 _ from hf479 rfl)) (show Fr tkj19 tk468 _ from (show Fr tkj19 tk468 _ from hf472 rfl)) (by omega) (by omega) x (List.mem_append.2 (.inr hx))))) .nil)))) rfl) (.cons _ _ _ _ _ (TnCs.box (.cons _ _ _ _ (Tn.av (.int _ _)) (.cons _ _ _ _ (Tn.av (.int _ _)) (.cons _ _ _ _ (Tn.av (.str _)) (.cons _ _ _ _ (Tn.av (ts_av (fr_av (show Fr tk13 tkj19 _ from hfr29) (show Fr tkj19 tk468 _ from (show Fr tkj19 tk468 _ from hf472 rfl)) (by omega) (by omega)))) .nil)))) rfl) (.cons _ _ _ _ _ (TnCs.box (.cons _ _ _ _ (Tn.av (.int _ _)) (.cons _ _ _ _ (Tn.av (.int _ _)) (.cons _ _ _ _ (Tn.av (.str _)) (.cons _ _ _ _ (Tn.av (ts_av (fr_av (show Fr tk13 tkj19 _ from hfr30) (show Fr tkj19 tk468 _ from (show Fr tkj19 tk468 _ from hf472 rfl)) (by omega) (by omega)))) .nil)))) rfl) (.cons _ _ _ _ _ (TnCs.box (.cons _ _ _ _ (Tn.av (.int _ _)) (.cons _ _ _ _ (Tn.av (.int _ _)) (.cons _ _ _ _ (Tn.av (fs_av (old_av ho1))) (.cons _ _ _ _ (Tn.av (ps_av (old_av ho2))) .nil)))) rfl) .nil)))))), ?_⟩
 refine yR rfl ?_
 refine run_ops_nil ?_
 refine run_sub_code (σ' := ⟨[(0, .imm q1 3 f1 (fcellss ks1)), (3, .optr (.loc 3) 0 0), (4, .bool false), (6, .optr (.loc 6) 0 0), (7, .optr (.loc 7) 0 0), (8, .int .i64 i20), (10, .optr (.loc 10) 0 0), (11, .optr (.loc 11) 0 0), (12, .optr (.loc 12) 0 0), (13, .int .i64 ra496), (14, .int .i64 k554)], [(12, ⟨51, 4, true, [[.int .i64 k489, .int .i64 n489, .str s489, .imm q489 4 f489 (cellss ks489)]]⟩), (11, ⟨51, 4, true, [[.int .i64 k487, .int .i64 n487, .str s487, .imm q487 4 f487 (cellss ks487)]]⟩), (10, ⟨40, 4, true, [[.int .i64 k478, .int .i64 n478, .imm p478 3 e478 (fcellss fs478), .imm q478 4 f478 (pcellss ks478)]]⟩), (7, ⟨51, 4, true, [[.int .i64 i21, .int .i64 i22, .str t23, .imm q24 4 f24 (cellss ks24)]]⟩), (6, ⟨51, 4, true, [[.int .i64 i25, .int .i64 i26, .str t27, .imm q28 4 f28 (cellss ks28)]]⟩), (3, ⟨62, 4, true, [[.int .i64 k2, .int .i64 n2, .imm p2 3 e2 (fcellss fs2), .imm q2 4 f2 (pcellss ks2)]]⟩)], [], O, tk551⟩) (Sub.env _ ⟨rfl, rfl, rfl, rfl, rfl, rfl, rfl, rfl, rfl, rfl, rfl, trivial⟩) ?_
 refine run_sr ?_
 refine yD hG rfl ?_
 refine yL rfl ?_
 obtain ⟨r558, hg559, hM⟩ := bind_t hM
 refine run_callT rfl rfl rfl (ltb rfl) rfl rfl rfl rfl rfl hOn (fun x hx => by have := ((show Fr tk468 tk475 _ from (show Fr tk468 tk475 _ from hf479 rfl))).2 x hx; show S0.tk ≤ x; omega) (w_markExpr_m k478 n478 p478 e478 fs478 q478 f478 ks478 k554 _ (Fr.ge (show Fr tk468 tk475 _ from (show Fr tk468 tk475 _ from hf479 rfl)) (by omega)) ((show Fr tk468 tk475 _ from (show Fr tk468 tk475 _ from hf479 rfl))).1 hg559) (fun out S' hR (hle561 : tk551 ≤ S'.tk) => ?_)
 obtain ⟨fs567, ks562, k563, rfl, rfl, _, hst564, hln565, hst568, hln569, hu566, hu570⟩ := hR
 generalize S'.tk = tk560 at hle561 ⊢
 refine ⟨_, rfl, rfl, GQ p478 e478 fs478 fs567 q478 f478 ks478 ks562, GQ.turned (Fr.ge (show Fr tk468 tk475 _ from (show Fr tk468 tk475 _ from hf479 rfl)) (by omega)) hst564 hln565 hst568 hln569 hu566 hu570, [(0, .imm q1 3 f1 (fcellss ks1)), (3, .optr (.loc 3) 0 0), (4, .bool false), (6, .optr (.loc 6) 0 0), (7, .optr (.loc 7) 0 0), (8, .int .i64 i20), (10, .optr (.loc 10) 0 0), (11, .optr (.loc 11) 0 0), (12, .optr (.loc 12) 0 0), (13, .int .i64 ra496), (14, .int .i64 k554), (78, .agg [.int .i64 k478, .int .i64 n478, .imm p478 3 e478 (fcellss fs567), .imm q478 4 f478 (pcellss ks562)]), (79, .int .i64 k554)], [(12, ⟨51, 4, true, [[.int .i64 k489, .int .i64 n489, .str s489, .imm q489 4 f489 (cellss ks489)]]⟩), (11, ⟨51, 4, true, [[.int .i64 k487, .int .i64 n487, .str s487, .imm q487 4 f487 (cellss ks487)]]⟩), (10, ⟨40, 4, true, [[.int .i64 k478, .int .i64 n478, .imm p478 3 e478 (fcellss fs567), .imm q478 4 f478 (pcellss ks562)]]⟩), (7, ⟨51, 4, true, [[.int .i64 i21, .int .i64 i22, .str t23, .imm q24 4 f24 (cellss ks24)]]⟩), (6, ⟨51, 4, true, [[.int .i64 i25, .int .i64 i26, .str t27, .imm q28 4 f28 (cellss ks28)]]⟩), (3, ⟨62, 4, true, [[.int .i64 k2, .int .i64 n2, .imm p2 3 e2 (fcellss fs2), .imm q2 4 f2 (pcellss ks2)]]⟩)], (.cons _ _ _ _ rfl (Tn.av (fs_av (old_av ho0))) (.cons _ _ _ _ rfl (.optr _ _ _) (.cons _ _ _ _ rfl (Tn.av (.bool _)) (.cons _ _ _ _ rfl (.optr _ _ _) (.cons _ _ _ _ rfl (.optr _ _ _) (.cons _ _ _ _ rfl (Tn.av (.int _ _)) (.cons _ _ _ _ rfl (.optr _ _ _) (.cons _ _ _ _ rfl (.optr _ _ _) (.cons _ _ _ _ rfl (.optr _ _ _) (.cons _ _ _ _ rfl (Tn.av (.int _ _)) (.cons _ _ _ _ rfl (Tn.av (.int _ _)) (.cons _ _ _ _ rfl (TnCs.agg (.cons _ _ _ _ (Tn.av (.int _ _)) (.cons _ _ _ _ (Tn.av (.int _ _)) (.cons _ _ _ _ (GQ.tnf hln565) (.cons _ _ _ _ (GQ.tnp hln569) .nil)))) rfl) (.cons _ _ _ _ rfl (Tn.av (.int _ _)) .nil))))))))))))), (.cons _ _ _ _ _ (TnCs.box (.cons _ _ _ _ (Tn.av (.int _ _)) (.cons _ _ _ _ (Tn.av (.int _ _)) (.cons _ _ _ _ (Tn.av (.str _)) (.cons _ _ _ _ (Tn.av (ts_av (fr_av (show Fr tkm480 tk483 _ from (show Fr tkm480 tk483 _ from hf490 rfl)) (show Fr tk468 tk475 _ from (show Fr tk468 tk475 _ from hf479 rfl)) (by omega) (by omega)))) .nil)))) rfl) (.cons _ _ _ _ _ (TnCs.box (.cons _ _ _ _ (Tn.av (.int _ _)) (.cons _ _ _ _ (Tn.av (.int _ _)) (.cons _ _ _ _ (Tn.av (.str _)) (.cons _ _ _ _ (Tn.av (ts_av (fr_av (show Fr tk475 tkm480 _ from (show Fr tk475 tkm480 _ from hf488 rfl)) (show Fr tk468 tk475 _ from (show Fr tk468 tk475 _ from hf479 rfl)) (by omega) (by omega)))) .nil)))) rfl) (.cons _ _ _ _ _ (TnCs.box (.cons _ _ _ _ (Tn.av (.int _ _)) (.cons _ _ _ _ (Tn.av (.int _ _)) (.cons _ _ _ _ (GQ.tnf hln565) (.cons _ _ _ _ (GQ.tnp hln569) .nil)))) rfl) (.cons _ _ _ _ _ (TnCs.box (.cons _ _ _ _ (Tn.av (.int _ _)) (.cons _ _ _ _ (Tn.av (.int _ _)) (.cons _ _ _ _ (Tn.av (.str _)) (.cons _ _ _ _ (Tn.av (ts_av (fr_av (show Fr tk13 tkj19 _ from hfr29) (show Fr tk468 tk475 _ from (show Fr tk468 tk475 _ from hf479 rfl)) (by omega) (by omega)))) .nil)))) rfl) (.cons _ _ _ _ _ (TnCs.box (.cons _ _ _ _ (Tn.av (.int _ _)) (.cons _ _ _ _ (Tn.av (.int _ _)) (.cons _ _ _ _ (Tn.av (.str _)) (.cons _ _ _ _ (Tn.av (ts_av (fr_av (show Fr tk13 tkj19 _ from hfr30) (show Fr tk468 tk475 _ from (show Fr tk468 tk475 _ from hf479 rfl)) (by omega) (by omega)))) .nil)))) rfl) (.cons _ _ _ _ _ (TnCs.box (.cons _ _ _ _ (Tn.av (.int _ _)) (.cons _ _ _ _ (Tn.av (.int _ _)) (.cons _ _ _ _ (Tn.av (fs_av (old_av ho1))) (.cons _ _ _ _ (Tn.av (ps_av (old_av ho2))) .nil)))) rfl) .nil)))))), ?_⟩
 refine yR rfl ?_
 refine run_ops_nil ?_
 refine run_seq ?_
 refine run_sr ?_
 refine yL rfl ?_
 refine yB rfl ?_
 refine yL rfl ?_
 refine run_splitd (i := 83) rfl (fun hb571 => ?_) (fun hb571 => ?_)
 ·replace hM := ite_t hb571 hM
  refine yO rfl ?_
  refine yO rfl ?_
  refine yO rfl ?_
  refine yO rfl ?_
  refine yP rfl ?_
  refine yL rfl ?_
  refine yO rfl ?_
  refine yO rfl ?_
  refine yO rfl ?_
  refine yO rfl ?_
  refine yP rfl ?_
  refine yL rfl ?_
  refine yO rfl ?_
  refine yO rfl ?_
  refine yO rfl ?_
  refine yP rfl ?_
  refine run_ops_nil ?_
  refine run_if rfl rfl (fun _ => ?_) (fun h => by cases h)
  refine run_sr ?_
  refine yR rfl ?_
  refine run_ops_nil ?_
  refine run_ret_to ?_
  replace hM := some_t hM
  subst hM
  refine fin_x hG rfl rfl rfl (v' := .bool false) (by rfl) ⟨rfl, (show tk ≤ tk560 by omega), _, rfl, rfl⟩
 replace hM := ite_f hb571 hM
 refine run_rdG (on_of rfl rfl rfl rfl) (aload_rd hG rfl rfl rfl (by first | (simp [ldok]; done) | exact List.not_mem_nil | trivial)) rfl (ltb rfl) ?_
 refine run_rdG (on_of rfl rfl rfl rfl) (aload_rd hG rfl rfl rfl (by first | (simp [ldok]; done) | exact List.not_mem_nil | trivial)) rfl (ltb rfl) ?_
 obtain ⟨r572, hg573, hM⟩ := bind_t hM
 refine yG (on_of rfl rfl rfl rfl) rfl (w_eqTree_ok n k487 n487 s487 q487 f487 ks487 i25 i26 t27 q28 f28 ks28 hg573 _ _) (callK_retX (fun v tk574 (hle575 : tk560 ≤ tk574) h576 => ?_))
 subst h576
 refine run_puG (on_of rfl rfl rfl rfl) (aun_step rfl rfl rfl) rfl (ltb rfl) ?_
 refine yP rfl ?_
 refine yL rfl ?_
 refine run_splitb (i := 89) rfl (fun hb579 => ?_) (fun hb579 => ?_)
 ·replace hM := ite_t hb579 hM
  refine yO rfl ?_
  refine yO rfl ?_
  refine yO rfl ?_
  refine yO rfl ?_
  refine yP rfl ?_
  refine yL rfl ?_
  refine yO rfl ?_
  refine yO rfl ?_
  refine yO rfl ?_
  refine yP rfl ?_
  refine run_ops_nil ?_
  refine run_sub_code (σ' := ⟨[(0, .imm q1 3 f1 (fcellss ks1)), (3, .optr (.loc 3) 0 0), (4, .bool false), (6, .optr (.loc 6) 0 0), (7, .optr (.loc 7) 0 0), (8, .int .i64 i20), (11, .optr (.loc 11) 0 0), (12, .optr (.loc 12) 0 0), (99, .bool true)], [(12, ⟨51, 4, true, [[.int .i64 k489, .int .i64 n489, .str s489, .imm q489 4 f489 (cellss ks489)]]⟩), (11, ⟨51, 4, true, [[.int .i64 k487, .int .i64 n487, .str s487, .imm q487 4 f487 (cellss ks487)]]⟩), (7, ⟨51, 4, true, [[.int .i64 i21, .int .i64 i22, .str t23, .imm q24 4 f24 (cellss ks24)]]⟩), (6, ⟨51, 4, true, [[.int .i64 i25, .int .i64 i26, .str t27, .imm q28 4 f28 (cellss ks28)]]⟩), (3, ⟨62, 4, true, [[.int .i64 k2, .int .i64 n2, .imm p2 3 e2 (fcellss fs2), .imm q2 4 f2 (pcellss ks2)]]⟩)], [], O, tk574⟩) (Sub.trans (Sub.drop (k := 10) rfl) (Sub.env _ ⟨rfl, rfl, rfl, rfl, rfl, rfl, rfl, rfl, rfl, trivial⟩)) ?_
  refine run_if rfl rfl (fun _ => ?_) (fun h => by cases h)
  refine run_sr ?_
  refine yR rfl ?_
  refine run_ops_nil ?_
  refine run_ret_to ?_
  replace hM := some_t hM
  subst hM
  refine fin_x hG rfl rfl rfl (v' := .bool false) (by rfl) ⟨rfl, (show tk ≤ tk574 by omega), _, rfl, rfl⟩
 replace hM := ite_f hb579 hM
 refine run_rdG (on_of rfl rfl rfl rfl) (aload_rd hG rfl rfl rfl (by first | (simp [ldok]; done) | exact List.not_mem_nil | trivial)) rfl (ltb rfl) ?_
 refine run_rdG (on_of rfl rfl rfl rfl) (aload_rd hG rfl rfl rfl (by first | (simp [ldok]; done) | exact List.not_mem_nil | trivial)) rfl (ltb rfl) ?_
 obtain ⟨r580, hg581, hM⟩ := bind_t hM
 refine yG (on_of rfl rfl rfl rfl) rfl (w_eqTree_ok n k489 n489 s489 q489 f489 ks489 i21 i22 t23 q24 f24 ks24 hg581 _ _) (callK_retX (fun v tk582 (hle583 : tk574 ≤ tk582) h584 => ?_))
 subst h584
 refine run_puG (on_of rfl rfl rfl rfl) (aun_step rfl rfl rfl) rfl (ltb rfl) ?_
 refine yP rfl ?_
 refine yL rfl ?_
 refine run_splitb (i := 95) rfl (fun hb587 => ?_) (fun hb587 => ?_)
 ·replace hM := ite_t hb587 hM
  refine yO rfl ?_
  refine yO rfl ?_
  refine yO rfl ?_
  refine yP rfl ?_
  refine run_ops_nil ?_
  refine run_sub_code (σ' := ⟨[(0, .imm q1 3 f1 (fcellss ks1)), (3, .optr (.loc 3) 0 0), (4, .bool false), (6, .optr (.loc 6) 0 0), (7, .optr (.loc 7) 0 0), (8, .int .i64 i20), (11, .optr (.loc 11) 0 0), (12, .optr (.loc 12) 0 0), (99, .bool true)], [(12, ⟨51, 4, true, [[.int .i64 k489, .int .i64 n489, .str s489, .imm q489 4 f489 (cellss ks489)]]⟩), (11, ⟨51, 4, true, [[.int .i64 k487, .int .i64 n487, .str s487, .imm q487 4 f487 (cellss ks487)]]⟩), (7, ⟨51, 4, true, [[.int .i64 i21, .int .i64 i22, .str t23, .imm q24 4 f24 (cellss ks24)]]⟩), (6, ⟨51, 4, true, [[.int .i64 i25, .int .i64 i26, .str t27, .imm q28 4 f28 (cellss ks28)]]⟩), (3, ⟨62, 4, true, [[.int .i64 k2, .int .i64 n2, .imm p2 3 e2 (fcellss fs2), .imm q2 4 f2 (pcellss ks2)]]⟩)], [], O, tk582⟩) (Sub.trans (Sub.drop (k := 10) rfl) (Sub.env _ ⟨rfl, rfl, rfl, rfl, rfl, rfl, rfl, rfl, rfl, trivial⟩)) ?_
  refine run_if rfl rfl (fun _ => ?_) (fun h => by cases h)
  refine run_sr ?_
  refine yR rfl ?_
  refine run_ops_nil ?_
  refine run_ret_to ?_
  replace hM := some_t hM
  subst hM
  refine fin_x hG rfl rfl rfl (v' := .bool false) (by rfl) ⟨rfl, (show tk ≤ tk582 by omega), _, rfl, rfl⟩
 replace hM := ite_f hb587 hM
 refine run_puG (on_of rfl rfl rfl rfl) (move_step (.inl rfl) rfl) rfl (ltb rfl) ?_
 refine run_puG (on_of rfl rfl rfl rfl) (move_step (.inl rfl) rfl) rfl (ltb rfl) ?_
 refine run_puG (on_of rfl rfl rfl rfl) (abin_step rfl rfl rfl rfl (fun _ h => by cases h)) rfl (ltb rfl) ?_
 refine yP rfl ?_
 refine run_ops_nil ?_
 refine run_sub_code (σ' := ⟨[(0, .imm q1 3 f1 (fcellss ks1)), (3, .optr (.loc 3) 0 0), (4, .bool false), (6, .optr (.loc 6) 0 0), (7, .optr (.loc 7) 0 0), (8, .int .i64 i20), (11, .optr (.loc 11) 0 0), (12, .optr (.loc 12) 0 0), (99, .bool (ra496 != i20))], [(12, ⟨51, 4, true, [[.int .i64 k489, .int .i64 n489, .str s489, .imm q489 4 f489 (cellss ks489)]]⟩), (11, ⟨51, 4, true, [[.int .i64 k487, .int .i64 n487, .str s487, .imm q487 4 f487 (cellss ks487)]]⟩), (7, ⟨51, 4, true, [[.int .i64 i21, .int .i64 i22, .str t23, .imm q24 4 f24 (cellss ks24)]]⟩), (6, ⟨51, 4, true, [[.int .i64 i25, .int .i64 i26, .str t27, .imm q28 4 f28 (cellss ks28)]]⟩), (3, ⟨62, 4, true, [[.int .i64 k2, .int .i64 n2, .imm p2 3 e2 (fcellss fs2), .imm q2 4 f2 (pcellss ks2)]]⟩)], [], O, tk582⟩) (Sub.trans (Sub.drop (k := 10) rfl) (Sub.env _ ⟨rfl, rfl, rfl, rfl, rfl, rfl, rfl, rfl, rfl, trivial⟩)) ?_
 refine run_ifb rfl rfl (fun hb588 => ?_) (fun hb588 => ?_)
 ·replace hM := ite_t hb588 hM
  refine run_sr ?_
  refine yR rfl ?_
  refine run_ops_nil ?_
  refine run_ret_to ?_
  replace hM := some_t hM
  subst hM
  refine fin_x hG rfl rfl rfl (v' := .bool false) (by rfl) ⟨rfl, (show tk ≤ tk582 by omega), _, rfl, rfl⟩
 replace hM := ite_f hb588 hM
 refine run_skip ?_
 refine run_sr ?_
 refine yR rfl ?_
 refine run_ops_nil ?_
 refine run_sr ?_
 refine yD hG rfl ?_
 refine yL rfl ?_
 obtain ⟨r589, hg590, hM⟩ := bind_t hM
 refine run_callT rfl rfl rfl (ltb rfl) rfl rfl rfl rfl rfl hOn (fun x hx => by have := ((show Fr tk475 tkm480 _ from (show Fr tk475 tkm480 _ from hf488 rfl))).2 x hx; show S0.tk ≤ x; omega) (w_markTree_m k487 n487 s487 q487 f487 ks487 1 _ (Fr.ge (show Fr tk475 tkm480 _ from (show Fr tk475 tkm480 _ from hf488 rfl)) (by omega)) ((show Fr tk475 tkm480 _ from (show Fr tk475 tkm480 _ from hf488 rfl))).1 hg590) (fun out S' hR (hle592 : tk582 ≤ S'.tk) => ?_)
 obtain ⟨ks593, k594, rfl, rfl, _, hst595, hln596, hu597⟩ := hR
 generalize S'.tk = tk591 at hle592 ⊢
 refine ⟨_, rfl, rfl, GT q487 f487 ks487 ks593, GT.turned (Fr.ge (show Fr tk475 tkm480 _ from (show Fr tk475 tkm480 _ from hf488 rfl)) (by omega)) hst595 hln596 hu597, [(0, .imm q1 3 f1 (fcellss ks1)), (3, .optr (.loc 3) 0 0), (4, .bool false), (6, .optr (.loc 6) 0 0), (7, .optr (.loc 7) 0 0), (8, .int .i64 i20), (11, .optr (.loc 11) 0 0), (12, .optr (.loc 12) 0 0), (99, .bool (ra496 != i20)), (15, .int .i64 1), (100, .agg [.int .i64 k487, .int .i64 n487, .str s487, .imm q487 4 f487 (cellss ks593)]), (101, .int .i64 1)], [(12, ⟨51, 4, true, [[.int .i64 k489, .int .i64 n489, .str s489, .imm q489 4 f489 (cellss ks489)]]⟩), (11, ⟨51, 4, true, [[.int .i64 k487, .int .i64 n487, .str s487, .imm q487 4 f487 (cellss ks593)]]⟩), (7, ⟨51, 4, true, [[.int .i64 i21, .int .i64 i22, .str t23, .imm q24 4 f24 (cellss ks24)]]⟩), (6, ⟨51, 4, true, [[.int .i64 i25, .int .i64 i26, .str t27, .imm q28 4 f28 (cellss ks28)]]⟩), (3, ⟨62, 4, true, [[.int .i64 k2, .int .i64 n2, .imm p2 3 e2 (fcellss fs2), .imm q2 4 f2 (pcellss ks2)]]⟩)], (.cons _ _ _ _ rfl (Tn.av (fs_av (old_av ho0))) (.cons _ _ _ _ rfl (.optr _ _ _) (.cons _ _ _ _ rfl (Tn.av (.bool _)) (.cons _ _ _ _ rfl (.optr _ _ _) (.cons _ _ _ _ rfl (.optr _ _ _) (.cons _ _ _ _ rfl (Tn.av (.int _ _)) (.cons _ _ _ _ rfl (.optr _ _ _) (.cons _ _ _ _ rfl (.optr _ _ _) (.cons _ _ _ _ rfl (Tn.av (.bool _)) (.cons _ _ _ _ rfl (Tn.av (.int _ _)) (.cons _ _ _ _ rfl (TnCs.agg (.cons _ _ _ _ (Tn.av (.int _ _)) (.cons _ _ _ _ (Tn.av (.int _ _)) (.cons _ _ _ _ (Tn.av (.str _)) (.cons _ _ _ _ (GT.tn hln596) .nil)))) rfl) (.cons _ _ _ _ rfl (Tn.av (.int _ _)) .nil)))))))))))), (.cons _ _ _ _ _ (TnCs.box (.cons _ _ _ _ (Tn.av (.int _ _)) (.cons _ _ _ _ (Tn.av (.int _ _)) (.cons _ _ _ _ (Tn.av (.str _)) (.cons _ _ _ _ (Tn.av (ts_av (fr_av (show Fr tkm480 tk483 _ from (show Fr tkm480 tk483 _ from hf490 rfl)) (show Fr tk475 tkm480 _ from (show Fr tk475 tkm480 _ from hf488 rfl)) (by omega) (by omega)))) .nil)))) rfl) (.cons _ _ _ _ _ (TnCs.box (.cons _ _ _ _ (Tn.av (.int _ _)) (.cons _ _ _ _ (Tn.av (.int _ _)) (.cons _ _ _ _ (Tn.av (.str _)) (.cons _ _ _ _ (GT.tn hln596) .nil)))) rfl) (.cons _ _ _ _ _ (TnCs.box (.cons _ _ _ _ (Tn.av (.int _ _)) (.cons _ _ _ _ (Tn.av (.int _ _)) (.cons _ _ _ _ (Tn.av (.str _)) (.cons _ _ _ _ (Tn.av (ts_av (fr_av (show Fr tk13 tkj19 _ from hfr29) (show Fr tk475 tkm480 _ from (show Fr tk475 tkm480 _ from hf488 rfl)) (by omega) (by omega)))) .nil)))) rfl) (.cons _ _ _ _ _ (TnCs.box (.cons _ _ _ _ (Tn.av (.int _ _)) (.cons _ _ _ _ (Tn.av (.int _ _)) (.cons _ _ _ _ (Tn.av (.str _)) (.cons _ _ _ _ (Tn.av (ts_av (fr_av (show Fr tk13 tkj19 _ from hfr30) (show Fr tk475 tkm480 _ from (show Fr tk475 tkm480 _ from hf488 rfl)) (by omega) (by omega)))) .nil)))) rfl) (.cons _ _ _ _ _ (TnCs.box (.cons _ _ _ _ (Tn.av (.int _ _)) (.cons _ _ _ _ (Tn.av (.int _ _)) (.cons _ _ _ _ (Tn.av (fs_av (old_av ho1))) (.cons _ _ _ _ (Tn.av (ps_av (old_av ho2))) .nil)))) rfl) .nil))))), ?_⟩
 refine yR rfl ?_
 refine run_ops_nil ?_
 refine run_sr ?_
 refine yD hG rfl ?_
 refine yL rfl ?_
 obtain ⟨r598, hg599, hM⟩ := bind_t hM
 refine run_callT rfl rfl rfl (ltb rfl) rfl rfl rfl rfl rfl hOn (fun x hx => by have := ((show Fr tkm480 tk483 _ from (show Fr tkm480 tk483 _ from hf490 rfl))).2 x hx; show S0.tk ≤ x; omega) (w_markTree_m k489 n489 s489 q489 f489 ks489 k594 _ (Fr.ge (show Fr tkm480 tk483 _ from (show Fr tkm480 tk483 _ from hf490 rfl)) (by omega)) ((show Fr tkm480 tk483 _ from (show Fr tkm480 tk483 _ from hf490 rfl))).1 hg599) (fun out S' hR (hle601 : tk591 ≤ S'.tk) => ?_)
 obtain ⟨ks602, k603, rfl, rfl, _, hst604, hln605, hu606⟩ := hR
 generalize S'.tk = tk600 at hle601 ⊢
 refine ⟨_, rfl, rfl, GT q489 f489 ks489 ks602, GT.turned (Fr.ge (show Fr tkm480 tk483 _ from (show Fr tkm480 tk483 _ from hf490 rfl)) (by omega)) hst604 hln605 hu606, [(0, .imm q1 3 f1 (fcellss ks1)), (3, .optr (.loc 3) 0 0), (4, .bool false), (6, .optr (.loc 6) 0 0), (7, .optr (.loc 7) 0 0), (8, .int .i64 i20), (11, .optr (.loc 11) 0 0), (12, .optr (.loc 12) 0 0), (99, .bool (ra496 != i20)), (15, .int .i64 k594), (100, .agg [.int .i64 k487, .int .i64 n487, .str s487, .imm q487 4 f487 (cellss ks593)]), (101, .int .i64 1), (102, .int .i64 k594), (103, .agg [.int .i64 k489, .int .i64 n489, .str s489, .imm q489 4 f489 (cellss ks602)]), (104, .int .i64 k594)], [(12, ⟨51, 4, true, [[.int .i64 k489, .int .i64 n489, .str s489, .imm q489 4 f489 (cellss ks602)]]⟩), (11, ⟨51, 4, true, [[.int .i64 k487, .int .i64 n487, .str s487, .imm q487 4 f487 (cellss ks593)]]⟩), (7, ⟨51, 4, true, [[.int .i64 i21, .int .i64 i22, .str t23, .imm q24 4 f24 (cellss ks24)]]⟩), (6, ⟨51, 4, true, [[.int .i64 i25, .int .i64 i26, .str t27, .imm q28 4 f28 (cellss ks28)]]⟩), (3, ⟨62, 4, true, [[.int .i64 k2, .int .i64 n2, .imm p2 3 e2 (fcellss fs2), .imm q2 4 f2 (pcellss ks2)]]⟩)], (.cons _ _ _ _ rfl (Tn.av (fs_av (old_av ho0))) (.cons _ _ _ _ rfl (.optr _ _ _) (.cons _ _ _ _ rfl (Tn.av (.bool _)) (.cons _ _ _ _ rfl (.optr _ _ _) (.cons _ _ _ _ rfl (.optr _ _ _) (.cons _ _ _ _ rfl (Tn.av (.int _ _)) (.cons _ _ _ _ rfl (.optr _ _ _) (.cons _ _ _ _ rfl (.optr _ _ _) (.cons _ _ _ _ rfl (Tn.av (.bool _)) (.cons _ _ _ _ rfl (Tn.av (.int _ _)) (.cons _ _ _ _ rfl (TnCs.agg (.cons _ _ _ _ (Tn.av (.int _ _)) (.cons _ _ _ _ (Tn.av (.int _ _)) (.cons _ _ _ _ (Tn.av (.str _)) (.cons _ _ _ _ (Tn.av (ts_av (fr_av (show Fr tk475 tkm480 _ from ((show Fr tk475 tkm480 _ from (show Fr tk475 tkm480 _ from hf488 rfl))).ext hst595) (show Fr tkm480 tk483 _ from (show Fr tkm480 tk483 _ from hf490 rfl)) (by omega) (by omega)))) .nil)))) rfl) (.cons _ _ _ _ rfl (Tn.av (.int _ _)) (.cons _ _ _ _ rfl (Tn.av (.int _ _)) (.cons _ _ _ _ rfl (TnCs.agg (.cons _ _ _ _ (Tn.av (.int _ _)) (.cons _ _ _ _ (Tn.av (.int _ _)) (.cons _ _ _ _ (Tn.av (.str _)) (.cons _ _ _ _ (GT.tn hln605) .nil)))) rfl) (.cons _ _ _ _ rfl (Tn.av (.int _ _)) .nil))))))))))))))), (.cons _ _ _ _ _ (TnCs.box (.cons _ _ _ _ (Tn.av (.int _ _)) (.cons _ _ _ _ (Tn.av (.int _ _)) (.cons _ _ _ _ (Tn.av (.str _)) (.cons _ _ _ _ (GT.tn hln605) .nil)))) rfl) (.cons _ _ _ _ _ (TnCs.box (.cons _ _ _ _ (Tn.av (.int _ _)) (.cons _ _ _ _ (Tn.av (.int _ _)) (.cons _ _ _ _ (Tn.av (.str _)) (.cons _ _ _ _ (Tn.av (ts_av (fr_av (show Fr tk475 tkm480 _ from ((show Fr tk475 tkm480 _ from (show Fr tk475 tkm480 _ from hf488 rfl))).ext hst595) (show Fr tkm480 tk483 _ from (show Fr tkm480 tk483 _ from hf490 rfl)) (by omega) (by omega)))) .nil)))) rfl) (.cons _ _ _ _ _ (TnCs.box (.cons _ _ _ _ (Tn.av (.int _ _)) (.cons _ _ _ _ (Tn.av (.int _ _)) (.cons _ _ _ _ (Tn.av (.str _)) (.cons _ _ _ _ (Tn.av (ts_av (fr_av (show Fr tk13 tkj19 _ from hfr29) (show Fr tkm480 tk483 _ from (show Fr tkm480 tk483 _ from hf490 rfl)) (by omega) (by omega)))) .nil)))) rfl) (.cons _ _ _ _ _ (TnCs.box (.cons _ _ _ _ (Tn.av (.int _ _)) (.cons _ _ _ _ (Tn.av (.int _ _)) (.cons _ _ _ _ (Tn.av (.str _)) (.cons _ _ _ _ (Tn.av (ts_av (fr_av (show Fr tk13 tkj19 _ from hfr30) (show Fr tkm480 tk483 _ from (show Fr tkm480 tk483 _ from hf490 rfl)) (by omega) (by omega)))) .nil)))) rfl) (.cons _ _ _ _ _ (TnCs.box (.cons _ _ _ _ (Tn.av (.int _ _)) (.cons _ _ _ _ (Tn.av (.int _ _)) (.cons _ _ _ _ (Tn.av (fs_av (old_av ho1))) (.cons _ _ _ _ (Tn.av (ps_av (old_av ho2))) .nil)))) rfl) .nil))))), ?_⟩
 refine yR rfl ?_
 refine run_ops_nil ?_
 refine run_sr ?_
 refine yR rfl ?_
 refine run_ops_nil ?_
 refine run_sr ?_
 refine yD hG rfl ?_
 refine yL rfl ?_
 obtain ⟨r607, hg608, hM⟩ := bind_t hM
 refine yK rfl (w_heldTree_ok n k487 n487 s487 q487 f487 ks593 1 hg608 _ _) (callK_retX (fun v tk609 (hle610 : tk600 ≤ tk609) h611 => ?_))
 subst h611
 refine yR rfl ?_
 refine run_ops_nil ?_
 refine run_sub_code (σ' := ⟨[(0, .imm q1 3 f1 (fcellss ks1)), (3, .optr (.loc 3) 0 0), (4, .bool false), (6, .optr (.loc 6) 0 0), (7, .optr (.loc 7) 0 0), (8, .int .i64 i20), (11, .optr (.loc 11) 0 0), (12, .optr (.loc 12) 0 0), (15, .int .i64 k603), (16, .int .i64 r607)], [(12, ⟨51, 4, true, [[.int .i64 k489, .int .i64 n489, .str s489, .imm q489 4 f489 (cellss ks602)]]⟩), (11, ⟨51, 4, true, [[.int .i64 k487, .int .i64 n487, .str s487, .imm q487 4 f487 (cellss ks593)]]⟩), (7, ⟨51, 4, true, [[.int .i64 i21, .int .i64 i22, .str t23, .imm q24 4 f24 (cellss ks24)]]⟩), (6, ⟨51, 4, true, [[.int .i64 i25, .int .i64 i26, .str t27, .imm q28 4 f28 (cellss ks28)]]⟩), (3, ⟨62, 4, true, [[.int .i64 k2, .int .i64 n2, .imm p2 3 e2 (fcellss fs2), .imm q2 4 f2 (pcellss ks2)]]⟩)], [], O, tk609⟩) (Sub.env _ ⟨rfl, rfl, rfl, rfl, rfl, rfl, rfl, rfl, rfl, rfl, trivial⟩) ?_
 refine run_seq ?_
 refine run_sr ?_
 refine yL rfl ?_
 refine yB rfl ?_
 refine run_ops_nil ?_
 refine run_ifd rfl rfl (fun hb614 => ?_) (fun hb614 => ?_)
 ·replace hM := ite_t hb614 hM
  refine run_sr ?_
  refine yR rfl ?_
  refine run_ops_nil ?_
  refine run_ret_to ?_
  replace hM := some_t hM
  subst hM
  refine fin_x hG rfl rfl rfl (v' := .bool false) (by rfl) ⟨rfl, (show tk ≤ tk609 by omega), _, rfl, rfl⟩
 replace hM := ite_f hb614 hM
 refine run_skip ?_
 refine run_sr ?_
 refine yD hG rfl ?_
 refine yL rfl ?_
 obtain ⟨r615, hg616, hM⟩ := bind_t hM
 refine yK rfl (w_heldTree_ok n k489 n489 s489 q489 f489 ks602 r607 hg616 _ _) (callK_retX (fun v tk617 (hle618 : tk609 ≤ tk617) h619 => ?_))
 subst h619
 refine yR rfl ?_
 refine run_ops_nil ?_
 refine run_seq ?_
 refine run_sr ?_
 refine yL rfl ?_
 refine yB rfl ?_
 refine run_ops_nil ?_
 refine run_ifd rfl rfl (fun hb622 => ?_) (fun hb622 => ?_)
 ·replace hM := ite_t hb622 hM
  refine run_sr ?_
  refine yR rfl ?_
  refine run_ops_nil ?_
  refine run_ret_to ?_
  replace hM := some_t hM
  subst hM
  refine fin_x hG rfl rfl rfl (v' := .bool false) (by rfl) ⟨rfl, (show tk ≤ tk617 by omega), _, rfl, rfl⟩
 replace hM := ite_f hb622 hM
 refine run_skip ?_
 refine run_seq ?_
 refine run_sr ?_
 refine yL rfl ?_
 refine yL rfl ?_
 refine yB rfl ?_
 refine run_ops_nil ?_
 refine run_ifb rfl rfl (fun hb623 => ?_) (fun hb623 => ?_)
 ·replace hM := ite_t hb623 hM
  refine run_sr ?_
  refine yR rfl ?_
  refine run_ops_nil ?_
  refine run_ret_to ?_
  replace hM := some_t hM
  subst hM
  refine fin_x hG rfl rfl rfl (v' := .bool false) (by rfl) ⟨rfl, (show tk ≤ tk617 by omega), _, rfl, rfl⟩
 replace hM := ite_f hb623 hM
 refine run_skip ?_
 refine run_seq ?_
 obtain ⟨j624, hj1201, hM⟩ := jn_t hM
 refine run_cutL [.code _] (fun σ' => ∃ (i625 : Int) (i626 : Int) (i627 : Int) (t628 : ByteArray) (q629 : Nat) (f629 : Bool) (ks629 : List LT) (i630 : Int) (i631 : Int) (t632 : ByteArray) (q633 : Nat) (f633 : Bool) (ks633 : List LT) (tkj624 : Nat), tk617 ≤ tkj624 ∧ Fr tk617 tkj624 (tstoks q629 ks629) ∧ Fr tk617 tkj624 (tstoks q633 ks633) ∧ j624 i625 i626 i627 t628 (ers ks629) i630 i631 t632 (ers ks633) = some r ∧ Sub ⟨Go.Proofs.Try.prog, S0, Go.Proofs.Try.f8.ntmps, [], fun _ => False, []⟩ σ' ⟨[(4, .bool false), (6, .optr (.loc 6) 0 0), (7, .optr (.loc 7) 0 0), (8, .int .i64 i20), (11, .optr (.loc 11) 0 0), (12, .optr (.loc 12) 0 0), (15, .int .i64 k603), (16, .int .i64 r615), (17, .optr (.loc 17) 0 0), (18, .optr (.loc 18) 0 0), (19, .int .i64 i625)], [(18, ⟨51, 4, true, [[.int .i64 i626, .int .i64 i627, .str t628, .imm q629 4 f629 (cellss ks629)]]⟩), (17, ⟨51, 4, true, [[.int .i64 i630, .int .i64 i631, .str t632, .imm q633 4 f633 (cellss ks633)]]⟩), (12, ⟨51, 4, true, [[.int .i64 k489, .int .i64 n489, .str s489, .imm q489 4 f489 (cellss ks602)]]⟩), (11, ⟨51, 4, true, [[.int .i64 k487, .int .i64 n487, .str s487, .imm q487 4 f487 (cellss ks593)]]⟩), (7, ⟨51, 4, true, [[.int .i64 i21, .int .i64 i22, .str t23, .imm q24 4 f24 (cellss ks24)]]⟩), (6, ⟨51, 4, true, [[.int .i64 i25, .int .i64 i26, .str t27, .imm q28 4 f28 (cellss ks28)]]⟩), (3, ⟨62, 4, true, [[.int .i64 k2, .int .i64 n2, .imm p2 3 e2 (fcellss fs2), .imm q2 4 f2 (pcellss ks2)]]⟩)], [], O, tkj624⟩) rfl ?_ ?_
 ·refine run_draw [] (n := 14) mixed rfl (fun _ h => absurd h List.not_mem_nil) ?_
  refine yTV 0 (by kernel_rfl) rfl ?_
  refine yTL hG 2 (by kernel_rfl) rfl ?_
  refine AAny.eachN (rs := [1, 9, 10]) (by kernel_rfl) (fun h => by cases h) (fun i hi => ?_)
  simp only [List.mem_cons, List.not_mem_nil, or_false] at hi
  rcases hi with rfl | rfl | rfl
  ·refine AOpN.of ?_
   obtain ⟨r636, hg637, hM⟩ := bind_t hM
   refine yI rfl rfl (w_toTypeS_ok n q1 f1 ks1 hg637 _ _) (callK_retX (fun v tk638 (hle639 : tk617 ≤ tk638) h640 => ?_))
   obtain ⟨q641, f641, ks641, rfl, rfl, hf642⟩ := h640
   refine AAny.eachN (rs := [3, 9, 10]) (by kernel_rfl) (fun h => by cases h) (fun i hi => ?_)
   simp only [List.mem_cons, List.not_mem_nil, or_false] at hi
   rcases hi with rfl | rfl | rfl
   ·refine AOpN.of ?_
    obtain ⟨r643, hg644, hM⟩ := bind_t hM
    refine yI rfl rfl (w_toExpr_ok n k2 n2 p2 e2 fs2 q2 f2 ks2 hg644 _ _) (callK_retX (fun v tk645 (hle646 : tk638 ≤ tk645) h647 => ?_))
    obtain ⟨k648, n648, p648, e648, fs648, q648, f648, ks648, rfl, rfl, hf649⟩ := h647
    refine AAny.eachN (rs := [4, 9, 10]) (by kernel_rfl) (fun h => by cases h) (fun i hi => ?_)
    simp only [List.mem_cons, List.not_mem_nil, or_false] at hi
    rcases hi with rfl | rfl | rfl
    ·refine AOpN.of ?_
     obtain ⟨z656, hg652, hM⟩ := zb_t hM
     refine yI rfl rfl (i_EncodeTyping_ok n q641 f641 ks641 k648 n648 p648 e648 fs648 q648 f648 ks648 hg652 _ _) (callK_retZ (fun r651 v tk653 hz663 (hle654 : tk645 ≤ tk653) h655 => ?_) (fun c p tk653 hz (_ : tk645 ≤ tk653) => by subst hz; obtain rfl := bd_stop hM; exact run_pan_at (cut_pan (⟨rfl, (show tk ≤ tk653 by omega), rfl⟩))))
     subst hz663
     replace hM := bd_ok hM
     obtain ⟨ra664, ra665, ra666, va667, va668, va669, tkm650, rfl, rfl, (hle670 : tk645 ≤ tkm650), (hle671 : tkm650 ≤ tk653), ⟨k657, n657, s657, q657, f657, ks657, rfl, rfl, hf658⟩, ⟨k659, n659, s659, q659, f659, ks659, rfl, rfl, hf660⟩, rfl⟩ := h655
     refine yTV 5 (by kernel_rfl) rfl ?_
     refine yT 6 (by kernel_rfl) rfl rfl rfl (ltb rfl) ((extract_step rfl rfl rfl).rd _) ?_
     refine yT 7 (by kernel_rfl) rfl rfl rfl (ltb rfl) ((extract_step rfl rfl rfl).rd _) ?_
     refine yT 8 (by kernel_rfl) rfl rfl rfl (ltb rfl) ((extract_step rfl rfl rfl).rd _) ?_
     refine AAny.eachN (rs := [9, 10]) (by kernel_rfl) (fun h => by cases h) (fun i hi => ?_)
     simp only [List.mem_cons, List.not_mem_nil, or_false] at hi
     rcases hi with rfl | rfl
     ·refine AOpN.alloc hG rfl rfl rfl (ltb rfl) rfl rfl rfl ?_
      refine AAny.eachN (rs := [10]) (by kernel_rfl) (fun h => by cases h) (fun i hi => ?_)
      simp only [List.mem_cons, List.not_mem_nil, or_false] at hi
      subst hi
      ·refine AOpN.alloc hG rfl rfl rfl (ltb rfl) rfl rfl rfl ?_
       refine yW hG 11 (by kernel_rfl) rfl (by kernel_rfl) rfl ?_
       refine yW hG 12 (by kernel_rfl) rfl (by kernel_rfl) rfl ?_
       refine yTW 13 (by kernel_rfl) rfl ?_
       refine AAny.done (by kernel_rfl) ?_
       exact ⟨ra666, k659, n659, s659, q659, f659, ks659, k657, n657, s657, q657, f657, ks657, tk653, (show tk617 ≤ tk653 by omega), (show Fr tk617 tk653 _ from ((show Fr tkm650 tk653 _ from hf660 rfl)).mono (by omega) (by omega)), (show Fr tk617 tk653 _ from ((show Fr tk645 tkm650 _ from hf658 rfl)).mono (by omega) (by omega)), hM, Sub.pk [4, 6, 7, 8, 11, 12, 15, 16, 17, 18, 19] rfl⟩
     refine AOpN.alloc hG rfl rfl rfl (ltb rfl) rfl rfl rfl ?_
     refine AAny.eachN (rs := [9]) (by kernel_rfl) (fun h => by cases h) (fun i hi => ?_)
     simp only [List.mem_cons, List.not_mem_nil, or_false] at hi
     subst hi
     ·refine AOpN.alloc hG rfl rfl rfl (ltb rfl) rfl rfl rfl ?_
      refine yW hG 11 (by kernel_rfl) rfl (by kernel_rfl) rfl ?_
      refine yW hG 12 (by kernel_rfl) rfl (by kernel_rfl) rfl ?_
      refine yTW 13 (by kernel_rfl) rfl ?_
      refine AAny.done (by kernel_rfl) ?_
      exact ⟨ra666, k659, n659, s659, q659, f659, ks659, k657, n657, s657, q657, f657, ks657, tk653, (show tk617 ≤ tk653 by omega), (show Fr tk617 tk653 _ from ((show Fr tkm650 tk653 _ from hf660 rfl)).mono (by omega) (by omega)), (show Fr tk617 tk653 _ from ((show Fr tk645 tkm650 _ from hf658 rfl)).mono (by omega) (by omega)), hM, Sub.trans (Sub.perm (.swap _ _ _ _ _ rfl)) (Sub.pk [4, 6, 7, 8, 11, 12, 15, 16, 17, 18, 19] rfl)⟩
    ·refine AOpN.alloc hG rfl rfl rfl (ltb rfl) rfl rfl rfl ?_
     refine AAny.eachN (rs := [4, 10]) (by kernel_rfl) (fun h => by cases h) (fun i hi => ?_)
     simp only [List.mem_cons, List.not_mem_nil, or_false] at hi
     rcases hi with rfl | rfl
     ·refine AOpN.of ?_
      obtain ⟨z678, hg674, hM⟩ := zb_t hM
      refine yI rfl rfl (i_EncodeTyping_ok n q641 f641 ks641 k648 n648 p648 e648 fs648 q648 f648 ks648 hg674 _ _) (callK_retZ (fun r673 v tk675 hz685 (hle676 : tk645 ≤ tk675) h677 => ?_) (fun c p tk675 hz (_ : tk645 ≤ tk675) => by subst hz; obtain rfl := bd_stop hM; exact run_pan_at (cut_pan (⟨rfl, (show tk ≤ tk675 by omega), rfl⟩))))
      subst hz685
      replace hM := bd_ok hM
      obtain ⟨ra686, ra687, ra688, va689, va690, va691, tkm672, rfl, rfl, (hle692 : tk645 ≤ tkm672), (hle693 : tkm672 ≤ tk675), ⟨k679, n679, s679, q679, f679, ks679, rfl, rfl, hf680⟩, ⟨k681, n681, s681, q681, f681, ks681, rfl, rfl, hf682⟩, rfl⟩ := h677
      refine yTV 5 (by kernel_rfl) rfl ?_
      refine yT 6 (by kernel_rfl) rfl rfl rfl (ltb rfl) ((extract_step rfl rfl rfl).rd _) ?_
      refine yT 7 (by kernel_rfl) rfl rfl rfl (ltb rfl) ((extract_step rfl rfl rfl).rd _) ?_
      refine yT 8 (by kernel_rfl) rfl rfl rfl (ltb rfl) ((extract_step rfl rfl rfl).rd _) ?_
      refine AAny.eachN (rs := [10]) (by kernel_rfl) (fun h => by cases h) (fun i hi => ?_)
      simp only [List.mem_cons, List.not_mem_nil, or_false] at hi
      subst hi
      ·refine AOpN.alloc hG rfl rfl rfl (ltb rfl) rfl rfl rfl ?_
       refine yW hG 11 (by kernel_rfl) rfl (by kernel_rfl) rfl ?_
       refine yW hG 12 (by kernel_rfl) rfl (by kernel_rfl) rfl ?_
       refine yTW 13 (by kernel_rfl) rfl ?_
       refine AAny.done (by kernel_rfl) ?_
       exact ⟨ra688, k681, n681, s681, q681, f681, ks681, k679, n679, s679, q679, f679, ks679, tk675, (show tk617 ≤ tk675 by omega), (show Fr tk617 tk675 _ from ((show Fr tkm672 tk675 _ from hf682 rfl)).mono (by omega) (by omega)), (show Fr tk617 tk675 _ from ((show Fr tk645 tkm672 _ from hf680 rfl)).mono (by omega) (by omega)), hM, Sub.pk [4, 6, 7, 8, 11, 12, 15, 16, 17, 18, 19] rfl⟩
     refine AOpN.alloc hG rfl rfl rfl (ltb rfl) rfl rfl rfl ?_
     obtain ⟨z700, hg696, hM⟩ := zb_t hM
     refine yC 4 (by kernel_rfl) rfl rfl (i_EncodeTyping_ok n q641 f641 ks641 k648 n648 p648 e648 fs648 q648 f648 ks648 hg696 _ _) (callK_retZ (fun r695 v tk697 hz707 (hle698 : tk645 ≤ tk697) h699 => ?_) (fun c p tk697 hz (_ : tk645 ≤ tk697) => by subst hz; obtain rfl := bd_stop hM; exact run_pan_at (cut_pan (⟨rfl, (show tk ≤ tk697 by omega), rfl⟩))))
     subst hz707
     replace hM := bd_ok hM
     obtain ⟨ra708, ra709, ra710, va711, va712, va713, tkm694, rfl, rfl, (hle714 : tk645 ≤ tkm694), (hle715 : tkm694 ≤ tk697), ⟨k701, n701, s701, q701, f701, ks701, rfl, rfl, hf702⟩, ⟨k703, n703, s703, q703, f703, ks703, rfl, rfl, hf704⟩, rfl⟩ := h699
     refine yTV 5 (by kernel_rfl) rfl ?_
     refine yT 6 (by kernel_rfl) rfl rfl rfl (ltb rfl) ((extract_step rfl rfl rfl).rd _) ?_
     refine yT 7 (by kernel_rfl) rfl rfl rfl (ltb rfl) ((extract_step rfl rfl rfl).rd _) ?_
     refine yT 8 (by kernel_rfl) rfl rfl rfl (ltb rfl) ((extract_step rfl rfl rfl).rd _) ?_
     refine yW hG 11 (by kernel_rfl) rfl (by kernel_rfl) rfl ?_
     refine yW hG 12 (by kernel_rfl) rfl (by kernel_rfl) rfl ?_
     refine yTW 13 (by kernel_rfl) rfl ?_
     refine AAny.done (by kernel_rfl) ?_
     exact ⟨ra710, k703, n703, s703, q703, f703, ks703, k701, n701, s701, q701, f701, ks701, tk697, (show tk617 ≤ tk697 by omega), (show Fr tk617 tk697 _ from ((show Fr tkm694 tk697 _ from hf704 rfl)).mono (by omega) (by omega)), (show Fr tk617 tk697 _ from ((show Fr tk645 tkm694 _ from hf702 rfl)).mono (by omega) (by omega)), hM, Sub.pk [4, 6, 7, 8, 11, 12, 15, 16, 17, 18, 19] rfl⟩
    refine AOpN.alloc hG rfl rfl rfl (ltb rfl) rfl rfl rfl ?_
    refine AAny.eachN (rs := [4, 9]) (by kernel_rfl) (fun h => by cases h) (fun i hi => ?_)
    simp only [List.mem_cons, List.not_mem_nil, or_false] at hi
    rcases hi with rfl | rfl
    ·refine AOpN.of ?_
     obtain ⟨z722, hg718, hM⟩ := zb_t hM
     refine yI rfl rfl (i_EncodeTyping_ok n q641 f641 ks641 k648 n648 p648 e648 fs648 q648 f648 ks648 hg718 _ _) (callK_retZ (fun r717 v tk719 hz729 (hle720 : tk645 ≤ tk719) h721 => ?_) (fun c p tk719 hz (_ : tk645 ≤ tk719) => by subst hz; obtain rfl := bd_stop hM; exact run_pan_at (cut_pan (⟨rfl, (show tk ≤ tk719 by omega), rfl⟩))))
     subst hz729
     replace hM := bd_ok hM
     obtain ⟨ra730, ra731, ra732, va733, va734, va735, tkm716, rfl, rfl, (hle736 : tk645 ≤ tkm716), (hle737 : tkm716 ≤ tk719), ⟨k723, n723, s723, q723, f723, ks723, rfl, rfl, hf724⟩, ⟨k725, n725, s725, q725, f725, ks725, rfl, rfl, hf726⟩, rfl⟩ := h721
     refine yTV 5 (by kernel_rfl) rfl ?_
     refine yT 6 (by kernel_rfl) rfl rfl rfl (ltb rfl) ((extract_step rfl rfl rfl).rd _) ?_
     refine yT 7 (by kernel_rfl) rfl rfl rfl (ltb rfl) ((extract_step rfl rfl rfl).rd _) ?_
     refine yT 8 (by kernel_rfl) rfl rfl rfl (ltb rfl) ((extract_step rfl rfl rfl).rd _) ?_
     refine AAny.eachN (rs := [9]) (by kernel_rfl) (fun h => by cases h) (fun i hi => ?_)
     simp only [List.mem_cons, List.not_mem_nil, or_false] at hi
     subst hi
     ·refine AOpN.alloc hG rfl rfl rfl (ltb rfl) rfl rfl rfl ?_
      refine yW hG 11 (by kernel_rfl) rfl (by kernel_rfl) rfl ?_
      refine yW hG 12 (by kernel_rfl) rfl (by kernel_rfl) rfl ?_
      refine yTW 13 (by kernel_rfl) rfl ?_
      refine AAny.done (by kernel_rfl) ?_
      exact ⟨ra732, k725, n725, s725, q725, f725, ks725, k723, n723, s723, q723, f723, ks723, tk719, (show tk617 ≤ tk719 by omega), (show Fr tk617 tk719 _ from ((show Fr tkm716 tk719 _ from hf726 rfl)).mono (by omega) (by omega)), (show Fr tk617 tk719 _ from ((show Fr tk645 tkm716 _ from hf724 rfl)).mono (by omega) (by omega)), hM, Sub.trans (Sub.perm (.swap _ _ _ _ _ rfl)) (Sub.pk [4, 6, 7, 8, 11, 12, 15, 16, 17, 18, 19] rfl)⟩
    refine AOpN.alloc hG rfl rfl rfl (ltb rfl) rfl rfl rfl ?_
    obtain ⟨z744, hg740, hM⟩ := zb_t hM
    refine yC 4 (by kernel_rfl) rfl rfl (i_EncodeTyping_ok n q641 f641 ks641 k648 n648 p648 e648 fs648 q648 f648 ks648 hg740 _ _) (callK_retZ (fun r739 v tk741 hz751 (hle742 : tk645 ≤ tk741) h743 => ?_) (fun c p tk741 hz (_ : tk645 ≤ tk741) => by subst hz; obtain rfl := bd_stop hM; exact run_pan_at (cut_pan (⟨rfl, (show tk ≤ tk741 by omega), rfl⟩))))
    subst hz751
    replace hM := bd_ok hM
    obtain ⟨ra752, ra753, ra754, va755, va756, va757, tkm738, rfl, rfl, (hle758 : tk645 ≤ tkm738), (hle759 : tkm738 ≤ tk741), ⟨k745, n745, s745, q745, f745, ks745, rfl, rfl, hf746⟩, ⟨k747, n747, s747, q747, f747, ks747, rfl, rfl, hf748⟩, rfl⟩ := h743
    refine yTV 5 (by kernel_rfl) rfl ?_
    refine yT 6 (by kernel_rfl) rfl rfl rfl (ltb rfl) ((extract_step rfl rfl rfl).rd _) ?_
    refine yT 7 (by kernel_rfl) rfl rfl rfl (ltb rfl) ((extract_step rfl rfl rfl).rd _) ?_
    refine yT 8 (by kernel_rfl) rfl rfl rfl (ltb rfl) ((extract_step rfl rfl rfl).rd _) ?_
    refine yW hG 11 (by kernel_rfl) rfl (by kernel_rfl) rfl ?_
    refine yW hG 12 (by kernel_rfl) rfl (by kernel_rfl) rfl ?_
    refine yTW 13 (by kernel_rfl) rfl ?_
    refine AAny.done (by kernel_rfl) ?_
    exact ⟨ra754, k747, n747, s747, q747, f747, ks747, k745, n745, s745, q745, f745, ks745, tk741, (show tk617 ≤ tk741 by omega), (show Fr tk617 tk741 _ from ((show Fr tkm738 tk741 _ from hf748 rfl)).mono (by omega) (by omega)), (show Fr tk617 tk741 _ from ((show Fr tk645 tkm738 _ from hf746 rfl)).mono (by omega) (by omega)), hM, Sub.trans (Sub.perm (.swap _ _ _ _ _ rfl)) (Sub.pk [4, 6, 7, 8, 11, 12, 15, 16, 17, 18, 19] rfl)⟩
   ·refine AOpN.alloc hG rfl rfl rfl (ltb rfl) rfl rfl rfl ?_
    refine AAny.eachN (rs := [3, 10]) (by kernel_rfl) (fun h => by cases h) (fun i hi => ?_)
    simp only [List.mem_cons, List.not_mem_nil, or_false] at hi
    rcases hi with rfl | rfl
    ·refine AOpN.of ?_
     obtain ⟨r760, hg761, hM⟩ := bind_t hM
     refine yI rfl rfl (w_toExpr_ok n k2 n2 p2 e2 fs2 q2 f2 ks2 hg761 _ _) (callK_retX (fun v tk762 (hle763 : tk638 ≤ tk762) h764 => ?_))
     obtain ⟨k765, n765, p765, e765, fs765, q765, f765, ks765, rfl, rfl, hf766⟩ := h764
     refine AAny.eachN (rs := [4, 10]) (by kernel_rfl) (fun h => by cases h) (fun i hi => ?_)
     simp only [List.mem_cons, List.not_mem_nil, or_false] at hi
     rcases hi with rfl | rfl
     ·refine AOpN.of ?_
      obtain ⟨z773, hg769, hM⟩ := zb_t hM
      refine yI rfl rfl (i_EncodeTyping_ok n q641 f641 ks641 k765 n765 p765 e765 fs765 q765 f765 ks765 hg769 _ _) (callK_retZ (fun r768 v tk770 hz780 (hle771 : tk762 ≤ tk770) h772 => ?_) (fun c p tk770 hz (_ : tk762 ≤ tk770) => by subst hz; obtain rfl := bd_stop hM; exact run_pan_at (cut_pan (⟨rfl, (show tk ≤ tk770 by omega), rfl⟩))))
      subst hz780
      replace hM := bd_ok hM
      obtain ⟨ra781, ra782, ra783, va784, va785, va786, tkm767, rfl, rfl, (hle787 : tk762 ≤ tkm767), (hle788 : tkm767 ≤ tk770), ⟨k774, n774, s774, q774, f774, ks774, rfl, rfl, hf775⟩, ⟨k776, n776, s776, q776, f776, ks776, rfl, rfl, hf777⟩, rfl⟩ := h772
      refine yTV 5 (by kernel_rfl) rfl ?_
      refine yT 6 (by kernel_rfl) rfl rfl rfl (ltb rfl) ((extract_step rfl rfl rfl).rd _) ?_
      refine yT 7 (by kernel_rfl) rfl rfl rfl (ltb rfl) ((extract_step rfl rfl rfl).rd _) ?_
      refine yT 8 (by kernel_rfl) rfl rfl rfl (ltb rfl) ((extract_step rfl rfl rfl).rd _) ?_
      refine AAny.eachN (rs := [10]) (by kernel_rfl) (fun h => by cases h) (fun i hi => ?_)
      simp only [List.mem_cons, List.not_mem_nil, or_false] at hi
      subst hi
      ·refine AOpN.alloc hG rfl rfl rfl (ltb rfl) rfl rfl rfl ?_
       refine yW hG 11 (by kernel_rfl) rfl (by kernel_rfl) rfl ?_
       refine yW hG 12 (by kernel_rfl) rfl (by kernel_rfl) rfl ?_
       refine yTW 13 (by kernel_rfl) rfl ?_
       refine AAny.done (by kernel_rfl) ?_
       exact ⟨ra783, k776, n776, s776, q776, f776, ks776, k774, n774, s774, q774, f774, ks774, tk770, (show tk617 ≤ tk770 by omega), (show Fr tk617 tk770 _ from ((show Fr tkm767 tk770 _ from hf777 rfl)).mono (by omega) (by omega)), (show Fr tk617 tk770 _ from ((show Fr tk762 tkm767 _ from hf775 rfl)).mono (by omega) (by omega)), hM, Sub.pk [4, 6, 7, 8, 11, 12, 15, 16, 17, 18, 19] rfl⟩
     refine AOpN.alloc hG rfl rfl rfl (ltb rfl) rfl rfl rfl ?_
     obtain ⟨z795, hg791, hM⟩ := zb_t hM
     refine yC 4 (by kernel_rfl) rfl rfl (i_EncodeTyping_ok n q641 f641 ks641 k765 n765 p765 e765 fs765 q765 f765 ks765 hg791 _ _) (callK_retZ (fun r790 v tk792 hz802 (hle793 : tk762 ≤ tk792) h794 => ?_) (fun c p tk792 hz (_ : tk762 ≤ tk792) => by subst hz; obtain rfl := bd_stop hM; exact run_pan_at (cut_pan (⟨rfl, (show tk ≤ tk792 by omega), rfl⟩))))
     subst hz802
     replace hM := bd_ok hM
     obtain ⟨ra803, ra804, ra805, va806, va807, va808, tkm789, rfl, rfl, (hle809 : tk762 ≤ tkm789), (hle810 : tkm789 ≤ tk792), ⟨k796, n796, s796, q796, f796, ks796, rfl, rfl, hf797⟩, ⟨k798, n798, s798, q798, f798, ks798, rfl, rfl, hf799⟩, rfl⟩ := h794
     refine yTV 5 (by kernel_rfl) rfl ?_
     refine yT 6 (by kernel_rfl) rfl rfl rfl (ltb rfl) ((extract_step rfl rfl rfl).rd _) ?_
     refine yT 7 (by kernel_rfl) rfl rfl rfl (ltb rfl) ((extract_step rfl rfl rfl).rd _) ?_
     refine yT 8 (by kernel_rfl) rfl rfl rfl (ltb rfl) ((extract_step rfl rfl rfl).rd _) ?_
     refine yW hG 11 (by kernel_rfl) rfl (by kernel_rfl) rfl ?_
     refine yW hG 12 (by kernel_rfl) rfl (by kernel_rfl) rfl ?_
     refine yTW 13 (by kernel_rfl) rfl ?_
     refine AAny.done (by kernel_rfl) ?_
     exact ⟨ra805, k798, n798, s798, q798, f798, ks798, k796, n796, s796, q796, f796, ks796, tk792, (show tk617 ≤ tk792 by omega), (show Fr tk617 tk792 _ from ((show Fr tkm789 tk792 _ from hf799 rfl)).mono (by omega) (by omega)), (show Fr tk617 tk792 _ from ((show Fr tk762 tkm789 _ from hf797 rfl)).mono (by omega) (by omega)), hM, Sub.pk [4, 6, 7, 8, 11, 12, 15, 16, 17, 18, 19] rfl⟩
    refine AOpN.alloc hG rfl rfl rfl (ltb rfl) rfl rfl rfl ?_
    obtain ⟨r811, hg812, hM⟩ := bind_t hM
    refine yC 3 (by kernel_rfl) rfl rfl (w_toExpr_ok n k2 n2 p2 e2 fs2 q2 f2 ks2 hg812 _ _) (callK_retX (fun v tk813 (hle814 : tk638 ≤ tk813) h815 => ?_))
    obtain ⟨k816, n816, p816, e816, fs816, q816, f816, ks816, rfl, rfl, hf817⟩ := h815
    obtain ⟨z824, hg820, hM⟩ := zb_t hM
    refine yC 4 (by kernel_rfl) rfl rfl (i_EncodeTyping_ok n q641 f641 ks641 k816 n816 p816 e816 fs816 q816 f816 ks816 hg820 _ _) (callK_retZ (fun r819 v tk821 hz831 (hle822 : tk813 ≤ tk821) h823 => ?_) (fun c p tk821 hz (_ : tk813 ≤ tk821) => by subst hz; obtain rfl := bd_stop hM; exact run_pan_at (cut_pan (⟨rfl, (show tk ≤ tk821 by omega), rfl⟩))))
    subst hz831
    replace hM := bd_ok hM
    obtain ⟨ra832, ra833, ra834, va835, va836, va837, tkm818, rfl, rfl, (hle838 : tk813 ≤ tkm818), (hle839 : tkm818 ≤ tk821), ⟨k825, n825, s825, q825, f825, ks825, rfl, rfl, hf826⟩, ⟨k827, n827, s827, q827, f827, ks827, rfl, rfl, hf828⟩, rfl⟩ := h823
    refine yTV 5 (by kernel_rfl) rfl ?_
    refine yT 6 (by kernel_rfl) rfl rfl rfl (ltb rfl) ((extract_step rfl rfl rfl).rd _) ?_
    refine yT 7 (by kernel_rfl) rfl rfl rfl (ltb rfl) ((extract_step rfl rfl rfl).rd _) ?_
    refine yT 8 (by kernel_rfl) rfl rfl rfl (ltb rfl) ((extract_step rfl rfl rfl).rd _) ?_
    refine yW hG 11 (by kernel_rfl) rfl (by kernel_rfl) rfl ?_
    refine yW hG 12 (by kernel_rfl) rfl (by kernel_rfl) rfl ?_
    refine yTW 13 (by kernel_rfl) rfl ?_
    refine AAny.done (by kernel_rfl) ?_
    exact ⟨ra834, k827, n827, s827, q827, f827, ks827, k825, n825, s825, q825, f825, ks825, tk821, (show tk617 ≤ tk821 by omega), (show Fr tk617 tk821 _ from ((show Fr tkm818 tk821 _ from hf828 rfl)).mono (by omega) (by omega)), (show Fr tk617 tk821 _ from ((show Fr tk813 tkm818 _ from hf826 rfl)).mono (by omega) (by omega)), hM, Sub.pk [4, 6, 7, 8, 11, 12, 15, 16, 17, 18, 19] rfl⟩
   refine AOpN.alloc hG rfl rfl rfl (ltb rfl) rfl rfl rfl ?_
   refine AAny.eachN (rs := [3, 9]) (by kernel_rfl) (fun h => by cases h) (fun i hi => ?_)
   simp only [List.mem_cons, List.not_mem_nil, or_false] at hi
   rcases hi with rfl | rfl
   ·refine AOpN.of ?_
    obtain ⟨r840, hg841, hM⟩ := bind_t hM
    refine yI rfl rfl (w_toExpr_ok n k2 n2 p2 e2 fs2 q2 f2 ks2 hg841 _ _) (callK_retX (fun v tk842 (hle843 : tk638 ≤ tk842) h844 => ?_))
    obtain ⟨k845, n845, p845, e845, fs845, q845, f845, ks845, rfl, rfl, hf846⟩ := h844
    refine AAny.eachN (rs := [4, 9]) (by kernel_rfl) (fun h => by cases h) (fun i hi => ?_)
    simp only [List.mem_cons, List.not_mem_nil, or_false] at hi
    rcases hi with rfl | rfl
    ·refine AOpN.of ?_
     obtain ⟨z853, hg849, hM⟩ := zb_t hM
     refine yI rfl rfl (i_EncodeTyping_ok n q641 f641 ks641 k845 n845 p845 e845 fs845 q845 f845 ks845 hg849 _ _) (callK_retZ (fun r848 v tk850 hz860 (hle851 : tk842 ≤ tk850) h852 => ?_) (fun c p tk850 hz (_ : tk842 ≤ tk850) => by subst hz; obtain rfl := bd_stop hM; exact run_pan_at (cut_pan (⟨rfl, (show tk ≤ tk850 by omega), rfl⟩))))
     subst hz860
     replace hM := bd_ok hM
     obtain ⟨ra861, ra862, ra863, va864, va865, va866, tkm847, rfl, rfl, (hle867 : tk842 ≤ tkm847), (hle868 : tkm847 ≤ tk850), ⟨k854, n854, s854, q854, f854, ks854, rfl, rfl, hf855⟩, ⟨k856, n856, s856, q856, f856, ks856, rfl, rfl, hf857⟩, rfl⟩ := h852
     refine yTV 5 (by kernel_rfl) rfl ?_
     refine yT 6 (by kernel_rfl) rfl rfl rfl (ltb rfl) ((extract_step rfl rfl rfl).rd _) ?_
     refine yT 7 (by kernel_rfl) rfl rfl rfl (ltb rfl) ((extract_step rfl rfl rfl).rd _) ?_
     refine yT 8 (by kernel_rfl) rfl rfl rfl (ltb rfl) ((extract_step rfl rfl rfl).rd _) ?_
     refine AAny.eachN (rs := [9]) (by kernel_rfl) (fun h => by cases h) (fun i hi => ?_)
     simp only [List.mem_cons, List.not_mem_nil, or_false] at hi
     subst hi
     ·refine AOpN.alloc hG rfl rfl rfl (ltb rfl) rfl rfl rfl ?_
      refine yW hG 11 (by kernel_rfl) rfl (by kernel_rfl) rfl ?_
      refine yW hG 12 (by kernel_rfl) rfl (by kernel_rfl) rfl ?_
      refine yTW 13 (by kernel_rfl) rfl ?_
      refine AAny.done (by kernel_rfl) ?_
      exact ⟨ra863, k856, n856, s856, q856, f856, ks856, k854, n854, s854, q854, f854, ks854, tk850, (show tk617 ≤ tk850 by omega), (show Fr tk617 tk850 _ from ((show Fr tkm847 tk850 _ from hf857 rfl)).mono (by omega) (by omega)), (show Fr tk617 tk850 _ from ((show Fr tk842 tkm847 _ from hf855 rfl)).mono (by omega) (by omega)), hM, Sub.trans (Sub.perm (.swap _ _ _ _ _ rfl)) (Sub.pk [4, 6, 7, 8, 11, 12, 15, 16, 17, 18, 19] rfl)⟩
    refine AOpN.alloc hG rfl rfl rfl (ltb rfl) rfl rfl rfl ?_
    obtain ⟨z875, hg871, hM⟩ := zb_t hM
    refine yC 4 (by kernel_rfl) rfl rfl (i_EncodeTyping_ok n q641 f641 ks641 k845 n845 p845 e845 fs845 q845 f845 ks845 hg871 _ _) (callK_retZ (fun r870 v tk872 hz882 (hle873 : tk842 ≤ tk872) h874 => ?_) (fun c p tk872 hz (_ : tk842 ≤ tk872) => by subst hz; obtain rfl := bd_stop hM; exact run_pan_at (cut_pan (⟨rfl, (show tk ≤ tk872 by omega), rfl⟩))))
    subst hz882
    replace hM := bd_ok hM
    obtain ⟨ra883, ra884, ra885, va886, va887, va888, tkm869, rfl, rfl, (hle889 : tk842 ≤ tkm869), (hle890 : tkm869 ≤ tk872), ⟨k876, n876, s876, q876, f876, ks876, rfl, rfl, hf877⟩, ⟨k878, n878, s878, q878, f878, ks878, rfl, rfl, hf879⟩, rfl⟩ := h874
    refine yTV 5 (by kernel_rfl) rfl ?_
    refine yT 6 (by kernel_rfl) rfl rfl rfl (ltb rfl) ((extract_step rfl rfl rfl).rd _) ?_
    refine yT 7 (by kernel_rfl) rfl rfl rfl (ltb rfl) ((extract_step rfl rfl rfl).rd _) ?_
    refine yT 8 (by kernel_rfl) rfl rfl rfl (ltb rfl) ((extract_step rfl rfl rfl).rd _) ?_
    refine yW hG 11 (by kernel_rfl) rfl (by kernel_rfl) rfl ?_
    refine yW hG 12 (by kernel_rfl) rfl (by kernel_rfl) rfl ?_
    refine yTW 13 (by kernel_rfl) rfl ?_
    refine AAny.done (by kernel_rfl) ?_
    exact ⟨ra885, k878, n878, s878, q878, f878, ks878, k876, n876, s876, q876, f876, ks876, tk872, (show tk617 ≤ tk872 by omega), (show Fr tk617 tk872 _ from ((show Fr tkm869 tk872 _ from hf879 rfl)).mono (by omega) (by omega)), (show Fr tk617 tk872 _ from ((show Fr tk842 tkm869 _ from hf877 rfl)).mono (by omega) (by omega)), hM, Sub.trans (Sub.perm (.swap _ _ _ _ _ rfl)) (Sub.pk [4, 6, 7, 8, 11, 12, 15, 16, 17, 18, 19] rfl)⟩
   refine AOpN.alloc hG rfl rfl rfl (ltb rfl) rfl rfl rfl ?_
   obtain ⟨r891, hg892, hM⟩ := bind_t hM
   refine yC 3 (by kernel_rfl) rfl rfl (w_toExpr_ok n k2 n2 p2 e2 fs2 q2 f2 ks2 hg892 _ _) (callK_retX (fun v tk893 (hle894 : tk638 ≤ tk893) h895 => ?_))
   obtain ⟨k896, n896, p896, e896, fs896, q896, f896, ks896, rfl, rfl, hf897⟩ := h895
   obtain ⟨z904, hg900, hM⟩ := zb_t hM
   refine yC 4 (by kernel_rfl) rfl rfl (i_EncodeTyping_ok n q641 f641 ks641 k896 n896 p896 e896 fs896 q896 f896 ks896 hg900 _ _) (callK_retZ (fun r899 v tk901 hz911 (hle902 : tk893 ≤ tk901) h903 => ?_) (fun c p tk901 hz (_ : tk893 ≤ tk901) => by subst hz; obtain rfl := bd_stop hM; exact run_pan_at (cut_pan (⟨rfl, (show tk ≤ tk901 by omega), rfl⟩))))
   subst hz911
   replace hM := bd_ok hM
   obtain ⟨ra912, ra913, ra914, va915, va916, va917, tkm898, rfl, rfl, (hle918 : tk893 ≤ tkm898), (hle919 : tkm898 ≤ tk901), ⟨k905, n905, s905, q905, f905, ks905, rfl, rfl, hf906⟩, ⟨k907, n907, s907, q907, f907, ks907, rfl, rfl, hf908⟩, rfl⟩ := h903
   refine yTV 5 (by kernel_rfl) rfl ?_
   refine yT 6 (by kernel_rfl) rfl rfl rfl (ltb rfl) ((extract_step rfl rfl rfl).rd _) ?_
   refine yT 7 (by kernel_rfl) rfl rfl rfl (ltb rfl) ((extract_step rfl rfl rfl).rd _) ?_
   refine yT 8 (by kernel_rfl) rfl rfl rfl (ltb rfl) ((extract_step rfl rfl rfl).rd _) ?_
   refine yW hG 11 (by kernel_rfl) rfl (by kernel_rfl) rfl ?_
   refine yW hG 12 (by kernel_rfl) rfl (by kernel_rfl) rfl ?_
   refine yTW 13 (by kernel_rfl) rfl ?_
   refine AAny.done (by kernel_rfl) ?_
   exact ⟨ra914, k907, n907, s907, q907, f907, ks907, k905, n905, s905, q905, f905, ks905, tk901, (show tk617 ≤ tk901 by omega), (show Fr tk617 tk901 _ from ((show Fr tkm898 tk901 _ from hf908 rfl)).mono (by omega) (by omega)), (show Fr tk617 tk901 _ from ((show Fr tk893 tkm898 _ from hf906 rfl)).mono (by omega) (by omega)), hM, Sub.trans (Sub.perm (.swap _ _ _ _ _ rfl)) (Sub.pk [4, 6, 7, 8, 11, 12, 15, 16, 17, 18, 19] rfl)⟩
  ·refine AOpN.alloc hG rfl rfl rfl (ltb rfl) rfl rfl rfl ?_
   refine AAny.eachN (rs := [1, 10]) (by kernel_rfl) (fun h => by cases h) (fun i hi => ?_)
   simp only [List.mem_cons, List.not_mem_nil, or_false] at hi
   rcases hi with rfl | rfl
   ·refine AOpN.of ?_
    obtain ⟨r920, hg921, hM⟩ := bind_t hM
    refine yI rfl rfl (w_toTypeS_ok n q1 f1 ks1 hg921 _ _) (callK_retX (fun v tk922 (hle923 : tk617 ≤ tk922) h924 => ?_))
    obtain ⟨q925, f925, ks925, rfl, rfl, hf926⟩ := h924
    refine AAny.eachN (rs := [3, 10]) (by kernel_rfl) (fun h => by cases h) (fun i hi => ?_)
    simp only [List.mem_cons, List.not_mem_nil, or_false] at hi
    rcases hi with rfl | rfl
    ·refine AOpN.of ?_
     obtain ⟨r927, hg928, hM⟩ := bind_t hM
     refine yI rfl rfl (w_toExpr_ok n k2 n2 p2 e2 fs2 q2 f2 ks2 hg928 _ _) (callK_retX (fun v tk929 (hle930 : tk922 ≤ tk929) h931 => ?_))
     obtain ⟨k932, n932, p932, e932, fs932, q932, f932, ks932, rfl, rfl, hf933⟩ := h931
     refine AAny.eachN (rs := [4, 10]) (by kernel_rfl) (fun h => by cases h) (fun i hi => ?_)
     simp only [List.mem_cons, List.not_mem_nil, or_false] at hi
     rcases hi with rfl | rfl
     ·refine AOpN.of ?_
      obtain ⟨z940, hg936, hM⟩ := zb_t hM
      refine yI rfl rfl (i_EncodeTyping_ok n q925 f925 ks925 k932 n932 p932 e932 fs932 q932 f932 ks932 hg936 _ _) (callK_retZ (fun r935 v tk937 hz947 (hle938 : tk929 ≤ tk937) h939 => ?_) (fun c p tk937 hz (_ : tk929 ≤ tk937) => by subst hz; obtain rfl := bd_stop hM; exact run_pan_at (cut_pan (⟨rfl, (show tk ≤ tk937 by omega), rfl⟩))))
      subst hz947
      replace hM := bd_ok hM
      obtain ⟨ra948, ra949, ra950, va951, va952, va953, tkm934, rfl, rfl, (hle954 : tk929 ≤ tkm934), (hle955 : tkm934 ≤ tk937), ⟨k941, n941, s941, q941, f941, ks941, rfl, rfl, hf942⟩, ⟨k943, n943, s943, q943, f943, ks943, rfl, rfl, hf944⟩, rfl⟩ := h939
      refine yTV 5 (by kernel_rfl) rfl ?_
      refine yT 6 (by kernel_rfl) rfl rfl rfl (ltb rfl) ((extract_step rfl rfl rfl).rd _) ?_
      refine yT 7 (by kernel_rfl) rfl rfl rfl (ltb rfl) ((extract_step rfl rfl rfl).rd _) ?_
      refine yT 8 (by kernel_rfl) rfl rfl rfl (ltb rfl) ((extract_step rfl rfl rfl).rd _) ?_
      refine AAny.eachN (rs := [10]) (by kernel_rfl) (fun h => by cases h) (fun i hi => ?_)
      simp only [List.mem_cons, List.not_mem_nil, or_false] at hi
      subst hi
      ·refine AOpN.alloc hG rfl rfl rfl (ltb rfl) rfl rfl rfl ?_
       refine yW hG 11 (by kernel_rfl) rfl (by kernel_rfl) rfl ?_
       refine yW hG 12 (by kernel_rfl) rfl (by kernel_rfl) rfl ?_
       refine yTW 13 (by kernel_rfl) rfl ?_
       refine AAny.done (by kernel_rfl) ?_
       exact ⟨ra950, k943, n943, s943, q943, f943, ks943, k941, n941, s941, q941, f941, ks941, tk937, (show tk617 ≤ tk937 by omega), (show Fr tk617 tk937 _ from ((show Fr tkm934 tk937 _ from hf944 rfl)).mono (by omega) (by omega)), (show Fr tk617 tk937 _ from ((show Fr tk929 tkm934 _ from hf942 rfl)).mono (by omega) (by omega)), hM, Sub.pk [4, 6, 7, 8, 11, 12, 15, 16, 17, 18, 19] rfl⟩
     refine AOpN.alloc hG rfl rfl rfl (ltb rfl) rfl rfl rfl ?_
     obtain ⟨z962, hg958, hM⟩ := zb_t hM
     refine yC 4 (by kernel_rfl) rfl rfl (i_EncodeTyping_ok n q925 f925 ks925 k932 n932 p932 e932 fs932 q932 f932 ks932 hg958 _ _) (callK_retZ (fun r957 v tk959 hz969 (hle960 : tk929 ≤ tk959) h961 => ?_) (fun c p tk959 hz (_ : tk929 ≤ tk959) => by subst hz; obtain rfl := bd_stop hM; exact run_pan_at (cut_pan (⟨rfl, (show tk ≤ tk959 by omega), rfl⟩))))
     subst hz969
     replace hM := bd_ok hM
     obtain ⟨ra970, ra971, ra972, va973, va974, va975, tkm956, rfl, rfl, (hle976 : tk929 ≤ tkm956), (hle977 : tkm956 ≤ tk959), ⟨k963, n963, s963, q963, f963, ks963, rfl, rfl, hf964⟩, ⟨k965, n965, s965, q965, f965, ks965, rfl, rfl, hf966⟩, rfl⟩ := h961
     refine yTV 5 (by kernel_rfl) rfl ?_
     refine yT 6 (by kernel_rfl) rfl rfl rfl (ltb rfl) ((extract_step rfl rfl rfl).rd _) ?_
     refine yT 7 (by kernel_rfl) rfl rfl rfl (ltb rfl) ((extract_step rfl rfl rfl).rd _) ?_
     refine yT 8 (by kernel_rfl) rfl rfl rfl (ltb rfl) ((extract_step rfl rfl rfl).rd _) ?_
     refine yW hG 11 (by kernel_rfl) rfl (by kernel_rfl) rfl ?_
     refine yW hG 12 (by kernel_rfl) rfl (by kernel_rfl) rfl ?_
     refine yTW 13 (by kernel_rfl) rfl ?_
     refine AAny.done (by kernel_rfl) ?_
     exact ⟨ra972, k965, n965, s965, q965, f965, ks965, k963, n963, s963, q963, f963, ks963, tk959, (show tk617 ≤ tk959 by omega), (show Fr tk617 tk959 _ from ((show Fr tkm956 tk959 _ from hf966 rfl)).mono (by omega) (by omega)), (show Fr tk617 tk959 _ from ((show Fr tk929 tkm956 _ from hf964 rfl)).mono (by omega) (by omega)), hM, Sub.pk [4, 6, 7, 8, 11, 12, 15, 16, 17, 18, 19] rfl⟩
    refine AOpN.alloc hG rfl rfl rfl (ltb rfl) rfl rfl rfl ?_
    obtain ⟨r978, hg979, hM⟩ := bind_t hM
    refine yC 3 (by kernel_rfl) rfl rfl (w_toExpr_ok n k2 n2 p2 e2 fs2 q2 f2 ks2 hg979 _ _) (callK_retX (fun v tk980 (hle981 : tk922 ≤ tk980) h982 => ?_))
    obtain ⟨k983, n983, p983, e983, fs983, q983, f983, ks983, rfl, rfl, hf984⟩ := h982
    obtain ⟨z991, hg987, hM⟩ := zb_t hM
    refine yC 4 (by kernel_rfl) rfl rfl (i_EncodeTyping_ok n q925 f925 ks925 k983 n983 p983 e983 fs983 q983 f983 ks983 hg987 _ _) (callK_retZ (fun r986 v tk988 hz998 (hle989 : tk980 ≤ tk988) h990 => ?_) (fun c p tk988 hz (_ : tk980 ≤ tk988) => by subst hz; obtain rfl := bd_stop hM; exact run_pan_at (cut_pan (⟨rfl, (show tk ≤ tk988 by omega), rfl⟩))))
    subst hz998
    replace hM := bd_ok hM
    obtain ⟨ra999, ra1000, ra1001, va1002, va1003, va1004, tkm985, rfl, rfl, (hle1005 : tk980 ≤ tkm985), (hle1006 : tkm985 ≤ tk988), ⟨k992, n992, s992, q992, f992, ks992, rfl, rfl, hf993⟩, ⟨k994, n994, s994, q994, f994, ks994, rfl, rfl, hf995⟩, rfl⟩ := h990
    refine yTV 5 (by kernel_rfl) rfl ?_
    refine yT 6 (by kernel_rfl) rfl rfl rfl (ltb rfl) ((extract_step rfl rfl rfl).rd _) ?_
    refine yT 7 (by kernel_rfl) rfl rfl rfl (ltb rfl) ((extract_step rfl rfl rfl).rd _) ?_
    refine yT 8 (by kernel_rfl) rfl rfl rfl (ltb rfl) ((extract_step rfl rfl rfl).rd _) ?_
    refine yW hG 11 (by kernel_rfl) rfl (by kernel_rfl) rfl ?_
    refine yW hG 12 (by kernel_rfl) rfl (by kernel_rfl) rfl ?_
    refine yTW 13 (by kernel_rfl) rfl ?_
    refine AAny.done (by kernel_rfl) ?_
    exact ⟨ra1001, k994, n994, s994, q994, f994, ks994, k992, n992, s992, q992, f992, ks992, tk988, (show tk617 ≤ tk988 by omega), (show Fr tk617 tk988 _ from ((show Fr tkm985 tk988 _ from hf995 rfl)).mono (by omega) (by omega)), (show Fr tk617 tk988 _ from ((show Fr tk980 tkm985 _ from hf993 rfl)).mono (by omega) (by omega)), hM, Sub.pk [4, 6, 7, 8, 11, 12, 15, 16, 17, 18, 19] rfl⟩
   refine AOpN.alloc hG rfl rfl rfl (ltb rfl) rfl rfl rfl ?_
   obtain ⟨r1007, hg1008, hM⟩ := bind_t hM
   refine yC 1 (by kernel_rfl) rfl rfl (w_toTypeS_ok n q1 f1 ks1 hg1008 _ _) (callK_retX (fun v tk1009 (hle1010 : tk617 ≤ tk1009) h1011 => ?_))
   obtain ⟨q1012, f1012, ks1012, rfl, rfl, hf1013⟩ := h1011
   obtain ⟨r1014, hg1015, hM⟩ := bind_t hM
   refine yC 3 (by kernel_rfl) rfl rfl (w_toExpr_ok n k2 n2 p2 e2 fs2 q2 f2 ks2 hg1015 _ _) (callK_retX (fun v tk1016 (hle1017 : tk1009 ≤ tk1016) h1018 => ?_))
   obtain ⟨k1019, n1019, p1019, e1019, fs1019, q1019, f1019, ks1019, rfl, rfl, hf1020⟩ := h1018
   obtain ⟨z1027, hg1023, hM⟩ := zb_t hM
   refine yC 4 (by kernel_rfl) rfl rfl (i_EncodeTyping_ok n q1012 f1012 ks1012 k1019 n1019 p1019 e1019 fs1019 q1019 f1019 ks1019 hg1023 _ _) (callK_retZ (fun r1022 v tk1024 hz1034 (hle1025 : tk1016 ≤ tk1024) h1026 => ?_) (fun c p tk1024 hz (_ : tk1016 ≤ tk1024) => by subst hz; obtain rfl := bd_stop hM; exact run_pan_at (cut_pan (⟨rfl, (show tk ≤ tk1024 by omega), rfl⟩))))
   subst hz1034
   replace hM := bd_ok hM
   obtain ⟨ra1035, ra1036, ra1037, va1038, va1039, va1040, tkm1021, rfl, rfl, (hle1041 : tk1016 ≤ tkm1021), (hle1042 : tkm1021 ≤ tk1024), ⟨k1028, n1028, s1028, q1028, f1028, ks1028, rfl, rfl, hf1029⟩, ⟨k1030, n1030, s1030, q1030, f1030, ks1030, rfl, rfl, hf1031⟩, rfl⟩ := h1026
   refine yTV 5 (by kernel_rfl) rfl ?_
   refine yT 6 (by kernel_rfl) rfl rfl rfl (ltb rfl) ((extract_step rfl rfl rfl).rd _) ?_
   refine yT 7 (by kernel_rfl) rfl rfl rfl (ltb rfl) ((extract_step rfl rfl rfl).rd _) ?_
   refine yT 8 (by kernel_rfl) rfl rfl rfl (ltb rfl) ((extract_step rfl rfl rfl).rd _) ?_
   refine yW hG 11 (by kernel_rfl) rfl (by kernel_rfl) rfl ?_
   refine yW hG 12 (by kernel_rfl) rfl (by kernel_rfl) rfl ?_
   refine yTW 13 (by kernel_rfl) rfl ?_
   refine AAny.done (by kernel_rfl) ?_
   exact ⟨ra1037, k1030, n1030, s1030, q1030, f1030, ks1030, k1028, n1028, s1028, q1028, f1028, ks1028, tk1024, (show tk617 ≤ tk1024 by omega), (show Fr tk617 tk1024 _ from ((show Fr tkm1021 tk1024 _ from hf1031 rfl)).mono (by omega) (by omega)), (show Fr tk617 tk1024 _ from ((show Fr tk1016 tkm1021 _ from hf1029 rfl)).mono (by omega) (by omega)), hM, Sub.pk [4, 6, 7, 8, 11, 12, 15, 16, 17, 18, 19] rfl⟩
  refine AOpN.alloc hG rfl rfl rfl (ltb rfl) rfl rfl rfl ?_
  refine AAny.eachN (rs := [1, 9]) (by kernel_rfl) (fun h => by cases h) (fun i hi => ?_)
  simp only [List.mem_cons, List.not_mem_nil, or_false] at hi
  rcases hi with rfl | rfl
  ·refine AOpN.of ?_
   obtain ⟨r1043, hg1044, hM⟩ := bind_t hM
   refine yI rfl rfl (w_toTypeS_ok n q1 f1 ks1 hg1044 _ _) (callK_retX (fun v tk1045 (hle1046 : tk617 ≤ tk1045) h1047 => ?_))
   obtain ⟨q1048, f1048, ks1048, rfl, rfl, hf1049⟩ := h1047
   refine AAny.eachN (rs := [3, 9]) (by kernel_rfl) (fun h => by cases h) (fun i hi => ?_)
   simp only [List.mem_cons, List.not_mem_nil, or_false] at hi
   rcases hi with rfl | rfl
   ·refine AOpN.of ?_
    obtain ⟨r1050, hg1051, hM⟩ := bind_t hM
    refine yI rfl rfl (w_toExpr_ok n k2 n2 p2 e2 fs2 q2 f2 ks2 hg1051 _ _) (callK_retX (fun v tk1052 (hle1053 : tk1045 ≤ tk1052) h1054 => ?_))
    obtain ⟨k1055, n1055, p1055, e1055, fs1055, q1055, f1055, ks1055, rfl, rfl, hf1056⟩ := h1054
    refine AAny.eachN (rs := [4, 9]) (by kernel_rfl) (fun h => by cases h) (fun i hi => ?_)
    simp only [List.mem_cons, List.not_mem_nil, or_false] at hi
    rcases hi with rfl | rfl
    ·refine AOpN.of ?_
     obtain ⟨z1063, hg1059, hM⟩ := zb_t hM
     refine yI rfl rfl (i_EncodeTyping_ok n q1048 f1048 ks1048 k1055 n1055 p1055 e1055 fs1055 q1055 f1055 ks1055 hg1059 _ _) (callK_retZ (fun r1058 v tk1060 hz1070 (hle1061 : tk1052 ≤ tk1060) h1062 => ?_) (fun c p tk1060 hz (_ : tk1052 ≤ tk1060) => by subst hz; obtain rfl := bd_stop hM; exact run_pan_at (cut_pan (⟨rfl, (show tk ≤ tk1060 by omega), rfl⟩))))
     subst hz1070
     replace hM := bd_ok hM
     obtain ⟨ra1071, ra1072, ra1073, va1074, va1075, va1076, tkm1057, rfl, rfl, (hle1077 : tk1052 ≤ tkm1057), (hle1078 : tkm1057 ≤ tk1060), ⟨k1064, n1064, s1064, q1064, f1064, ks1064, rfl, rfl, hf1065⟩, ⟨k1066, n1066, s1066, q1066, f1066, ks1066, rfl, rfl, hf1067⟩, rfl⟩ := h1062
     refine yTV 5 (by kernel_rfl) rfl ?_
     refine yT 6 (by kernel_rfl) rfl rfl rfl (ltb rfl) ((extract_step rfl rfl rfl).rd _) ?_
     refine yT 7 (by kernel_rfl) rfl rfl rfl (ltb rfl) ((extract_step rfl rfl rfl).rd _) ?_
     refine yT 8 (by kernel_rfl) rfl rfl rfl (ltb rfl) ((extract_step rfl rfl rfl).rd _) ?_
     refine AAny.eachN (rs := [9]) (by kernel_rfl) (fun h => by cases h) (fun i hi => ?_)
     simp only [List.mem_cons, List.not_mem_nil, or_false] at hi
     subst hi
     ·refine AOpN.alloc hG rfl rfl rfl (ltb rfl) rfl rfl rfl ?_
      refine yW hG 11 (by kernel_rfl) rfl (by kernel_rfl) rfl ?_
      refine yW hG 12 (by kernel_rfl) rfl (by kernel_rfl) rfl ?_
      refine yTW 13 (by kernel_rfl) rfl ?_
      refine AAny.done (by kernel_rfl) ?_
      exact ⟨ra1073, k1066, n1066, s1066, q1066, f1066, ks1066, k1064, n1064, s1064, q1064, f1064, ks1064, tk1060, (show tk617 ≤ tk1060 by omega), (show Fr tk617 tk1060 _ from ((show Fr tkm1057 tk1060 _ from hf1067 rfl)).mono (by omega) (by omega)), (show Fr tk617 tk1060 _ from ((show Fr tk1052 tkm1057 _ from hf1065 rfl)).mono (by omega) (by omega)), hM, Sub.trans (Sub.perm (.swap _ _ _ _ _ rfl)) (Sub.pk [4, 6, 7, 8, 11, 12, 15, 16, 17, 18, 19] rfl)⟩
    refine AOpN.alloc hG rfl rfl rfl (ltb rfl) rfl rfl rfl ?_
    obtain ⟨z1085, hg1081, hM⟩ := zb_t hM
    refine yC 4 (by kernel_rfl) rfl rfl (i_EncodeTyping_ok n q1048 f1048 ks1048 k1055 n1055 p1055 e1055 fs1055 q1055 f1055 ks1055 hg1081 _ _) (callK_retZ (fun r1080 v tk1082 hz1092 (hle1083 : tk1052 ≤ tk1082) h1084 => ?_) (fun c p tk1082 hz (_ : tk1052 ≤ tk1082) => by subst hz; obtain rfl := bd_stop hM; exact run_pan_at (cut_pan (⟨rfl, (show tk ≤ tk1082 by omega), rfl⟩))))
    subst hz1092
    replace hM := bd_ok hM
    obtain ⟨ra1093, ra1094, ra1095, va1096, va1097, va1098, tkm1079, rfl, rfl, (hle1099 : tk1052 ≤ tkm1079), (hle1100 : tkm1079 ≤ tk1082), ⟨k1086, n1086, s1086, q1086, f1086, ks1086, rfl, rfl, hf1087⟩, ⟨k1088, n1088, s1088, q1088, f1088, ks1088, rfl, rfl, hf1089⟩, rfl⟩ := h1084
    refine yTV 5 (by kernel_rfl) rfl ?_
    refine yT 6 (by kernel_rfl) rfl rfl rfl (ltb rfl) ((extract_step rfl rfl rfl).rd _) ?_
    refine yT 7 (by kernel_rfl) rfl rfl rfl (ltb rfl) ((extract_step rfl rfl rfl).rd _) ?_
    refine yT 8 (by kernel_rfl) rfl rfl rfl (ltb rfl) ((extract_step rfl rfl rfl).rd _) ?_
    refine yW hG 11 (by kernel_rfl) rfl (by kernel_rfl) rfl ?_
    refine yW hG 12 (by kernel_rfl) rfl (by kernel_rfl) rfl ?_
    refine yTW 13 (by kernel_rfl) rfl ?_
    refine AAny.done (by kernel_rfl) ?_
    exact ⟨ra1095, k1088, n1088, s1088, q1088, f1088, ks1088, k1086, n1086, s1086, q1086, f1086, ks1086, tk1082, (show tk617 ≤ tk1082 by omega), (show Fr tk617 tk1082 _ from ((show Fr tkm1079 tk1082 _ from hf1089 rfl)).mono (by omega) (by omega)), (show Fr tk617 tk1082 _ from ((show Fr tk1052 tkm1079 _ from hf1087 rfl)).mono (by omega) (by omega)), hM, Sub.trans (Sub.perm (.swap _ _ _ _ _ rfl)) (Sub.pk [4, 6, 7, 8, 11, 12, 15, 16, 17, 18, 19] rfl)⟩
   refine AOpN.alloc hG rfl rfl rfl (ltb rfl) rfl rfl rfl ?_
   obtain ⟨r1101, hg1102, hM⟩ := bind_t hM
   refine yC 3 (by kernel_rfl) rfl rfl (w_toExpr_ok n k2 n2 p2 e2 fs2 q2 f2 ks2 hg1102 _ _) (callK_retX (fun v tk1103 (hle1104 : tk1045 ≤ tk1103) h1105 => ?_))
   obtain ⟨k1106, n1106, p1106, e1106, fs1106, q1106, f1106, ks1106, rfl, rfl, hf1107⟩ := h1105
   obtain ⟨z1114, hg1110, hM⟩ := zb_t hM
   refine yC 4 (by kernel_rfl) rfl rfl (i_EncodeTyping_ok n q1048 f1048 ks1048 k1106 n1106 p1106 e1106 fs1106 q1106 f1106 ks1106 hg1110 _ _) (callK_retZ (fun r1109 v tk1111 hz1121 (hle1112 : tk1103 ≤ tk1111) h1113 => ?_) (fun c p tk1111 hz (_ : tk1103 ≤ tk1111) => by subst hz; obtain rfl := bd_stop hM; exact run_pan_at (cut_pan (⟨rfl, (show tk ≤ tk1111 by omega), rfl⟩))))
   subst hz1121
   replace hM := bd_ok hM
   obtain ⟨ra1122, ra1123, ra1124, va1125, va1126, va1127, tkm1108, rfl, rfl, (hle1128 : tk1103 ≤ tkm1108), (hle1129 : tkm1108 ≤ tk1111), ⟨k1115, n1115, s1115, q1115, f1115, ks1115, rfl, rfl, hf1116⟩, ⟨k1117, n1117, s1117, q1117, f1117, ks1117, rfl, rfl, hf1118⟩, rfl⟩ := h1113
   refine yTV 5 (by kernel_rfl) rfl ?_
   refine yT 6 (by kernel_rfl) rfl rfl rfl (ltb rfl) ((extract_step rfl rfl rfl).rd _) ?_
   refine yT 7 (by kernel_rfl) rfl rfl rfl (ltb rfl) ((extract_step rfl rfl rfl).rd _) ?_
   refine yT 8 (by kernel_rfl) rfl rfl rfl (ltb rfl) ((extract_step rfl rfl rfl).rd _) ?_
   refine yW hG 11 (by kernel_rfl) rfl (by kernel_rfl) rfl ?_
   refine yW hG 12 (by kernel_rfl) rfl (by kernel_rfl) rfl ?_
   refine yTW 13 (by kernel_rfl) rfl ?_
   refine AAny.done (by kernel_rfl) ?_
   exact ⟨ra1124, k1117, n1117, s1117, q1117, f1117, ks1117, k1115, n1115, s1115, q1115, f1115, ks1115, tk1111, (show tk617 ≤ tk1111 by omega), (show Fr tk617 tk1111 _ from ((show Fr tkm1108 tk1111 _ from hf1118 rfl)).mono (by omega) (by omega)), (show Fr tk617 tk1111 _ from ((show Fr tk1103 tkm1108 _ from hf1116 rfl)).mono (by omega) (by omega)), hM, Sub.trans (Sub.perm (.swap _ _ _ _ _ rfl)) (Sub.pk [4, 6, 7, 8, 11, 12, 15, 16, 17, 18, 19] rfl)⟩
  refine AOpN.alloc hG rfl rfl rfl (ltb rfl) rfl rfl rfl ?_
  obtain ⟨r1130, hg1131, hM⟩ := bind_t hM
  refine yC 1 (by kernel_rfl) rfl rfl (w_toTypeS_ok n q1 f1 ks1 hg1131 _ _) (callK_retX (fun v tk1132 (hle1133 : tk617 ≤ tk1132) h1134 => ?_))
  obtain ⟨q1135, f1135, ks1135, rfl, rfl, hf1136⟩ := h1134
  obtain ⟨r1137, hg1138, hM⟩ := bind_t hM
  refine yC 3 (by kernel_rfl) rfl rfl (w_toExpr_ok n k2 n2 p2 e2 fs2 q2 f2 ks2 hg1138 _ _) (callK_retX (fun v tk1139 (hle1140 : tk1132 ≤ tk1139) h1141 => ?_))
  obtain ⟨k1142, n1142, p1142, e1142, fs1142, q1142, f1142, ks1142, rfl, rfl, hf1143⟩ := h1141
  obtain ⟨z1150, hg1146, hM⟩ := zb_t hM
  refine yC 4 (by kernel_rfl) rfl rfl (i_EncodeTyping_ok n q1135 f1135 ks1135 k1142 n1142 p1142 e1142 fs1142 q1142 f1142 ks1142 hg1146 _ _) (callK_retZ (fun r1145 v tk1147 hz1157 (hle1148 : tk1139 ≤ tk1147) h1149 => ?_) (fun c p tk1147 hz (_ : tk1139 ≤ tk1147) => by subst hz; obtain rfl := bd_stop hM; exact run_pan_at (cut_pan (⟨rfl, (show tk ≤ tk1147 by omega), rfl⟩))))
  subst hz1157
  replace hM := bd_ok hM
  obtain ⟨ra1158, ra1159, ra1160, va1161, va1162, va1163, tkm1144, rfl, rfl, (hle1164 : tk1139 ≤ tkm1144), (hle1165 : tkm1144 ≤ tk1147), ⟨k1151, n1151, s1151, q1151, f1151, ks1151, rfl, rfl, hf1152⟩, ⟨k1153, n1153, s1153, q1153, f1153, ks1153, rfl, rfl, hf1154⟩, rfl⟩ := h1149
  refine yTV 5 (by kernel_rfl) rfl ?_
  refine yT 6 (by kernel_rfl) rfl rfl rfl (ltb rfl) ((extract_step rfl rfl rfl).rd _) ?_
  refine yT 7 (by kernel_rfl) rfl rfl rfl (ltb rfl) ((extract_step rfl rfl rfl).rd _) ?_
  refine yT 8 (by kernel_rfl) rfl rfl rfl (ltb rfl) ((extract_step rfl rfl rfl).rd _) ?_
  refine yW hG 11 (by kernel_rfl) rfl (by kernel_rfl) rfl ?_
  refine yW hG 12 (by kernel_rfl) rfl (by kernel_rfl) rfl ?_
  refine yTW 13 (by kernel_rfl) rfl ?_
  refine AAny.done (by kernel_rfl) ?_
  exact ⟨ra1160, k1153, n1153, s1153, q1153, f1153, ks1153, k1151, n1151, s1151, q1151, f1151, ks1151, tk1147, (show tk617 ≤ tk1147 by omega), (show Fr tk617 tk1147 _ from ((show Fr tkm1144 tk1147 _ from hf1154 rfl)).mono (by omega) (by omega)), (show Fr tk617 tk1147 _ from ((show Fr tk1139 tkm1144 _ from hf1152 rfl)).mono (by omega) (by omega)), hM, Sub.trans (Sub.perm (.swap _ _ _ _ _ rfl)) (Sub.pk [4, 6, 7, 8, 11, 12, 15, 16, 17, 18, 19] rfl)⟩
 clear hM
 rintro σ' ⟨i625, i626, i627, t628, q629, f629, ks629, i630, i631, t632, q633, f633, ks633, tkj624, hle1200, hfr634, hfr635, hM, hsub⟩
 rw [hj1201] at hM
 clear hj1201
 refine run_sub_code hsub ?_
 refine run_seq ?_
 refine run_sr ?_
 refine yD hG rfl ?_
 refine yD hG rfl ?_
 obtain ⟨r1166, hg1167, hM⟩ := bind_t hM
 refine yK rfl (w_eqTree_ok n i630 i631 t632 q633 f633 ks633 i25 i26 t27 q28 f28 ks28 hg1167 _ _) (callK_retX (fun v tk1168 (hle1169 : tkj624 ≤ tk1168) h1170 => ?_))
 subst h1170
 refine run_pu rfl (aun_step rfl rfl rfl) rfl (ltb rfl) ?_
 refine yL rfl ?_
 refine run_splitb (i := 132) rfl (fun hb1173 => ?_) (fun hb1173 => ?_)
 ·replace hM := ite_t hb1173 hM
  refine yO rfl ?_
  refine yO rfl ?_
  refine yO rfl ?_
  refine yO rfl ?_
  refine yP rfl ?_
  refine yL rfl ?_
  refine yO rfl ?_
  refine yO rfl ?_
  refine yO rfl ?_
  refine yP rfl ?_
  refine run_ops_nil ?_
  refine run_if rfl rfl (fun _ => ?_) (fun h => by cases h)
  refine run_sr ?_
  refine yR rfl ?_
  refine run_ops_nil ?_
  refine run_ret_to ?_
  replace hM := some_t hM
  subst hM
  refine fin_x hG rfl rfl rfl (v' := .bool false) (by rfl) ⟨rfl, (show tk ≤ tk1168 by omega), _, rfl, rfl⟩
 replace hM := ite_f hb1173 hM
 refine run_rdG (on_of rfl rfl rfl rfl) (aload_rd hG rfl rfl rfl (by first | (simp [ldok]; done) | exact List.not_mem_nil | trivial)) rfl (ltb rfl) ?_
 refine run_rdG (on_of rfl rfl rfl rfl) (aload_rd hG rfl rfl rfl (by first | (simp [ldok]; done) | exact List.not_mem_nil | trivial)) rfl (ltb rfl) ?_
 obtain ⟨r1174, hg1175, hM⟩ := bind_t hM
 refine yG (on_of rfl rfl rfl rfl) rfl (w_eqTree_ok n i626 i627 t628 q629 f629 ks629 i21 i22 t23 q24 f24 ks24 hg1175 _ _) (callK_retX (fun v tk1176 (hle1177 : tk1168 ≤ tk1176) h1178 => ?_))
 subst h1178
 refine run_puG (on_of rfl rfl rfl rfl) (aun_step rfl rfl rfl) rfl (ltb rfl) ?_
 refine yP rfl ?_
 refine yL rfl ?_
 refine run_splitb (i := 138) rfl (fun hb1181 => ?_) (fun hb1181 => ?_)
 ·replace hM := ite_t hb1181 hM
  refine yO rfl ?_
  refine yO rfl ?_
  refine yO rfl ?_
  refine yP rfl ?_
  refine run_ops_nil ?_
  refine run_if rfl rfl (fun _ => ?_) (fun h => by cases h)
  refine run_sr ?_
  refine yR rfl ?_
  refine run_ops_nil ?_
  refine run_ret_to ?_
  replace hM := some_t hM
  subst hM
  refine fin_x hG rfl rfl rfl (v' := .bool false) (by rfl) ⟨rfl, (show tk ≤ tk1176 by omega), _, rfl, rfl⟩
 replace hM := ite_f hb1181 hM
 refine run_puG (on_of rfl rfl rfl rfl) (move_step (.inl rfl) rfl) rfl (ltb rfl) ?_
 refine run_puG (on_of rfl rfl rfl rfl) (move_step (.inl rfl) rfl) rfl (ltb rfl) ?_
 refine run_puG (on_of rfl rfl rfl rfl) (abin_step rfl rfl rfl rfl (fun _ h => by cases h)) rfl (ltb rfl) ?_
 refine yP rfl ?_
 refine run_ops_nil ?_
 refine run_sub_code (σ' := ⟨[(4, .bool false), (11, .optr (.loc 11) 0 0), (12, .optr (.loc 12) 0 0), (15, .int .i64 k603), (16, .int .i64 r615), (142, .bool (i625 != i20))], [(12, ⟨51, 4, true, [[.int .i64 k489, .int .i64 n489, .str s489, .imm q489 4 f489 (cellss ks602)]]⟩), (11, ⟨51, 4, true, [[.int .i64 k487, .int .i64 n487, .str s487, .imm q487 4 f487 (cellss ks593)]]⟩)], [], O, tk1176⟩) (Sub.trans (Sub.drop (k := 18) rfl) (Sub.trans (Sub.drop (k := 17) rfl) (Sub.trans (Sub.drop (k := 7) rfl) (Sub.trans (Sub.drop (k := 6) rfl) (Sub.trans (Sub.drop (k := 3) rfl) (Sub.env _ ⟨rfl, rfl, rfl, rfl, rfl, rfl, trivial⟩)))))) ?_
 refine run_ifb rfl rfl (fun hb1182 => ?_) (fun hb1182 => ?_)
 ·replace hM := ite_t hb1182 hM
  refine run_sr ?_
  refine yR rfl ?_
  refine run_ops_nil ?_
  refine run_ret_to ?_
  replace hM := some_t hM
  subst hM
  refine fin_x hG rfl rfl rfl (v' := .bool false) (by rfl) ⟨rfl, (show tk ≤ tk1176 by omega), _, rfl, rfl⟩
 replace hM := ite_f hb1182 hM
 refine run_skip ?_
 refine run_sr ?_
 refine yR rfl ?_
 refine run_ops_nil ?_
 refine run_sr ?_
 refine yD hG rfl ?_
 refine yL rfl ?_
 obtain ⟨r1183, hg1184, hM⟩ := bind_t hM
 refine yK rfl (w_heldTree_ok n k487 n487 s487 q487 f487 ks593 1 hg1184 _ _) (callK_retX (fun v tk1185 (hle1186 : tk1176 ≤ tk1185) h1187 => ?_))
 subst h1187
 refine yR rfl ?_
 refine run_ops_nil ?_
 refine run_seq ?_
 refine run_sr ?_
 refine yL rfl ?_
 refine yB rfl ?_
 refine run_ops_nil ?_
 refine run_ifd rfl rfl (fun hb1190 => ?_) (fun hb1190 => ?_)
 ·replace hM := ite_t hb1190 hM
  refine run_sr ?_
  refine yR rfl ?_
  refine run_ops_nil ?_
  refine run_ret_to ?_
  replace hM := some_t hM
  subst hM
  refine fin_x hG rfl rfl rfl (v' := .bool false) (by rfl) ⟨rfl, (show tk ≤ tk1185 by omega), _, rfl, rfl⟩
 replace hM := ite_f hb1190 hM
 refine run_skip ?_
 refine run_sr ?_
 refine yD hG rfl ?_
 refine yL rfl ?_
 obtain ⟨r1191, hg1192, hM⟩ := bind_t hM
 refine yK rfl (w_heldTree_ok n k489 n489 s489 q489 f489 ks602 r1183 hg1192 _ _) (callK_retX (fun v tk1193 (hle1194 : tk1185 ≤ tk1193) h1195 => ?_))
 subst h1195
 refine yR rfl ?_
 refine run_ops_nil ?_
 refine run_seq ?_
 refine run_sr ?_
 refine yL rfl ?_
 refine yB rfl ?_
 refine run_ops_nil ?_
 refine run_ifd rfl rfl (fun hb1198 => ?_) (fun hb1198 => ?_)
 ·replace hM := ite_t hb1198 hM
  refine run_sr ?_
  refine yR rfl ?_
  refine run_ops_nil ?_
  refine run_ret_to ?_
  replace hM := some_t hM
  subst hM
  refine fin_x hG rfl rfl rfl (v' := .bool false) (by rfl) ⟨rfl, (show tk ≤ tk1193 by omega), _, rfl, rfl⟩
 replace hM := ite_f hb1198 hM
 refine run_skip ?_
 refine run_seq ?_
 refine run_sr ?_
 refine yL rfl ?_
 refine yL rfl ?_
 refine yB rfl ?_
 refine run_ops_nil ?_
 refine run_sub_code (σ' := ⟨[(4, .bool false), (155, .bool (r1191 != k603))], [], [], O, tk1193⟩) (Sub.trans (Sub.drop (k := 12) rfl) (Sub.trans (Sub.drop (k := 11) rfl) (Sub.env _ ⟨rfl, rfl, trivial⟩))) ?_
 refine run_ifb rfl rfl (fun hb1199 => ?_) (fun hb1199 => ?_)
 ·replace hM := ite_t hb1199 hM
  refine run_sr ?_
  refine yR rfl ?_
  refine run_ops_nil ?_
  refine run_ret_to ?_
  replace hM := some_t hM
  subst hM
  refine fin_x hG rfl rfl rfl (v' := .bool false) (by rfl) ⟨rfl, (show tk ≤ tk1193 by omega), _, rfl, rfl⟩
 replace hM := ite_f hb1199 hM
 refine run_skip ?_
 refine run_sr ?_
 refine yR rfl ?_
 refine run_ops_nil ?_
 refine run_ret_to ?_
 replace hM := some_t hM
 subst hM
 refine fin_x hG rfl rfl rfl (v' := .bool true) (by rfl) ⟨rfl, (show tk ≤ tk1193 by omega), _, rfl, rfl⟩

end Go.Am.Ytaedacibojpfkaa
