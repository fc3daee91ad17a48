/- Printed by a program of ours: Lean functions that do what the Go functions do, and the contracts. -/
import Derived.Test.YtaedacibojpfkaaTypes
import Derived.Test.YtaedacibojpfkaaMi4
import Derived.Test.YtaedacibojpfkaaMc1
import Derived.Test.YtaedacibojpfkaaMb3
import Derived.Test.YtaedacibojpfkaaMz
import Derived.Test.YtaedacibojpfkaaEpEnc
import Derived.Test.YtaedacibojpfkaaMxTypeOf
-- packed
namespace Go.Am.Ytaedacibojpfkaa
open Go Go.Am

def s_l09Typing : Nat → List F → Pf → List Int → Int → Option (T × F)
 | 0, _, _, _, _ => none
 | n + 1, l1, x2, l3, i4 =>
  if x2.kind = 1 then
   (idx l3 (IntKind.i64.wrap ((IntKind.i64.wrap (((l3).length : Int) - 1)) - x2.n))).bind fun y6 =>
   (idx l1 (IntKind.i64.wrap ((IntKind.i64.wrap (((l1).length : Int) - 1)) - x2.n))).bind fun y11 =>
   some ((T.mk 5 (IntKind.i64.wrap ((IntKind.i64.wrap (i4 - 2)) - y6)) ⟨#[]⟩ []), y11)
  else
   if x2.kind = 3 then
    (s_l09Place l3 i4).bind fun r17 =>
    jn (fun (i25 : Int) (i26 : Int) (l27 : List F) (i28 : Int) (i29 : Int) (t30 : ByteArray) (l31 : List T) =>
     (idx x2.kids 0).bind fun y221 =>
     (s_l09Tree n y221 r17 (IntKind.i64.wrap (i4 + 1))).bind fun r226 =>
     (idx x2.forms 0).bind fun y233 =>
     (idx x2.forms 0).bind fun y238 =>
     (s_l09TypeTree n y233).bind fun r243 =>
     (s_l09TypeTree n (F.mk i25 i26 l27)).bind fun r250 =>
     some ((T.mk 6 0 ⟨#[111, 102, 108, 97, 109]⟩ [r243, r250, (T.mk 4 0 ⟨#[]⟩ [r226]), (T.mk 4 0 ⟨#[]⟩ [(T.mk 4 0 ⟨#[]⟩ [(T.mk i28 i29 t30 l31)])])]), (F.mk 2 0 [y238, (F.mk i25 i26 l27)]))) fun j24 =>
    (idx x2.forms 0).bind fun y33 =>
    (idx x2.kids 0).bind fun y38 =>
    (s_l09More l1 y33).bind fun r43 =>
    (s_l09Typing n r43 y38 r17 (IntKind.i64.wrap (i4 + 2))).bind fun r50 =>
    j24 r50.2.kind r50.2.n r50.2.kids r50.1.kind r50.1.n r50.1.name r50.1.kids
   else
    (idx x2.kids 0).bind fun y259 =>
    (s_l09Typing n l1 y259 l3 i4).bind fun r264 =>
    (idx x2.kids 1).bind fun y277 =>
    (s_l09Typing n l1 y277 l3 i4).bind fun r282 =>
    (idx x2.kids 0).bind fun y295 =>
    (idx x2.kids 1).bind fun y300 =>
    (idx r264.2.kids 1).bind fun y305 =>
    (idx r264.2.kids 1).bind fun y310 =>
    (s_l09Tree n y295 l3 i4).bind fun r315 =>
    (s_l09Tree n y300 l3 i4).bind fun r322 =>
    (s_l09TypeTree n r282.2).bind fun r329 =>
    (s_l09TypeTree n y305).bind fun r336 =>
    some ((T.mk 6 0 ⟨#[111, 102, 97, 112, 112]⟩ [r315, r322, r329, r336, r264.1, r282.1]), y310)

set_option maxHeartbeats 20000000 in
set_option maxHeartbeats 20000000 in
set_option maxRecDepth 100000 in
theorem s_l09Typing_st (n : Nat) (ih_s_l09Typing : ∀ (q1 : Nat) (f1 : Bool) (ks1 : List LF) (k2 : Int) (n2 : Int) (p2 : Nat) (e2 : Bool) (fs2 : List LF) (q2 : Nat) (f2 : Bool) (ks2 : List LP) (q3 : Nat) (f3 : Bool) (l3 : List Int) (i4 : Int) {r : (T × F)}, s_l09Typing n (fers ks1) (Pf.mk k2 n2 (fers fs2) (pers ks2)) l3 i4 = some r → ∀ (O : Heap) (tk : Nat), ACalls Go.Proofs.Try.prog 110 [.imm q1 3 f1 (fcellss ks1), .agg [.int .i64 k2, .int .i64 n2, .imm p2 3 e2 (fcellss fs2), .imm q2 4 f2 (pcellss ks2)], .imm q3 1 f3 ((l3 : List Int).map fun n => [AV.int .i64 n]), .int .i64 i4] O tk (RetX O tk (fun v tk' => ∃ r0' r1' v0' v1', r = (r0', r1') ∧ v = .tup [v0', v1'] ∧ VT true tk tk' r0' v0' ∧ VF false tk tk' r1' v1'))) : ∀ (q1 : Nat) (f1 : Bool) (ks1 : List LF) (k2 : Int) (n2 : Int) (p2 : Nat) (e2 : Bool) (fs2 : List LF) (q2 : Nat) (f2 : Bool) (ks2 : List LP) (q3 : Nat) (f3 : Bool) (l3 : List Int) (i4 : Int) {r : (T × F)}, s_l09Typing (n + 1) (fers ks1) (Pf.mk k2 n2 (fers fs2) (pers ks2)) l3 i4 = some r → ∀ (O : Heap) (tk : Nat), ACalls Go.Proofs.Try.prog 110 [.imm q1 3 f1 (fcellss ks1), .agg [.int .i64 k2, .int .i64 n2, .imm p2 3 e2 (fcellss fs2), .imm q2 4 f2 (pcellss ks2)], .imm q3 1 f3 ((l3 : List Int).map fun n => [AV.int .i64 n]), .int .i64 i4] O tk (RetX O tk (fun v tk' => ∃ r0' r1' v0' v1', r = (r0', r1') ∧ v = .tup [v0', v1'] ∧ VT true tk tk' r0' v0' ∧ VF false tk tk' r1' v1')) := by
 intro q1 f1 ks1 k2 n2 p2 e2 fs2 q2 f2 ks2 q3 f3 l3 i4 r hM O tk
 rw [s_l09Typing] at hM
 refine acalls_of_run Go.Proofs.Try.func110 rfl rfl [] [] (Bor.nil _) [(0, .imm q1 3 f1 (fcellss ks1)), (1, .agg [.int .i64 k2, .int .i64 n2, .imm p2 3 e2 (fcellss fs2), .imm q2 4 f2 (pcellss ks2)]), (2, .imm q3 1 f3 ((l3 : List Int).map fun n => [AV.int .i64 n])), (3, .int .i64 i4)] (.cons (entS rfl) (.cons (.agg _) (.cons (entS rfl) (.cons (entS rfl) (.nil _))))) (leb rfl) (fun _ h => by cases h) (fun S0 hO htk hfz => ?_)
 refine run_sr ?_
 refine run_op rfl (box_step (d := 5) rfl rfl rfl rfl rfl) rfl (ltb rfl) ?_
 refine run_op rfl (alloc_step (d := 8) hG rfl rfl rfl) rfl (ltb rfl) ?_
 refine run_op rfl (alloc_step (d := 9) hG rfl rfl rfl) rfl (ltb rfl) ?_
 refine run_ops_nil ?_
 refine run_seq ?_
 refine run_sr ?_
 refine yF hG rfl ?_
 refine yD hG rfl ?_
 refine run_ops_nil ?_
 refine run_block ?_
 refine run_sr ?_
 refine yB rfl ?_
 refine yR rfl ?_
 refine run_ops_nil ?_
 refine run_ifd rfl rfl (fun hb5 => ?_) (fun hb5 => ?_)
 ·replace hM := ite_t hb5 hM
  refine run_seq ?_
  refine run_draw [.loc 8, .loc 9] (n := 24) mixed rfl (by intro x hx; simp only [List.mem_cons, List.not_mem_nil, or_false] at hx; rcases hx with rfl | rfl <;> rfl) ?_
  refine yTV 0 (by kernel_rfl) rfl ?_
  refine yT 1 (by kernel_rfl) rfl rfl rfl (ltb rfl) ((abin_step rfl rfl rfl rfl (fun _ h => by cases h)).rd _) ?_
  refine yTV 2 (by kernel_rfl) rfl ?_
  refine yTV 3 (by kernel_rfl) rfl ?_
  refine yT 4 (by kernel_rfl) rfl rfl rfl (ltb rfl) ((lenImm_step hG rfl rfl rfl rfl (ilen _)).rd _) ?_
  refine yT 5 (by kernel_rfl) rfl rfl rfl (ltb rfl) ((abin_step rfl rfl rfl rfl (fun _ h => by cases h)).rd _) ?_
  refine yTF hG 6 (by kernel_rfl) rfl ?_
  refine yTL hG 7 (by kernel_rfl) rfl ?_
  refine yT 8 (by kernel_rfl) rfl rfl rfl (ltb rfl) ((abin_step rfl rfl rfl rfl (fun _ h => by cases h)).rd _) ?_
  obtain ⟨y6, hy7, hM⟩ := bind_t hM
  obtain ⟨hc9, hi10⟩ := iidx (k := .i64) hy7
  refine yT 9 (by kernel_rfl) rfl rfl rfl (ltb rfl) ((indexImm_step hG rfl rfl rfl hi10 rfl rfl rfl rfl hc9).rd _) ?_
  refine yTL hG 10 (by kernel_rfl) rfl ?_
  refine yT 11 (by kernel_rfl) rfl rfl rfl (ltb rfl) ((abin_step rfl rfl rfl rfl (fun _ h => by cases h)).rd _) ?_
  refine yTV 13 (by kernel_rfl) rfl ?_
  refine yTV 14 (by kernel_rfl) rfl ?_
  refine yT 15 (by kernel_rfl) rfl rfl rfl (ltb rfl) ((lenImm_step hG rfl rfl rfl rfl (flen _)).rd _) ?_
  refine yT 16 (by kernel_rfl) rfl rfl rfl (ltb rfl) ((abin_step rfl rfl rfl rfl (fun _ h => by cases h)).rd _) ?_
  refine yTF hG 17 (by kernel_rfl) rfl ?_
  refine yTL hG 18 (by kernel_rfl) rfl ?_
  refine yT 19 (by kernel_rfl) rfl rfl rfl (ltb rfl) ((abin_step rfl rfl rfl rfl (fun _ h => by cases h)).rd _) ?_
  obtain ⟨y11, hy12, hM⟩ := bind_t hM
  obtain ⟨k13, n13, q13, f13, ks13, rfl, hc14, hi15⟩ := fidx (ks := ks1) hy12
  refine yT 20 (by kernel_rfl) rfl rfl rfl (ltb rfl) ((indexImm_step hG rfl rfl rfl hi15 rfl rfl rfl rfl hc14).rd _) ?_
  refine yTL hG 21 (by kernel_rfl) rfl ?_
  refine yC 12 (by kernel_rfl) rfl rfl (ACalls.args (args' := [.int .i64 (IntKind.i64.wrap ((IntKind.i64.wrap (i4 - 2)) - y6)), .imm 0 4 true (cellss [])]) rfl (s_l01Var_ex (IntKind.i64.wrap ((IntKind.i64.wrap (i4 - 2)) - y6)) 0 true [] _ _)) (callK_retN ?_)
  skip
  refine yW hG 22 (by kernel_rfl) rfl (by kernel_rfl) rfl ?_
  refine yW hG 23 (by kernel_rfl) rfl (by kernel_rfl) rfl ?_
  refine AAny.done (by kernel_rfl) ?_
  refine run_ret_to ?_
  replace hM := some_t hM
  subst hM
  refine fin_x hG rfl rfl rfl (v' := .tup [.agg [.int .i64 5, .int .i64 (IntKind.i64.wrap ((IntKind.i64.wrap (i4 - 2)) - y6)), .str ⟨#[]⟩, .imm 0 4 true (cellss [])], .agg [.int .i64 k13, .int .i64 n13, .imm q13 3 f13 (fcellss ks13)]]) (by rfl) ⟨rfl, (show tk ≤ tk by omega), _, rfl, ⟨_, _, _, _, rfl, rfl, ⟨5, (IntKind.i64.wrap ((IntKind.i64.wrap (i4 - 2)) - y6)), ⟨#[]⟩, 0, true, [], rfl, rfl, fun _ => Fr.nil _ _⟩, ⟨k13, n13, q13, f13, ks13, rfl, rfl, fun h => by cases h⟩⟩⟩
 replace hM := ite_f hb5 hM
 refine run_sr ?_
 refine yB rfl ?_
 refine yR rfl ?_
 refine run_ops_nil ?_
 refine run_ifd rfl rfl (fun hb16 => ?_) (fun hb16 => ?_)
 ·replace hM := ite_t hb16 hM
  refine run_sr ?_
  refine yL rfl ?_
  refine yL rfl ?_
  obtain ⟨r17, hg18, hM⟩ := bind_t hM
  refine yK rfl (s_l09Place_ok q3 f3 l3 i4 hg18 _ _) (callK_retX (fun v tk19 (hle20 : tk ≤ tk19) h21 => ?_))
  obtain ⟨q22, f22, rfl⟩ := h21
  refine yR rfl ?_
  refine run_ops_nil ?_
  refine run_seq ?_
  obtain ⟨j24, hj258, hM⟩ := jn_t hM
  refine run_cutL [.code _] (fun σ' => ∃ (i25 : Int) (i26 : Int) (q27 : Nat) (f27 : Bool) (ks27 : List LF) (i28 : Int) (i29 : Int) (t30 : ByteArray) (q31 : Nat) (f31 : Bool) (ks31 : List LT) (tkj24 : Nat), tk19 ≤ tkj24 ∧ Fr tk19 tkj24 (tstoks q31 ks31) ∧ j24 i25 i26 (fers ks27) i28 i29 t30 (ers ks31) = some r ∧ Sub ⟨Go.Proofs.Try.prog, S0, Go.Proofs.Try.f110.ntmps, [], fun _ => False, []⟩ σ' ⟨[(0, .imm q1 3 f1 (fcellss ks1)), (2, .imm q3 1 f3 ((l3 : List Int).map fun n => [AV.int .i64 n])), (3, .int .i64 i4), (5, .optr (.loc 5) 0 0), (8, .optr (.loc 8) 0 0), (9, .optr (.loc 9) 0 0), (10, .imm q22 1 f22 ((r17 : List Int).map fun n => [AV.int .i64 n])), (11, .optr (.loc 11) 0 0), (12, .optr (.loc 12) 0 0)], [(12, ⟨42, 3, true, [[.int .i64 i25, .int .i64 i26, .imm q27 3 f27 (fcellss ks27)]]⟩), (11, ⟨51, 4, true, [[.int .i64 i28, .int .i64 i29, .str t30, .imm q31 4 f31 (cellss ks31)]]⟩), (9, ⟨42, 3, true, [[.int .i64 0, .int .i64 0, .imm 0 3 true []]]⟩), (8, ⟨51, 4, true, [[.int .i64 0, .int .i64 0, .str ⟨#[]⟩, .imm 0 4 true []]]⟩), (5, ⟨40, 4, true, [[.int .i64 k2, .int .i64 n2, .imm p2 3 e2 (fcellss fs2), .imm q2 4 f2 (pcellss ks2)]]⟩)], [], O, tkj24⟩) rfl ?_ ?_
  ·refine run_draw [] (n := 21) mixed rfl (fun _ h => absurd h List.not_mem_nil) ?_
   refine yTV 0 (by kernel_rfl) rfl ?_
   refine yTF hG 1 (by kernel_rfl) rfl ?_
   refine yTL hG 2 (by kernel_rfl) rfl ?_
   obtain ⟨y33, hy34, hM⟩ := bind_t hM
   obtain ⟨k35, n35, q35, f35, ks35, rfl, hc36, hi37⟩ := fidx (ks := fs2) hy34
   refine yT 3 (by kernel_rfl) rfl rfl rfl (ltb rfl) ((indexImm_step hG rfl rfl rfl hi37 rfl rfl rfl rfl hc36).rd _) ?_
   refine yTL hG 4 (by kernel_rfl) rfl ?_
   refine yTF hG 6 (by kernel_rfl) rfl ?_
   refine yTL hG 7 (by kernel_rfl) rfl ?_
   obtain ⟨y38, hy39, hM⟩ := bind_t hM
   obtain ⟨k40, n40, p40, e40, fs40, q40, f40, ks40, rfl, hc41, hi42⟩ := pidx (ks := ks2) hy39
   refine yT 8 (by kernel_rfl) rfl rfl rfl (ltb rfl) ((indexImm_step hG rfl rfl rfl hi42 rfl rfl rfl rfl hc41).rd _) ?_
   refine yTL hG 9 (by kernel_rfl) rfl ?_
   refine yTV 10 (by kernel_rfl) rfl ?_
   refine yTV 11 (by kernel_rfl) rfl ?_
   refine yT 12 (by kernel_rfl) rfl rfl rfl (ltb rfl) ((abin_step rfl rfl rfl rfl (fun _ h => by cases h)).rd _) ?_
   refine AAny.eachN (rs := [5, 17, 18]) (by kernel_rfl) (fun h => by cases h) (fun i hi => ?_)
   simp only [List.mem_cons, List.not_mem_nil, or_false] at hi
   rcases hi with rfl | rfl | rfl
   ·refine AOpN.of ?_
    obtain ⟨r43, hg44, hM⟩ := bind_t hM
    refine yI rfl rfl (s_l09More_ok q1 f1 ks1 k35 n35 q35 f35 ks35 hg44 _ _) (callK_retX (fun v tk45 (hle46 : tk19 ≤ tk45) h47 => ?_))
    obtain ⟨q48, f48, ks48, rfl, rfl, hf49⟩ := h47
    refine AAny.eachN (rs := [13, 17, 18]) (by kernel_rfl) (fun h => by cases h) (fun i hi => ?_)
    simp only [List.mem_cons, List.not_mem_nil, or_false] at hi
    rcases hi with rfl | rfl | rfl
    ·refine AOpN.of ?_
     obtain ⟨r50, hg51, hM⟩ := bind_t hM
     refine yI rfl rfl (ih_s_l09Typing q48 f48 ks48 k40 n40 p40 e40 fs40 q40 f40 ks40 q22 f22 r17 (IntKind.i64.wrap (i4 + 2)) hg51 _ _) (callK_retX (fun v tk52 (hle53 : tk45 ≤ tk52) h54 => ?_))
     obtain ⟨ra59, ra60, va61, va62, rfl, rfl, ⟨k55, n55, s55, q55, f55, ks55, rfl, rfl, hf56⟩, ⟨k57, n57, q57, f57, ks57, rfl, rfl, hf58⟩⟩ := h54
     refine yTV 14 (by kernel_rfl) rfl ?_
     refine yT 15 (by kernel_rfl) rfl rfl rfl (ltb rfl) ((extract_step rfl rfl rfl).rd _) ?_
     refine yT 16 (by kernel_rfl) rfl rfl rfl (ltb rfl) ((extract_step rfl rfl rfl).rd _) ?_
     refine AAny.eachN (rs := [17, 18]) (by kernel_rfl) (fun h => by cases h) (fun i hi => ?_)
     simp only [List.mem_cons, List.not_mem_nil, or_false] at hi
     rcases hi with rfl | rfl
     ·refine AOpN.alloc hG rfl rfl rfl (ltb rfl) rfl rfl rfl ?_
      refine AAny.eachN (rs := [18]) (by kernel_rfl) (fun h => by cases h) (fun i hi => ?_)
      simp only [List.mem_cons, List.not_mem_nil, or_false] at hi
      subst hi
      ·refine AOpN.alloc hG rfl rfl rfl (ltb rfl) rfl rfl rfl ?_
       refine yW hG 19 (by kernel_rfl) rfl (by kernel_rfl) rfl ?_
       refine yW hG 20 (by kernel_rfl) rfl (by kernel_rfl) rfl ?_
       refine AAny.done (by kernel_rfl) ?_
       exact ⟨k57, n57, q57, f57, ks57, k55, n55, s55, q55, f55, ks55, tk52, (show tk19 ≤ tk52 by omega), (show Fr tk19 tk52 _ from ((show Fr tk45 tk52 _ from hf56 rfl)).mono (by omega) (by omega)), hM, Sub.pk [0, 2, 3, 5, 8, 9, 10, 11, 12] rfl⟩
     refine AOpN.alloc hG rfl rfl rfl (ltb rfl) rfl rfl rfl ?_
     refine AAny.eachN (rs := [17]) (by kernel_rfl) (fun h => by cases h) (fun i hi => ?_)
     simp only [List.mem_cons, List.not_mem_nil, or_false] at hi
     subst hi
     ·refine AOpN.alloc hG rfl rfl rfl (ltb rfl) rfl rfl rfl ?_
      refine yW hG 19 (by kernel_rfl) rfl (by kernel_rfl) rfl ?_
      refine yW hG 20 (by kernel_rfl) rfl (by kernel_rfl) rfl ?_
      refine AAny.done (by kernel_rfl) ?_
      exact ⟨k57, n57, q57, f57, ks57, k55, n55, s55, q55, f55, ks55, tk52, (show tk19 ≤ tk52 by omega), (show Fr tk19 tk52 _ from ((show Fr tk45 tk52 _ from hf56 rfl)).mono (by omega) (by omega)), hM, Sub.trans (Sub.perm (.swap _ _ _ _ _ rfl)) (Sub.pk [0, 2, 3, 5, 8, 9, 10, 11, 12] rfl)⟩
    ·refine AOpN.alloc hG rfl rfl rfl (ltb rfl) rfl rfl rfl ?_
     refine AAny.eachN (rs := [13, 18]) (by kernel_rfl) (fun h => by cases h) (fun i hi => ?_)
     simp only [List.mem_cons, List.not_mem_nil, or_false] at hi
     rcases hi with rfl | rfl
     ·refine AOpN.of ?_
      obtain ⟨r63, hg64, hM⟩ := bind_t hM
      refine yI rfl rfl (ih_s_l09Typing q48 f48 ks48 k40 n40 p40 e40 fs40 q40 f40 ks40 q22 f22 r17 (IntKind.i64.wrap (i4 + 2)) hg64 _ _) (callK_retX (fun v tk65 (hle66 : tk45 ≤ tk65) h67 => ?_))
      obtain ⟨ra72, ra73, va74, va75, rfl, rfl, ⟨k68, n68, s68, q68, f68, ks68, rfl, rfl, hf69⟩, ⟨k70, n70, q70, f70, ks70, rfl, rfl, hf71⟩⟩ := h67
      refine yTV 14 (by kernel_rfl) rfl ?_
      refine yT 15 (by kernel_rfl) rfl rfl rfl (ltb rfl) ((extract_step rfl rfl rfl).rd _) ?_
      refine yT 16 (by kernel_rfl) rfl rfl rfl (ltb rfl) ((extract_step rfl rfl rfl).rd _) ?_
      refine AAny.eachN (rs := [18]) (by kernel_rfl) (fun h => by cases h) (fun i hi => ?_)
      simp only [List.mem_cons, List.not_mem_nil, or_false] at hi
      subst hi
      ·refine AOpN.alloc hG rfl rfl rfl (ltb rfl) rfl rfl rfl ?_
       refine yW hG 19 (by kernel_rfl) rfl (by kernel_rfl) rfl ?_
       refine yW hG 20 (by kernel_rfl) rfl (by kernel_rfl) rfl ?_
       refine AAny.done (by kernel_rfl) ?_
       exact ⟨k70, n70, q70, f70, ks70, k68, n68, s68, q68, f68, ks68, tk65, (show tk19 ≤ tk65 by omega), (show Fr tk19 tk65 _ from ((show Fr tk45 tk65 _ from hf69 rfl)).mono (by omega) (by omega)), hM, Sub.pk [0, 2, 3, 5, 8, 9, 10, 11, 12] rfl⟩
     refine AOpN.alloc hG rfl rfl rfl (ltb rfl) rfl rfl rfl ?_
     obtain ⟨r76, hg77, hM⟩ := bind_t hM
     refine yC 13 (by kernel_rfl) rfl rfl (ih_s_l09Typing q48 f48 ks48 k40 n40 p40 e40 fs40 q40 f40 ks40 q22 f22 r17 (IntKind.i64.wrap (i4 + 2)) hg77 _ _) (callK_retX (fun v tk78 (hle79 : tk45 ≤ tk78) h80 => ?_))
     obtain ⟨ra85, ra86, va87, va88, rfl, rfl, ⟨k81, n81, s81, q81, f81, ks81, rfl, rfl, hf82⟩, ⟨k83, n83, q83, f83, ks83, rfl, rfl, hf84⟩⟩ := h80
     refine yTV 14 (by kernel_rfl) rfl ?_
     refine yT 15 (by kernel_rfl) rfl rfl rfl (ltb rfl) ((extract_step rfl rfl rfl).rd _) ?_
     refine yT 16 (by kernel_rfl) rfl rfl rfl (ltb rfl) ((extract_step rfl rfl rfl).rd _) ?_
     refine yW hG 19 (by kernel_rfl) rfl (by kernel_rfl) rfl ?_
     refine yW hG 20 (by kernel_rfl) rfl (by kernel_rfl) rfl ?_
     refine AAny.done (by kernel_rfl) ?_
     exact ⟨k83, n83, q83, f83, ks83, k81, n81, s81, q81, f81, ks81, tk78, (show tk19 ≤ tk78 by omega), (show Fr tk19 tk78 _ from ((show Fr tk45 tk78 _ from hf82 rfl)).mono (by omega) (by omega)), hM, Sub.pk [0, 2, 3, 5, 8, 9, 10, 11, 12] rfl⟩
    refine AOpN.alloc hG rfl rfl rfl (ltb rfl) rfl rfl rfl ?_
    refine AAny.eachN (rs := [13, 17]) (by kernel_rfl) (fun h => by cases h) (fun i hi => ?_)
    simp only [List.mem_cons, List.not_mem_nil, or_false] at hi
    rcases hi with rfl | rfl
    ·refine AOpN.of ?_
     obtain ⟨r89, hg90, hM⟩ := bind_t hM
     refine yI rfl rfl (ih_s_l09Typing q48 f48 ks48 k40 n40 p40 e40 fs40 q40 f40 ks40 q22 f22 r17 (IntKind.i64.wrap (i4 + 2)) hg90 _ _) (callK_retX (fun v tk91 (hle92 : tk45 ≤ tk91) h93 => ?_))
     obtain ⟨ra98, ra99, va100, va101, rfl, rfl, ⟨k94, n94, s94, q94, f94, ks94, rfl, rfl, hf95⟩, ⟨k96, n96, q96, f96, ks96, rfl, rfl, hf97⟩⟩ := h93
     refine yTV 14 (by kernel_rfl) rfl ?_
     refine yT 15 (by kernel_rfl) rfl rfl rfl (ltb rfl) ((extract_step rfl rfl rfl).rd _) ?_
     refine yT 16 (by kernel_rfl) rfl rfl rfl (ltb rfl) ((extract_step rfl rfl rfl).rd _) ?_
     refine AAny.eachN (rs := [17]) (by kernel_rfl) (fun h => by cases h) (fun i hi => ?_)
     simp only [List.mem_cons, List.not_mem_nil, or_false] at hi
     subst hi
     ·refine AOpN.alloc hG rfl rfl rfl (ltb rfl) rfl rfl rfl ?_
      refine yW hG 19 (by kernel_rfl) rfl (by kernel_rfl) rfl ?_
      refine yW hG 20 (by kernel_rfl) rfl (by kernel_rfl) rfl ?_
      refine AAny.done (by kernel_rfl) ?_
      exact ⟨k96, n96, q96, f96, ks96, k94, n94, s94, q94, f94, ks94, tk91, (show tk19 ≤ tk91 by omega), (show Fr tk19 tk91 _ from ((show Fr tk45 tk91 _ from hf95 rfl)).mono (by omega) (by omega)), hM, Sub.trans (Sub.perm (.swap _ _ _ _ _ rfl)) (Sub.pk [0, 2, 3, 5, 8, 9, 10, 11, 12] rfl)⟩
    refine AOpN.alloc hG rfl rfl rfl (ltb rfl) rfl rfl rfl ?_
    obtain ⟨r102, hg103, hM⟩ := bind_t hM
    refine yC 13 (by kernel_rfl) rfl rfl (ih_s_l09Typing q48 f48 ks48 k40 n40 p40 e40 fs40 q40 f40 ks40 q22 f22 r17 (IntKind.i64.wrap (i4 + 2)) hg103 _ _) (callK_retX (fun v tk104 (hle105 : tk45 ≤ tk104) h106 => ?_))
    obtain ⟨ra111, ra112, va113, va114, rfl, rfl, ⟨k107, n107, s107, q107, f107, ks107, rfl, rfl, hf108⟩, ⟨k109, n109, q109, f109, ks109, rfl, rfl, hf110⟩⟩ := h106
    refine yTV 14 (by kernel_rfl) rfl ?_
    refine yT 15 (by kernel_rfl) rfl rfl rfl (ltb rfl) ((extract_step rfl rfl rfl).rd _) ?_
    refine yT 16 (by kernel_rfl) rfl rfl rfl (ltb rfl) ((extract_step rfl rfl rfl).rd _) ?_
    refine yW hG 19 (by kernel_rfl) rfl (by kernel_rfl) rfl ?_
    refine yW hG 20 (by kernel_rfl) rfl (by kernel_rfl) rfl ?_
    refine AAny.done (by kernel_rfl) ?_
    exact ⟨k109, n109, q109, f109, ks109, k107, n107, s107, q107, f107, ks107, tk104, (show tk19 ≤ tk104 by omega), (show Fr tk19 tk104 _ from ((show Fr tk45 tk104 _ from hf108 rfl)).mono (by omega) (by omega)), hM, Sub.trans (Sub.perm (.swap _ _ _ _ _ rfl)) (Sub.pk [0, 2, 3, 5, 8, 9, 10, 11, 12] rfl)⟩
   ·refine AOpN.alloc hG rfl rfl rfl (ltb rfl) rfl rfl rfl ?_
    refine AAny.eachN (rs := [5, 18]) (by kernel_rfl) (fun h => by cases h) (fun i hi => ?_)
    simp only [List.mem_cons, List.not_mem_nil, or_false] at hi
    rcases hi with rfl | rfl
    ·refine AOpN.of ?_
     obtain ⟨r115, hg116, hM⟩ := bind_t hM
     refine yI rfl rfl (s_l09More_ok q1 f1 ks1 k35 n35 q35 f35 ks35 hg116 _ _) (callK_retX (fun v tk117 (hle118 : tk19 ≤ tk117) h119 => ?_))
     obtain ⟨q120, f120, ks120, rfl, rfl, hf121⟩ := h119
     refine AAny.eachN (rs := [13, 18]) (by kernel_rfl) (fun h => by cases h) (fun i hi => ?_)
     simp only [List.mem_cons, List.not_mem_nil, or_false] at hi
     rcases hi with rfl | rfl
     ·refine AOpN.of ?_
      obtain ⟨r122, hg123, hM⟩ := bind_t hM
      refine yI rfl rfl (ih_s_l09Typing q120 f120 ks120 k40 n40 p40 e40 fs40 q40 f40 ks40 q22 f22 r17 (IntKind.i64.wrap (i4 + 2)) hg123 _ _) (callK_retX (fun v tk124 (hle125 : tk117 ≤ tk124) h126 => ?_))
      obtain ⟨ra131, ra132, va133, va134, rfl, rfl, ⟨k127, n127, s127, q127, f127, ks127, rfl, rfl, hf128⟩, ⟨k129, n129, q129, f129, ks129, rfl, rfl, hf130⟩⟩ := h126
      refine yTV 14 (by kernel_rfl) rfl ?_
      refine yT 15 (by kernel_rfl) rfl rfl rfl (ltb rfl) ((extract_step rfl rfl rfl).rd _) ?_
      refine yT 16 (by kernel_rfl) rfl rfl rfl (ltb rfl) ((extract_step rfl rfl rfl).rd _) ?_
      refine AAny.eachN (rs := [18]) (by kernel_rfl) (fun h => by cases h) (fun i hi => ?_)
      simp only [List.mem_cons, List.not_mem_nil, or_false] at hi
      subst hi
      ·refine AOpN.alloc hG rfl rfl rfl (ltb rfl) rfl rfl rfl ?_
       refine yW hG 19 (by kernel_rfl) rfl (by kernel_rfl) rfl ?_
       refine yW hG 20 (by kernel_rfl) rfl (by kernel_rfl) rfl ?_
       refine AAny.done (by kernel_rfl) ?_
       exact ⟨k129, n129, q129, f129, ks129, k127, n127, s127, q127, f127, ks127, tk124, (show tk19 ≤ tk124 by omega), (show Fr tk19 tk124 _ from ((show Fr tk117 tk124 _ from hf128 rfl)).mono (by omega) (by omega)), hM, Sub.pk [0, 2, 3, 5, 8, 9, 10, 11, 12] rfl⟩
     refine AOpN.alloc hG rfl rfl rfl (ltb rfl) rfl rfl rfl ?_
     obtain ⟨r135, hg136, hM⟩ := bind_t hM
     refine yC 13 (by kernel_rfl) rfl rfl (ih_s_l09Typing q120 f120 ks120 k40 n40 p40 e40 fs40 q40 f40 ks40 q22 f22 r17 (IntKind.i64.wrap (i4 + 2)) hg136 _ _) (callK_retX (fun v tk137 (hle138 : tk117 ≤ tk137) h139 => ?_))
     obtain ⟨ra144, ra145, va146, va147, rfl, rfl, ⟨k140, n140, s140, q140, f140, ks140, rfl, rfl, hf141⟩, ⟨k142, n142, q142, f142, ks142, rfl, rfl, hf143⟩⟩ := h139
     refine yTV 14 (by kernel_rfl) rfl ?_
     refine yT 15 (by kernel_rfl) rfl rfl rfl (ltb rfl) ((extract_step rfl rfl rfl).rd _) ?_
     refine yT 16 (by kernel_rfl) rfl rfl rfl (ltb rfl) ((extract_step rfl rfl rfl).rd _) ?_
     refine yW hG 19 (by kernel_rfl) rfl (by kernel_rfl) rfl ?_
     refine yW hG 20 (by kernel_rfl) rfl (by kernel_rfl) rfl ?_
     refine AAny.done (by kernel_rfl) ?_
     exact ⟨k142, n142, q142, f142, ks142, k140, n140, s140, q140, f140, ks140, tk137, (show tk19 ≤ tk137 by omega), (show Fr tk19 tk137 _ from ((show Fr tk117 tk137 _ from hf141 rfl)).mono (by omega) (by omega)), hM, Sub.pk [0, 2, 3, 5, 8, 9, 10, 11, 12] rfl⟩
    refine AOpN.alloc hG rfl rfl rfl (ltb rfl) rfl rfl rfl ?_
    obtain ⟨r148, hg149, hM⟩ := bind_t hM
    refine yC 5 (by kernel_rfl) rfl rfl (s_l09More_ok q1 f1 ks1 k35 n35 q35 f35 ks35 hg149 _ _) (callK_retX (fun v tk150 (hle151 : tk19 ≤ tk150) h152 => ?_))
    obtain ⟨q153, f153, ks153, rfl, rfl, hf154⟩ := h152
    obtain ⟨r155, hg156, hM⟩ := bind_t hM
    refine yC 13 (by kernel_rfl) rfl rfl (ih_s_l09Typing q153 f153 ks153 k40 n40 p40 e40 fs40 q40 f40 ks40 q22 f22 r17 (IntKind.i64.wrap (i4 + 2)) hg156 _ _) (callK_retX (fun v tk157 (hle158 : tk150 ≤ tk157) h159 => ?_))
    obtain ⟨ra164, ra165, va166, va167, rfl, rfl, ⟨k160, n160, s160, q160, f160, ks160, rfl, rfl, hf161⟩, ⟨k162, n162, q162, f162, ks162, rfl, rfl, hf163⟩⟩ := h159
    refine yTV 14 (by kernel_rfl) rfl ?_
    refine yT 15 (by kernel_rfl) rfl rfl rfl (ltb rfl) ((extract_step rfl rfl rfl).rd _) ?_
    refine yT 16 (by kernel_rfl) rfl rfl rfl (ltb rfl) ((extract_step rfl rfl rfl).rd _) ?_
    refine yW hG 19 (by kernel_rfl) rfl (by kernel_rfl) rfl ?_
    refine yW hG 20 (by kernel_rfl) rfl (by kernel_rfl) rfl ?_
    refine AAny.done (by kernel_rfl) ?_
    exact ⟨k162, n162, q162, f162, ks162, k160, n160, s160, q160, f160, ks160, tk157, (show tk19 ≤ tk157 by omega), (show Fr tk19 tk157 _ from ((show Fr tk150 tk157 _ from hf161 rfl)).mono (by omega) (by omega)), hM, Sub.pk [0, 2, 3, 5, 8, 9, 10, 11, 12] rfl⟩
   refine AOpN.alloc hG rfl rfl rfl (ltb rfl) rfl rfl rfl ?_
   refine AAny.eachN (rs := [5, 17]) (by kernel_rfl) (fun h => by cases h) (fun i hi => ?_)
   simp only [List.mem_cons, List.not_mem_nil, or_false] at hi
   rcases hi with rfl | rfl
   ·refine AOpN.of ?_
    obtain ⟨r168, hg169, hM⟩ := bind_t hM
    refine yI rfl rfl (s_l09More_ok q1 f1 ks1 k35 n35 q35 f35 ks35 hg169 _ _) (callK_retX (fun v tk170 (hle171 : tk19 ≤ tk170) h172 => ?_))
    obtain ⟨q173, f173, ks173, rfl, rfl, hf174⟩ := h172
    refine AAny.eachN (rs := [13, 17]) (by kernel_rfl) (fun h => by cases h) (fun i hi => ?_)
    simp only [List.mem_cons, List.not_mem_nil, or_false] at hi
    rcases hi with rfl | rfl
    ·refine AOpN.of ?_
     obtain ⟨r175, hg176, hM⟩ := bind_t hM
     refine yI rfl rfl (ih_s_l09Typing q173 f173 ks173 k40 n40 p40 e40 fs40 q40 f40 ks40 q22 f22 r17 (IntKind.i64.wrap (i4 + 2)) hg176 _ _) (callK_retX (fun v tk177 (hle178 : tk170 ≤ tk177) h179 => ?_))
     obtain ⟨ra184, ra185, va186, va187, rfl, rfl, ⟨k180, n180, s180, q180, f180, ks180, rfl, rfl, hf181⟩, ⟨k182, n182, q182, f182, ks182, rfl, rfl, hf183⟩⟩ := h179
     refine yTV 14 (by kernel_rfl) rfl ?_
     refine yT 15 (by kernel_rfl) rfl rfl rfl (ltb rfl) ((extract_step rfl rfl rfl).rd _) ?_
     refine yT 16 (by kernel_rfl) rfl rfl rfl (ltb rfl) ((extract_step rfl rfl rfl).rd _) ?_
     refine AAny.eachN (rs := [17]) (by kernel_rfl) (fun h => by cases h) (fun i hi => ?_)
     simp only [List.mem_cons, List.not_mem_nil, or_false] at hi
     subst hi
     ·refine AOpN.alloc hG rfl rfl rfl (ltb rfl) rfl rfl rfl ?_
      refine yW hG 19 (by kernel_rfl) rfl (by kernel_rfl) rfl ?_
      refine yW hG 20 (by kernel_rfl) rfl (by kernel_rfl) rfl ?_
      refine AAny.done (by kernel_rfl) ?_
      exact ⟨k182, n182, q182, f182, ks182, k180, n180, s180, q180, f180, ks180, tk177, (show tk19 ≤ tk177 by omega), (show Fr tk19 tk177 _ from ((show Fr tk170 tk177 _ from hf181 rfl)).mono (by omega) (by omega)), hM, Sub.trans (Sub.perm (.swap _ _ _ _ _ rfl)) (Sub.pk [0, 2, 3, 5, 8, 9, 10, 11, 12] rfl)⟩
    refine AOpN.alloc hG rfl rfl rfl (ltb rfl) rfl rfl rfl ?_
    obtain ⟨r188, hg189, hM⟩ := bind_t hM
    refine yC 13 (by kernel_rfl) rfl rfl (ih_s_l09Typing q173 f173 ks173 k40 n40 p40 e40 fs40 q40 f40 ks40 q22 f22 r17 (IntKind.i64.wrap (i4 + 2)) hg189 _ _) (callK_retX (fun v tk190 (hle191 : tk170 ≤ tk190) h192 => ?_))
    obtain ⟨ra197, ra198, va199, va200, rfl, rfl, ⟨k193, n193, s193, q193, f193, ks193, rfl, rfl, hf194⟩, ⟨k195, n195, q195, f195, ks195, rfl, rfl, hf196⟩⟩ := h192
    refine yTV 14 (by kernel_rfl) rfl ?_
    refine yT 15 (by kernel_rfl) rfl rfl rfl (ltb rfl) ((extract_step rfl rfl rfl).rd _) ?_
    refine yT 16 (by kernel_rfl) rfl rfl rfl (ltb rfl) ((extract_step rfl rfl rfl).rd _) ?_
    refine yW hG 19 (by kernel_rfl) rfl (by kernel_rfl) rfl ?_
    refine yW hG 20 (by kernel_rfl) rfl (by kernel_rfl) rfl ?_
    refine AAny.done (by kernel_rfl) ?_
    exact ⟨k195, n195, q195, f195, ks195, k193, n193, s193, q193, f193, ks193, tk190, (show tk19 ≤ tk190 by omega), (show Fr tk19 tk190 _ from ((show Fr tk170 tk190 _ from hf194 rfl)).mono (by omega) (by omega)), hM, Sub.trans (Sub.perm (.swap _ _ _ _ _ rfl)) (Sub.pk [0, 2, 3, 5, 8, 9, 10, 11, 12] rfl)⟩
   refine AOpN.alloc hG rfl rfl rfl (ltb rfl) rfl rfl rfl ?_
   obtain ⟨r201, hg202, hM⟩ := bind_t hM
   refine yC 5 (by kernel_rfl) rfl rfl (s_l09More_ok q1 f1 ks1 k35 n35 q35 f35 ks35 hg202 _ _) (callK_retX (fun v tk203 (hle204 : tk19 ≤ tk203) h205 => ?_))
   obtain ⟨q206, f206, ks206, rfl, rfl, hf207⟩ := h205
   obtain ⟨r208, hg209, hM⟩ := bind_t hM
   refine yC 13 (by kernel_rfl) rfl rfl (ih_s_l09Typing q206 f206 ks206 k40 n40 p40 e40 fs40 q40 f40 ks40 q22 f22 r17 (IntKind.i64.wrap (i4 + 2)) hg209 _ _) (callK_retX (fun v tk210 (hle211 : tk203 ≤ tk210) h212 => ?_))
   obtain ⟨ra217, ra218, va219, va220, rfl, rfl, ⟨k213, n213, s213, q213, f213, ks213, rfl, rfl, hf214⟩, ⟨k215, n215, q215, f215, ks215, rfl, rfl, hf216⟩⟩ := h212
   refine yTV 14 (by kernel_rfl) rfl ?_
   refine yT 15 (by kernel_rfl) rfl rfl rfl (ltb rfl) ((extract_step rfl rfl rfl).rd _) ?_
   refine yT 16 (by kernel_rfl) rfl rfl rfl (ltb rfl) ((extract_step rfl rfl rfl).rd _) ?_
   refine yW hG 19 (by kernel_rfl) rfl (by kernel_rfl) rfl ?_
   refine yW hG 20 (by kernel_rfl) rfl (by kernel_rfl) rfl ?_
   refine AAny.done (by kernel_rfl) ?_
   exact ⟨k215, n215, q215, f215, ks215, k213, n213, s213, q213, f213, ks213, tk210, (show tk19 ≤ tk210 by omega), (show Fr tk19 tk210 _ from ((show Fr tk203 tk210 _ from hf214 rfl)).mono (by omega) (by omega)), hM, Sub.trans (Sub.perm (.swap _ _ _ _ _ rfl)) (Sub.pk [0, 2, 3, 5, 8, 9, 10, 11, 12] rfl)⟩
  clear hM
  rintro σ' ⟨i25, i26, q27, f27, ks27, i28, i29, t30, q31, f31, ks31, tkj24, hle257, hfr32, hM, hsub⟩
  rw [hj258] at hM
  clear hj258
  refine run_sub_code hsub ?_
  refine run_sr ?_
  refine yF hG rfl ?_
  refine yD hG rfl ?_
  obtain ⟨y221, hy222, hM⟩ := bind_t hM
  obtain ⟨k223, n223, p223, e223, fs223, q223, f223, ks223, rfl, hc224, hi225⟩ := pidx (ks := ks2) hy222
  refine run_pu rfl (indexImm_step hG rfl rfl rfl hi225 rfl rfl rfl rfl hc224) rfl (ltb rfl) ?_
  refine yD hG rfl ?_
  refine yL rfl ?_
  refine yL rfl ?_
  refine yB rfl ?_
  obtain ⟨r226, hg227, hM⟩ := bind_t hM
  refine yK rfl (s_l09Tree_ok n k223 n223 p223 e223 fs223 q223 f223 ks223 q22 f22 r17 (IntKind.i64.wrap (i4 + 1)) hg227 _ _) (callK_retX (fun v tk228 (hle229 : tkj24 ≤ tk228) h230 => ?_))
  obtain ⟨k231, n231, s231, q231, f231, ks231, rfl, rfl, hf232⟩ := h230
  refine yK rfl (s_l01Lam_ex k231 n231 s231 q231 f231 ks231 _ _) (callK_retN ?_)
  skip
  refine run_op rfl (alloc_step (d := 13) hG rfl rfl rfl) rfl (ltb rfl) ?_
  refine yS hG rfl ?_
  refine run_ops_nil ?_
  refine run_seq ?_
  refine run_draw [.loc 8, .loc 9] (n := 21) mixed rfl (by intro x hx; simp only [List.mem_cons, List.not_mem_nil, or_false] at hx; rcases hx with rfl | rfl <;> rfl) ?_
  refine yTF hG 0 (by kernel_rfl) rfl ?_
  refine yTL hG 1 (by kernel_rfl) rfl ?_
  obtain ⟨y233, hy234, hM⟩ := bind_t hM
  obtain ⟨k235, n235, q235, f235, ks235, rfl, hc236, hi237⟩ := fidx (ks := fs2) hy234
  refine yT 2 (by kernel_rfl) rfl rfl rfl (ltb rfl) ((indexImm_step hG rfl rfl rfl hi237 rfl rfl rfl rfl hc236).rd _) ?_
  refine yTL hG 3 (by kernel_rfl) rfl ?_
  refine yTL hG 5 (by kernel_rfl) rfl ?_
  refine yTL hG 7 (by kernel_rfl) rfl ?_
  refine yTL hG 8 (by kernel_rfl) rfl ?_
  refine yTF hG 13 (by kernel_rfl) rfl ?_
  refine yTL hG 14 (by kernel_rfl) rfl ?_
  obtain ⟨y238, hy239, hM⟩ := bind_t hM
  obtain ⟨k240, n240, q240, f240, ks240, rfl, hc241, hi242⟩ := fidx (ks := fs2) hy239
  refine yT 15 (by kernel_rfl) rfl rfl rfl (ltb rfl) ((indexImm_step hG rfl rfl rfl hi242 rfl rfl rfl rfl hc241).rd _) ?_
  refine yTL hG 16 (by kernel_rfl) rfl ?_
  refine yTL hG 17 (by kernel_rfl) rfl ?_
  obtain ⟨r243, hg244, hM⟩ := bind_t hM
  refine yC 4 (by kernel_rfl) rfl rfl (s_l09TypeTree_ok n k235 n235 q235 f235 ks235 hg244 _ _) (callK_retX (fun v tk245 (hle246 : (tk228 + 1) ≤ tk245) h247 => ?_))
  obtain ⟨k248, n248, s248, q248, f248, ks248, rfl, rfl, hf249⟩ := h247
  obtain ⟨r250, hg251, hM⟩ := bind_t hM
  refine yC 6 (by kernel_rfl) rfl rfl (s_l09TypeTree_ok n i25 i26 q27 f27 ks27 hg251 _ _) (callK_retX (fun v tk252 (hle253 : tk245 ≤ tk252) h254 => ?_))
  obtain ⟨k255, n255, s255, q255, f255, ks255, rfl, rfl, hf256⟩ := h254
  refine yC 9 (by kernel_rfl) rfl rfl (s_l01Lam_ex i28 i29 t30 q31 f31 ks31 _ _) (callK_retN ?_)
  skip
  refine yC 10 (by kernel_rfl) rfl rfl (s_l01Lam_ex 4 0 ⟨#[]⟩ tk252 false [LT.mk i28 i29 t30 q31 f31 ks31] _ _) (callK_retN ?_)
  skip
  refine AAny.one (i := 11) (by kernel_rfl) (AOp.step rfl rfl rfl (ltb rfl) (buildSlice_step (d := 86) hG rfl rfl rfl rfl rfl (by rfl) (by rfl) (by rfl) (by decide)) (fun _ h => absurd h List.not_mem_nil) ?_)
  refine AAny.sub (Sub.freeze (k := 86) rfl rfl) (by intro x hx; simp only [List.mem_cons, List.not_mem_nil, or_false] at hx; rcases hx with rfl | rfl <;> rfl) ?_
  refine yC 12 (by kernel_rfl) rfl rfl (s_l04Neutral_ex ⟨#[111, 102, 108, 97, 109]⟩ ((tk252 + 1) + 1) false [LT.mk k248 n248 s248 q248 f248 ks248, LT.mk k255 n255 s255 q255 f255 ks255, LT.mk 4 0 ⟨#[]⟩ tk228 false [LT.mk k231 n231 s231 q231 f231 ks231], LT.mk 4 0 ⟨#[]⟩ (tk252 + 1) false [LT.mk 4 0 ⟨#[]⟩ tk252 false [LT.mk i28 i29 t30 q31 f31 ks31]]] _ _) (callK_retN ?_)
  skip
  refine yC 18 (by kernel_rfl) rfl rfl (s_l09Fun_ex k240 n240 q240 f240 ks240 i25 i26 q27 f27 ks27 _ _) (callK_retN ?_)
  skip
  refine yW hG 19 (by kernel_rfl) rfl (by kernel_rfl) rfl ?_
  refine yW hG 20 (by kernel_rfl) rfl (by kernel_rfl) rfl ?_
  refine AAny.done (by kernel_rfl) ?_
  refine run_ret_to ?_
  replace hM := some_t hM
  subst hM
  refine fin_x hG rfl rfl rfl (v' := .tup [.agg [.int .i64 6, .int .i64 0, .str ⟨#[111, 102, 108, 97, 109]⟩, .imm ((tk252 + 1) + 1) 4 false (cellss [LT.mk k248 n248 s248 q248 f248 ks248, LT.mk k255 n255 s255 q255 f255 ks255, LT.mk 4 0 ⟨#[]⟩ tk228 false [LT.mk k231 n231 s231 q231 f231 ks231], LT.mk 4 0 ⟨#[]⟩ (tk252 + 1) false [LT.mk 4 0 ⟨#[]⟩ tk252 false [LT.mk i28 i29 t30 q31 f31 ks31]]])], .agg [.int .i64 2, .int .i64 0, .imm (((tk252 + 1) + 1) + 1) 3 false (fcellss [LF.mk k240 n240 q240 f240 ks240, LF.mk i25 i26 q27 f27 ks27])]]) (by rfl) ⟨rfl, (show tk ≤ ((((tk252 + 1) + 1) + 1) + 1) by omega), _, rfl, ⟨_, _, _, _, rfl, rfl, ⟨6, 0, ⟨#[111, 102, 108, 97, 109]⟩, ((tk252 + 1) + 1), false, [LT.mk k248 n248 s248 q248 f248 ks248, LT.mk k255 n255 s255 q255 f255 ks255, LT.mk 4 0 ⟨#[]⟩ tk228 false [LT.mk k231 n231 s231 q231 f231 ks231], LT.mk 4 0 ⟨#[]⟩ (tk252 + 1) false [LT.mk 4 0 ⟨#[]⟩ tk252 false [LT.mk i28 i29 t30 q31 f31 ks31]]], rfl, rfl, fun _ => (show Fr tk ((((tk252 + 1) + 1) + 1) + 1) _ from (show Fr tk19 (((tk252 + 1) + 1) + 1) _ from Fr.tstop (show Fr tk19 ((tk252 + 1) + 1) _ from (Fr.tconsS (show Fr (tk228 + 1) tk245 _ from (show Fr (tk228 + 1) tk245 _ from hf249 rfl)) (show Fr tk19 ((tk252 + 1) + 1) _ from (Fr.tconsS (show Fr tk245 tk252 _ from (show Fr tk245 tk252 _ from hf256 rfl)) (show Fr tk19 ((tk252 + 1) + 1) _ from (Fr.tconsS (show Fr tkj24 (tk228 + 1) _ from show Fr tkj24 (tk228 + 1) _ from Fr.tstop (show Fr tkj24 tk228 _ from (Fr.tcons ((show Fr tkj24 tk228 _ from hf232 rfl)) (show Fr tk228 tk228 _ from Fr.nil _ _) (by omega) (by omega)).mono (by omega) (by omega)) (by omega) (by omega)) (show Fr tk19 ((tk252 + 1) + 1) _ from (Fr.tcons (show Fr tk19 ((tk252 + 1) + 1) _ from Fr.tstop (show Fr tk19 (tk252 + 1) _ from (Fr.tcons (show Fr tk19 (tk252 + 1) _ from Fr.tstop (show Fr tk19 tk252 _ from (Fr.tcons (hfr32) (show Fr tkj24 tkj24 _ from Fr.nil _ _) (by omega) (by omega)).mono (by omega) (by omega)) (by omega) (by omega)) (show Fr (tk252 + 1) (tk252 + 1) _ from Fr.nil _ _) (by omega) (by omega)).mono (by omega) (by omega)) (by omega) (by omega)) (show Fr ((tk252 + 1) + 1) ((tk252 + 1) + 1) _ from Fr.nil _ _) (by omega) (by omega)).mono (by omega) (by omega)) (Apart.tcons (Apart.tstop (by omega) (Apart.tcons (Apart.tstop (by omega) (Apart.tcons (Apart.of (show Fr tk19 tkj24 _ from hfr32) (by omega)) (Apart.nil _ _))) (Apart.nil _ _))) (Apart.nil _ _)) (by omega) (by omega)).mono (by omega) (by omega)) (Apart.tcons (Apart.tstop (by omega) (Apart.tcons (Apart.of (show Fr tkj24 tk228 _ from (show Fr tkj24 tk228 _ from hf232 rfl)) (by omega)) (Apart.nil _ _))) (Apart.tcons (Apart.tstop (by omega) (Apart.tcons (Apart.tstop (by omega) (Apart.tcons (Apart.of (show Fr tk19 tkj24 _ from hfr32) (by omega)) (Apart.nil _ _))) (Apart.nil _ _))) (Apart.nil _ _))) (by omega) (by omega)).mono (by omega) (by omega)) (Apart.tcons (Apart.of (show Fr tk245 tk252 _ from (show Fr tk245 tk252 _ from hf256 rfl)) (by omega)) (Apart.tcons (Apart.tstop (by omega) (Apart.tcons (Apart.of (show Fr tkj24 tk228 _ from (show Fr tkj24 tk228 _ from hf232 rfl)) (by omega)) (Apart.nil _ _))) (Apart.tcons (Apart.tstop (by omega) (Apart.tcons (Apart.tstop (by omega) (Apart.tcons (Apart.of (show Fr tk19 tkj24 _ from hfr32) (by omega)) (Apart.nil _ _))) (Apart.nil _ _))) (Apart.nil _ _)))) (by omega) (by omega)).mono (by omega) (by omega)) (by omega) (by omega)).mono (by omega) (by omega))⟩, ⟨2, 0, (((tk252 + 1) + 1) + 1), false, [LF.mk k240 n240 q240 f240 ks240, LF.mk i25 i26 q27 f27 ks27], rfl, rfl, fun h => by cases h⟩⟩⟩
 replace hM := ite_f hb16 hM
 refine run_skip ?_
 refine run_blk ?_
 refine run_sr ?_
 refine yL rfl ?_
 refine yF hG rfl ?_
 refine yD hG rfl ?_
 obtain ⟨y259, hy260, hM⟩ := bind_t hM
 obtain ⟨k261, n261, p261, e261, fs261, q261, f261, ks261, rfl, hc262, hi263⟩ := pidx (ks := ks2) hy260
 refine run_pu rfl (indexImm_step hG rfl rfl rfl hi263 rfl rfl rfl rfl hc262) rfl (ltb rfl) ?_
 refine yD hG rfl ?_
 refine yL rfl ?_
 refine yL rfl ?_
 obtain ⟨r264, hg265, hM⟩ := bind_t hM
 refine yK rfl (ih_s_l09Typing q1 f1 ks1 k261 n261 p261 e261 fs261 q261 f261 ks261 q3 f3 l3 i4 hg265 _ _) (callK_retX (fun v tk266 (hle267 : tk ≤ tk266) h268 => ?_))
 obtain ⟨ra273, ra274, va275, va276, rfl, rfl, ⟨k269, n269, s269, q269, f269, ks269, rfl, rfl, hf270⟩, ⟨k271, n271, q271, f271, ks271, rfl, rfl, hf272⟩⟩ := h268
 refine yL rfl ?_
 refine run_pu rfl (extract_step rfl rfl rfl) rfl (ltb rfl) ?_
 refine run_pu rfl (extract_step rfl rfl rfl) rfl (ltb rfl) ?_
 refine run_op rfl (alloc_step (d := 14) hG rfl rfl rfl) rfl (ltb rfl) ?_
 refine run_op rfl (alloc_step (d := 15) hG rfl rfl rfl) rfl (ltb rfl) ?_
 refine yS hG rfl ?_
 refine yS hG rfl ?_
 refine run_ops_nil ?_
 refine run_sub_code (σ' := ⟨[(0, .imm q1 3 f1 (fcellss ks1)), (2, .imm q3 1 f3 ((l3 : List Int).map fun n => [AV.int .i64 n])), (3, .int .i64 i4), (5, .optr (.loc 5) 0 0), (8, .optr (.loc 8) 0 0), (9, .optr (.loc 9) 0 0), (14, .optr (.loc 14) 0 0), (15, .optr (.loc 15) 0 0)], [(15, ⟨42, 3, true, [[.int .i64 k271, .int .i64 n271, .imm q271 3 f271 (fcellss ks271)]]⟩), (14, ⟨51, 4, true, [[.int .i64 k269, .int .i64 n269, .str s269, .imm q269 4 f269 (cellss ks269)]]⟩), (9, ⟨42, 3, true, [[.int .i64 0, .int .i64 0, .imm 0 3 true []]]⟩), (8, ⟨51, 4, true, [[.int .i64 0, .int .i64 0, .str ⟨#[]⟩, .imm 0 4 true []]]⟩), (5, ⟨40, 4, true, [[.int .i64 k2, .int .i64 n2, .imm p2 3 e2 (fcellss fs2), .imm q2 4 f2 (pcellss ks2)]]⟩)], [], O, tk266⟩) (Sub.env _ ⟨rfl, rfl, rfl, rfl, rfl, rfl, rfl, rfl, trivial⟩) ?_
 refine run_sr ?_
 refine yL rfl ?_
 refine yF hG rfl ?_
 refine yD hG rfl ?_
 obtain ⟨y277, hy278, hM⟩ := bind_t hM
 obtain ⟨k279, n279, p279, e279, fs279, q279, f279, ks279, rfl, hc280, hi281⟩ := pidx (ks := ks2) hy278
 refine run_pu rfl (indexImm_step hG rfl rfl rfl hi281 rfl rfl rfl rfl hc280) rfl (ltb rfl) ?_
 refine yD hG rfl ?_
 refine yL rfl ?_
 refine yL rfl ?_
 obtain ⟨r282, hg283, hM⟩ := bind_t hM
 refine yK rfl (ih_s_l09Typing q1 f1 ks1 k279 n279 p279 e279 fs279 q279 f279 ks279 q3 f3 l3 i4 hg283 _ _) (callK_retX (fun v tk284 (hle285 : tk266 ≤ tk284) h286 => ?_))
 obtain ⟨ra291, ra292, va293, va294, rfl, rfl, ⟨k287, n287, s287, q287, f287, ks287, rfl, rfl, hf288⟩, ⟨k289, n289, q289, f289, ks289, rfl, rfl, hf290⟩⟩ := h286
 refine yL rfl ?_
 refine run_pu rfl (extract_step rfl rfl rfl) rfl (ltb rfl) ?_
 refine run_pu rfl (extract_step rfl rfl rfl) rfl (ltb rfl) ?_
 refine run_op rfl (alloc_step (d := 16) hG rfl rfl rfl) rfl (ltb rfl) ?_
 refine run_op rfl (alloc_step (d := 17) hG rfl rfl rfl) rfl (ltb rfl) ?_
 refine yS hG rfl ?_
 refine yS hG rfl ?_
 refine run_ops_nil ?_
 refine run_sub_code (σ' := ⟨[(2, .imm q3 1 f3 ((l3 : List Int).map fun n => [AV.int .i64 n])), (3, .int .i64 i4), (5, .optr (.loc 5) 0 0), (8, .optr (.loc 8) 0 0), (9, .optr (.loc 9) 0 0), (14, .optr (.loc 14) 0 0), (15, .optr (.loc 15) 0 0), (16, .optr (.loc 16) 0 0), (17, .optr (.loc 17) 0 0)], [(17, ⟨42, 3, true, [[.int .i64 k289, .int .i64 n289, .imm q289 3 f289 (fcellss ks289)]]⟩), (16, ⟨51, 4, true, [[.int .i64 k287, .int .i64 n287, .str s287, .imm q287 4 f287 (cellss ks287)]]⟩), (15, ⟨42, 3, true, [[.int .i64 k271, .int .i64 n271, .imm q271 3 f271 (fcellss ks271)]]⟩), (14, ⟨51, 4, true, [[.int .i64 k269, .int .i64 n269, .str s269, .imm q269 4 f269 (cellss ks269)]]⟩), (9, ⟨42, 3, true, [[.int .i64 0, .int .i64 0, .imm 0 3 true []]]⟩), (8, ⟨51, 4, true, [[.int .i64 0, .int .i64 0, .str ⟨#[]⟩, .imm 0 4 true []]]⟩), (5, ⟨40, 4, true, [[.int .i64 k2, .int .i64 n2, .imm p2 3 e2 (fcellss fs2), .imm q2 4 f2 (pcellss ks2)]]⟩)], [], O, tk284⟩) (Sub.env _ ⟨rfl, rfl, rfl, rfl, rfl, rfl, rfl, rfl, rfl, trivial⟩) ?_
 refine run_seq ?_
 refine run_draw [.loc 8, .loc 9] (n := 31) mixed rfl (by intro x hx; simp only [List.mem_cons, List.not_mem_nil, or_false] at hx; rcases hx with rfl | rfl <;> rfl) ?_
 refine yTF hG 0 (by kernel_rfl) rfl ?_
 refine yTL hG 1 (by kernel_rfl) rfl ?_
 obtain ⟨y295, hy296, hM⟩ := bind_t hM
 obtain ⟨k297, n297, p297, e297, fs297, q297, f297, ks297, rfl, hc298, hi299⟩ := pidx (ks := ks2) hy296
 refine yT 2 (by kernel_rfl) rfl rfl rfl (ltb rfl) ((indexImm_step hG rfl rfl rfl hi299 rfl rfl rfl rfl hc298).rd _) ?_
 refine yTL hG 3 (by kernel_rfl) rfl ?_
 refine yTV 4 (by kernel_rfl) rfl ?_
 refine yTV 5 (by kernel_rfl) rfl ?_
 refine yTF hG 7 (by kernel_rfl) rfl ?_
 refine yTL hG 8 (by kernel_rfl) rfl ?_
 obtain ⟨y300, hy301, hM⟩ := bind_t hM
 obtain ⟨k302, n302, p302, e302, fs302, q302, f302, ks302, rfl, hc303, hi304⟩ := pidx (ks := ks2) hy301
 refine yT 9 (by kernel_rfl) rfl rfl rfl (ltb rfl) ((indexImm_step hG rfl rfl rfl hi304 rfl rfl rfl rfl hc303).rd _) ?_
 refine yTL hG 10 (by kernel_rfl) rfl ?_
 refine yTV 11 (by kernel_rfl) rfl ?_
 refine yTV 12 (by kernel_rfl) rfl ?_
 refine yTL hG 14 (by kernel_rfl) rfl ?_
 refine yTF hG 16 (by kernel_rfl) rfl ?_
 refine yTL hG 17 (by kernel_rfl) rfl ?_
 obtain ⟨y305, hy306, hM⟩ := bind_t hM
 obtain ⟨k307, n307, q307, f307, ks307, rfl, hc308, hi309⟩ := fidx (ks := ks271) hy306
 refine yT 18 (by kernel_rfl) rfl rfl rfl (ltb rfl) ((indexImm_step hG rfl rfl rfl hi309 rfl rfl rfl rfl hc308).rd _) ?_
 refine yTL hG 19 (by kernel_rfl) rfl ?_
 refine yTL hG 21 (by kernel_rfl) rfl ?_
 refine yTL hG 22 (by kernel_rfl) rfl ?_
 refine yTF hG 25 (by kernel_rfl) rfl ?_
 refine yTL hG 26 (by kernel_rfl) rfl ?_
 obtain ⟨y310, hy311, hM⟩ := bind_t hM
 obtain ⟨k312, n312, q312, f312, ks312, rfl, hc313, hi314⟩ := fidx (ks := ks271) hy311
 refine yT 27 (by kernel_rfl) rfl rfl rfl (ltb rfl) ((indexImm_step hG rfl rfl rfl hi314 rfl rfl rfl rfl hc313).rd _) ?_
 refine yTL hG 28 (by kernel_rfl) rfl ?_
 obtain ⟨r315, hg316, hM⟩ := bind_t hM
 refine yC 6 (by kernel_rfl) rfl rfl (s_l09Tree_ok n k297 n297 p297 e297 fs297 q297 f297 ks297 q3 f3 l3 i4 hg316 _ _) (callK_retX (fun v tk317 (hle318 : tk284 ≤ tk317) h319 => ?_))
 obtain ⟨k320, n320, s320, q320, f320, ks320, rfl, rfl, hf321⟩ := h319
 obtain ⟨r322, hg323, hM⟩ := bind_t hM
 refine yC 13 (by kernel_rfl) rfl rfl (s_l09Tree_ok n k302 n302 p302 e302 fs302 q302 f302 ks302 q3 f3 l3 i4 hg323 _ _) (callK_retX (fun v tk324 (hle325 : tk317 ≤ tk324) h326 => ?_))
 obtain ⟨k327, n327, s327, q327, f327, ks327, rfl, rfl, hf328⟩ := h326
 obtain ⟨r329, hg330, hM⟩ := bind_t hM
 refine yC 15 (by kernel_rfl) rfl rfl (s_l09TypeTree_ok n k289 n289 q289 f289 ks289 hg330 _ _) (callK_retX (fun v tk331 (hle332 : tk324 ≤ tk331) h333 => ?_))
 obtain ⟨k334, n334, s334, q334, f334, ks334, rfl, rfl, hf335⟩ := h333
 obtain ⟨r336, hg337, hM⟩ := bind_t hM
 refine yC 20 (by kernel_rfl) rfl rfl (s_l09TypeTree_ok n k307 n307 q307 f307 ks307 hg337 _ _) (callK_retX (fun v tk338 (hle339 : tk331 ≤ tk338) h340 => ?_))
 obtain ⟨k341, n341, s341, q341, f341, ks341, rfl, rfl, hf342⟩ := h340
 refine AAny.one (i := 23) (by kernel_rfl) (AOp.step rfl rfl rfl (ltb rfl) (buildSlice_step (d := 139) hG rfl rfl rfl rfl rfl (by rfl) (by rfl) (by rfl) (by decide)) (fun _ h => absurd h List.not_mem_nil) ?_)
 refine AAny.sub (Sub.freeze (k := 139) rfl rfl) (by intro x hx; simp only [List.mem_cons, List.not_mem_nil, or_false] at hx; rcases hx with rfl | rfl <;> rfl) ?_
 refine yC 24 (by kernel_rfl) rfl rfl (s_l04Neutral_ex ⟨#[111, 102, 97, 112, 112]⟩ tk338 false [LT.mk k320 n320 s320 q320 f320 ks320, LT.mk k327 n327 s327 q327 f327 ks327, LT.mk k334 n334 s334 q334 f334 ks334, LT.mk k341 n341 s341 q341 f341 ks341, LT.mk k269 n269 s269 q269 f269 ks269, LT.mk k287 n287 s287 q287 f287 ks287] _ _) (callK_retN ?_)
 skip
 refine yW hG 29 (by kernel_rfl) rfl (by kernel_rfl) rfl ?_
 refine yW hG 30 (by kernel_rfl) rfl (by kernel_rfl) rfl ?_
 refine AAny.done (by kernel_rfl) ?_
 refine run_ret_to ?_
 replace hM := some_t hM
 subst hM
 refine fin_x hG rfl rfl rfl (v' := .tup [.agg [.int .i64 6, .int .i64 0, .str ⟨#[111, 102, 97, 112, 112]⟩, .imm tk338 4 false (cellss [LT.mk k320 n320 s320 q320 f320 ks320, LT.mk k327 n327 s327 q327 f327 ks327, LT.mk k334 n334 s334 q334 f334 ks334, LT.mk k341 n341 s341 q341 f341 ks341, LT.mk k269 n269 s269 q269 f269 ks269, LT.mk k287 n287 s287 q287 f287 ks287])], .agg [.int .i64 k312, .int .i64 n312, .imm q312 3 f312 (fcellss ks312)]]) (by rfl) ⟨rfl, (show tk ≤ (tk338 + 1) by omega), _, rfl, ⟨_, _, _, _, rfl, rfl, ⟨6, 0, ⟨#[111, 102, 97, 112, 112]⟩, tk338, false, [LT.mk k320 n320 s320 q320 f320 ks320, LT.mk k327 n327 s327 q327 f327 ks327, LT.mk k334 n334 s334 q334 f334 ks334, LT.mk k341 n341 s341 q341 f341 ks341, LT.mk k269 n269 s269 q269 f269 ks269, LT.mk k287 n287 s287 q287 f287 ks287], rfl, rfl, fun _ => (show Fr tk (tk338 + 1) _ from (show Fr tk (tk338 + 1) _ from Fr.tstop (show Fr tk tk338 _ from (Fr.tconsS (show Fr tk284 tk317 _ from (show Fr tk284 tk317 _ from hf321 rfl)) (show Fr tk tk338 _ from (Fr.tconsS (show Fr tk317 tk324 _ from (show Fr tk317 tk324 _ from hf328 rfl)) (show Fr tk tk338 _ from (Fr.tconsS (show Fr tk324 tk331 _ from (show Fr tk324 tk331 _ from hf335 rfl)) (show Fr tk tk338 _ from (Fr.tconsS (show Fr tk331 tk338 _ from (show Fr tk331 tk338 _ from hf342 rfl)) (show Fr tk tk338 _ from (Fr.tcons (show Fr tk tk266 _ from ((show Fr tk tk266 _ from hf270 rfl)).mono (by omega) (by omega)) (Fr.tcons ((show Fr tk266 tk284 _ from hf288 rfl)) (show Fr tk284 tk284 _ from Fr.nil _ _) (by omega) (by omega)) (by omega) (by omega)).mono (by omega) (by omega)) (Apart.tcons (Apart.of (show Fr tk tk266 _ from (show Fr tk tk266 _ from hf270 rfl)) (by omega)) (Apart.tcons (Apart.of (show Fr tk266 tk284 _ from (show Fr tk266 tk284 _ from hf288 rfl)) (by omega)) (Apart.nil _ _))) (by omega) (by omega)).mono (by omega) (by omega)) (Apart.tcons (Apart.of (show Fr tk331 tk338 _ from (show Fr tk331 tk338 _ from hf342 rfl)) (by omega)) (Apart.tcons (Apart.of (show Fr tk tk266 _ from (show Fr tk tk266 _ from hf270 rfl)) (by omega)) (Apart.tcons (Apart.of (show Fr tk266 tk284 _ from (show Fr tk266 tk284 _ from hf288 rfl)) (by omega)) (Apart.nil _ _)))) (by omega) (by omega)).mono (by omega) (by omega)) (Apart.tcons (Apart.of (show Fr tk324 tk331 _ from (show Fr tk324 tk331 _ from hf335 rfl)) (by omega)) (Apart.tcons (Apart.of (show Fr tk331 tk338 _ from (show Fr tk331 tk338 _ from hf342 rfl)) (by omega)) (Apart.tcons (Apart.of (show Fr tk tk266 _ from (show Fr tk tk266 _ from hf270 rfl)) (by omega)) (Apart.tcons (Apart.of (show Fr tk266 tk284 _ from (show Fr tk266 tk284 _ from hf288 rfl)) (by omega)) (Apart.nil _ _))))) (by omega) (by omega)).mono (by omega) (by omega)) (Apart.tcons (Apart.of (show Fr tk317 tk324 _ from (show Fr tk317 tk324 _ from hf328 rfl)) (by omega)) (Apart.tcons (Apart.of (show Fr tk324 tk331 _ from (show Fr tk324 tk331 _ from hf335 rfl)) (by omega)) (Apart.tcons (Apart.of (show Fr tk331 tk338 _ from (show Fr tk331 tk338 _ from hf342 rfl)) (by omega)) (Apart.tcons (Apart.of (show Fr tk tk266 _ from (show Fr tk tk266 _ from hf270 rfl)) (by omega)) (Apart.tcons (Apart.of (show Fr tk266 tk284 _ from (show Fr tk266 tk284 _ from hf288 rfl)) (by omega)) (Apart.nil _ _)))))) (by omega) (by omega)).mono (by omega) (by omega)) (by omega) (by omega)).mono (by omega) (by omega))⟩, ⟨k312, n312, q312, f312, ks312, rfl, rfl, fun h => by cases h⟩⟩⟩

theorem s_l09Typing_all : ∀ (n : Nat), (∀ (q1 : Nat) (f1 : Bool) (ks1 : List LF) (k2 : Int) (n2 : Int) (p2 : Nat) (e2 : Bool) (fs2 : List LF) (q2 : Nat) (f2 : Bool) (ks2 : List LP) (q3 : Nat) (f3 : Bool) (l3 : List Int) (i4 : Int) {r : (T × F)}, s_l09Typing n (fers ks1) (Pf.mk k2 n2 (fers fs2) (pers ks2)) l3 i4 = some r → ∀ (O : Heap) (tk : Nat), ACalls Go.Proofs.Try.prog 110 [.imm q1 3 f1 (fcellss ks1), .agg [.int .i64 k2, .int .i64 n2, .imm p2 3 e2 (fcellss fs2), .imm q2 4 f2 (pcellss ks2)], .imm q3 1 f3 ((l3 : List Int).map fun n => [AV.int .i64 n]), .int .i64 i4] O tk (RetX O tk (fun v tk' => ∃ r0' r1' v0' v1', r = (r0', r1') ∧ v = .tup [v0', v1'] ∧ VT true tk tk' r0' v0' ∧ VF false tk tk' r1' v1')))
 | 0 => by intro q1 f1 ks1 k2 n2 p2 e2 fs2 q2 f2 ks2 q3 f3 l3 i4 r hM; rw [s_l09Typing] at hM; cases hM
 | n + 1 => have ih := s_l09Typing_all n; s_l09Typing_st n (ih)

theorem s_l09Typing_ok (n : Nat) : ∀ (q1 : Nat) (f1 : Bool) (ks1 : List LF) (k2 : Int) (n2 : Int) (p2 : Nat) (e2 : Bool) (fs2 : List LF) (q2 : Nat) (f2 : Bool) (ks2 : List LP) (q3 : Nat) (f3 : Bool) (l3 : List Int) (i4 : Int) {r : (T × F)}, s_l09Typing n (fers ks1) (Pf.mk k2 n2 (fers fs2) (pers ks2)) l3 i4 = some r → ∀ (O : Heap) (tk : Nat), ACalls Go.Proofs.Try.prog 110 [.imm q1 3 f1 (fcellss ks1), .agg [.int .i64 k2, .int .i64 n2, .imm p2 3 e2 (fcellss fs2), .imm q2 4 f2 (pcellss ks2)], .imm q3 1 f3 ((l3 : List Int).map fun n => [AV.int .i64 n]), .int .i64 i4] O tk (RetX O tk (fun v tk' => ∃ r0' r1' v0' v1', r = (r0', r1') ∧ v = .tup [v0', v1'] ∧ VT true tk tk' r0' v0' ∧ VF false tk tk' r1' v1')) := s_l09Typing_all n

end Go.Am.Ytaedacibojpfkaa
