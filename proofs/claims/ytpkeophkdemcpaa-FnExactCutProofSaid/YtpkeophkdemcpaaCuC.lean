/- Printed by a program of ours: Lean functions that do what the Go functions do, and the contracts. -/
import Derived.Test.YtpkeophkdemcpaaTypes
import Derived.Test.YtpkeophkdemcpaaMi4
import Derived.Test.YtpkeophkdemcpaaMc1
import Derived.Test.YtpkeophkdemcpaaMb3
import Derived.Test.YtpkeophkdemcpaaCuB
import Derived.Test.YtpkeophkdemcpaaMz
-- packed
namespace Go.Am.Ytpkeophkdemcpaa
open Go Go.Am

def s_l08Cut_L3 (rec_s_l08Cut : Pf → Pf → Int → Option Pf) (x1 : Pf) (x2 : Pf) (i117 : Int) : Nat → Int → List Pf → Option Pf
 | 0, _, _ => none
 | m + 1, i119, l120 =>
  if i119 < ((x2.kids).length : Int) then
   (idx x2.kids i119).bind fun y122 =>
   (rec_s_l08Cut x1 y122 i117).bind fun r127 =>
   chk ((l120).length + ([r127]).length ≤ 1099511627776) <|
   s_l08Cut_L3 rec_s_l08Cut x1 x2 i117 m (IntKind.i64.wrap (i119 + 1)) (l120 ++ [r127])
  else
   some (Pf.mk x2.kind 0 [] l120)

def s_l08Cut_L2 (rec_s_l08Cut : Pf → Pf → Int → Option Pf) (x1 : Pf) (x2 : Pf) (l15 : List F) (i40 : Int) : Nat → Int → List Pf → Option Pf
 | 0, _, _ => none
 | m + 1, i42, l43 =>
  if i42 < ((x2.kids).length : Int) then
   (idx x2.kids i42).bind fun y45 =>
   (rec_s_l08Cut x1 y45 i40).bind fun r50 =>
   chk ((l43).length + ([r50]).length ≤ 1099511627776) <|
   s_l08Cut_L2 rec_s_l08Cut x1 x2 l15 i40 m (IntKind.i64.wrap (i42 + 1)) (l43 ++ [r50])
  else
   some (Pf.mk x2.kind 0 l15 l43)

def s_l08Cut_L1 (rec_s_l08Cut : Pf → Pf → Int → Option Pf) (n : Nat) (x1 : Pf) (x2 : Pf) (i3 : Int) : Nat → Int → List F → Option Pf
 | 0, _, _ => none
 | m + 1, i14, l15 =>
  if i14 < ((x2.forms).length : Int) then
   (idx x2.forms i14).bind fun y17 =>
   (s_l08Copy n y17).bind fun r22 =>
   chk ((l15).length + ([r22]).length ≤ 1099511627776) <|
   s_l08Cut_L1 rec_s_l08Cut n x1 x2 i3 m (IntKind.i64.wrap (i14 + 1)) (l15 ++ [r22])
  else
   jn (fun (i40 : Int) =>
    if 0 < ((x2.kids).length : Int) then
     (idx x2.kids 0).bind fun y68 =>
     (rec_s_l08Cut x1 y68 i40).bind fun r73 =>
     chk ((([] : List Pf)).length + ([r73]).length ≤ 1099511627776) <|
     s_l08Cut_L2 rec_s_l08Cut x1 x2 l15 i40 n (IntKind.i64.wrap (0 + 1)) (([] : List Pf) ++ [r73])
    else
     some (Pf.mk x2.kind 0 l15 [])) fun j39 =>
   if x2.kind = 5 then
    j39 (IntKind.i64.wrap (i3 + 1))
   else
    j39 i3

def s_l08Cut : Nat → Pf → Pf → Int → Option Pf
 | 0, _, _, _ => none
 | n + 1, x1, x2, i3 =>
  if x2.kind = 1 then
   if x2.n = i3 then
    (s_l08Move n x1 0 i3).bind fun r6 =>
    some r6
   else
    if x2.n > i3 then
     some (Pf.mk 1 (IntKind.i64.wrap (x2.n - 1)) [] [])
    else
     some (Pf.mk 1 x2.n [] [])
  else
   if 0 < ((x2.forms).length : Int) then
    (idx x2.forms 0).bind fun y94 =>
    (s_l08Copy n y94).bind fun r99 =>
    chk ((([] : List F)).length + ([r99]).length ≤ 1099511627776) <|
    s_l08Cut_L1 (s_l08Cut n) n x1 x2 i3 n (IntKind.i64.wrap (0 + 1)) (([] : List F) ++ [r99])
   else
    jn (fun (i117 : Int) =>
     if 0 < ((x2.kids).length : Int) then
      (idx x2.kids 0).bind fun y145 =>
      (s_l08Cut n x1 y145 i117).bind fun r150 =>
      chk ((([] : List Pf)).length + ([r150]).length ≤ 1099511627776) <|
      s_l08Cut_L3 (s_l08Cut n) x1 x2 i117 n (IntKind.i64.wrap (0 + 1)) (([] : List Pf) ++ [r150])
     else
      some (Pf.mk x2.kind 0 [] [])) fun j116 =>
    if x2.kind = 5 then
     j116 (IntKind.i64.wrap (i3 + 1))
    else
     j116 i3

def s_l08Cut_P (n : Nat) : Prop := ∀ (k1 : Int) (n1 : Int) (p1 : Nat) (e1 : Bool) (fs1 : List LF) (q1 : Nat) (f1 : Bool) (ks1 : List LP) (k2 : Int) (n2 : Int) (p2 : Nat) (e2 : Bool) (fs2 : List LF) (q2 : Nat) (f2 : Bool) (ks2 : List LP) (i3 : Int) {r : Pf}, s_l08Cut n (Pf.mk k1 n1 (fers fs1) (pers ks1)) (Pf.mk k2 n2 (fers fs2) (pers ks2)) i3 = some r → ∀ (O : Heap) (tk : Nat), ACalls Go.Proofs.Try.prog 95 [.agg [.int .i64 k1, .int .i64 n1, .imm p1 3 e1 (fcellss fs1), .imm q1 4 f1 (pcellss ks1)], .agg [.int .i64 k2, .int .i64 n2, .imm p2 3 e2 (fcellss fs2), .imm q2 4 f2 (pcellss ks2)], .int .i64 i3] O tk (RetX O tk (fun v tk' => VP true tk tk' r v))

set_option maxHeartbeats 20000000 in
set_option maxHeartbeats 20000000 in
set_option maxRecDepth 100000 in
theorem s_l08Cut_st (n : Nat) (ih_s_l08Cut : s_l08Cut_P n) : s_l08Cut_P (n + 1) := by
 intro k1 n1 p1 e1 fs1 q1 f1 ks1 k2 n2 p2 e2 fs2 q2 f2 ks2 i3 r hM O tk
 rw [s_l08Cut] at hM
 refine acalls_of_run Go.Proofs.Try.func95 rfl rfl [] [] (Bor.nil _) [(0, .agg [.int .i64 k1, .int .i64 n1, .imm p1 3 e1 (fcellss fs1), .imm q1 4 f1 (pcellss ks1)]), (1, .agg [.int .i64 k2, .int .i64 n2, .imm p2 3 e2 (fcellss fs2), .imm q2 4 f2 (pcellss ks2)]), (2, .int .i64 i3)] (.cons (.agg _) (.cons (.agg _) (.cons (entS rfl) (.nil _)))) (leb rfl) (fun _ h => by cases h) (fun S0 hO htk hfz => ?_)
 refine run_sr ?_
 refine run_op rfl (box_step (d := 3) rfl rfl rfl rfl rfl) rfl (ltb rfl) ?_
 refine run_op rfl (box_step (d := 4) rfl rfl rfl rfl rfl) rfl (ltb rfl) ?_
 refine run_op rfl (alloc_step (d := 6) hG rfl rfl rfl) rfl (ltb rfl) ?_
 refine yN ?_
 refine run_seq ?_
 refine run_sr ?_
 refine yF hG rfl ?_
 refine yD hG rfl ?_
 refine yB rfl ?_
 refine yN ?_
 refine run_ifd rfl rfl (fun hb4 => ?_) (fun hb4 => ?_)
 ·replace hM := ite_t hb4 hM
  refine run_seq ?_
  refine run_block ?_
  refine run_sr ?_
  refine yF hG rfl ?_
  refine yD hG rfl ?_
  refine yL rfl ?_
  refine yB rfl ?_
  refine yR rfl ?_
  refine yN ?_
  refine run_ifd rfl rfl (fun hb5 => ?_) (fun hb5 => ?_)
  ·replace hM := ite_t hb5 hM
   refine run_sr ?_
   refine yD hG rfl ?_
   refine yL rfl ?_
   obtain ⟨r6, hg7, hM⟩ := bind_t hM
   refine yK rfl (s_l08Move_ok n k1 n1 p1 e1 fs1 q1 f1 ks1 0 i3 hg7 _ _) (callK_retX (fun v tk8 (hle9 : tk ≤ tk8) h10 => ?_))
   obtain ⟨k11, n11, p11, e11, fs11, q11, f11, ks11, rfl, rfl, hf12⟩ := h10
   refine yS hG rfl ?_
   refine yN ?_
   refine run_ret_to ?_
   replace hM := some_t hM
   subst hM
   refine fin_x hG rfl rfl rfl (v' := .agg [.int .i64 k11, .int .i64 n11, .imm p11 3 e11 (fcellss fs11), .imm q11 4 f11 (pcellss ks11)]) (by rfl) ⟨rfl, (show tk ≤ tk8 by omega), _, rfl, ⟨k11, n11, p11, e11, fs11, q11, f11, ks11, rfl, rfl, fun _ => (show Fr tk tk8 _ from ((show Fr tk tk8 _ from hf12 rfl)).mono (by omega) (by omega))⟩⟩
  replace hM := ite_f hb5 hM
  refine run_sr ?_
  refine yF hG rfl ?_
  refine yD hG rfl ?_
  refine yL rfl ?_
  refine yB rfl ?_
  refine yR rfl ?_
  refine yN ?_
  refine run_sub_code (σ' := ⟨[(2, .int .i64 i3), (3, .optr (.loc 3) 0 0), (4, .optr (.loc 4) 0 0), (6, .optr (.loc 6) 0 0), (21, .bool (decide (n2 > i3)))], [(6, ⟨26, 4, true, [[.int .i64 0, .int .i64 0, .imm 0 3 true [], .imm 0 4 true []]]⟩), (4, ⟨26, 4, true, [[.int .i64 k2, .int .i64 n2, .imm p2 3 e2 (fcellss fs2), .imm q2 4 f2 (pcellss ks2)]]⟩), (3, ⟨26, 4, true, [[.int .i64 k1, .int .i64 n1, .imm p1 3 e1 (fcellss fs1), .imm q1 4 f1 (pcellss ks1)]]⟩)], [], O, tk⟩) (Sub.env _ ⟨rfl, rfl, rfl, rfl, rfl, trivial⟩) ?_
  refine run_ifd rfl rfl (fun hb13 => ?_) (fun hb13 => ?_)
  ·replace hM := ite_t hb13 hM
   refine run_sr ?_
   refine yF hG rfl ?_
   refine yD hG rfl ?_
   refine yB rfl ?_
   refine run_pu rfl (build_step hG rfl (by rfl) rfl (fun h => by cases h) (by rfl)) rfl (ltb rfl) ?_
   refine yS hG rfl ?_
   refine yN ?_
   refine run_ret_to ?_
   replace hM := some_t hM
   subst hM
   refine fin_x hG rfl rfl rfl (v' := .agg [.int .i64 1, .int .i64 (IntKind.i64.wrap (n2 - 1)), .imm 0 3 true (fcellss []), .imm 0 4 true (pcellss [])]) (by rfl) ⟨rfl, (show tk ≤ tk by omega), _, rfl, ⟨1, (IntKind.i64.wrap (n2 - 1)), 0, true, [], 0, true, [], rfl, rfl, fun _ => Fr.nil _ _⟩⟩
  replace hM := ite_f hb13 hM
  refine run_skip ?_
  refine run_blk ?_
  refine run_sr ?_
  refine yF hG rfl ?_
  refine yD hG rfl ?_
  refine run_pu rfl (build_step hG rfl (by rfl) rfl (fun h => by cases h) (by rfl)) rfl (ltb rfl) ?_
  refine yS hG rfl ?_
  refine yN ?_
  refine run_ret_to ?_
  replace hM := some_t hM
  subst hM
  refine fin_x hG rfl rfl rfl (v' := .agg [.int .i64 1, .int .i64 n2, .imm 0 3 true (fcellss []), .imm 0 4 true (pcellss [])]) (by rfl) ⟨rfl, (show tk ≤ tk by omega), _, rfl, ⟨1, n2, 0, true, [], 0, true, [], rfl, rfl, fun _ => Fr.nil _ _⟩⟩
 replace hM := ite_f hb4 hM
 refine run_skip ?_
 refine run_sr ?_
 refine yF hG rfl ?_
 refine yD hG rfl ?_
 refine run_pu rfl (build_step hG rfl (by rfl) rfl (fun h => by cases h) (by rfl)) rfl (ltb rfl) ?_
 refine run_op rfl (alloc_step (d := 7) hG rfl rfl rfl) rfl (ltb rfl) ?_
 refine yS hG rfl ?_
 refine yN ?_
 refine run_seq ?_
 refine run_sr ?_
 refine yR rfl ?_
 refine yN ?_
 refine run_block ?_
 refine run_peel (fun m σ => ∃ (i14 : Int) (ks15 : List LF) (tks_l08Cut_L1 : Nat), tk ≤ tks_l08Cut_L1 ∧ Fr tk tks_l08Cut_L1 (ftoks ks15) ∧ s_l08Cut_L1 (s_l08Cut n) n (Pf.mk k1 n1 (fers fs1) (pers ks1)) (Pf.mk k2 n2 (fers fs2) (pers ks2)) i3 m i14 (fers ks15) = some r ∧ σ = ⟨[(2, .int .i64 i3), (3, .optr (.loc 3) 0 0), (4, .optr (.loc 4) 0 0), (6, .optr (.loc 6) 0 0), (7, .optr (.loc 7) 0 0), (8, .int .i64 i14)], [(52, ⟨28, 3, false, fcellss ks15⟩), (7, ⟨26, 4, true, [[.int .i64 k2, .int .i64 0, .osl (.loc 52), .imm 0 4 true []]]⟩), (6, ⟨26, 4, true, [[.int .i64 0, .int .i64 0, .imm 0 3 true [], .imm 0 4 true []]]⟩), (4, ⟨26, 4, true, [[.int .i64 k2, .int .i64 n2, .imm p2 3 e2 (fcellss fs2), .imm q2 4 f2 (pcellss ks2)]]⟩), (3, ⟨26, 4, true, [[.int .i64 k1, .int .i64 n1, .imm p1 3 e1 (fcellss fs1), .imm q1 4 f1 (pcellss ks1)]]⟩)], [], O, tks_l08Cut_L1⟩) n ?_ (fun m σ hI => ?_)
 ·refine run_seq ?_
  refine run_sr ?_
  refine yL rfl ?_
  refine yF hG rfl ?_
  refine yD hG rfl ?_
  refine run_pu rfl (lenImm_step hG rfl rfl rfl rfl (flen _)) rfl (ltb rfl) ?_
  refine yB rfl ?_
  refine yN ?_
  refine run_sub_code (σ' := ⟨[(2, .int .i64 i3), (3, .optr (.loc 3) 0 0), (4, .optr (.loc 4) 0 0), (6, .optr (.loc 6) 0 0), (7, .optr (.loc 7) 0 0), (8, .int .i64 0), (40, .bool (decide (0 < (((fers fs2)).length : Int))))], [(7, ⟨26, 4, true, [[.int .i64 k2, .int .i64 0, .imm 0 3 true [], .imm 0 4 true []]]⟩), (6, ⟨26, 4, true, [[.int .i64 0, .int .i64 0, .imm 0 3 true [], .imm 0 4 true []]]⟩), (4, ⟨26, 4, true, [[.int .i64 k2, .int .i64 n2, .imm p2 3 e2 (fcellss fs2), .imm q2 4 f2 (pcellss ks2)]]⟩), (3, ⟨26, 4, true, [[.int .i64 k1, .int .i64 n1, .imm p1 3 e1 (fcellss fs1), .imm q1 4 f1 (pcellss ks1)]]⟩)], [], O, tk⟩) (Sub.env _ ⟨rfl, rfl, rfl, rfl, rfl, rfl, rfl, trivial⟩) ?_
  refine run_ifd rfl rfl (fun hb93 => ?_) (fun hb93 => ?_)
  ·replace hM := ite_t hb93 hM
   refine run_skip ?_
   refine run_seq ?_
   refine run_block ?_
   refine run_draw [.loc 7] (n := 12) mixed rfl (by intro x hx; simp only [List.mem_cons, List.not_mem_nil, or_false] at hx; rcases hx with rfl <;> rfl) ?_
   refine yTF hG 0 (by kernel_rfl) rfl ?_
   refine yTF hG 2 (by kernel_rfl) rfl ?_
   refine yTL hG 3 (by kernel_rfl) rfl ?_
   refine yTV 4 (by kernel_rfl) rfl ?_
   obtain ⟨y94, hy95, hM⟩ := bind_t hM
   obtain ⟨k96, n96, q96, f96, ks96, rfl, hc97, hi98⟩ := fidx (ks := fs2) hy95
   refine yT 5 (by kernel_rfl) rfl rfl rfl (ltb rfl) ((indexImm_step hG rfl rfl rfl hi98 rfl rfl rfl rfl hc97).rd _) ?_
   refine yTL hG 6 (by kernel_rfl) rfl ?_
   refine AAny.each (rs := [1, 7]) (by kernel_rfl) (fun h => by cases h) (fun i hi => ?_)
   simp only [List.mem_cons, List.not_mem_nil, or_false] at hi
   rcases hi with rfl | rfl
   ·refine AOp.rd rfl rfl rfl (ltb rfl) (aload_rd hG rfl rfl rfl (by first | (simp [ldok]; done) | exact List.not_mem_nil | trivial)) ?_
    obtain ⟨r99, hg100, hM⟩ := bind_t hM
    refine yC 7 (by kernel_rfl) rfl rfl (s_l08Copy_ok n k96 n96 q96 f96 ks96 hg100 _ _) (callK_retX (fun v tk101 (hle102 : tk ≤ tk101) h103 => ?_))
    obtain ⟨k104, n104, q104, f104, ks104, rfl, rfl, hf105⟩ := h103
    refine AAny.one (i := 8) (by kernel_rfl) (AOp.step rfl rfl rfl (ltb rfl) (buildSlice_step (d := 51) hG rfl rfl rfl rfl rfl (by rfl) (by rfl) (by rfl) (by decide)) yE ?_)
    obtain ⟨hc106, hM⟩ := chk_t hM
    try rw [show ((fers ([] : List LF)) ++ [(F.mk k104 n104 (fers ks104))] : List F) = (fers (([] : List LF) ++ [LF.mk k104 n104 q104 f104 ks104])) from fers_app ([] : List LF) [LF.mk k104 n104 q104 f104 ks104]] at hM
    refine AAny.one (i := 9) (by kernel_rfl) (AOp.step rfl rfl rfl (ltb rfl) (appendFM_step (d := 52) hG rfl rfl rfl rfl rfl rfl rfl (fcellss_sz ([] : List LF)) rfl (fcellss_sz ([LF.mk k104 n104 q104 f104 ks104])) (flen ([] : List LF)) (flen ([LF.mk k104 n104 q104 f104 ks104])) (by simp [fers]) hc106 (by decide) (fcellss_app _ _)) yE ?_)
    refine yTF hG 10 (by kernel_rfl) rfl ?_
    refine yW hG 11 (by kernel_rfl) rfl (by kernel_rfl) rfl ?_
    refine AAny.done (by kernel_rfl) ?_
    refine run_blk ?_
    refine run_region ?_
    refine yL rfl ?_
    refine yB rfl ?_
    refine yR rfl ?_
    refine yN ?_
    exact run_loop_end ⟨n, _, Nat.le_refl _, ⟨(IntKind.i64.wrap (0 + 1)), (([] : List LF) ++ [LF.mk k104 n104 q104 f104 ks104]), tk101, (show tk ≤ tk101 by omega), (show Fr tk tk101 _ from (Fr.fcons ((show Fr tk tk101 _ from hf105 rfl)) (show Fr tk101 tk101 _ from Fr.nil _ _) (by omega) (by omega)).mono (by omega) (by omega)), hM, rfl⟩, Sub.trans (Sub.drop (k := 51) rfl) (Sub.pk [2, 3, 4, 6, 7, 8] rfl)⟩
   obtain ⟨r107, hg108, hM⟩ := bind_t hM
   refine yI rfl rfl (s_l08Copy_ok n k96 n96 q96 f96 ks96 hg108 _ _) (callK_retX (fun v tk109 (hle110 : tk ≤ tk109) h111 => ?_))
   obtain ⟨k112, n112, q112, f112, ks112, rfl, rfl, hf113⟩ := h111
   refine AAny.each (rs := [1, 8]) (by kernel_rfl) (fun h => by cases h) (fun i hi => ?_)
   simp only [List.mem_cons, List.not_mem_nil, or_false] at hi
   rcases hi with rfl | rfl
   ·refine AOp.rd rfl rfl rfl (ltb rfl) (aload_rd hG rfl rfl rfl (by first | (simp [ldok]; done) | exact List.not_mem_nil | trivial)) ?_
    refine AAny.one (i := 8) (by kernel_rfl) (AOp.step rfl rfl rfl (ltb rfl) (buildSlice_step (d := 51) hG rfl rfl rfl rfl rfl (by rfl) (by rfl) (by rfl) (by decide)) yE ?_)
    obtain ⟨hc114, hM⟩ := chk_t hM
    try rw [show ((fers ([] : List LF)) ++ [(F.mk k112 n112 (fers ks112))] : List F) = (fers (([] : List LF) ++ [LF.mk k112 n112 q112 f112 ks112])) from fers_app ([] : List LF) [LF.mk k112 n112 q112 f112 ks112]] at hM
    refine AAny.one (i := 9) (by kernel_rfl) (AOp.step rfl rfl rfl (ltb rfl) (appendFM_step (d := 52) hG rfl rfl rfl rfl rfl rfl rfl (fcellss_sz ([] : List LF)) rfl (fcellss_sz ([LF.mk k112 n112 q112 f112 ks112])) (flen ([] : List LF)) (flen ([LF.mk k112 n112 q112 f112 ks112])) (by simp [fers]) hc114 (by decide) (fcellss_app _ _)) yE ?_)
    refine yTF hG 10 (by kernel_rfl) rfl ?_
    refine yW hG 11 (by kernel_rfl) rfl (by kernel_rfl) rfl ?_
    refine AAny.done (by kernel_rfl) ?_
    refine run_blk ?_
    refine run_region ?_
    refine yL rfl ?_
    refine yB rfl ?_
    refine yR rfl ?_
    refine yN ?_
    exact run_loop_end ⟨n, _, Nat.le_refl _, ⟨(IntKind.i64.wrap (0 + 1)), (([] : List LF) ++ [LF.mk k112 n112 q112 f112 ks112]), tk109, (show tk ≤ tk109 by omega), (show Fr tk tk109 _ from (Fr.fcons ((show Fr tk tk109 _ from hf113 rfl)) (show Fr tk109 tk109 _ from Fr.nil _ _) (by omega) (by omega)).mono (by omega) (by omega)), hM, rfl⟩, Sub.trans (Sub.drop (k := 51) rfl) (Sub.pk [2, 3, 4, 6, 7, 8] rfl)⟩
   refine AOp.step rfl rfl rfl (ltb rfl) (buildSlice_step (d := 51) hG rfl rfl rfl rfl rfl (by rfl) (by rfl) (by rfl) (by decide)) yE ?_
   refine AAny.one (i := 1) (by kernel_rfl) (AOp.rd rfl rfl rfl (ltb rfl) (aload_rd hG rfl rfl rfl (by first | (simp [ldok]; done) | exact List.not_mem_nil | trivial)) ?_)
   obtain ⟨hc115, hM⟩ := chk_t hM
   try rw [show ((fers ([] : List LF)) ++ [(F.mk k112 n112 (fers ks112))] : List F) = (fers (([] : List LF) ++ [LF.mk k112 n112 q112 f112 ks112])) from fers_app ([] : List LF) [LF.mk k112 n112 q112 f112 ks112]] at hM
   refine AAny.one (i := 9) (by kernel_rfl) (AOp.step rfl rfl rfl (ltb rfl) (appendFM_step (d := 52) hG rfl rfl rfl rfl rfl rfl rfl (fcellss_sz ([] : List LF)) rfl (fcellss_sz ([LF.mk k112 n112 q112 f112 ks112])) (flen ([] : List LF)) (flen ([LF.mk k112 n112 q112 f112 ks112])) (by simp [fers]) hc115 (by decide) (fcellss_app _ _)) yE ?_)
   refine yTF hG 10 (by kernel_rfl) rfl ?_
   refine yW hG 11 (by kernel_rfl) rfl (by kernel_rfl) rfl ?_
   refine AAny.done (by kernel_rfl) ?_
   refine run_blk ?_
   refine run_region ?_
   refine yL rfl ?_
   refine yB rfl ?_
   refine yR rfl ?_
   refine yN ?_
   exact run_loop_end ⟨n, _, Nat.le_refl _, ⟨(IntKind.i64.wrap (0 + 1)), (([] : List LF) ++ [LF.mk k112 n112 q112 f112 ks112]), tk109, (show tk ≤ tk109 by omega), (show Fr tk tk109 _ from (Fr.fcons ((show Fr tk tk109 _ from hf113 rfl)) (show Fr tk109 tk109 _ from Fr.nil _ _) (by omega) (by omega)).mono (by omega) (by omega)), hM, rfl⟩, Sub.trans (Sub.drop (k := 51) rfl) (Sub.pk [2, 3, 4, 6, 7, 8] rfl)⟩
  replace hM := ite_f hb93 hM
  refine run_exit_to rfl ?_
  refine run_seq ?_
  refine run_sr ?_
  refine yF hG rfl ?_
  refine yD hG rfl ?_
  refine yB rfl ?_
  refine yN ?_
  obtain ⟨j116, hj169, hM⟩ := jn_t hM
  refine run_cutL [.code _] (fun σ' => ∃ (i117 : Int) (tkj116 : Nat), tk ≤ tkj116 ∧ j116 i117 = some r ∧ Sub ⟨Go.Proofs.Try.prog, S0, Go.Proofs.Try.f95.ntmps, [], fun _ => False, []⟩ σ' ⟨[(2, .int .i64 i117), (3, .optr (.loc 3) 0 0), (4, .optr (.loc 4) 0 0), (6, .optr (.loc 6) 0 0), (7, .optr (.loc 7) 0 0)], [(7, ⟨26, 4, true, [[.int .i64 k2, .int .i64 0, .imm 0 3 true [], .imm 0 4 true []]]⟩), (6, ⟨26, 4, true, [[.int .i64 0, .int .i64 0, .imm 0 3 true [], .imm 0 4 true []]]⟩), (4, ⟨26, 4, true, [[.int .i64 k2, .int .i64 n2, .imm p2 3 e2 (fcellss fs2), .imm q2 4 f2 (pcellss ks2)]]⟩), (3, ⟨26, 4, true, [[.int .i64 k1, .int .i64 n1, .imm p1 3 e1 (fcellss fs1), .imm q1 4 f1 (pcellss ks1)]]⟩)], [], O, tkj116⟩) rfl ?_ ?_
  ·refine run_ifd rfl rfl (fun hb118 => ?_) (fun hb118 => ?_)
   ·replace hM := ite_t hb118 hM
    refine run_region ?_
    refine yL rfl ?_
    refine yB rfl ?_
    refine yR rfl ?_
    refine yN ?_
    exact ⟨(IntKind.i64.wrap (i3 + 1)), tk, (show tk ≤ tk by omega), hM, Sub.pk [2, 3, 4, 6, 7] rfl⟩
   replace hM := ite_f hb118 hM
   refine run_skip ?_
   exact ⟨i3, tk, (show tk ≤ tk by omega), hM, Sub.pk [2, 3, 4, 6, 7] rfl⟩
  clear hM
  rintro σ' ⟨i117, tkj116, hle168, hM, hsub⟩
  rw [hj169] at hM
  clear hj169
  refine run_sub_code hsub ?_
  refine run_seq ?_
  refine run_sr ?_
  refine yR rfl ?_
  refine yN ?_
  refine run_block ?_
  refine run_peel (fun m σ => ∃ (i119 : Int) (ks120 : List LP) (tks_l08Cut_L3 : Nat), tkj116 ≤ tks_l08Cut_L3 ∧ Fr tkj116 tks_l08Cut_L3 (ptoks ks120) ∧ s_l08Cut_L3 (s_l08Cut n) (Pf.mk k1 n1 (fers fs1) (pers ks1)) (Pf.mk k2 n2 (fers fs2) (pers ks2)) i117 m i119 (pers ks120) = some r ∧ σ = ⟨[(2, .int .i64 i117), (3, .optr (.loc 3) 0 0), (4, .optr (.loc 4) 0 0), (6, .optr (.loc 6) 0 0), (7, .optr (.loc 7) 0 0), (9, .int .i64 i119)], [(77, ⟨26, 4, false, pcellss ks120⟩), (7, ⟨26, 4, true, [[.int .i64 k2, .int .i64 0, .imm 0 3 true [], .osl (.loc 77)]]⟩), (6, ⟨26, 4, true, [[.int .i64 0, .int .i64 0, .imm 0 3 true [], .imm 0 4 true []]]⟩), (4, ⟨26, 4, true, [[.int .i64 k2, .int .i64 n2, .imm p2 3 e2 (fcellss fs2), .imm q2 4 f2 (pcellss ks2)]]⟩), (3, ⟨26, 4, true, [[.int .i64 k1, .int .i64 n1, .imm p1 3 e1 (fcellss fs1), .imm q1 4 f1 (pcellss ks1)]]⟩)], [], O, tks_l08Cut_L3⟩) n ?_ (fun m σ hI => ?_)
  ·refine run_seq ?_
   refine run_sr ?_
   refine yL rfl ?_
   refine yF hG rfl ?_
   refine yD hG rfl ?_
   refine run_pu rfl (lenImm_step hG rfl rfl rfl rfl (plen _)) rfl (ltb rfl) ?_
   refine yB rfl ?_
   refine yN ?_
   refine run_ifd rfl rfl (fun hb144 => ?_) (fun hb144 => ?_)
   ·replace hM := ite_t hb144 hM
    refine run_skip ?_
    refine run_seq ?_
    refine run_block ?_
    refine run_draw [.loc 7] (n := 14) mixed rfl (by intro x hx; simp only [List.mem_cons, List.not_mem_nil, or_false] at hx; rcases hx with rfl <;> rfl) ?_
    refine yTF hG 0 (by kernel_rfl) rfl ?_
    refine yTL hG 2 (by kernel_rfl) rfl ?_
    refine yTF hG 3 (by kernel_rfl) rfl ?_
    refine yTL hG 4 (by kernel_rfl) rfl ?_
    refine yTV 5 (by kernel_rfl) rfl ?_
    obtain ⟨y145, hy146, hM⟩ := bind_t hM
    obtain ⟨k147, n147, p147, e147, fs147, q147, f147, ks147, rfl, hc148, hi149⟩ := pidx (ks := ks2) hy146
    refine yT 6 (by kernel_rfl) rfl rfl rfl (ltb rfl) ((indexImm_step hG rfl rfl rfl hi149 rfl rfl rfl rfl hc148).rd _) ?_
    refine yTL hG 7 (by kernel_rfl) rfl ?_
    refine yTV 8 (by kernel_rfl) rfl ?_
    refine AAny.each (rs := [1, 9]) (by kernel_rfl) (fun h => by cases h) (fun i hi => ?_)
    simp only [List.mem_cons, List.not_mem_nil, or_false] at hi
    rcases hi with rfl | rfl
    ·refine AOp.rd rfl rfl rfl (ltb rfl) (aload_rd hG rfl rfl rfl (by first | (simp [ldok]; done) | exact List.not_mem_nil | trivial)) ?_
     obtain ⟨r150, hg151, hM⟩ := bind_t hM
     refine yC 9 (by kernel_rfl) rfl rfl (ih_s_l08Cut k1 n1 p1 e1 fs1 q1 f1 ks1 k147 n147 p147 e147 fs147 q147 f147 ks147 i117 hg151 _ _) (callK_retX (fun v tk152 (hle153 : tkj116 ≤ tk152) h154 => ?_))
     obtain ⟨k155, n155, p155, e155, fs155, q155, f155, ks155, rfl, rfl, hf156⟩ := h154
     refine AAny.one (i := 10) (by kernel_rfl) (AOp.step rfl rfl rfl (ltb rfl) (buildSlice_step (d := 76) hG rfl rfl rfl rfl rfl (by rfl) (by rfl) (by rfl) (by decide)) yE ?_)
     obtain ⟨hc157, hM⟩ := chk_t hM
     try rw [show ((pers ([] : List LP)) ++ [(Pf.mk k155 n155 (fers fs155) (pers ks155))] : List Pf) = (pers (([] : List LP) ++ [LP.mk k155 n155 p155 e155 fs155 q155 f155 ks155])) from pers_app ([] : List LP) [LP.mk k155 n155 p155 e155 fs155 q155 f155 ks155]] at hM
     refine AAny.one (i := 11) (by kernel_rfl) (AOp.step rfl rfl rfl (ltb rfl) (appendFM_step (d := 77) hG rfl rfl rfl rfl rfl rfl rfl (pcellss_sz ([] : List LP)) rfl (pcellss_sz ([LP.mk k155 n155 p155 e155 fs155 q155 f155 ks155])) (plen ([] : List LP)) (plen ([LP.mk k155 n155 p155 e155 fs155 q155 f155 ks155])) (by simp [pers]) hc157 (by decide) (pcellss_app _ _)) yE ?_)
     refine yTF hG 12 (by kernel_rfl) rfl ?_
     refine yW hG 13 (by kernel_rfl) rfl (by kernel_rfl) rfl ?_
     refine AAny.done (by kernel_rfl) ?_
     refine run_blk ?_
     refine run_sub_code (σ' := ⟨[(2, .int .i64 i117), (3, .optr (.loc 3) 0 0), (4, .optr (.loc 4) 0 0), (6, .optr (.loc 6) 0 0), (7, .optr (.loc 7) 0 0), (9, .int .i64 0)], [(77, ⟨26, 4, false, pcellss (([] : List LP) ++ [LP.mk k155 n155 p155 e155 fs155 q155 f155 ks155])⟩), (7, ⟨26, 4, true, [[.int .i64 k2, .int .i64 0, .imm 0 3 true [], .osl (.loc 77)]]⟩), (6, ⟨26, 4, true, [[.int .i64 0, .int .i64 0, .imm 0 3 true [], .imm 0 4 true []]]⟩), (4, ⟨26, 4, true, [[.int .i64 k2, .int .i64 n2, .imm p2 3 e2 (fcellss fs2), .imm q2 4 f2 (pcellss ks2)]]⟩), (3, ⟨26, 4, true, [[.int .i64 k1, .int .i64 n1, .imm p1 3 e1 (fcellss fs1), .imm q1 4 f1 (pcellss ks1)]]⟩)], [], O, tk152⟩) (Sub.trans (Sub.drop (k := 76) rfl) (Sub.env _ ⟨rfl, rfl, rfl, rfl, rfl, rfl, trivial⟩)) ?_
     refine run_region ?_
     refine yL rfl ?_
     refine yB rfl ?_
     refine yR rfl ?_
     refine yN ?_
     exact run_loop_end ⟨n, _, Nat.le_refl _, ⟨(IntKind.i64.wrap (0 + 1)), (([] : List LP) ++ [LP.mk k155 n155 p155 e155 fs155 q155 f155 ks155]), tk152, (show tkj116 ≤ tk152 by omega), (show Fr tkj116 tk152 _ from (Fr.pcons ((show Fr tkj116 tk152 _ from hf156 rfl)) (show Fr tk152 tk152 _ from Fr.nil _ _) (by omega) (by omega)).mono (by omega) (by omega)), hM, rfl⟩, Sub.pk [2, 3, 4, 6, 7, 9] rfl⟩
    obtain ⟨r158, hg159, hM⟩ := bind_t hM
    refine yI rfl rfl (ih_s_l08Cut k1 n1 p1 e1 fs1 q1 f1 ks1 k147 n147 p147 e147 fs147 q147 f147 ks147 i117 hg159 _ _) (callK_retX (fun v tk160 (hle161 : tkj116 ≤ tk160) h162 => ?_))
    obtain ⟨k163, n163, p163, e163, fs163, q163, f163, ks163, rfl, rfl, hf164⟩ := h162
    refine AAny.each (rs := [1, 10]) (by kernel_rfl) (fun h => by cases h) (fun i hi => ?_)
    simp only [List.mem_cons, List.not_mem_nil, or_false] at hi
    rcases hi with rfl | rfl
    ·refine AOp.rd rfl rfl rfl (ltb rfl) (aload_rd hG rfl rfl rfl (by first | (simp [ldok]; done) | exact List.not_mem_nil | trivial)) ?_
     refine AAny.one (i := 10) (by kernel_rfl) (AOp.step rfl rfl rfl (ltb rfl) (buildSlice_step (d := 76) hG rfl rfl rfl rfl rfl (by rfl) (by rfl) (by rfl) (by decide)) yE ?_)
     obtain ⟨hc165, hM⟩ := chk_t hM
     try rw [show ((pers ([] : List LP)) ++ [(Pf.mk k163 n163 (fers fs163) (pers ks163))] : List Pf) = (pers (([] : List LP) ++ [LP.mk k163 n163 p163 e163 fs163 q163 f163 ks163])) from pers_app ([] : List LP) [LP.mk k163 n163 p163 e163 fs163 q163 f163 ks163]] at hM
     refine AAny.one (i := 11) (by kernel_rfl) (AOp.step rfl rfl rfl (ltb rfl) (appendFM_step (d := 77) hG rfl rfl rfl rfl rfl rfl rfl (pcellss_sz ([] : List LP)) rfl (pcellss_sz ([LP.mk k163 n163 p163 e163 fs163 q163 f163 ks163])) (plen ([] : List LP)) (plen ([LP.mk k163 n163 p163 e163 fs163 q163 f163 ks163])) (by simp [pers]) hc165 (by decide) (pcellss_app _ _)) yE ?_)
     refine yTF hG 12 (by kernel_rfl) rfl ?_
     refine yW hG 13 (by kernel_rfl) rfl (by kernel_rfl) rfl ?_
     refine AAny.done (by kernel_rfl) ?_
     refine run_blk ?_
     refine run_sub_code (σ' := ⟨[(2, .int .i64 i117), (3, .optr (.loc 3) 0 0), (4, .optr (.loc 4) 0 0), (6, .optr (.loc 6) 0 0), (7, .optr (.loc 7) 0 0), (9, .int .i64 0)], [(77, ⟨26, 4, false, pcellss (([] : List LP) ++ [LP.mk k163 n163 p163 e163 fs163 q163 f163 ks163])⟩), (7, ⟨26, 4, true, [[.int .i64 k2, .int .i64 0, .imm 0 3 true [], .osl (.loc 77)]]⟩), (6, ⟨26, 4, true, [[.int .i64 0, .int .i64 0, .imm 0 3 true [], .imm 0 4 true []]]⟩), (4, ⟨26, 4, true, [[.int .i64 k2, .int .i64 n2, .imm p2 3 e2 (fcellss fs2), .imm q2 4 f2 (pcellss ks2)]]⟩), (3, ⟨26, 4, true, [[.int .i64 k1, .int .i64 n1, .imm p1 3 e1 (fcellss fs1), .imm q1 4 f1 (pcellss ks1)]]⟩)], [], O, tk160⟩) (Sub.trans (Sub.drop (k := 76) rfl) (Sub.env _ ⟨rfl, rfl, rfl, rfl, rfl, rfl, trivial⟩)) ?_
     refine run_region ?_
     refine yL rfl ?_
     refine yB rfl ?_
     refine yR rfl ?_
     refine yN ?_
     exact run_loop_end ⟨n, _, Nat.le_refl _, ⟨(IntKind.i64.wrap (0 + 1)), (([] : List LP) ++ [LP.mk k163 n163 p163 e163 fs163 q163 f163 ks163]), tk160, (show tkj116 ≤ tk160 by omega), (show Fr tkj116 tk160 _ from (Fr.pcons ((show Fr tkj116 tk160 _ from hf164 rfl)) (show Fr tk160 tk160 _ from Fr.nil _ _) (by omega) (by omega)).mono (by omega) (by omega)), hM, rfl⟩, Sub.pk [2, 3, 4, 6, 7, 9] rfl⟩
    refine AOp.step rfl rfl rfl (ltb rfl) (buildSlice_step (d := 76) hG rfl rfl rfl rfl rfl (by rfl) (by rfl) (by rfl) (by decide)) yE ?_
    refine AAny.one (i := 1) (by kernel_rfl) (AOp.rd rfl rfl rfl (ltb rfl) (aload_rd hG rfl rfl rfl (by first | (simp [ldok]; done) | exact List.not_mem_nil | trivial)) ?_)
    obtain ⟨hc166, hM⟩ := chk_t hM
    try rw [show ((pers ([] : List LP)) ++ [(Pf.mk k163 n163 (fers fs163) (pers ks163))] : List Pf) = (pers (([] : List LP) ++ [LP.mk k163 n163 p163 e163 fs163 q163 f163 ks163])) from pers_app ([] : List LP) [LP.mk k163 n163 p163 e163 fs163 q163 f163 ks163]] at hM
    refine AAny.one (i := 11) (by kernel_rfl) (AOp.step rfl rfl rfl (ltb rfl) (appendFM_step (d := 77) hG rfl rfl rfl rfl rfl rfl rfl (pcellss_sz ([] : List LP)) rfl (pcellss_sz ([LP.mk k163 n163 p163 e163 fs163 q163 f163 ks163])) (plen ([] : List LP)) (plen ([LP.mk k163 n163 p163 e163 fs163 q163 f163 ks163])) (by simp [pers]) hc166 (by decide) (pcellss_app _ _)) yE ?_)
    refine yTF hG 12 (by kernel_rfl) rfl ?_
    refine yW hG 13 (by kernel_rfl) rfl (by kernel_rfl) rfl ?_
    refine AAny.done (by kernel_rfl) ?_
    refine run_blk ?_
    refine run_sub_code (σ' := ⟨[(2, .int .i64 i117), (3, .optr (.loc 3) 0 0), (4, .optr (.loc 4) 0 0), (6, .optr (.loc 6) 0 0), (7, .optr (.loc 7) 0 0), (9, .int .i64 0)], [(77, ⟨26, 4, false, pcellss (([] : List LP) ++ [LP.mk k163 n163 p163 e163 fs163 q163 f163 ks163])⟩), (7, ⟨26, 4, true, [[.int .i64 k2, .int .i64 0, .imm 0 3 true [], .osl (.loc 77)]]⟩), (6, ⟨26, 4, true, [[.int .i64 0, .int .i64 0, .imm 0 3 true [], .imm 0 4 true []]]⟩), (4, ⟨26, 4, true, [[.int .i64 k2, .int .i64 n2, .imm p2 3 e2 (fcellss fs2), .imm q2 4 f2 (pcellss ks2)]]⟩), (3, ⟨26, 4, true, [[.int .i64 k1, .int .i64 n1, .imm p1 3 e1 (fcellss fs1), .imm q1 4 f1 (pcellss ks1)]]⟩)], [], O, tk160⟩) (Sub.trans (Sub.drop (k := 76) rfl) (Sub.env _ ⟨rfl, rfl, rfl, rfl, rfl, rfl, trivial⟩)) ?_
    refine run_region ?_
    refine yL rfl ?_
    refine yB rfl ?_
    refine yR rfl ?_
    refine yN ?_
    exact run_loop_end ⟨n, _, Nat.le_refl _, ⟨(IntKind.i64.wrap (0 + 1)), (([] : List LP) ++ [LP.mk k163 n163 p163 e163 fs163 q163 f163 ks163]), tk160, (show tkj116 ≤ tk160 by omega), (show Fr tkj116 tk160 _ from (Fr.pcons ((show Fr tkj116 tk160 _ from hf164 rfl)) (show Fr tk160 tk160 _ from Fr.nil _ _) (by omega) (by omega)).mono (by omega) (by omega)), hM, rfl⟩, Sub.pk [2, 3, 4, 6, 7, 9] rfl⟩
   replace hM := ite_f hb144 hM
   refine run_exit_to rfl ?_
   refine run_sr ?_
   refine yD hG rfl ?_
   refine yS hG rfl ?_
   refine yN ?_
   refine run_ret_to ?_
   replace hM := some_t hM
   subst hM
   refine fin_x hG rfl rfl rfl (v' := .agg [.int .i64 k2, .int .i64 0, .imm 0 3 true (fcellss []), .imm 0 4 true (pcellss [])]) (by rfl) ⟨rfl, (show tk ≤ tkj116 by omega), _, rfl, ⟨k2, 0, 0, true, [], 0, true, [], rfl, rfl, fun _ => Fr.nil _ _⟩⟩
  clear hM
  obtain ⟨i119, ks120, tks_l08Cut_L3, hle167, hfr120, hM, rfl⟩ := hI
  obtain _ | m := m
  ·exact absurd hM (by rw [s_l08Cut_L3]; exact fun h => by cases h)
  rw [s_l08Cut_L3] at hM
  refine run_seq ?_
  refine run_sr ?_
  refine yL rfl ?_
  refine yF hG rfl ?_
  refine yD hG rfl ?_
  refine run_pu rfl (lenImm_step hG rfl rfl rfl rfl (plen _)) rfl (ltb rfl) ?_
  refine yB rfl ?_
  refine yN ?_
  refine run_ifd rfl rfl (fun hb121 => ?_) (fun hb121 => ?_)
  ·replace hM := ite_t hb121 hM
   refine run_skip ?_
   refine run_seq ?_
   refine run_block ?_
   refine run_draw [.loc 7, .loc 77] (n := 14) mixed rfl (by intro x hx; simp only [List.mem_cons, List.not_mem_nil, or_false] at hx; rcases hx with rfl | rfl <;> rfl) ?_
   refine yTF hG 0 (by kernel_rfl) rfl ?_
   refine yTL hG 2 (by kernel_rfl) rfl ?_
   refine yTF hG 3 (by kernel_rfl) rfl ?_
   refine yTL hG 4 (by kernel_rfl) rfl ?_
   refine yTV 5 (by kernel_rfl) rfl ?_
   obtain ⟨y122, hy123, hM⟩ := bind_t hM
   obtain ⟨k124, n124, p124, e124, fs124, q124, f124, ks124, rfl, hc125, hi126⟩ := pidx (ks := ks2) hy123
   refine yT 6 (by kernel_rfl) rfl rfl rfl (ltb rfl) ((indexImm_step hG rfl rfl rfl hi126 rfl rfl rfl rfl hc125).rd _) ?_
   refine yTL hG 7 (by kernel_rfl) rfl ?_
   refine yTV 8 (by kernel_rfl) rfl ?_
   refine AAny.each (rs := [1, 9]) (by kernel_rfl) (fun h => by cases h) (fun i hi => ?_)
   simp only [List.mem_cons, List.not_mem_nil, or_false] at hi
   rcases hi with rfl | rfl
   ·refine AOp.rd rfl rfl rfl (ltb rfl) (aload_rd hG rfl rfl rfl (by first | (simp [ldok]; done) | exact List.not_mem_nil | trivial)) ?_
    obtain ⟨r127, hg128, hM⟩ := bind_t hM
    refine yC 9 (by kernel_rfl) rfl rfl (ih_s_l08Cut k1 n1 p1 e1 fs1 q1 f1 ks1 k124 n124 p124 e124 fs124 q124 f124 ks124 i117 hg128 _ _) (callK_retX (fun v tk129 (hle130 : tks_l08Cut_L3 ≤ tk129) h131 => ?_))
    obtain ⟨k132, n132, p132, e132, fs132, q132, f132, ks132, rfl, rfl, hf133⟩ := h131
    refine AAny.one (i := 10) (by kernel_rfl) (AOp.step rfl rfl rfl (ltb rfl) (buildSlice_step (d := 76) hG rfl rfl rfl rfl rfl (by rfl) (by rfl) (by rfl) (by decide)) yE ?_)
    obtain ⟨hc134, hM⟩ := chk_t hM
    try rw [show ((pers ks120) ++ [(Pf.mk k132 n132 (fers fs132) (pers ks132))] : List Pf) = (pers (ks120 ++ [LP.mk k132 n132 p132 e132 fs132 q132 f132 ks132])) from pers_app ks120 [LP.mk k132 n132 p132 e132 fs132 q132 f132 ks132]] at hM
    refine AAny.one (i := 11) (by kernel_rfl) (AOp.step rfl rfl rfl (ltb rfl) (appendM_step hG rfl rfl rfl rfl rfl rfl rfl rfl rfl rfl rfl (pcellss_sz ([LP.mk k132 n132 p132 e132 fs132 q132 f132 ks132])) (plen ks120) (plen ([LP.mk k132 n132 p132 e132 fs132 q132 f132 ks132])) hc134 (by decide) (pcellss_app _ _)) (by intro x hx; simp only [List.mem_cons, List.not_mem_nil, or_false] at hx; subst hx; simp) ?_)
    refine yTF hG 12 (by kernel_rfl) rfl ?_
    refine yW hG 13 (by kernel_rfl) rfl (by kernel_rfl) rfl ?_
    refine AAny.done (by kernel_rfl) ?_
    refine run_blk ?_
    refine run_sub_code (σ' := ⟨[(2, .int .i64 i117), (3, .optr (.loc 3) 0 0), (4, .optr (.loc 4) 0 0), (6, .optr (.loc 6) 0 0), (7, .optr (.loc 7) 0 0), (9, .int .i64 i119)], [(77, ⟨26, 4, false, pcellss (ks120 ++ [LP.mk k132 n132 p132 e132 fs132 q132 f132 ks132])⟩), (7, ⟨26, 4, true, [[.int .i64 k2, .int .i64 0, .imm 0 3 true [], .osl (.loc 77)]]⟩), (6, ⟨26, 4, true, [[.int .i64 0, .int .i64 0, .imm 0 3 true [], .imm 0 4 true []]]⟩), (4, ⟨26, 4, true, [[.int .i64 k2, .int .i64 n2, .imm p2 3 e2 (fcellss fs2), .imm q2 4 f2 (pcellss ks2)]]⟩), (3, ⟨26, 4, true, [[.int .i64 k1, .int .i64 n1, .imm p1 3 e1 (fcellss fs1), .imm q1 4 f1 (pcellss ks1)]]⟩)], [], O, tk129⟩) (Sub.trans (Sub.drop (k := 76) rfl) (Sub.env _ ⟨rfl, rfl, rfl, rfl, rfl, rfl, trivial⟩)) ?_
    refine run_region ?_
    refine yL rfl ?_
    refine yB rfl ?_
    refine yR rfl ?_
    refine yN ?_
    exact run_loop_end ⟨m, _, Nat.lt_succ_self _, ⟨(IntKind.i64.wrap (i119 + 1)), (ks120 ++ [LP.mk k132 n132 p132 e132 fs132 q132 f132 ks132]), tk129, (show tkj116 ≤ tk129 by omega), (show Fr tkj116 tk129 _ from (Fr.psnoc (show Fr tkj116 tks_l08Cut_L3 _ from (hfr120).mono (by omega) (by omega)) ((show Fr tks_l08Cut_L3 tk129 _ from hf133 rfl)) (by omega) (by omega)).mono (by omega) (by omega)), hM, rfl⟩, Sub.pk [2, 3, 4, 6, 7, 9] rfl⟩
   obtain ⟨r135, hg136, hM⟩ := bind_t hM
   refine yI rfl rfl (ih_s_l08Cut k1 n1 p1 e1 fs1 q1 f1 ks1 k124 n124 p124 e124 fs124 q124 f124 ks124 i117 hg136 _ _) (callK_retX (fun v tk137 (hle138 : tks_l08Cut_L3 ≤ tk137) h139 => ?_))
   obtain ⟨k140, n140, p140, e140, fs140, q140, f140, ks140, rfl, rfl, hf141⟩ := h139
   refine AAny.each (rs := [1, 10]) (by kernel_rfl) (fun h => by cases h) (fun i hi => ?_)
   simp only [List.mem_cons, List.not_mem_nil, or_false] at hi
   rcases hi with rfl | rfl
   ·refine AOp.rd rfl rfl rfl (ltb rfl) (aload_rd hG rfl rfl rfl (by first | (simp [ldok]; done) | exact List.not_mem_nil | trivial)) ?_
    refine AAny.one (i := 10) (by kernel_rfl) (AOp.step rfl rfl rfl (ltb rfl) (buildSlice_step (d := 76) hG rfl rfl rfl rfl rfl (by rfl) (by rfl) (by rfl) (by decide)) yE ?_)
    obtain ⟨hc142, hM⟩ := chk_t hM
    try rw [show ((pers ks120) ++ [(Pf.mk k140 n140 (fers fs140) (pers ks140))] : List Pf) = (pers (ks120 ++ [LP.mk k140 n140 p140 e140 fs140 q140 f140 ks140])) from pers_app ks120 [LP.mk k140 n140 p140 e140 fs140 q140 f140 ks140]] at hM
    refine AAny.one (i := 11) (by kernel_rfl) (AOp.step rfl rfl rfl (ltb rfl) (appendM_step hG rfl rfl rfl rfl rfl rfl rfl rfl rfl rfl rfl (pcellss_sz ([LP.mk k140 n140 p140 e140 fs140 q140 f140 ks140])) (plen ks120) (plen ([LP.mk k140 n140 p140 e140 fs140 q140 f140 ks140])) hc142 (by decide) (pcellss_app _ _)) (by intro x hx; simp only [List.mem_cons, List.not_mem_nil, or_false] at hx; subst hx; simp) ?_)
    refine yTF hG 12 (by kernel_rfl) rfl ?_
    refine yW hG 13 (by kernel_rfl) rfl (by kernel_rfl) rfl ?_
    refine AAny.done (by kernel_rfl) ?_
    refine run_blk ?_
    refine run_sub_code (σ' := ⟨[(2, .int .i64 i117), (3, .optr (.loc 3) 0 0), (4, .optr (.loc 4) 0 0), (6, .optr (.loc 6) 0 0), (7, .optr (.loc 7) 0 0), (9, .int .i64 i119)], [(77, ⟨26, 4, false, pcellss (ks120 ++ [LP.mk k140 n140 p140 e140 fs140 q140 f140 ks140])⟩), (7, ⟨26, 4, true, [[.int .i64 k2, .int .i64 0, .imm 0 3 true [], .osl (.loc 77)]]⟩), (6, ⟨26, 4, true, [[.int .i64 0, .int .i64 0, .imm 0 3 true [], .imm 0 4 true []]]⟩), (4, ⟨26, 4, true, [[.int .i64 k2, .int .i64 n2, .imm p2 3 e2 (fcellss fs2), .imm q2 4 f2 (pcellss ks2)]]⟩), (3, ⟨26, 4, true, [[.int .i64 k1, .int .i64 n1, .imm p1 3 e1 (fcellss fs1), .imm q1 4 f1 (pcellss ks1)]]⟩)], [], O, tk137⟩) (Sub.trans (Sub.drop (k := 76) rfl) (Sub.env _ ⟨rfl, rfl, rfl, rfl, rfl, rfl, trivial⟩)) ?_
    refine run_region ?_
    refine yL rfl ?_
    refine yB rfl ?_
    refine yR rfl ?_
    refine yN ?_
    exact run_loop_end ⟨m, _, Nat.lt_succ_self _, ⟨(IntKind.i64.wrap (i119 + 1)), (ks120 ++ [LP.mk k140 n140 p140 e140 fs140 q140 f140 ks140]), tk137, (show tkj116 ≤ tk137 by omega), (show Fr tkj116 tk137 _ from (Fr.psnoc (show Fr tkj116 tks_l08Cut_L3 _ from (hfr120).mono (by omega) (by omega)) ((show Fr tks_l08Cut_L3 tk137 _ from hf141 rfl)) (by omega) (by omega)).mono (by omega) (by omega)), hM, rfl⟩, Sub.pk [2, 3, 4, 6, 7, 9] rfl⟩
   refine AOp.step rfl rfl rfl (ltb rfl) (buildSlice_step (d := 76) hG rfl rfl rfl rfl rfl (by rfl) (by rfl) (by rfl) (by decide)) yE ?_
   refine AAny.one (i := 1) (by kernel_rfl) (AOp.rd rfl rfl rfl (ltb rfl) (aload_rd hG rfl rfl rfl (by first | (simp [ldok]; done) | exact List.not_mem_nil | trivial)) ?_)
   obtain ⟨hc143, hM⟩ := chk_t hM
   try rw [show ((pers ks120) ++ [(Pf.mk k140 n140 (fers fs140) (pers ks140))] : List Pf) = (pers (ks120 ++ [LP.mk k140 n140 p140 e140 fs140 q140 f140 ks140])) from pers_app ks120 [LP.mk k140 n140 p140 e140 fs140 q140 f140 ks140]] at hM
   refine AAny.one (i := 11) (by kernel_rfl) (AOp.step rfl rfl rfl (ltb rfl) (appendM_step hG rfl rfl rfl rfl rfl rfl rfl rfl rfl rfl rfl (pcellss_sz ([LP.mk k140 n140 p140 e140 fs140 q140 f140 ks140])) (plen ks120) (plen ([LP.mk k140 n140 p140 e140 fs140 q140 f140 ks140])) hc143 (by decide) (pcellss_app _ _)) (by intro x hx; simp only [List.mem_cons, List.not_mem_nil, or_false] at hx; subst hx; simp) ?_)
   refine yTF hG 12 (by kernel_rfl) rfl ?_
   refine yW hG 13 (by kernel_rfl) rfl (by kernel_rfl) rfl ?_
   refine AAny.done (by kernel_rfl) ?_
   refine run_blk ?_
   refine run_sub_code (σ' := ⟨[(2, .int .i64 i117), (3, .optr (.loc 3) 0 0), (4, .optr (.loc 4) 0 0), (6, .optr (.loc 6) 0 0), (7, .optr (.loc 7) 0 0), (9, .int .i64 i119)], [(77, ⟨26, 4, false, pcellss (ks120 ++ [LP.mk k140 n140 p140 e140 fs140 q140 f140 ks140])⟩), (7, ⟨26, 4, true, [[.int .i64 k2, .int .i64 0, .imm 0 3 true [], .osl (.loc 77)]]⟩), (6, ⟨26, 4, true, [[.int .i64 0, .int .i64 0, .imm 0 3 true [], .imm 0 4 true []]]⟩), (4, ⟨26, 4, true, [[.int .i64 k2, .int .i64 n2, .imm p2 3 e2 (fcellss fs2), .imm q2 4 f2 (pcellss ks2)]]⟩), (3, ⟨26, 4, true, [[.int .i64 k1, .int .i64 n1, .imm p1 3 e1 (fcellss fs1), .imm q1 4 f1 (pcellss ks1)]]⟩)], [], O, tk137⟩) (Sub.trans (Sub.drop (k := 76) rfl) (Sub.env _ ⟨rfl, rfl, rfl, rfl, rfl, rfl, trivial⟩)) ?_
   refine run_region ?_
   refine yL rfl ?_
   refine yB rfl ?_
   refine yR rfl ?_
   refine yN ?_
   exact run_loop_end ⟨m, _, Nat.lt_succ_self _, ⟨(IntKind.i64.wrap (i119 + 1)), (ks120 ++ [LP.mk k140 n140 p140 e140 fs140 q140 f140 ks140]), tk137, (show tkj116 ≤ tk137 by omega), (show Fr tkj116 tk137 _ from (Fr.psnoc (show Fr tkj116 tks_l08Cut_L3 _ from (hfr120).mono (by omega) (by omega)) ((show Fr tks_l08Cut_L3 tk137 _ from hf141 rfl)) (by omega) (by omega)).mono (by omega) (by omega)), hM, rfl⟩, Sub.pk [2, 3, 4, 6, 7, 9] rfl⟩
  replace hM := ite_f hb121 hM
  refine run_exit_to rfl ?_
  refine run_sr ?_
  refine yD hG rfl ?_
  refine yS hG rfl ?_
  refine yN ?_
  refine run_ret_to ?_
  refine fin_sub (Sub.freeze (k := 77) rfl rfl) ?_
  replace hM := some_t hM
  subst hM
  refine fin_x hG rfl rfl rfl (v' := .agg [.int .i64 k2, .int .i64 0, .imm 0 3 true (fcellss []), .imm tks_l08Cut_L3 4 false (pcellss ks120)]) (by rfl) ⟨rfl, (show tk ≤ (tks_l08Cut_L3 + 1) by omega), _, rfl, ⟨k2, 0, 0, true, [], tks_l08Cut_L3, false, ks120, rfl, rfl, fun _ => (show Fr tk (tks_l08Cut_L3 + 1) _ from (Fr.app (show Fr tkj116 tkj116 _ from Fr.nil _ _) (show Fr tkj116 (tks_l08Cut_L3 + 1) _ from Fr.pstop (show Fr tkj116 tks_l08Cut_L3 _ from (hfr120).mono (by omega) (by omega)) (by omega) (by omega)) (by omega) (by omega)).mono (by omega) (by omega))⟩⟩
 clear hM
 obtain ⟨i14, ks15, tks_l08Cut_L1, hle170, hfr15, hM, rfl⟩ := hI
 obtain _ | m := m
 ·exact absurd hM (by rw [s_l08Cut_L1]; exact fun h => by cases h)
 rw [s_l08Cut_L1] at hM
 refine run_seq ?_
 refine run_sr ?_
 refine yL rfl ?_
 refine yF hG rfl ?_
 refine yD hG rfl ?_
 refine run_pu rfl (lenImm_step hG rfl rfl rfl rfl (flen _)) rfl (ltb rfl) ?_
 refine yB rfl ?_
 refine yN ?_
 refine run_ifd rfl rfl (fun hb16 => ?_) (fun hb16 => ?_)
 ·replace hM := ite_t hb16 hM
  refine run_skip ?_
  refine run_seq ?_
  refine run_block ?_
  refine run_draw [.loc 7, .loc 52] (n := 12) mixed rfl (by intro x hx; simp only [List.mem_cons, List.not_mem_nil, or_false] at hx; rcases hx with rfl | rfl <;> rfl) ?_
  refine yTF hG 0 (by kernel_rfl) rfl ?_
  refine yTF hG 2 (by kernel_rfl) rfl ?_
  refine yTL hG 3 (by kernel_rfl) rfl ?_
  refine yTV 4 (by kernel_rfl) rfl ?_
  obtain ⟨y17, hy18, hM⟩ := bind_t hM
  obtain ⟨k19, n19, q19, f19, ks19, rfl, hc20, hi21⟩ := fidx (ks := fs2) hy18
  refine yT 5 (by kernel_rfl) rfl rfl rfl (ltb rfl) ((indexImm_step hG rfl rfl rfl hi21 rfl rfl rfl rfl hc20).rd _) ?_
  refine yTL hG 6 (by kernel_rfl) rfl ?_
  refine AAny.each (rs := [1, 7]) (by kernel_rfl) (fun h => by cases h) (fun i hi => ?_)
  simp only [List.mem_cons, List.not_mem_nil, or_false] at hi
  rcases hi with rfl | rfl
  ·refine AOp.rd rfl rfl rfl (ltb rfl) (aload_rd hG rfl rfl rfl (by first | (simp [ldok]; done) | exact List.not_mem_nil | trivial)) ?_
   obtain ⟨r22, hg23, hM⟩ := bind_t hM
   refine yC 7 (by kernel_rfl) rfl rfl (s_l08Copy_ok n k19 n19 q19 f19 ks19 hg23 _ _) (callK_retX (fun v tk24 (hle25 : tks_l08Cut_L1 ≤ tk24) h26 => ?_))
   obtain ⟨k27, n27, q27, f27, ks27, rfl, rfl, hf28⟩ := h26
   refine AAny.one (i := 8) (by kernel_rfl) (AOp.step rfl rfl rfl (ltb rfl) (buildSlice_step (d := 51) hG rfl rfl rfl rfl rfl (by rfl) (by rfl) (by rfl) (by decide)) yE ?_)
   obtain ⟨hc29, hM⟩ := chk_t hM
   try rw [show ((fers ks15) ++ [(F.mk k27 n27 (fers ks27))] : List F) = (fers (ks15 ++ [LF.mk k27 n27 q27 f27 ks27])) from fers_app ks15 [LF.mk k27 n27 q27 f27 ks27]] at hM
   refine AAny.one (i := 9) (by kernel_rfl) (AOp.step rfl rfl rfl (ltb rfl) (appendM_step hG rfl rfl rfl rfl rfl rfl rfl rfl rfl rfl rfl (fcellss_sz ([LF.mk k27 n27 q27 f27 ks27])) (flen ks15) (flen ([LF.mk k27 n27 q27 f27 ks27])) hc29 (by decide) (fcellss_app _ _)) (by intro x hx; simp only [List.mem_cons, List.not_mem_nil, or_false] at hx; subst hx; simp) ?_)
   refine yTF hG 10 (by kernel_rfl) rfl ?_
   refine yW hG 11 (by kernel_rfl) rfl (by kernel_rfl) rfl ?_
   refine AAny.done (by kernel_rfl) ?_
   refine run_blk ?_
   refine run_sub_code (σ' := ⟨[(2, .int .i64 i3), (3, .optr (.loc 3) 0 0), (4, .optr (.loc 4) 0 0), (6, .optr (.loc 6) 0 0), (7, .optr (.loc 7) 0 0), (8, .int .i64 i14)], [(52, ⟨28, 3, false, fcellss (ks15 ++ [LF.mk k27 n27 q27 f27 ks27])⟩), (7, ⟨26, 4, true, [[.int .i64 k2, .int .i64 0, .osl (.loc 52), .imm 0 4 true []]]⟩), (6, ⟨26, 4, true, [[.int .i64 0, .int .i64 0, .imm 0 3 true [], .imm 0 4 true []]]⟩), (4, ⟨26, 4, true, [[.int .i64 k2, .int .i64 n2, .imm p2 3 e2 (fcellss fs2), .imm q2 4 f2 (pcellss ks2)]]⟩), (3, ⟨26, 4, true, [[.int .i64 k1, .int .i64 n1, .imm p1 3 e1 (fcellss fs1), .imm q1 4 f1 (pcellss ks1)]]⟩)], [], O, tk24⟩) (Sub.trans (Sub.drop (k := 51) rfl) (Sub.env _ ⟨rfl, rfl, rfl, rfl, rfl, rfl, trivial⟩)) ?_
   refine run_region ?_
   refine yL rfl ?_
   refine yB rfl ?_
   refine yR rfl ?_
   refine yN ?_
   exact run_loop_end ⟨m, _, Nat.lt_succ_self _, ⟨(IntKind.i64.wrap (i14 + 1)), (ks15 ++ [LF.mk k27 n27 q27 f27 ks27]), tk24, (show tk ≤ tk24 by omega), (show Fr tk tk24 _ from (Fr.fsnoc (show Fr tk tks_l08Cut_L1 _ from (hfr15).mono (by omega) (by omega)) ((show Fr tks_l08Cut_L1 tk24 _ from hf28 rfl)) (by omega) (by omega)).mono (by omega) (by omega)), hM, rfl⟩, Sub.pk [2, 3, 4, 6, 7, 8] rfl⟩
  obtain ⟨r30, hg31, hM⟩ := bind_t hM
  refine yI rfl rfl (s_l08Copy_ok n k19 n19 q19 f19 ks19 hg31 _ _) (callK_retX (fun v tk32 (hle33 : tks_l08Cut_L1 ≤ tk32) h34 => ?_))
  obtain ⟨k35, n35, q35, f35, ks35, rfl, rfl, hf36⟩ := h34
  refine AAny.each (rs := [1, 8]) (by kernel_rfl) (fun h => by cases h) (fun i hi => ?_)
  simp only [List.mem_cons, List.not_mem_nil, or_false] at hi
  rcases hi with rfl | rfl
  ·refine AOp.rd rfl rfl rfl (ltb rfl) (aload_rd hG rfl rfl rfl (by first | (simp [ldok]; done) | exact List.not_mem_nil | trivial)) ?_
   refine AAny.one (i := 8) (by kernel_rfl) (AOp.step rfl rfl rfl (ltb rfl) (buildSlice_step (d := 51) hG rfl rfl rfl rfl rfl (by rfl) (by rfl) (by rfl) (by decide)) yE ?_)
   obtain ⟨hc37, hM⟩ := chk_t hM
   try rw [show ((fers ks15) ++ [(F.mk k35 n35 (fers ks35))] : List F) = (fers (ks15 ++ [LF.mk k35 n35 q35 f35 ks35])) from fers_app ks15 [LF.mk k35 n35 q35 f35 ks35]] at hM
   refine AAny.one (i := 9) (by kernel_rfl) (AOp.step rfl rfl rfl (ltb rfl) (appendM_step hG rfl rfl rfl rfl rfl rfl rfl rfl rfl rfl rfl (fcellss_sz ([LF.mk k35 n35 q35 f35 ks35])) (flen ks15) (flen ([LF.mk k35 n35 q35 f35 ks35])) hc37 (by decide) (fcellss_app _ _)) (by intro x hx; simp only [List.mem_cons, List.not_mem_nil, or_false] at hx; subst hx; simp) ?_)
   refine yTF hG 10 (by kernel_rfl) rfl ?_
   refine yW hG 11 (by kernel_rfl) rfl (by kernel_rfl) rfl ?_
   refine AAny.done (by kernel_rfl) ?_
   refine run_blk ?_
   refine run_sub_code (σ' := ⟨[(2, .int .i64 i3), (3, .optr (.loc 3) 0 0), (4, .optr (.loc 4) 0 0), (6, .optr (.loc 6) 0 0), (7, .optr (.loc 7) 0 0), (8, .int .i64 i14)], [(52, ⟨28, 3, false, fcellss (ks15 ++ [LF.mk k35 n35 q35 f35 ks35])⟩), (7, ⟨26, 4, true, [[.int .i64 k2, .int .i64 0, .osl (.loc 52), .imm 0 4 true []]]⟩), (6, ⟨26, 4, true, [[.int .i64 0, .int .i64 0, .imm 0 3 true [], .imm 0 4 true []]]⟩), (4, ⟨26, 4, true, [[.int .i64 k2, .int .i64 n2, .imm p2 3 e2 (fcellss fs2), .imm q2 4 f2 (pcellss ks2)]]⟩), (3, ⟨26, 4, true, [[.int .i64 k1, .int .i64 n1, .imm p1 3 e1 (fcellss fs1), .imm q1 4 f1 (pcellss ks1)]]⟩)], [], O, tk32⟩) (Sub.trans (Sub.drop (k := 51) rfl) (Sub.env _ ⟨rfl, rfl, rfl, rfl, rfl, rfl, trivial⟩)) ?_
   refine run_region ?_
   refine yL rfl ?_
   refine yB rfl ?_
   refine yR rfl ?_
   refine yN ?_
   exact run_loop_end ⟨m, _, Nat.lt_succ_self _, ⟨(IntKind.i64.wrap (i14 + 1)), (ks15 ++ [LF.mk k35 n35 q35 f35 ks35]), tk32, (show tk ≤ tk32 by omega), (show Fr tk tk32 _ from (Fr.fsnoc (show Fr tk tks_l08Cut_L1 _ from (hfr15).mono (by omega) (by omega)) ((show Fr tks_l08Cut_L1 tk32 _ from hf36 rfl)) (by omega) (by omega)).mono (by omega) (by omega)), hM, rfl⟩, Sub.pk [2, 3, 4, 6, 7, 8] rfl⟩
  refine AOp.step rfl rfl rfl (ltb rfl) (buildSlice_step (d := 51) hG rfl rfl rfl rfl rfl (by rfl) (by rfl) (by rfl) (by decide)) yE ?_
  refine AAny.one (i := 1) (by kernel_rfl) (AOp.rd rfl rfl rfl (ltb rfl) (aload_rd hG rfl rfl rfl (by first | (simp [ldok]; done) | exact List.not_mem_nil | trivial)) ?_)
  obtain ⟨hc38, hM⟩ := chk_t hM
  try rw [show ((fers ks15) ++ [(F.mk k35 n35 (fers ks35))] : List F) = (fers (ks15 ++ [LF.mk k35 n35 q35 f35 ks35])) from fers_app ks15 [LF.mk k35 n35 q35 f35 ks35]] at hM
  refine AAny.one (i := 9) (by kernel_rfl) (AOp.step rfl rfl rfl (ltb rfl) (appendM_step hG rfl rfl rfl rfl rfl rfl rfl rfl rfl rfl rfl (fcellss_sz ([LF.mk k35 n35 q35 f35 ks35])) (flen ks15) (flen ([LF.mk k35 n35 q35 f35 ks35])) hc38 (by decide) (fcellss_app _ _)) (by intro x hx; simp only [List.mem_cons, List.not_mem_nil, or_false] at hx; subst hx; simp) ?_)
  refine yTF hG 10 (by kernel_rfl) rfl ?_
  refine yW hG 11 (by kernel_rfl) rfl (by kernel_rfl) rfl ?_
  refine AAny.done (by kernel_rfl) ?_
  refine run_blk ?_
  refine run_sub_code (σ' := ⟨[(2, .int .i64 i3), (3, .optr (.loc 3) 0 0), (4, .optr (.loc 4) 0 0), (6, .optr (.loc 6) 0 0), (7, .optr (.loc 7) 0 0), (8, .int .i64 i14)], [(52, ⟨28, 3, false, fcellss (ks15 ++ [LF.mk k35 n35 q35 f35 ks35])⟩), (7, ⟨26, 4, true, [[.int .i64 k2, .int .i64 0, .osl (.loc 52), .imm 0 4 true []]]⟩), (6, ⟨26, 4, true, [[.int .i64 0, .int .i64 0, .imm 0 3 true [], .imm 0 4 true []]]⟩), (4, ⟨26, 4, true, [[.int .i64 k2, .int .i64 n2, .imm p2 3 e2 (fcellss fs2), .imm q2 4 f2 (pcellss ks2)]]⟩), (3, ⟨26, 4, true, [[.int .i64 k1, .int .i64 n1, .imm p1 3 e1 (fcellss fs1), .imm q1 4 f1 (pcellss ks1)]]⟩)], [], O, tk32⟩) (Sub.trans (Sub.drop (k := 51) rfl) (Sub.env _ ⟨rfl, rfl, rfl, rfl, rfl, rfl, trivial⟩)) ?_
  refine run_region ?_
  refine yL rfl ?_
  refine yB rfl ?_
  refine yR rfl ?_
  refine yN ?_
  exact run_loop_end ⟨m, _, Nat.lt_succ_self _, ⟨(IntKind.i64.wrap (i14 + 1)), (ks15 ++ [LF.mk k35 n35 q35 f35 ks35]), tk32, (show tk ≤ tk32 by omega), (show Fr tk tk32 _ from (Fr.fsnoc (show Fr tk tks_l08Cut_L1 _ from (hfr15).mono (by omega) (by omega)) ((show Fr tks_l08Cut_L1 tk32 _ from hf36 rfl)) (by omega) (by omega)).mono (by omega) (by omega)), hM, rfl⟩, Sub.pk [2, 3, 4, 6, 7, 8] rfl⟩
 replace hM := ite_f hb16 hM
 refine run_exit_to rfl ?_
 refine run_seq ?_
 refine run_sr ?_
 refine yF hG rfl ?_
 refine yD hG rfl ?_
 refine yB rfl ?_
 refine yN ?_
 obtain ⟨j39, hj92, hM⟩ := jn_t hM
 refine run_cutL [.code _] (fun σ' => ∃ (i40 : Int) (tkj39 : Nat), tks_l08Cut_L1 ≤ tkj39 ∧ j39 i40 = some r ∧ Sub ⟨Go.Proofs.Try.prog, S0, Go.Proofs.Try.f95.ntmps, [], fun _ => False, []⟩ σ' ⟨[(2, .int .i64 i40), (3, .optr (.loc 3) 0 0), (4, .optr (.loc 4) 0 0), (6, .optr (.loc 6) 0 0), (7, .optr (.loc 7) 0 0)], [(52, ⟨28, 3, false, fcellss ks15⟩), (7, ⟨26, 4, true, [[.int .i64 k2, .int .i64 0, .osl (.loc 52), .imm 0 4 true []]]⟩), (6, ⟨26, 4, true, [[.int .i64 0, .int .i64 0, .imm 0 3 true [], .imm 0 4 true []]]⟩), (4, ⟨26, 4, true, [[.int .i64 k2, .int .i64 n2, .imm p2 3 e2 (fcellss fs2), .imm q2 4 f2 (pcellss ks2)]]⟩), (3, ⟨26, 4, true, [[.int .i64 k1, .int .i64 n1, .imm p1 3 e1 (fcellss fs1), .imm q1 4 f1 (pcellss ks1)]]⟩)], [], O, tkj39⟩) rfl ?_ ?_
 ·refine run_ifd rfl rfl (fun hb41 => ?_) (fun hb41 => ?_)
  ·replace hM := ite_t hb41 hM
   refine run_region ?_
   refine yL rfl ?_
   refine yB rfl ?_
   refine yR rfl ?_
   refine yN ?_
   exact ⟨(IntKind.i64.wrap (i3 + 1)), tks_l08Cut_L1, (show tks_l08Cut_L1 ≤ tks_l08Cut_L1 by omega), hM, Sub.pk [2, 3, 4, 6, 7] rfl⟩
  replace hM := ite_f hb41 hM
  refine run_skip ?_
  exact ⟨i3, tks_l08Cut_L1, (show tks_l08Cut_L1 ≤ tks_l08Cut_L1 by omega), hM, Sub.pk [2, 3, 4, 6, 7] rfl⟩
 clear hM
 rintro σ' ⟨i40, tkj39, hle91, hM, hsub⟩
 rw [hj92] at hM
 clear hj92
 refine run_sub_code hsub ?_
 refine run_seq ?_
 refine run_sr ?_
 refine yR rfl ?_
 refine yN ?_
 refine run_block ?_
 refine run_peel (fun m σ => ∃ (i42 : Int) (ks43 : List LP) (tks_l08Cut_L2 : Nat), tkj39 ≤ tks_l08Cut_L2 ∧ Fr tkj39 tks_l08Cut_L2 (ptoks ks43) ∧ s_l08Cut_L2 (s_l08Cut n) (Pf.mk k1 n1 (fers fs1) (pers ks1)) (Pf.mk k2 n2 (fers fs2) (pers ks2)) (fers ks15) i40 m i42 (pers ks43) = some r ∧ σ = ⟨[(2, .int .i64 i40), (3, .optr (.loc 3) 0 0), (4, .optr (.loc 4) 0 0), (6, .optr (.loc 6) 0 0), (7, .optr (.loc 7) 0 0), (9, .int .i64 i42)], [(77, ⟨26, 4, false, pcellss ks43⟩), (52, ⟨28, 3, false, fcellss ks15⟩), (7, ⟨26, 4, true, [[.int .i64 k2, .int .i64 0, .osl (.loc 52), .osl (.loc 77)]]⟩), (6, ⟨26, 4, true, [[.int .i64 0, .int .i64 0, .imm 0 3 true [], .imm 0 4 true []]]⟩), (4, ⟨26, 4, true, [[.int .i64 k2, .int .i64 n2, .imm p2 3 e2 (fcellss fs2), .imm q2 4 f2 (pcellss ks2)]]⟩), (3, ⟨26, 4, true, [[.int .i64 k1, .int .i64 n1, .imm p1 3 e1 (fcellss fs1), .imm q1 4 f1 (pcellss ks1)]]⟩)], [], O, tks_l08Cut_L2⟩) n ?_ (fun m σ hI => ?_)
 ·refine run_seq ?_
  refine run_sr ?_
  refine yL rfl ?_
  refine yF hG rfl ?_
  refine yD hG rfl ?_
  refine run_pu rfl (lenImm_step hG rfl rfl rfl rfl (plen _)) rfl (ltb rfl) ?_
  refine yB rfl ?_
  refine yN ?_
  refine run_ifd rfl rfl (fun hb67 => ?_) (fun hb67 => ?_)
  ·replace hM := ite_t hb67 hM
   refine run_skip ?_
   refine run_seq ?_
   refine run_block ?_
   refine run_draw [.loc 7] (n := 14) mixed rfl (by intro x hx; simp only [List.mem_cons, List.not_mem_nil, or_false] at hx; rcases hx with rfl <;> rfl) ?_
   refine yTF hG 0 (by kernel_rfl) rfl ?_
   refine yTL hG 2 (by kernel_rfl) rfl ?_
   refine yTF hG 3 (by kernel_rfl) rfl ?_
   refine yTL hG 4 (by kernel_rfl) rfl ?_
   refine yTV 5 (by kernel_rfl) rfl ?_
   obtain ⟨y68, hy69, hM⟩ := bind_t hM
   obtain ⟨k70, n70, p70, e70, fs70, q70, f70, ks70, rfl, hc71, hi72⟩ := pidx (ks := ks2) hy69
   refine yT 6 (by kernel_rfl) rfl rfl rfl (ltb rfl) ((indexImm_step hG rfl rfl rfl hi72 rfl rfl rfl rfl hc71).rd _) ?_
   refine yTL hG 7 (by kernel_rfl) rfl ?_
   refine yTV 8 (by kernel_rfl) rfl ?_
   refine AAny.each (rs := [1, 9]) (by kernel_rfl) (fun h => by cases h) (fun i hi => ?_)
   simp only [List.mem_cons, List.not_mem_nil, or_false] at hi
   rcases hi with rfl | rfl
   ·refine AOp.rd rfl rfl rfl (ltb rfl) (aload_rd hG rfl rfl rfl (by first | (simp [ldok]; done) | exact List.not_mem_nil | trivial)) ?_
    obtain ⟨r73, hg74, hM⟩ := bind_t hM
    refine yC 9 (by kernel_rfl) rfl rfl (ih_s_l08Cut k1 n1 p1 e1 fs1 q1 f1 ks1 k70 n70 p70 e70 fs70 q70 f70 ks70 i40 hg74 _ _) (callK_retX (fun v tk75 (hle76 : tkj39 ≤ tk75) h77 => ?_))
    obtain ⟨k78, n78, p78, e78, fs78, q78, f78, ks78, rfl, rfl, hf79⟩ := h77
    refine AAny.one (i := 10) (by kernel_rfl) (AOp.step rfl rfl rfl (ltb rfl) (buildSlice_step (d := 76) hG rfl rfl rfl rfl rfl (by rfl) (by rfl) (by rfl) (by decide)) yE ?_)
    obtain ⟨hc80, hM⟩ := chk_t hM
    try rw [show ((pers ([] : List LP)) ++ [(Pf.mk k78 n78 (fers fs78) (pers ks78))] : List Pf) = (pers (([] : List LP) ++ [LP.mk k78 n78 p78 e78 fs78 q78 f78 ks78])) from pers_app ([] : List LP) [LP.mk k78 n78 p78 e78 fs78 q78 f78 ks78]] at hM
    refine AAny.one (i := 11) (by kernel_rfl) (AOp.step rfl rfl rfl (ltb rfl) (appendFM_step (d := 77) hG rfl rfl rfl rfl rfl rfl rfl (pcellss_sz ([] : List LP)) rfl (pcellss_sz ([LP.mk k78 n78 p78 e78 fs78 q78 f78 ks78])) (plen ([] : List LP)) (plen ([LP.mk k78 n78 p78 e78 fs78 q78 f78 ks78])) (by simp [pers]) hc80 (by decide) (pcellss_app _ _)) yE ?_)
    refine yTF hG 12 (by kernel_rfl) rfl ?_
    refine yW hG 13 (by kernel_rfl) rfl (by kernel_rfl) rfl ?_
    refine AAny.done (by kernel_rfl) ?_
    refine run_blk ?_
    refine run_sub_code (σ' := ⟨[(2, .int .i64 i40), (3, .optr (.loc 3) 0 0), (4, .optr (.loc 4) 0 0), (6, .optr (.loc 6) 0 0), (7, .optr (.loc 7) 0 0), (9, .int .i64 0)], [(77, ⟨26, 4, false, pcellss (([] : List LP) ++ [LP.mk k78 n78 p78 e78 fs78 q78 f78 ks78])⟩), (52, ⟨28, 3, false, fcellss ks15⟩), (7, ⟨26, 4, true, [[.int .i64 k2, .int .i64 0, .osl (.loc 52), .osl (.loc 77)]]⟩), (6, ⟨26, 4, true, [[.int .i64 0, .int .i64 0, .imm 0 3 true [], .imm 0 4 true []]]⟩), (4, ⟨26, 4, true, [[.int .i64 k2, .int .i64 n2, .imm p2 3 e2 (fcellss fs2), .imm q2 4 f2 (pcellss ks2)]]⟩), (3, ⟨26, 4, true, [[.int .i64 k1, .int .i64 n1, .imm p1 3 e1 (fcellss fs1), .imm q1 4 f1 (pcellss ks1)]]⟩)], [], O, tk75⟩) (Sub.trans (Sub.drop (k := 76) rfl) (Sub.env _ ⟨rfl, rfl, rfl, rfl, rfl, rfl, trivial⟩)) ?_
    refine run_region ?_
    refine yL rfl ?_
    refine yB rfl ?_
    refine yR rfl ?_
    refine yN ?_
    exact run_loop_end ⟨n, _, Nat.le_refl _, ⟨(IntKind.i64.wrap (0 + 1)), (([] : List LP) ++ [LP.mk k78 n78 p78 e78 fs78 q78 f78 ks78]), tk75, (show tkj39 ≤ tk75 by omega), (show Fr tkj39 tk75 _ from (Fr.pcons ((show Fr tkj39 tk75 _ from hf79 rfl)) (show Fr tk75 tk75 _ from Fr.nil _ _) (by omega) (by omega)).mono (by omega) (by omega)), hM, rfl⟩, Sub.pk [2, 3, 4, 6, 7, 9] rfl⟩
   obtain ⟨r81, hg82, hM⟩ := bind_t hM
   refine yI rfl rfl (ih_s_l08Cut k1 n1 p1 e1 fs1 q1 f1 ks1 k70 n70 p70 e70 fs70 q70 f70 ks70 i40 hg82 _ _) (callK_retX (fun v tk83 (hle84 : tkj39 ≤ tk83) h85 => ?_))
   obtain ⟨k86, n86, p86, e86, fs86, q86, f86, ks86, rfl, rfl, hf87⟩ := h85
   refine AAny.each (rs := [1, 10]) (by kernel_rfl) (fun h => by cases h) (fun i hi => ?_)
   simp only [List.mem_cons, List.not_mem_nil, or_false] at hi
   rcases hi with rfl | rfl
   ·refine AOp.rd rfl rfl rfl (ltb rfl) (aload_rd hG rfl rfl rfl (by first | (simp [ldok]; done) | exact List.not_mem_nil | trivial)) ?_
    refine AAny.one (i := 10) (by kernel_rfl) (AOp.step rfl rfl rfl (ltb rfl) (buildSlice_step (d := 76) hG rfl rfl rfl rfl rfl (by rfl) (by rfl) (by rfl) (by decide)) yE ?_)
    obtain ⟨hc88, hM⟩ := chk_t hM
    try rw [show ((pers ([] : List LP)) ++ [(Pf.mk k86 n86 (fers fs86) (pers ks86))] : List Pf) = (pers (([] : List LP) ++ [LP.mk k86 n86 p86 e86 fs86 q86 f86 ks86])) from pers_app ([] : List LP) [LP.mk k86 n86 p86 e86 fs86 q86 f86 ks86]] at hM
    refine AAny.one (i := 11) (by kernel_rfl) (AOp.step rfl rfl rfl (ltb rfl) (appendFM_step (d := 77) hG rfl rfl rfl rfl rfl rfl rfl (pcellss_sz ([] : List LP)) rfl (pcellss_sz ([LP.mk k86 n86 p86 e86 fs86 q86 f86 ks86])) (plen ([] : List LP)) (plen ([LP.mk k86 n86 p86 e86 fs86 q86 f86 ks86])) (by simp [pers]) hc88 (by decide) (pcellss_app _ _)) yE ?_)
    refine yTF hG 12 (by kernel_rfl) rfl ?_
    refine yW hG 13 (by kernel_rfl) rfl (by kernel_rfl) rfl ?_
    refine AAny.done (by kernel_rfl) ?_
    refine run_blk ?_
    refine run_sub_code (σ' := ⟨[(2, .int .i64 i40), (3, .optr (.loc 3) 0 0), (4, .optr (.loc 4) 0 0), (6, .optr (.loc 6) 0 0), (7, .optr (.loc 7) 0 0), (9, .int .i64 0)], [(77, ⟨26, 4, false, pcellss (([] : List LP) ++ [LP.mk k86 n86 p86 e86 fs86 q86 f86 ks86])⟩), (52, ⟨28, 3, false, fcellss ks15⟩), (7, ⟨26, 4, true, [[.int .i64 k2, .int .i64 0, .osl (.loc 52), .osl (.loc 77)]]⟩), (6, ⟨26, 4, true, [[.int .i64 0, .int .i64 0, .imm 0 3 true [], .imm 0 4 true []]]⟩), (4, ⟨26, 4, true, [[.int .i64 k2, .int .i64 n2, .imm p2 3 e2 (fcellss fs2), .imm q2 4 f2 (pcellss ks2)]]⟩), (3, ⟨26, 4, true, [[.int .i64 k1, .int .i64 n1, .imm p1 3 e1 (fcellss fs1), .imm q1 4 f1 (pcellss ks1)]]⟩)], [], O, tk83⟩) (Sub.trans (Sub.drop (k := 76) rfl) (Sub.env _ ⟨rfl, rfl, rfl, rfl, rfl, rfl, trivial⟩)) ?_
    refine run_region ?_
    refine yL rfl ?_
    refine yB rfl ?_
    refine yR rfl ?_
    refine yN ?_
    exact run_loop_end ⟨n, _, Nat.le_refl _, ⟨(IntKind.i64.wrap (0 + 1)), (([] : List LP) ++ [LP.mk k86 n86 p86 e86 fs86 q86 f86 ks86]), tk83, (show tkj39 ≤ tk83 by omega), (show Fr tkj39 tk83 _ from (Fr.pcons ((show Fr tkj39 tk83 _ from hf87 rfl)) (show Fr tk83 tk83 _ from Fr.nil _ _) (by omega) (by omega)).mono (by omega) (by omega)), hM, rfl⟩, Sub.pk [2, 3, 4, 6, 7, 9] rfl⟩
   refine AOp.step rfl rfl rfl (ltb rfl) (buildSlice_step (d := 76) hG rfl rfl rfl rfl rfl (by rfl) (by rfl) (by rfl) (by decide)) yE ?_
   refine AAny.one (i := 1) (by kernel_rfl) (AOp.rd rfl rfl rfl (ltb rfl) (aload_rd hG rfl rfl rfl (by first | (simp [ldok]; done) | exact List.not_mem_nil | trivial)) ?_)
   obtain ⟨hc89, hM⟩ := chk_t hM
   try rw [show ((pers ([] : List LP)) ++ [(Pf.mk k86 n86 (fers fs86) (pers ks86))] : List Pf) = (pers (([] : List LP) ++ [LP.mk k86 n86 p86 e86 fs86 q86 f86 ks86])) from pers_app ([] : List LP) [LP.mk k86 n86 p86 e86 fs86 q86 f86 ks86]] at hM
   refine AAny.one (i := 11) (by kernel_rfl) (AOp.step rfl rfl rfl (ltb rfl) (appendFM_step (d := 77) hG rfl rfl rfl rfl rfl rfl rfl (pcellss_sz ([] : List LP)) rfl (pcellss_sz ([LP.mk k86 n86 p86 e86 fs86 q86 f86 ks86])) (plen ([] : List LP)) (plen ([LP.mk k86 n86 p86 e86 fs86 q86 f86 ks86])) (by simp [pers]) hc89 (by decide) (pcellss_app _ _)) yE ?_)
   refine yTF hG 12 (by kernel_rfl) rfl ?_
   refine yW hG 13 (by kernel_rfl) rfl (by kernel_rfl) rfl ?_
   refine AAny.done (by kernel_rfl) ?_
   refine run_blk ?_
   refine run_sub_code (σ' := ⟨[(2, .int .i64 i40), (3, .optr (.loc 3) 0 0), (4, .optr (.loc 4) 0 0), (6, .optr (.loc 6) 0 0), (7, .optr (.loc 7) 0 0), (9, .int .i64 0)], [(77, ⟨26, 4, false, pcellss (([] : List LP) ++ [LP.mk k86 n86 p86 e86 fs86 q86 f86 ks86])⟩), (52, ⟨28, 3, false, fcellss ks15⟩), (7, ⟨26, 4, true, [[.int .i64 k2, .int .i64 0, .osl (.loc 52), .osl (.loc 77)]]⟩), (6, ⟨26, 4, true, [[.int .i64 0, .int .i64 0, .imm 0 3 true [], .imm 0 4 true []]]⟩), (4, ⟨26, 4, true, [[.int .i64 k2, .int .i64 n2, .imm p2 3 e2 (fcellss fs2), .imm q2 4 f2 (pcellss ks2)]]⟩), (3, ⟨26, 4, true, [[.int .i64 k1, .int .i64 n1, .imm p1 3 e1 (fcellss fs1), .imm q1 4 f1 (pcellss ks1)]]⟩)], [], O, tk83⟩) (Sub.trans (Sub.drop (k := 76) rfl) (Sub.env _ ⟨rfl, rfl, rfl, rfl, rfl, rfl, trivial⟩)) ?_
   refine run_region ?_
   refine yL rfl ?_
   refine yB rfl ?_
   refine yR rfl ?_
   refine yN ?_
   exact run_loop_end ⟨n, _, Nat.le_refl _, ⟨(IntKind.i64.wrap (0 + 1)), (([] : List LP) ++ [LP.mk k86 n86 p86 e86 fs86 q86 f86 ks86]), tk83, (show tkj39 ≤ tk83 by omega), (show Fr tkj39 tk83 _ from (Fr.pcons ((show Fr tkj39 tk83 _ from hf87 rfl)) (show Fr tk83 tk83 _ from Fr.nil _ _) (by omega) (by omega)).mono (by omega) (by omega)), hM, rfl⟩, Sub.pk [2, 3, 4, 6, 7, 9] rfl⟩
  replace hM := ite_f hb67 hM
  refine run_exit_to rfl ?_
  refine run_sr ?_
  refine yD hG rfl ?_
  refine yS hG rfl ?_
  refine yN ?_
  refine run_ret_to ?_
  refine fin_sub (Sub.freeze (k := 52) rfl rfl) ?_
  replace hM := some_t hM
  subst hM
  refine fin_x hG rfl rfl rfl (v' := .agg [.int .i64 k2, .int .i64 0, .imm tkj39 3 false (fcellss ks15), .imm 0 4 true (pcellss [])]) (by rfl) ⟨rfl, (show tk ≤ (tkj39 + 1) by omega), _, rfl, ⟨k2, 0, tkj39, false, ks15, 0, true, [], rfl, rfl, fun _ => (show Fr tk (tkj39 + 1) _ from (Fr.app (show Fr tk (tkj39 + 1) _ from Fr.fstop (show Fr tk tkj39 _ from (hfr15).mono (by omega) (by omega)) (by omega) (by omega)) (show Fr (tkj39 + 1) (tkj39 + 1) _ from Fr.nil _ _) (by omega) (by omega)).mono (by omega) (by omega))⟩⟩
 clear hM
 obtain ⟨i42, ks43, tks_l08Cut_L2, hle90, hfr43, hM, rfl⟩ := hI
 obtain _ | m := m
 ·exact absurd hM (by rw [s_l08Cut_L2]; exact fun h => by cases h)
 rw [s_l08Cut_L2] at hM
 refine run_seq ?_
 refine run_sr ?_
 refine yL rfl ?_
 refine yF hG rfl ?_
 refine yD hG rfl ?_
 refine run_pu rfl (lenImm_step hG rfl rfl rfl rfl (plen _)) rfl (ltb rfl) ?_
 refine yB rfl ?_
 refine yN ?_
 refine run_ifd rfl rfl (fun hb44 => ?_) (fun hb44 => ?_)
 ·replace hM := ite_t hb44 hM
  refine run_skip ?_
  refine run_seq ?_
  refine run_block ?_
  refine run_draw [.loc 7, .loc 77] (n := 14) mixed rfl (by intro x hx; simp only [List.mem_cons, List.not_mem_nil, or_false] at hx; rcases hx with rfl | rfl <;> rfl) ?_
  refine yTF hG 0 (by kernel_rfl) rfl ?_
  refine yTL hG 2 (by kernel_rfl) rfl ?_
  refine yTF hG 3 (by kernel_rfl) rfl ?_
  refine yTL hG 4 (by kernel_rfl) rfl ?_
  refine yTV 5 (by kernel_rfl) rfl ?_
  obtain ⟨y45, hy46, hM⟩ := bind_t hM
  obtain ⟨k47, n47, p47, e47, fs47, q47, f47, ks47, rfl, hc48, hi49⟩ := pidx (ks := ks2) hy46
  refine yT 6 (by kernel_rfl) rfl rfl rfl (ltb rfl) ((indexImm_step hG rfl rfl rfl hi49 rfl rfl rfl rfl hc48).rd _) ?_
  refine yTL hG 7 (by kernel_rfl) rfl ?_
  refine yTV 8 (by kernel_rfl) rfl ?_
  refine AAny.each (rs := [1, 9]) (by kernel_rfl) (fun h => by cases h) (fun i hi => ?_)
  simp only [List.mem_cons, List.not_mem_nil, or_false] at hi
  rcases hi with rfl | rfl
  ·refine AOp.rd rfl rfl rfl (ltb rfl) (aload_rd hG rfl rfl rfl (by first | (simp [ldok]; done) | exact List.not_mem_nil | trivial)) ?_
   obtain ⟨r50, hg51, hM⟩ := bind_t hM
   refine yC 9 (by kernel_rfl) rfl rfl (ih_s_l08Cut k1 n1 p1 e1 fs1 q1 f1 ks1 k47 n47 p47 e47 fs47 q47 f47 ks47 i40 hg51 _ _) (callK_retX (fun v tk52 (hle53 : tks_l08Cut_L2 ≤ tk52) h54 => ?_))
   obtain ⟨k55, n55, p55, e55, fs55, q55, f55, ks55, rfl, rfl, hf56⟩ := h54
   refine AAny.one (i := 10) (by kernel_rfl) (AOp.step rfl rfl rfl (ltb rfl) (buildSlice_step (d := 76) hG rfl rfl rfl rfl rfl (by rfl) (by rfl) (by rfl) (by decide)) yE ?_)
   obtain ⟨hc57, hM⟩ := chk_t hM
   try rw [show ((pers ks43) ++ [(Pf.mk k55 n55 (fers fs55) (pers ks55))] : List Pf) = (pers (ks43 ++ [LP.mk k55 n55 p55 e55 fs55 q55 f55 ks55])) from pers_app ks43 [LP.mk k55 n55 p55 e55 fs55 q55 f55 ks55]] at hM
   refine AAny.one (i := 11) (by kernel_rfl) (AOp.step rfl rfl rfl (ltb rfl) (appendM_step hG rfl rfl rfl rfl rfl rfl rfl rfl rfl rfl rfl (pcellss_sz ([LP.mk k55 n55 p55 e55 fs55 q55 f55 ks55])) (plen ks43) (plen ([LP.mk k55 n55 p55 e55 fs55 q55 f55 ks55])) hc57 (by decide) (pcellss_app _ _)) (by intro x hx; simp only [List.mem_cons, List.not_mem_nil, or_false] at hx; subst hx; simp) ?_)
   refine yTF hG 12 (by kernel_rfl) rfl ?_
   refine yW hG 13 (by kernel_rfl) rfl (by kernel_rfl) rfl ?_
   refine AAny.done (by kernel_rfl) ?_
   refine run_blk ?_
   refine run_sub_code (σ' := ⟨[(2, .int .i64 i40), (3, .optr (.loc 3) 0 0), (4, .optr (.loc 4) 0 0), (6, .optr (.loc 6) 0 0), (7, .optr (.loc 7) 0 0), (9, .int .i64 i42)], [(77, ⟨26, 4, false, pcellss (ks43 ++ [LP.mk k55 n55 p55 e55 fs55 q55 f55 ks55])⟩), (52, ⟨28, 3, false, fcellss ks15⟩), (7, ⟨26, 4, true, [[.int .i64 k2, .int .i64 0, .osl (.loc 52), .osl (.loc 77)]]⟩), (6, ⟨26, 4, true, [[.int .i64 0, .int .i64 0, .imm 0 3 true [], .imm 0 4 true []]]⟩), (4, ⟨26, 4, true, [[.int .i64 k2, .int .i64 n2, .imm p2 3 e2 (fcellss fs2), .imm q2 4 f2 (pcellss ks2)]]⟩), (3, ⟨26, 4, true, [[.int .i64 k1, .int .i64 n1, .imm p1 3 e1 (fcellss fs1), .imm q1 4 f1 (pcellss ks1)]]⟩)], [], O, tk52⟩) (Sub.trans (Sub.drop (k := 76) rfl) (Sub.env _ ⟨rfl, rfl, rfl, rfl, rfl, rfl, trivial⟩)) ?_
   refine run_region ?_
   refine yL rfl ?_
   refine yB rfl ?_
   refine yR rfl ?_
   refine yN ?_
   exact run_loop_end ⟨m, _, Nat.lt_succ_self _, ⟨(IntKind.i64.wrap (i42 + 1)), (ks43 ++ [LP.mk k55 n55 p55 e55 fs55 q55 f55 ks55]), tk52, (show tkj39 ≤ tk52 by omega), (show Fr tkj39 tk52 _ from (Fr.psnoc (show Fr tkj39 tks_l08Cut_L2 _ from (hfr43).mono (by omega) (by omega)) ((show Fr tks_l08Cut_L2 tk52 _ from hf56 rfl)) (by omega) (by omega)).mono (by omega) (by omega)), hM, rfl⟩, Sub.pk [2, 3, 4, 6, 7, 9] rfl⟩
  obtain ⟨r58, hg59, hM⟩ := bind_t hM
  refine yI rfl rfl (ih_s_l08Cut k1 n1 p1 e1 fs1 q1 f1 ks1 k47 n47 p47 e47 fs47 q47 f47 ks47 i40 hg59 _ _) (callK_retX (fun v tk60 (hle61 : tks_l08Cut_L2 ≤ tk60) h62 => ?_))
  obtain ⟨k63, n63, p63, e63, fs63, q63, f63, ks63, rfl, rfl, hf64⟩ := h62
  refine AAny.each (rs := [1, 10]) (by kernel_rfl) (fun h => by cases h) (fun i hi => ?_)
  simp only [List.mem_cons, List.not_mem_nil, or_false] at hi
  rcases hi with rfl | rfl
  ·refine AOp.rd rfl rfl rfl (ltb rfl) (aload_rd hG rfl rfl rfl (by first | (simp [ldok]; done) | exact List.not_mem_nil | trivial)) ?_
   refine AAny.one (i := 10) (by kernel_rfl) (AOp.step rfl rfl rfl (ltb rfl) (buildSlice_step (d := 76) hG rfl rfl rfl rfl rfl (by rfl) (by rfl) (by rfl) (by decide)) yE ?_)
   obtain ⟨hc65, hM⟩ := chk_t hM
   try rw [show ((pers ks43) ++ [(Pf.mk k63 n63 (fers fs63) (pers ks63))] : List Pf) = (pers (ks43 ++ [LP.mk k63 n63 p63 e63 fs63 q63 f63 ks63])) from pers_app ks43 [LP.mk k63 n63 p63 e63 fs63 q63 f63 ks63]] at hM
   refine AAny.one (i := 11) (by kernel_rfl) (AOp.step rfl rfl rfl (ltb rfl) (appendM_step hG rfl rfl rfl rfl rfl rfl rfl rfl rfl rfl rfl (pcellss_sz ([LP.mk k63 n63 p63 e63 fs63 q63 f63 ks63])) (plen ks43) (plen ([LP.mk k63 n63 p63 e63 fs63 q63 f63 ks63])) hc65 (by decide) (pcellss_app _ _)) (by intro x hx; simp only [List.mem_cons, List.not_mem_nil, or_false] at hx; subst hx; simp) ?_)
   refine yTF hG 12 (by kernel_rfl) rfl ?_
   refine yW hG 13 (by kernel_rfl) rfl (by kernel_rfl) rfl ?_
   refine AAny.done (by kernel_rfl) ?_
   refine run_blk ?_
   refine run_sub_code (σ' := ⟨[(2, .int .i64 i40), (3, .optr (.loc 3) 0 0), (4, .optr (.loc 4) 0 0), (6, .optr (.loc 6) 0 0), (7, .optr (.loc 7) 0 0), (9, .int .i64 i42)], [(77, ⟨26, 4, false, pcellss (ks43 ++ [LP.mk k63 n63 p63 e63 fs63 q63 f63 ks63])⟩), (52, ⟨28, 3, false, fcellss ks15⟩), (7, ⟨26, 4, true, [[.int .i64 k2, .int .i64 0, .osl (.loc 52), .osl (.loc 77)]]⟩), (6, ⟨26, 4, true, [[.int .i64 0, .int .i64 0, .imm 0 3 true [], .imm 0 4 true []]]⟩), (4, ⟨26, 4, true, [[.int .i64 k2, .int .i64 n2, .imm p2 3 e2 (fcellss fs2), .imm q2 4 f2 (pcellss ks2)]]⟩), (3, ⟨26, 4, true, [[.int .i64 k1, .int .i64 n1, .imm p1 3 e1 (fcellss fs1), .imm q1 4 f1 (pcellss ks1)]]⟩)], [], O, tk60⟩) (Sub.trans (Sub.drop (k := 76) rfl) (Sub.env _ ⟨rfl, rfl, rfl, rfl, rfl, rfl, trivial⟩)) ?_
   refine run_region ?_
   refine yL rfl ?_
   refine yB rfl ?_
   refine yR rfl ?_
   refine yN ?_
   exact run_loop_end ⟨m, _, Nat.lt_succ_self _, ⟨(IntKind.i64.wrap (i42 + 1)), (ks43 ++ [LP.mk k63 n63 p63 e63 fs63 q63 f63 ks63]), tk60, (show tkj39 ≤ tk60 by omega), (show Fr tkj39 tk60 _ from (Fr.psnoc (show Fr tkj39 tks_l08Cut_L2 _ from (hfr43).mono (by omega) (by omega)) ((show Fr tks_l08Cut_L2 tk60 _ from hf64 rfl)) (by omega) (by omega)).mono (by omega) (by omega)), hM, rfl⟩, Sub.pk [2, 3, 4, 6, 7, 9] rfl⟩
  refine AOp.step rfl rfl rfl (ltb rfl) (buildSlice_step (d := 76) hG rfl rfl rfl rfl rfl (by rfl) (by rfl) (by rfl) (by decide)) yE ?_
  refine AAny.one (i := 1) (by kernel_rfl) (AOp.rd rfl rfl rfl (ltb rfl) (aload_rd hG rfl rfl rfl (by first | (simp [ldok]; done) | exact List.not_mem_nil | trivial)) ?_)
  obtain ⟨hc66, hM⟩ := chk_t hM
  try rw [show ((pers ks43) ++ [(Pf.mk k63 n63 (fers fs63) (pers ks63))] : List Pf) = (pers (ks43 ++ [LP.mk k63 n63 p63 e63 fs63 q63 f63 ks63])) from pers_app ks43 [LP.mk k63 n63 p63 e63 fs63 q63 f63 ks63]] at hM
  refine AAny.one (i := 11) (by kernel_rfl) (AOp.step rfl rfl rfl (ltb rfl) (appendM_step hG rfl rfl rfl rfl rfl rfl rfl rfl rfl rfl rfl (pcellss_sz ([LP.mk k63 n63 p63 e63 fs63 q63 f63 ks63])) (plen ks43) (plen ([LP.mk k63 n63 p63 e63 fs63 q63 f63 ks63])) hc66 (by decide) (pcellss_app _ _)) (by intro x hx; simp only [List.mem_cons, List.not_mem_nil, or_false] at hx; subst hx; simp) ?_)
  refine yTF hG 12 (by kernel_rfl) rfl ?_
  refine yW hG 13 (by kernel_rfl) rfl (by kernel_rfl) rfl ?_
  refine AAny.done (by kernel_rfl) ?_
  refine run_blk ?_
  refine run_sub_code (σ' := ⟨[(2, .int .i64 i40), (3, .optr (.loc 3) 0 0), (4, .optr (.loc 4) 0 0), (6, .optr (.loc 6) 0 0), (7, .optr (.loc 7) 0 0), (9, .int .i64 i42)], [(77, ⟨26, 4, false, pcellss (ks43 ++ [LP.mk k63 n63 p63 e63 fs63 q63 f63 ks63])⟩), (52, ⟨28, 3, false, fcellss ks15⟩), (7, ⟨26, 4, true, [[.int .i64 k2, .int .i64 0, .osl (.loc 52), .osl (.loc 77)]]⟩), (6, ⟨26, 4, true, [[.int .i64 0, .int .i64 0, .imm 0 3 true [], .imm 0 4 true []]]⟩), (4, ⟨26, 4, true, [[.int .i64 k2, .int .i64 n2, .imm p2 3 e2 (fcellss fs2), .imm q2 4 f2 (pcellss ks2)]]⟩), (3, ⟨26, 4, true, [[.int .i64 k1, .int .i64 n1, .imm p1 3 e1 (fcellss fs1), .imm q1 4 f1 (pcellss ks1)]]⟩)], [], O, tk60⟩) (Sub.trans (Sub.drop (k := 76) rfl) (Sub.env _ ⟨rfl, rfl, rfl, rfl, rfl, rfl, trivial⟩)) ?_
  refine run_region ?_
  refine yL rfl ?_
  refine yB rfl ?_
  refine yR rfl ?_
  refine yN ?_
  exact run_loop_end ⟨m, _, Nat.lt_succ_self _, ⟨(IntKind.i64.wrap (i42 + 1)), (ks43 ++ [LP.mk k63 n63 p63 e63 fs63 q63 f63 ks63]), tk60, (show tkj39 ≤ tk60 by omega), (show Fr tkj39 tk60 _ from (Fr.psnoc (show Fr tkj39 tks_l08Cut_L2 _ from (hfr43).mono (by omega) (by omega)) ((show Fr tks_l08Cut_L2 tk60 _ from hf64 rfl)) (by omega) (by omega)).mono (by omega) (by omega)), hM, rfl⟩, Sub.pk [2, 3, 4, 6, 7, 9] rfl⟩
 replace hM := ite_f hb44 hM
 refine run_exit_to rfl ?_
 refine run_sr ?_
 refine yD hG rfl ?_
 refine yS hG rfl ?_
 refine yN ?_
 refine run_ret_to ?_
 refine fin_sub (Sub.freeze (k := 52) rfl rfl) ?_
 refine fin_sub (Sub.freeze (k := 77) rfl rfl) ?_
 replace hM := some_t hM
 subst hM
 refine fin_x hG rfl rfl rfl (v' := .agg [.int .i64 k2, .int .i64 0, .imm tks_l08Cut_L2 3 false (fcellss ks15), .imm (tks_l08Cut_L2 + 1) 4 false (pcellss ks43)]) (by rfl) ⟨rfl, (show tk ≤ ((tks_l08Cut_L2 + 1) + 1) by omega), _, rfl, ⟨k2, 0, tks_l08Cut_L2, false, ks15, (tks_l08Cut_L2 + 1), false, ks43, rfl, rfl, fun _ => (show Fr tk ((tks_l08Cut_L2 + 1) + 1) _ from by first | exact Fr.fpab (q1 := tks_l08Cut_L2) (q := (tks_l08Cut_L2 + 1)) (show Fr tk tks_l08Cut_L1 _ from hfr15) (show Fr tkj39 tks_l08Cut_L2 _ from hfr43) (by omega) (by omega) (by omega) (by omega) (by omega) (by omega) (by omega) (by omega) (by omega) | exact Fr.fpba (q1 := tks_l08Cut_L2) (q := (tks_l08Cut_L2 + 1)) (show Fr tk tks_l08Cut_L1 _ from hfr15) (show Fr tkj39 tks_l08Cut_L2 _ from hfr43) (by omega) (by omega) (by omega) (by omega) (by omega) (by omega) (by omega) (by omega) (by omega))⟩⟩

theorem s_l08Cut_all : ∀ (n : Nat), (s_l08Cut_P n)
 | 0 => by intro k1 n1 p1 e1 fs1 q1 f1 ks1 k2 n2 p2 e2 fs2 q2 f2 ks2 i3 r hM; rw [s_l08Cut] at hM; cases hM
 | n + 1 => have ih := s_l08Cut_all n; s_l08Cut_st n (ih)

theorem s_l08Cut_ok (n : Nat) : s_l08Cut_P n := s_l08Cut_all n

end Go.Am.Ytpkeophkdemcpaa
