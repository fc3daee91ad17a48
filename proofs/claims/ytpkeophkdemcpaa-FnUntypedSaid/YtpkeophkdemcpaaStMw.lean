/- Printed by a program of ours: Lean functions that do what the Go functions do, and the contracts. -/
import Derived.Test.YtpkeophkdemcpaaTypes
import Derived.Test.YtpkeophkdemcpaaMi4
import Derived.Test.YtpkeophkdemcpaaMc1
import Derived.Test.YtpkeophkdemcpaaMb3
import Derived.Test.YtpkeophkdemcpaaMp
import Derived.Test.YtpkeophkdemcpaaMxTA
import Derived.Test.YtpkeophkdemcpaaMz
-- packed
namespace Go.Am.Ytpkeophkdemcpaa
open Go Go.Am

def s_l09Move_L3 (rec_s_l09Move : Pf → Int → Int → Option Pf) (x1 : Pf) (i3 : Int) (i5 : Int) (i111 : Int) : Nat → Int → List Pf → Option Pf
 | 0, _, _ => none
 | m + 1, i113, l114 =>
  if i113 < ((x1.kids).length : Int) then
   (idx x1.kids i113).bind fun y116 =>
   (rec_s_l09Move y116 i111 i3).bind fun r121 =>
   chk ((l114).length + ([r121]).length ≤ 1099511627776) <|
   s_l09Move_L3 rec_s_l09Move x1 i3 i5 i111 m (IntKind.i64.wrap (i113 + 1)) (l114 ++ [r121])
  else
   some (Pf.mk x1.kind i5 [] l114)

def s_l09Move_L2 (rec_s_l09Move : Pf → Int → Int → Option Pf) (x1 : Pf) (i3 : Int) (i5 : Int) (l9 : List F) (i34 : Int) : Nat → Int → List Pf → Option Pf
 | 0, _, _ => none
 | m + 1, i36, l37 =>
  if i36 < ((x1.kids).length : Int) then
   (idx x1.kids i36).bind fun y39 =>
   (rec_s_l09Move y39 i34 i3).bind fun r44 =>
   chk ((l37).length + ([r44]).length ≤ 1099511627776) <|
   s_l09Move_L2 rec_s_l09Move x1 i3 i5 l9 i34 m (IntKind.i64.wrap (i36 + 1)) (l37 ++ [r44])
  else
   some (Pf.mk x1.kind i5 l9 l37)

def s_l09Move_L1 (rec_s_l09Move : Pf → Int → Int → Option Pf) (n : Nat) (x1 : Pf) (i2 : Int) (i3 : Int) (i5 : Int) : Nat → Int → List F → Option Pf
 | 0, _, _ => none
 | m + 1, i8, l9 =>
  if i8 < ((x1.forms).length : Int) then
   (idx x1.forms i8).bind fun y11 =>
   (s_l09Copy n y11).bind fun r16 =>
   chk ((l9).length + ([r16]).length ≤ 1099511627776) <|
   s_l09Move_L1 rec_s_l09Move n x1 i2 i3 i5 m (IntKind.i64.wrap (i8 + 1)) (l9 ++ [r16])
  else
   jn (fun (i34 : Int) =>
    if 0 < ((x1.kids).length : Int) then
     (idx x1.kids 0).bind fun y62 =>
     (rec_s_l09Move y62 i34 i3).bind fun r67 =>
     chk ((([] : List Pf)).length + ([r67]).length ≤ 1099511627776) <|
     s_l09Move_L2 rec_s_l09Move x1 i3 i5 l9 i34 n (IntKind.i64.wrap (0 + 1)) (([] : List Pf) ++ [r67])
    else
     some (Pf.mk x1.kind i5 l9 [])) fun j33 =>
   if x1.kind = 3 then
    j33 (IntKind.i64.wrap (i2 + 1))
   else
    j33 i2

def s_l09Move : Nat → Pf → Int → Int → Option Pf
 | 0, _, _, _ => none
 | n + 1, x1, i2, i3 =>
  jn (fun (i5 : Int) =>
   if 0 < ((x1.forms).length : Int) then
    (idx x1.forms 0).bind fun y88 =>
    (s_l09Copy n y88).bind fun r93 =>
    chk ((([] : List F)).length + ([r93]).length ≤ 1099511627776) <|
    s_l09Move_L1 (s_l09Move n) n x1 i2 i3 i5 n (IntKind.i64.wrap (0 + 1)) (([] : List F) ++ [r93])
   else
    jn (fun (i111 : Int) =>
     if 0 < ((x1.kids).length : Int) then
      (idx x1.kids 0).bind fun y139 =>
      (s_l09Move n y139 i111 i3).bind fun r144 =>
      chk ((([] : List Pf)).length + ([r144]).length ≤ 1099511627776) <|
      s_l09Move_L3 (s_l09Move n) x1 i3 i5 i111 n (IntKind.i64.wrap (0 + 1)) (([] : List Pf) ++ [r144])
     else
      some (Pf.mk x1.kind i5 [] [])) fun j110 =>
    if x1.kind = 3 then
     j110 (IntKind.i64.wrap (i2 + 1))
    else
     j110 i2) fun j4 =>
  if x1.kind = 1 then
   if x1.n ≥ i2 then
    j4 (IntKind.i64.wrap (x1.n + i3))
   else
    j4 x1.n
  else
   j4 x1.n

def s_l09Move_P (n : Nat) : Prop := ∀ (k1 : Int) (n1 : Int) (p1 : Nat) (e1 : Bool) (fs1 : List LF) (q1 : Nat) (f1 : Bool) (ks1 : List LP) (i2 : Int) (i3 : Int) {r : Pf}, s_l09Move n (Pf.mk k1 n1 (fers fs1) (pers ks1)) i2 i3 = some r → ∀ (O : Heap) (tk : Nat), ACalls Go.Proofs.Try.prog 158 [.agg [.int .i64 k1, .int .i64 n1, .imm p1 3 e1 (fcellss fs1), .imm q1 4 f1 (pcellss ks1)], .int .i64 i2, .int .i64 i3] O tk (RetX O tk (fun v tk' => VP true tk tk' r v))

set_option maxHeartbeats 20000000 in
set_option maxHeartbeats 20000000 in
set_option maxRecDepth 100000 in
theorem s_l09Move_st (n : Nat) (ih_s_l09Move : s_l09Move_P n) : s_l09Move_P (n + 1) := by
 intro k1 n1 p1 e1 fs1 q1 f1 ks1 i2 i3 r hM O tk
 rw [s_l09Move] at hM
 refine acalls_of_run Go.Proofs.Try.func158 rfl rfl [] [] (Bor.nil _) [(0, .agg [.int .i64 k1, .int .i64 n1, .imm p1 3 e1 (fcellss fs1), .imm q1 4 f1 (pcellss ks1)]), (1, .int .i64 i2), (2, .int .i64 i3)] (.cons (.agg _) (.cons (entS rfl) (.cons (entS rfl) (.nil _)))) (leb rfl) (fun _ h => by cases h) (fun S0 hO htk hfz => ?_)
 refine run_sr ?_
 refine run_op rfl (box_step (d := 3) rfl rfl rfl rfl rfl) rfl (ltb rfl) ?_
 refine run_op rfl (alloc_step (d := 6) hG rfl rfl rfl) rfl (ltb rfl) ?_
 refine yN ?_
 refine run_sr ?_
 refine yF hG rfl ?_
 refine yD hG rfl ?_
 refine yF hG rfl ?_
 refine yD hG rfl ?_
 refine run_pu rfl (build_step hG rfl (by rfl) rfl (fun h => by cases h) (by rfl)) rfl (ltb rfl) ?_
 refine run_op rfl (alloc_step (d := 7) hG rfl rfl rfl) rfl (ltb rfl) ?_
 refine yS hG rfl ?_
 refine yN ?_
 refine run_seq ?_
 refine run_seq ?_
 obtain ⟨j4, hj166, hM⟩ := jn_t hM
 refine run_cutL [.code _, .code _] (fun σ' => ∃ (i5 : Int) (tkj4 : Nat), tk ≤ tkj4 ∧ j4 i5 = some r ∧ Sub ⟨Go.Proofs.Try.prog, S0, Go.Proofs.Try.f158.ntmps, [], fun _ => False, []⟩ σ' ⟨[(1, .int .i64 i2), (2, .int .i64 i3), (3, .optr (.loc 3) 0 0), (6, .optr (.loc 6) 0 0), (7, .optr (.loc 7) 0 0)], [(7, ⟨40, 4, true, [[.int .i64 k1, .int .i64 i5, .imm 0 3 true [], .imm 0 4 true []]]⟩), (6, ⟨40, 4, true, [[.int .i64 0, .int .i64 0, .imm 0 3 true [], .imm 0 4 true []]]⟩), (3, ⟨40, 4, true, [[.int .i64 k1, .int .i64 n1, .imm p1 3 e1 (fcellss fs1), .imm q1 4 f1 (pcellss ks1)]]⟩)], [], O, tkj4⟩) rfl ?_ ?_
 ·refine run_region ?_
  refine yF hG rfl ?_
  refine yD hG rfl ?_
  refine yB rfl ?_
  refine yL rfl ?_
  refine run_splitd (i := 18) rfl (fun hb6 => ?_) (fun hb6 => ?_)
  ·replace hM := ite_t hb6 hM
   refine run_puG (on_of rfl rfl rfl rfl) (fieldAddr_step hG rfl rfl rfl rfl rfl) rfl (ltb rfl) ?_
   refine run_rdG (on_of rfl rfl rfl rfl) (aload_rd hG rfl rfl rfl (by first | (simp [ldok]; done) | exact List.not_mem_nil | trivial)) rfl (ltb rfl) ?_
   refine run_puG (on_of rfl rfl rfl rfl) (move_step (.inl rfl) rfl) rfl (ltb rfl) ?_
   refine run_puG (on_of rfl rfl rfl rfl) (abin_step rfl rfl rfl rfl (fun _ h => by cases h)) rfl (ltb rfl) ?_
   refine yP rfl ?_
   refine yN ?_
   refine run_sub_code (σ' := ⟨[(1, .int .i64 i2), (2, .int .i64 i3), (3, .optr (.loc 3) 0 0), (6, .optr (.loc 6) 0 0), (7, .optr (.loc 7) 0 0), (23, .bool (decide (n1 ≥ i2)))], [(7, ⟨40, 4, true, [[.int .i64 k1, .int .i64 n1, .imm 0 3 true [], .imm 0 4 true []]]⟩), (6, ⟨40, 4, true, [[.int .i64 0, .int .i64 0, .imm 0 3 true [], .imm 0 4 true []]]⟩), (3, ⟨40, 4, true, [[.int .i64 k1, .int .i64 n1, .imm p1 3 e1 (fcellss fs1), .imm q1 4 f1 (pcellss ks1)]]⟩)], [], O, tk⟩) (Sub.env _ ⟨rfl, rfl, rfl, rfl, rfl, rfl, trivial⟩) ?_
   refine run_ifd rfl rfl (fun hb7 => ?_) (fun hb7 => ?_)
   ·replace hM := ite_t hb7 hM
    refine run_region ?_
    refine yF hG rfl ?_
    refine yD hG rfl ?_
    refine yL rfl ?_
    refine yB rfl ?_
    refine yF hG rfl ?_
    refine yS hG rfl ?_
    refine yN ?_
    exact ⟨(IntKind.i64.wrap (n1 + i3)), tk, (show tk ≤ tk by omega), hM, Sub.pk [1, 2, 3, 6, 7] rfl⟩
   replace hM := ite_f hb7 hM
   refine run_skip ?_
   exact ⟨n1, tk, (show tk ≤ tk by omega), hM, Sub.pk [1, 2, 3, 6, 7] rfl⟩
  replace hM := ite_f hb6 hM
  refine yO rfl ?_
  refine yO rfl ?_
  refine yO rfl ?_
  refine yO rfl ?_
  refine yP rfl ?_
  refine yN ?_
  refine run_sub_code (σ' := ⟨[(1, .int .i64 i2), (2, .int .i64 i3), (3, .optr (.loc 3) 0 0), (6, .optr (.loc 6) 0 0), (7, .optr (.loc 7) 0 0), (23, .bool false)], [(7, ⟨40, 4, true, [[.int .i64 k1, .int .i64 n1, .imm 0 3 true [], .imm 0 4 true []]]⟩), (6, ⟨40, 4, true, [[.int .i64 0, .int .i64 0, .imm 0 3 true [], .imm 0 4 true []]]⟩), (3, ⟨40, 4, true, [[.int .i64 k1, .int .i64 n1, .imm p1 3 e1 (fcellss fs1), .imm q1 4 f1 (pcellss ks1)]]⟩)], [], O, tk⟩) (Sub.env _ ⟨rfl, rfl, rfl, rfl, rfl, rfl, trivial⟩) ?_
  refine run_if rfl rfl (fun h => by cases h) (fun _ => ?_)
  refine run_skip ?_
  exact ⟨n1, tk, (show tk ≤ tk by omega), hM, Sub.pk [1, 2, 3, 6, 7] rfl⟩
 clear hM
 rintro σ' ⟨i5, tkj4, hle165, hM, hsub⟩
 rw [hj166] at hM
 clear hj166
 refine run_sub_code hsub ?_
 refine run_seq ?_
 refine run_sr ?_
 refine yR rfl ?_
 refine yN ?_
 refine run_block ?_
 refine run_peel (fun m σ => ∃ (i8 : Int) (ks9 : List LF) (tks_l09Move_L1 : Nat), tkj4 ≤ tks_l09Move_L1 ∧ Fr tkj4 tks_l09Move_L1 (ftoks ks9) ∧ s_l09Move_L1 (s_l09Move n) n (Pf.mk k1 n1 (fers fs1) (pers ks1)) i2 i3 i5 m i8 (fers ks9) = some r ∧ σ = ⟨[(1, .int .i64 i2), (2, .int .i64 i3), (3, .optr (.loc 3) 0 0), (6, .optr (.loc 6) 0 0), (7, .optr (.loc 7) 0 0), (8, .int .i64 i8)], [(45, ⟨42, 3, false, fcellss ks9⟩), (7, ⟨40, 4, true, [[.int .i64 k1, .int .i64 i5, .osl (.loc 45), .imm 0 4 true []]]⟩), (6, ⟨40, 4, true, [[.int .i64 0, .int .i64 0, .imm 0 3 true [], .imm 0 4 true []]]⟩), (3, ⟨40, 4, true, [[.int .i64 k1, .int .i64 n1, .imm p1 3 e1 (fcellss fs1), .imm q1 4 f1 (pcellss ks1)]]⟩)], [], O, tks_l09Move_L1⟩) n ?_ (fun m σ hI => ?_)
 ·refine run_seq ?_
  refine run_sr ?_
  refine yL rfl ?_
  refine yF hG rfl ?_
  refine yD hG rfl ?_
  refine run_pu rfl (lenImm_step hG rfl rfl rfl rfl (flen _)) rfl (ltb rfl) ?_
  refine yB rfl ?_
  refine yN ?_
  refine run_ifd rfl rfl (fun hb87 => ?_) (fun hb87 => ?_)
  ·replace hM := ite_t hb87 hM
   refine run_skip ?_
   refine run_seq ?_
   refine run_block ?_
   refine run_draw [.loc 7] (n := 12) mixed rfl (by intro x hx; simp only [List.mem_cons, List.not_mem_nil, or_false] at hx; rcases hx with rfl <;> rfl) ?_
   refine yTF hG 0 (by kernel_rfl) rfl ?_
   refine yTF hG 2 (by kernel_rfl) rfl ?_
   refine yTL hG 3 (by kernel_rfl) rfl ?_
   refine yTV 4 (by kernel_rfl) rfl ?_
   obtain ⟨y88, hy89, hM⟩ := bind_t hM
   obtain ⟨k90, n90, q90, f90, ks90, rfl, hc91, hi92⟩ := fidx (ks := fs1) hy89
   refine yT 5 (by kernel_rfl) rfl rfl rfl (ltb rfl) ((indexImm_step hG rfl rfl rfl hi92 rfl rfl rfl rfl hc91).rd _) ?_
   refine yTL hG 6 (by kernel_rfl) rfl ?_
   refine AAny.each (rs := [1, 7]) (by kernel_rfl) (fun h => by cases h) (fun i hi => ?_)
   simp only [List.mem_cons, List.not_mem_nil, or_false] at hi
   rcases hi with rfl | rfl
   ·refine AOp.rd rfl rfl rfl (ltb rfl) (aload_rd hG rfl rfl rfl (by first | (simp [ldok]; done) | exact List.not_mem_nil | trivial)) ?_
    obtain ⟨r93, hg94, hM⟩ := bind_t hM
    refine yC 7 (by kernel_rfl) rfl rfl (s_l09Copy_ok n k90 n90 q90 f90 ks90 hg94 _ _) (callK_retX (fun v tk95 (hle96 : tkj4 ≤ tk95) h97 => ?_))
    obtain ⟨k98, n98, q98, f98, ks98, rfl, rfl, hf99⟩ := h97
    refine AAny.one (i := 8) (by kernel_rfl) (AOp.step rfl rfl rfl (ltb rfl) (buildSlice_step (d := 44) hG rfl rfl rfl rfl rfl (by rfl) (by rfl) (by rfl) (by decide)) yE ?_)
    obtain ⟨hc100, hM⟩ := chk_t hM
    try rw [show ((fers ([] : List LF)) ++ [(F.mk k98 n98 (fers ks98))] : List F) = (fers (([] : List LF) ++ [LF.mk k98 n98 q98 f98 ks98])) from fers_app ([] : List LF) [LF.mk k98 n98 q98 f98 ks98]] at hM
    refine AAny.one (i := 9) (by kernel_rfl) (AOp.step rfl rfl rfl (ltb rfl) (appendFM_step (d := 45) hG rfl rfl rfl rfl rfl rfl rfl (fcellss_sz ([] : List LF)) rfl (fcellss_sz ([LF.mk k98 n98 q98 f98 ks98])) (flen ([] : List LF)) (flen ([LF.mk k98 n98 q98 f98 ks98])) (by simp [fers]) hc100 (by decide) (fcellss_app _ _)) yE ?_)
    refine yTF hG 10 (by kernel_rfl) rfl ?_
    refine yW hG 11 (by kernel_rfl) rfl (by kernel_rfl) rfl ?_
    refine AAny.done (by kernel_rfl) ?_
    refine run_blk ?_
    refine run_sub_code (σ' := ⟨[(1, .int .i64 i2), (2, .int .i64 i3), (3, .optr (.loc 3) 0 0), (6, .optr (.loc 6) 0 0), (7, .optr (.loc 7) 0 0), (8, .int .i64 0)], [(45, ⟨42, 3, false, fcellss (([] : List LF) ++ [LF.mk k98 n98 q98 f98 ks98])⟩), (7, ⟨40, 4, true, [[.int .i64 k1, .int .i64 i5, .osl (.loc 45), .imm 0 4 true []]]⟩), (6, ⟨40, 4, true, [[.int .i64 0, .int .i64 0, .imm 0 3 true [], .imm 0 4 true []]]⟩), (3, ⟨40, 4, true, [[.int .i64 k1, .int .i64 n1, .imm p1 3 e1 (fcellss fs1), .imm q1 4 f1 (pcellss ks1)]]⟩)], [], O, tk95⟩) (Sub.trans (Sub.drop (k := 44) rfl) (Sub.env _ ⟨rfl, rfl, rfl, rfl, rfl, rfl, trivial⟩)) ?_
    refine run_region ?_
    refine yL rfl ?_
    refine yB rfl ?_
    refine yR rfl ?_
    refine yN ?_
    exact run_loop_end ⟨n, _, Nat.le_refl _, ⟨(IntKind.i64.wrap (0 + 1)), (([] : List LF) ++ [LF.mk k98 n98 q98 f98 ks98]), tk95, (show tkj4 ≤ tk95 by omega), (show Fr tkj4 tk95 _ from (Fr.fcons ((show Fr tkj4 tk95 _ from hf99 rfl)) (show Fr tk95 tk95 _ from Fr.nil _ _) (by omega) (by omega)).mono (by omega) (by omega)), hM, rfl⟩, Sub.pk [1, 2, 3, 6, 7, 8] rfl⟩
   obtain ⟨r101, hg102, hM⟩ := bind_t hM
   refine yI rfl rfl (s_l09Copy_ok n k90 n90 q90 f90 ks90 hg102 _ _) (callK_retX (fun v tk103 (hle104 : tkj4 ≤ tk103) h105 => ?_))
   obtain ⟨k106, n106, q106, f106, ks106, rfl, rfl, hf107⟩ := h105
   refine AAny.each (rs := [1, 8]) (by kernel_rfl) (fun h => by cases h) (fun i hi => ?_)
   simp only [List.mem_cons, List.not_mem_nil, or_false] at hi
   rcases hi with rfl | rfl
   ·refine AOp.rd rfl rfl rfl (ltb rfl) (aload_rd hG rfl rfl rfl (by first | (simp [ldok]; done) | exact List.not_mem_nil | trivial)) ?_
    refine AAny.one (i := 8) (by kernel_rfl) (AOp.step rfl rfl rfl (ltb rfl) (buildSlice_step (d := 44) hG rfl rfl rfl rfl rfl (by rfl) (by rfl) (by rfl) (by decide)) yE ?_)
    obtain ⟨hc108, hM⟩ := chk_t hM
    try rw [show ((fers ([] : List LF)) ++ [(F.mk k106 n106 (fers ks106))] : List F) = (fers (([] : List LF) ++ [LF.mk k106 n106 q106 f106 ks106])) from fers_app ([] : List LF) [LF.mk k106 n106 q106 f106 ks106]] at hM
    refine AAny.one (i := 9) (by kernel_rfl) (AOp.step rfl rfl rfl (ltb rfl) (appendFM_step (d := 45) hG rfl rfl rfl rfl rfl rfl rfl (fcellss_sz ([] : List LF)) rfl (fcellss_sz ([LF.mk k106 n106 q106 f106 ks106])) (flen ([] : List LF)) (flen ([LF.mk k106 n106 q106 f106 ks106])) (by simp [fers]) hc108 (by decide) (fcellss_app _ _)) yE ?_)
    refine yTF hG 10 (by kernel_rfl) rfl ?_
    refine yW hG 11 (by kernel_rfl) rfl (by kernel_rfl) rfl ?_
    refine AAny.done (by kernel_rfl) ?_
    refine run_blk ?_
    refine run_sub_code (σ' := ⟨[(1, .int .i64 i2), (2, .int .i64 i3), (3, .optr (.loc 3) 0 0), (6, .optr (.loc 6) 0 0), (7, .optr (.loc 7) 0 0), (8, .int .i64 0)], [(45, ⟨42, 3, false, fcellss (([] : List LF) ++ [LF.mk k106 n106 q106 f106 ks106])⟩), (7, ⟨40, 4, true, [[.int .i64 k1, .int .i64 i5, .osl (.loc 45), .imm 0 4 true []]]⟩), (6, ⟨40, 4, true, [[.int .i64 0, .int .i64 0, .imm 0 3 true [], .imm 0 4 true []]]⟩), (3, ⟨40, 4, true, [[.int .i64 k1, .int .i64 n1, .imm p1 3 e1 (fcellss fs1), .imm q1 4 f1 (pcellss ks1)]]⟩)], [], O, tk103⟩) (Sub.trans (Sub.drop (k := 44) rfl) (Sub.env _ ⟨rfl, rfl, rfl, rfl, rfl, rfl, trivial⟩)) ?_
    refine run_region ?_
    refine yL rfl ?_
    refine yB rfl ?_
    refine yR rfl ?_
    refine yN ?_
    exact run_loop_end ⟨n, _, Nat.le_refl _, ⟨(IntKind.i64.wrap (0 + 1)), (([] : List LF) ++ [LF.mk k106 n106 q106 f106 ks106]), tk103, (show tkj4 ≤ tk103 by omega), (show Fr tkj4 tk103 _ from (Fr.fcons ((show Fr tkj4 tk103 _ from hf107 rfl)) (show Fr tk103 tk103 _ from Fr.nil _ _) (by omega) (by omega)).mono (by omega) (by omega)), hM, rfl⟩, Sub.pk [1, 2, 3, 6, 7, 8] rfl⟩
   refine AOp.step rfl rfl rfl (ltb rfl) (buildSlice_step (d := 44) hG rfl rfl rfl rfl rfl (by rfl) (by rfl) (by rfl) (by decide)) yE ?_
   refine AAny.one (i := 1) (by kernel_rfl) (AOp.rd rfl rfl rfl (ltb rfl) (aload_rd hG rfl rfl rfl (by first | (simp [ldok]; done) | exact List.not_mem_nil | trivial)) ?_)
   obtain ⟨hc109, hM⟩ := chk_t hM
   try rw [show ((fers ([] : List LF)) ++ [(F.mk k106 n106 (fers ks106))] : List F) = (fers (([] : List LF) ++ [LF.mk k106 n106 q106 f106 ks106])) from fers_app ([] : List LF) [LF.mk k106 n106 q106 f106 ks106]] at hM
   refine AAny.one (i := 9) (by kernel_rfl) (AOp.step rfl rfl rfl (ltb rfl) (appendFM_step (d := 45) hG rfl rfl rfl rfl rfl rfl rfl (fcellss_sz ([] : List LF)) rfl (fcellss_sz ([LF.mk k106 n106 q106 f106 ks106])) (flen ([] : List LF)) (flen ([LF.mk k106 n106 q106 f106 ks106])) (by simp [fers]) hc109 (by decide) (fcellss_app _ _)) yE ?_)
   refine yTF hG 10 (by kernel_rfl) rfl ?_
   refine yW hG 11 (by kernel_rfl) rfl (by kernel_rfl) rfl ?_
   refine AAny.done (by kernel_rfl) ?_
   refine run_blk ?_
   refine run_sub_code (σ' := ⟨[(1, .int .i64 i2), (2, .int .i64 i3), (3, .optr (.loc 3) 0 0), (6, .optr (.loc 6) 0 0), (7, .optr (.loc 7) 0 0), (8, .int .i64 0)], [(45, ⟨42, 3, false, fcellss (([] : List LF) ++ [LF.mk k106 n106 q106 f106 ks106])⟩), (7, ⟨40, 4, true, [[.int .i64 k1, .int .i64 i5, .osl (.loc 45), .imm 0 4 true []]]⟩), (6, ⟨40, 4, true, [[.int .i64 0, .int .i64 0, .imm 0 3 true [], .imm 0 4 true []]]⟩), (3, ⟨40, 4, true, [[.int .i64 k1, .int .i64 n1, .imm p1 3 e1 (fcellss fs1), .imm q1 4 f1 (pcellss ks1)]]⟩)], [], O, tk103⟩) (Sub.trans (Sub.drop (k := 44) rfl) (Sub.env _ ⟨rfl, rfl, rfl, rfl, rfl, rfl, trivial⟩)) ?_
   refine run_region ?_
   refine yL rfl ?_
   refine yB rfl ?_
   refine yR rfl ?_
   refine yN ?_
   exact run_loop_end ⟨n, _, Nat.le_refl _, ⟨(IntKind.i64.wrap (0 + 1)), (([] : List LF) ++ [LF.mk k106 n106 q106 f106 ks106]), tk103, (show tkj4 ≤ tk103 by omega), (show Fr tkj4 tk103 _ from (Fr.fcons ((show Fr tkj4 tk103 _ from hf107 rfl)) (show Fr tk103 tk103 _ from Fr.nil _ _) (by omega) (by omega)).mono (by omega) (by omega)), hM, rfl⟩, Sub.pk [1, 2, 3, 6, 7, 8] rfl⟩
  replace hM := ite_f hb87 hM
  refine run_exit_to rfl ?_
  refine run_seq ?_
  refine run_sr ?_
  refine yF hG rfl ?_
  refine yD hG rfl ?_
  refine yB rfl ?_
  refine yN ?_
  obtain ⟨j110, hj163, hM⟩ := jn_t hM
  refine run_cutL [.code _] (fun σ' => ∃ (i111 : Int) (tkj110 : Nat), tkj4 ≤ tkj110 ∧ j110 i111 = some r ∧ Sub ⟨Go.Proofs.Try.prog, S0, Go.Proofs.Try.f158.ntmps, [], fun _ => False, []⟩ σ' ⟨[(1, .int .i64 i111), (2, .int .i64 i3), (3, .optr (.loc 3) 0 0), (6, .optr (.loc 6) 0 0), (7, .optr (.loc 7) 0 0)], [(7, ⟨40, 4, true, [[.int .i64 k1, .int .i64 i5, .imm 0 3 true [], .imm 0 4 true []]]⟩), (6, ⟨40, 4, true, [[.int .i64 0, .int .i64 0, .imm 0 3 true [], .imm 0 4 true []]]⟩), (3, ⟨40, 4, true, [[.int .i64 k1, .int .i64 n1, .imm p1 3 e1 (fcellss fs1), .imm q1 4 f1 (pcellss ks1)]]⟩)], [], O, tkj110⟩) rfl ?_ ?_
  ·refine run_ifd rfl rfl (fun hb112 => ?_) (fun hb112 => ?_)
   ·replace hM := ite_t hb112 hM
    refine run_region ?_
    refine yL rfl ?_
    refine yB rfl ?_
    refine yR rfl ?_
    refine yN ?_
    exact ⟨(IntKind.i64.wrap (i2 + 1)), tkj4, (show tkj4 ≤ tkj4 by omega), hM, Sub.pk [1, 2, 3, 6, 7] rfl⟩
   replace hM := ite_f hb112 hM
   refine run_skip ?_
   exact ⟨i2, tkj4, (show tkj4 ≤ tkj4 by omega), hM, Sub.pk [1, 2, 3, 6, 7] rfl⟩
  clear hM
  rintro σ' ⟨i111, tkj110, hle162, hM, hsub⟩
  rw [hj163] at hM
  clear hj163
  refine run_sub_code hsub ?_
  refine run_seq ?_
  refine run_sr ?_
  refine yR rfl ?_
  refine yN ?_
  refine run_block ?_
  refine run_peel (fun m σ => ∃ (i113 : Int) (ks114 : List LP) (tks_l09Move_L3 : Nat), tkj110 ≤ tks_l09Move_L3 ∧ Fr tkj110 tks_l09Move_L3 (ptoks ks114) ∧ s_l09Move_L3 (s_l09Move n) (Pf.mk k1 n1 (fers fs1) (pers ks1)) i3 i5 i111 m i113 (pers ks114) = some r ∧ σ = ⟨[(1, .int .i64 i111), (2, .int .i64 i3), (3, .optr (.loc 3) 0 0), (6, .optr (.loc 6) 0 0), (7, .optr (.loc 7) 0 0), (9, .int .i64 i113)], [(70, ⟨40, 4, false, pcellss ks114⟩), (7, ⟨40, 4, true, [[.int .i64 k1, .int .i64 i5, .imm 0 3 true [], .osl (.loc 70)]]⟩), (6, ⟨40, 4, true, [[.int .i64 0, .int .i64 0, .imm 0 3 true [], .imm 0 4 true []]]⟩), (3, ⟨40, 4, true, [[.int .i64 k1, .int .i64 n1, .imm p1 3 e1 (fcellss fs1), .imm q1 4 f1 (pcellss ks1)]]⟩)], [], O, tks_l09Move_L3⟩) n ?_ (fun m σ hI => ?_)
  ·refine run_seq ?_
   refine run_sr ?_
   refine yL rfl ?_
   refine yF hG rfl ?_
   refine yD hG rfl ?_
   refine run_pu rfl (lenImm_step hG rfl rfl rfl rfl (plen _)) rfl (ltb rfl) ?_
   refine yB rfl ?_
   refine yN ?_
   refine run_ifd rfl rfl (fun hb138 => ?_) (fun hb138 => ?_)
   ·replace hM := ite_t hb138 hM
    refine run_skip ?_
    refine run_seq ?_
    refine run_block ?_
    refine run_draw [.loc 7] (n := 14) mixed rfl (by intro x hx; simp only [List.mem_cons, List.not_mem_nil, or_false] at hx; rcases hx with rfl <;> rfl) ?_
    refine yTF hG 0 (by kernel_rfl) rfl ?_
    refine yTF hG 2 (by kernel_rfl) rfl ?_
    refine yTL hG 3 (by kernel_rfl) rfl ?_
    refine yTV 4 (by kernel_rfl) rfl ?_
    obtain ⟨y139, hy140, hM⟩ := bind_t hM
    obtain ⟨k141, n141, p141, e141, fs141, q141, f141, ks141, rfl, hc142, hi143⟩ := pidx (ks := ks1) hy140
    refine yT 5 (by kernel_rfl) rfl rfl rfl (ltb rfl) ((indexImm_step hG rfl rfl rfl hi143 rfl rfl rfl rfl hc142).rd _) ?_
    refine yTL hG 6 (by kernel_rfl) rfl ?_
    refine yTV 7 (by kernel_rfl) rfl ?_
    refine yTV 8 (by kernel_rfl) rfl ?_
    refine AAny.each (rs := [1, 9]) (by kernel_rfl) (fun h => by cases h) (fun i hi => ?_)
    simp only [List.mem_cons, List.not_mem_nil, or_false] at hi
    rcases hi with rfl | rfl
    ·refine AOp.rd rfl rfl rfl (ltb rfl) (aload_rd hG rfl rfl rfl (by first | (simp [ldok]; done) | exact List.not_mem_nil | trivial)) ?_
     obtain ⟨r144, hg145, hM⟩ := bind_t hM
     refine yC 9 (by kernel_rfl) rfl rfl (ih_s_l09Move k141 n141 p141 e141 fs141 q141 f141 ks141 i111 i3 hg145 _ _) (callK_retX (fun v tk146 (hle147 : tkj110 ≤ tk146) h148 => ?_))
     obtain ⟨k149, n149, p149, e149, fs149, q149, f149, ks149, rfl, rfl, hf150⟩ := h148
     refine AAny.one (i := 10) (by kernel_rfl) (AOp.step rfl rfl rfl (ltb rfl) (buildSlice_step (d := 69) hG rfl rfl rfl rfl rfl (by rfl) (by rfl) (by rfl) (by decide)) yE ?_)
     obtain ⟨hc151, hM⟩ := chk_t hM
     try rw [show ((pers ([] : List LP)) ++ [(Pf.mk k149 n149 (fers fs149) (pers ks149))] : List Pf) = (pers (([] : List LP) ++ [LP.mk k149 n149 p149 e149 fs149 q149 f149 ks149])) from pers_app ([] : List LP) [LP.mk k149 n149 p149 e149 fs149 q149 f149 ks149]] at hM
     refine AAny.one (i := 11) (by kernel_rfl) (AOp.step rfl rfl rfl (ltb rfl) (appendFM_step (d := 70) hG rfl rfl rfl rfl rfl rfl rfl (pcellss_sz ([] : List LP)) rfl (pcellss_sz ([LP.mk k149 n149 p149 e149 fs149 q149 f149 ks149])) (plen ([] : List LP)) (plen ([LP.mk k149 n149 p149 e149 fs149 q149 f149 ks149])) (by simp [pers]) hc151 (by decide) (pcellss_app _ _)) yE ?_)
     refine yTF hG 12 (by kernel_rfl) rfl ?_
     refine yW hG 13 (by kernel_rfl) rfl (by kernel_rfl) rfl ?_
     refine AAny.done (by kernel_rfl) ?_
     refine run_blk ?_
     refine run_sub_code (σ' := ⟨[(1, .int .i64 i111), (2, .int .i64 i3), (3, .optr (.loc 3) 0 0), (6, .optr (.loc 6) 0 0), (7, .optr (.loc 7) 0 0), (9, .int .i64 0)], [(70, ⟨40, 4, false, pcellss (([] : List LP) ++ [LP.mk k149 n149 p149 e149 fs149 q149 f149 ks149])⟩), (7, ⟨40, 4, true, [[.int .i64 k1, .int .i64 i5, .imm 0 3 true [], .osl (.loc 70)]]⟩), (6, ⟨40, 4, true, [[.int .i64 0, .int .i64 0, .imm 0 3 true [], .imm 0 4 true []]]⟩), (3, ⟨40, 4, true, [[.int .i64 k1, .int .i64 n1, .imm p1 3 e1 (fcellss fs1), .imm q1 4 f1 (pcellss ks1)]]⟩)], [], O, tk146⟩) (Sub.trans (Sub.drop (k := 69) rfl) (Sub.env _ ⟨rfl, rfl, rfl, rfl, rfl, rfl, trivial⟩)) ?_
     refine run_region ?_
     refine yL rfl ?_
     refine yB rfl ?_
     refine yR rfl ?_
     refine yN ?_
     exact run_loop_end ⟨n, _, Nat.le_refl _, ⟨(IntKind.i64.wrap (0 + 1)), (([] : List LP) ++ [LP.mk k149 n149 p149 e149 fs149 q149 f149 ks149]), tk146, (show tkj110 ≤ tk146 by omega), (show Fr tkj110 tk146 _ from (Fr.pcons ((show Fr tkj110 tk146 _ from hf150 rfl)) (show Fr tk146 tk146 _ from Fr.nil _ _) (by omega) (by omega)).mono (by omega) (by omega)), hM, rfl⟩, Sub.pk [1, 2, 3, 6, 7, 9] rfl⟩
    obtain ⟨r152, hg153, hM⟩ := bind_t hM
    refine yI rfl rfl (ih_s_l09Move k141 n141 p141 e141 fs141 q141 f141 ks141 i111 i3 hg153 _ _) (callK_retX (fun v tk154 (hle155 : tkj110 ≤ tk154) h156 => ?_))
    obtain ⟨k157, n157, p157, e157, fs157, q157, f157, ks157, rfl, rfl, hf158⟩ := h156
    refine AAny.each (rs := [1, 10]) (by kernel_rfl) (fun h => by cases h) (fun i hi => ?_)
    simp only [List.mem_cons, List.not_mem_nil, or_false] at hi
    rcases hi with rfl | rfl
    ·refine AOp.rd rfl rfl rfl (ltb rfl) (aload_rd hG rfl rfl rfl (by first | (simp [ldok]; done) | exact List.not_mem_nil | trivial)) ?_
     refine AAny.one (i := 10) (by kernel_rfl) (AOp.step rfl rfl rfl (ltb rfl) (buildSlice_step (d := 69) hG rfl rfl rfl rfl rfl (by rfl) (by rfl) (by rfl) (by decide)) yE ?_)
     obtain ⟨hc159, hM⟩ := chk_t hM
     try rw [show ((pers ([] : List LP)) ++ [(Pf.mk k157 n157 (fers fs157) (pers ks157))] : List Pf) = (pers (([] : List LP) ++ [LP.mk k157 n157 p157 e157 fs157 q157 f157 ks157])) from pers_app ([] : List LP) [LP.mk k157 n157 p157 e157 fs157 q157 f157 ks157]] at hM
     refine AAny.one (i := 11) (by kernel_rfl) (AOp.step rfl rfl rfl (ltb rfl) (appendFM_step (d := 70) hG rfl rfl rfl rfl rfl rfl rfl (pcellss_sz ([] : List LP)) rfl (pcellss_sz ([LP.mk k157 n157 p157 e157 fs157 q157 f157 ks157])) (plen ([] : List LP)) (plen ([LP.mk k157 n157 p157 e157 fs157 q157 f157 ks157])) (by simp [pers]) hc159 (by decide) (pcellss_app _ _)) yE ?_)
     refine yTF hG 12 (by kernel_rfl) rfl ?_
     refine yW hG 13 (by kernel_rfl) rfl (by kernel_rfl) rfl ?_
     refine AAny.done (by kernel_rfl) ?_
     refine run_blk ?_
     refine run_sub_code (σ' := ⟨[(1, .int .i64 i111), (2, .int .i64 i3), (3, .optr (.loc 3) 0 0), (6, .optr (.loc 6) 0 0), (7, .optr (.loc 7) 0 0), (9, .int .i64 0)], [(70, ⟨40, 4, false, pcellss (([] : List LP) ++ [LP.mk k157 n157 p157 e157 fs157 q157 f157 ks157])⟩), (7, ⟨40, 4, true, [[.int .i64 k1, .int .i64 i5, .imm 0 3 true [], .osl (.loc 70)]]⟩), (6, ⟨40, 4, true, [[.int .i64 0, .int .i64 0, .imm 0 3 true [], .imm 0 4 true []]]⟩), (3, ⟨40, 4, true, [[.int .i64 k1, .int .i64 n1, .imm p1 3 e1 (fcellss fs1), .imm q1 4 f1 (pcellss ks1)]]⟩)], [], O, tk154⟩) (Sub.trans (Sub.drop (k := 69) rfl) (Sub.env _ ⟨rfl, rfl, rfl, rfl, rfl, rfl, trivial⟩)) ?_
     refine run_region ?_
     refine yL rfl ?_
     refine yB rfl ?_
     refine yR rfl ?_
     refine yN ?_
     exact run_loop_end ⟨n, _, Nat.le_refl _, ⟨(IntKind.i64.wrap (0 + 1)), (([] : List LP) ++ [LP.mk k157 n157 p157 e157 fs157 q157 f157 ks157]), tk154, (show tkj110 ≤ tk154 by omega), (show Fr tkj110 tk154 _ from (Fr.pcons ((show Fr tkj110 tk154 _ from hf158 rfl)) (show Fr tk154 tk154 _ from Fr.nil _ _) (by omega) (by omega)).mono (by omega) (by omega)), hM, rfl⟩, Sub.pk [1, 2, 3, 6, 7, 9] rfl⟩
    refine AOp.step rfl rfl rfl (ltb rfl) (buildSlice_step (d := 69) hG rfl rfl rfl rfl rfl (by rfl) (by rfl) (by rfl) (by decide)) yE ?_
    refine AAny.one (i := 1) (by kernel_rfl) (AOp.rd rfl rfl rfl (ltb rfl) (aload_rd hG rfl rfl rfl (by first | (simp [ldok]; done) | exact List.not_mem_nil | trivial)) ?_)
    obtain ⟨hc160, hM⟩ := chk_t hM
    try rw [show ((pers ([] : List LP)) ++ [(Pf.mk k157 n157 (fers fs157) (pers ks157))] : List Pf) = (pers (([] : List LP) ++ [LP.mk k157 n157 p157 e157 fs157 q157 f157 ks157])) from pers_app ([] : List LP) [LP.mk k157 n157 p157 e157 fs157 q157 f157 ks157]] at hM
    refine AAny.one (i := 11) (by kernel_rfl) (AOp.step rfl rfl rfl (ltb rfl) (appendFM_step (d := 70) hG rfl rfl rfl rfl rfl rfl rfl (pcellss_sz ([] : List LP)) rfl (pcellss_sz ([LP.mk k157 n157 p157 e157 fs157 q157 f157 ks157])) (plen ([] : List LP)) (plen ([LP.mk k157 n157 p157 e157 fs157 q157 f157 ks157])) (by simp [pers]) hc160 (by decide) (pcellss_app _ _)) yE ?_)
    refine yTF hG 12 (by kernel_rfl) rfl ?_
    refine yW hG 13 (by kernel_rfl) rfl (by kernel_rfl) rfl ?_
    refine AAny.done (by kernel_rfl) ?_
    refine run_blk ?_
    refine run_sub_code (σ' := ⟨[(1, .int .i64 i111), (2, .int .i64 i3), (3, .optr (.loc 3) 0 0), (6, .optr (.loc 6) 0 0), (7, .optr (.loc 7) 0 0), (9, .int .i64 0)], [(70, ⟨40, 4, false, pcellss (([] : List LP) ++ [LP.mk k157 n157 p157 e157 fs157 q157 f157 ks157])⟩), (7, ⟨40, 4, true, [[.int .i64 k1, .int .i64 i5, .imm 0 3 true [], .osl (.loc 70)]]⟩), (6, ⟨40, 4, true, [[.int .i64 0, .int .i64 0, .imm 0 3 true [], .imm 0 4 true []]]⟩), (3, ⟨40, 4, true, [[.int .i64 k1, .int .i64 n1, .imm p1 3 e1 (fcellss fs1), .imm q1 4 f1 (pcellss ks1)]]⟩)], [], O, tk154⟩) (Sub.trans (Sub.drop (k := 69) rfl) (Sub.env _ ⟨rfl, rfl, rfl, rfl, rfl, rfl, trivial⟩)) ?_
    refine run_region ?_
    refine yL rfl ?_
    refine yB rfl ?_
    refine yR rfl ?_
    refine yN ?_
    exact run_loop_end ⟨n, _, Nat.le_refl _, ⟨(IntKind.i64.wrap (0 + 1)), (([] : List LP) ++ [LP.mk k157 n157 p157 e157 fs157 q157 f157 ks157]), tk154, (show tkj110 ≤ tk154 by omega), (show Fr tkj110 tk154 _ from (Fr.pcons ((show Fr tkj110 tk154 _ from hf158 rfl)) (show Fr tk154 tk154 _ from Fr.nil _ _) (by omega) (by omega)).mono (by omega) (by omega)), hM, rfl⟩, Sub.pk [1, 2, 3, 6, 7, 9] rfl⟩
   replace hM := ite_f hb138 hM
   refine run_exit_to rfl ?_
   refine run_sr ?_
   refine yD hG rfl ?_
   refine yS hG rfl ?_
   refine yN ?_
   refine run_ret_to ?_
   replace hM := some_t hM
   subst hM
   refine fin_x hG rfl rfl rfl (v' := .agg [.int .i64 k1, .int .i64 i5, .imm 0 3 true (fcellss []), .imm 0 4 true (pcellss [])]) (by rfl) ⟨rfl, (show tk ≤ tkj110 by omega), _, rfl, ⟨k1, i5, 0, true, [], 0, true, [], rfl, rfl, fun _ => Fr.nil _ _⟩⟩
  clear hM
  obtain ⟨i113, ks114, tks_l09Move_L3, hle161, hfr114, hM, rfl⟩ := hI
  obtain _ | m := m
  ·exact absurd hM (by rw [s_l09Move_L3]; exact fun h => by cases h)
  rw [s_l09Move_L3] at hM
  refine run_seq ?_
  refine run_sr ?_
  refine yL rfl ?_
  refine yF hG rfl ?_
  refine yD hG rfl ?_
  refine run_pu rfl (lenImm_step hG rfl rfl rfl rfl (plen _)) rfl (ltb rfl) ?_
  refine yB rfl ?_
  refine yN ?_
  refine run_ifd rfl rfl (fun hb115 => ?_) (fun hb115 => ?_)
  ·replace hM := ite_t hb115 hM
   refine run_skip ?_
   refine run_seq ?_
   refine run_block ?_
   refine run_draw [.loc 7, .loc 70] (n := 14) mixed rfl (by intro x hx; simp only [List.mem_cons, List.not_mem_nil, or_false] at hx; rcases hx with rfl | rfl <;> rfl) ?_
   refine yTF hG 0 (by kernel_rfl) rfl ?_
   refine yTF hG 2 (by kernel_rfl) rfl ?_
   refine yTL hG 3 (by kernel_rfl) rfl ?_
   refine yTV 4 (by kernel_rfl) rfl ?_
   obtain ⟨y116, hy117, hM⟩ := bind_t hM
   obtain ⟨k118, n118, p118, e118, fs118, q118, f118, ks118, rfl, hc119, hi120⟩ := pidx (ks := ks1) hy117
   refine yT 5 (by kernel_rfl) rfl rfl rfl (ltb rfl) ((indexImm_step hG rfl rfl rfl hi120 rfl rfl rfl rfl hc119).rd _) ?_
   refine yTL hG 6 (by kernel_rfl) rfl ?_
   refine yTV 7 (by kernel_rfl) rfl ?_
   refine yTV 8 (by kernel_rfl) rfl ?_
   refine AAny.each (rs := [1, 9]) (by kernel_rfl) (fun h => by cases h) (fun i hi => ?_)
   simp only [List.mem_cons, List.not_mem_nil, or_false] at hi
   rcases hi with rfl | rfl
   ·refine AOp.rd rfl rfl rfl (ltb rfl) (aload_rd hG rfl rfl rfl (by first | (simp [ldok]; done) | exact List.not_mem_nil | trivial)) ?_
    obtain ⟨r121, hg122, hM⟩ := bind_t hM
    refine yC 9 (by kernel_rfl) rfl rfl (ih_s_l09Move k118 n118 p118 e118 fs118 q118 f118 ks118 i111 i3 hg122 _ _) (callK_retX (fun v tk123 (hle124 : tks_l09Move_L3 ≤ tk123) h125 => ?_))
    obtain ⟨k126, n126, p126, e126, fs126, q126, f126, ks126, rfl, rfl, hf127⟩ := h125
    refine AAny.one (i := 10) (by kernel_rfl) (AOp.step rfl rfl rfl (ltb rfl) (buildSlice_step (d := 69) hG rfl rfl rfl rfl rfl (by rfl) (by rfl) (by rfl) (by decide)) yE ?_)
    obtain ⟨hc128, hM⟩ := chk_t hM
    try rw [show ((pers ks114) ++ [(Pf.mk k126 n126 (fers fs126) (pers ks126))] : List Pf) = (pers (ks114 ++ [LP.mk k126 n126 p126 e126 fs126 q126 f126 ks126])) from pers_app ks114 [LP.mk k126 n126 p126 e126 fs126 q126 f126 ks126]] at hM
    refine AAny.one (i := 11) (by kernel_rfl) (AOp.step rfl rfl rfl (ltb rfl) (appendM_step hG rfl rfl rfl rfl rfl rfl rfl rfl rfl rfl rfl (pcellss_sz ([LP.mk k126 n126 p126 e126 fs126 q126 f126 ks126])) (plen ks114) (plen ([LP.mk k126 n126 p126 e126 fs126 q126 f126 ks126])) hc128 (by decide) (pcellss_app _ _)) (by intro x hx; simp only [List.mem_cons, List.not_mem_nil, or_false] at hx; subst hx; simp) ?_)
    refine yTF hG 12 (by kernel_rfl) rfl ?_
    refine yW hG 13 (by kernel_rfl) rfl (by kernel_rfl) rfl ?_
    refine AAny.done (by kernel_rfl) ?_
    refine run_blk ?_
    refine run_sub_code (σ' := ⟨[(1, .int .i64 i111), (2, .int .i64 i3), (3, .optr (.loc 3) 0 0), (6, .optr (.loc 6) 0 0), (7, .optr (.loc 7) 0 0), (9, .int .i64 i113)], [(70, ⟨40, 4, false, pcellss (ks114 ++ [LP.mk k126 n126 p126 e126 fs126 q126 f126 ks126])⟩), (7, ⟨40, 4, true, [[.int .i64 k1, .int .i64 i5, .imm 0 3 true [], .osl (.loc 70)]]⟩), (6, ⟨40, 4, true, [[.int .i64 0, .int .i64 0, .imm 0 3 true [], .imm 0 4 true []]]⟩), (3, ⟨40, 4, true, [[.int .i64 k1, .int .i64 n1, .imm p1 3 e1 (fcellss fs1), .imm q1 4 f1 (pcellss ks1)]]⟩)], [], O, tk123⟩) (Sub.trans (Sub.drop (k := 69) rfl) (Sub.env _ ⟨rfl, rfl, rfl, rfl, rfl, rfl, trivial⟩)) ?_
    refine run_region ?_
    refine yL rfl ?_
    refine yB rfl ?_
    refine yR rfl ?_
    refine yN ?_
    exact run_loop_end ⟨m, _, Nat.lt_succ_self _, ⟨(IntKind.i64.wrap (i113 + 1)), (ks114 ++ [LP.mk k126 n126 p126 e126 fs126 q126 f126 ks126]), tk123, (show tkj110 ≤ tk123 by omega), (show Fr tkj110 tk123 _ from (Fr.psnoc (show Fr tkj110 tks_l09Move_L3 _ from (hfr114).mono (by omega) (by omega)) ((show Fr tks_l09Move_L3 tk123 _ from hf127 rfl)) (by omega) (by omega)).mono (by omega) (by omega)), hM, rfl⟩, Sub.pk [1, 2, 3, 6, 7, 9] rfl⟩
   obtain ⟨r129, hg130, hM⟩ := bind_t hM
   refine yI rfl rfl (ih_s_l09Move k118 n118 p118 e118 fs118 q118 f118 ks118 i111 i3 hg130 _ _) (callK_retX (fun v tk131 (hle132 : tks_l09Move_L3 ≤ tk131) h133 => ?_))
   obtain ⟨k134, n134, p134, e134, fs134, q134, f134, ks134, rfl, rfl, hf135⟩ := h133
   refine AAny.each (rs := [1, 10]) (by kernel_rfl) (fun h => by cases h) (fun i hi => ?_)
   simp only [List.mem_cons, List.not_mem_nil, or_false] at hi
   rcases hi with rfl | rfl
   ·refine AOp.rd rfl rfl rfl (ltb rfl) (aload_rd hG rfl rfl rfl (by first | (simp [ldok]; done) | exact List.not_mem_nil | trivial)) ?_
    refine AAny.one (i := 10) (by kernel_rfl) (AOp.step rfl rfl rfl (ltb rfl) (buildSlice_step (d := 69) hG rfl rfl rfl rfl rfl (by rfl) (by rfl) (by rfl) (by decide)) yE ?_)
    obtain ⟨hc136, hM⟩ := chk_t hM
    try rw [show ((pers ks114) ++ [(Pf.mk k134 n134 (fers fs134) (pers ks134))] : List Pf) = (pers (ks114 ++ [LP.mk k134 n134 p134 e134 fs134 q134 f134 ks134])) from pers_app ks114 [LP.mk k134 n134 p134 e134 fs134 q134 f134 ks134]] at hM
    refine AAny.one (i := 11) (by kernel_rfl) (AOp.step rfl rfl rfl (ltb rfl) (appendM_step hG rfl rfl rfl rfl rfl rfl rfl rfl rfl rfl rfl (pcellss_sz ([LP.mk k134 n134 p134 e134 fs134 q134 f134 ks134])) (plen ks114) (plen ([LP.mk k134 n134 p134 e134 fs134 q134 f134 ks134])) hc136 (by decide) (pcellss_app _ _)) (by intro x hx; simp only [List.mem_cons, List.not_mem_nil, or_false] at hx; subst hx; simp) ?_)
    refine yTF hG 12 (by kernel_rfl) rfl ?_
    refine yW hG 13 (by kernel_rfl) rfl (by kernel_rfl) rfl ?_
    refine AAny.done (by kernel_rfl) ?_
    refine run_blk ?_
    refine run_sub_code (σ' := ⟨[(1, .int .i64 i111), (2, .int .i64 i3), (3, .optr (.loc 3) 0 0), (6, .optr (.loc 6) 0 0), (7, .optr (.loc 7) 0 0), (9, .int .i64 i113)], [(70, ⟨40, 4, false, pcellss (ks114 ++ [LP.mk k134 n134 p134 e134 fs134 q134 f134 ks134])⟩), (7, ⟨40, 4, true, [[.int .i64 k1, .int .i64 i5, .imm 0 3 true [], .osl (.loc 70)]]⟩), (6, ⟨40, 4, true, [[.int .i64 0, .int .i64 0, .imm 0 3 true [], .imm 0 4 true []]]⟩), (3, ⟨40, 4, true, [[.int .i64 k1, .int .i64 n1, .imm p1 3 e1 (fcellss fs1), .imm q1 4 f1 (pcellss ks1)]]⟩)], [], O, tk131⟩) (Sub.trans (Sub.drop (k := 69) rfl) (Sub.env _ ⟨rfl, rfl, rfl, rfl, rfl, rfl, trivial⟩)) ?_
    refine run_region ?_
    refine yL rfl ?_
    refine yB rfl ?_
    refine yR rfl ?_
    refine yN ?_
    exact run_loop_end ⟨m, _, Nat.lt_succ_self _, ⟨(IntKind.i64.wrap (i113 + 1)), (ks114 ++ [LP.mk k134 n134 p134 e134 fs134 q134 f134 ks134]), tk131, (show tkj110 ≤ tk131 by omega), (show Fr tkj110 tk131 _ from (Fr.psnoc (show Fr tkj110 tks_l09Move_L3 _ from (hfr114).mono (by omega) (by omega)) ((show Fr tks_l09Move_L3 tk131 _ from hf135 rfl)) (by omega) (by omega)).mono (by omega) (by omega)), hM, rfl⟩, Sub.pk [1, 2, 3, 6, 7, 9] rfl⟩
   refine AOp.step rfl rfl rfl (ltb rfl) (buildSlice_step (d := 69) hG rfl rfl rfl rfl rfl (by rfl) (by rfl) (by rfl) (by decide)) yE ?_
   refine AAny.one (i := 1) (by kernel_rfl) (AOp.rd rfl rfl rfl (ltb rfl) (aload_rd hG rfl rfl rfl (by first | (simp [ldok]; done) | exact List.not_mem_nil | trivial)) ?_)
   obtain ⟨hc137, hM⟩ := chk_t hM
   try rw [show ((pers ks114) ++ [(Pf.mk k134 n134 (fers fs134) (pers ks134))] : List Pf) = (pers (ks114 ++ [LP.mk k134 n134 p134 e134 fs134 q134 f134 ks134])) from pers_app ks114 [LP.mk k134 n134 p134 e134 fs134 q134 f134 ks134]] at hM
   refine AAny.one (i := 11) (by kernel_rfl) (AOp.step rfl rfl rfl (ltb rfl) (appendM_step hG rfl rfl rfl rfl rfl rfl rfl rfl rfl rfl rfl (pcellss_sz ([LP.mk k134 n134 p134 e134 fs134 q134 f134 ks134])) (plen ks114) (plen ([LP.mk k134 n134 p134 e134 fs134 q134 f134 ks134])) hc137 (by decide) (pcellss_app _ _)) (by intro x hx; simp only [List.mem_cons, List.not_mem_nil, or_false] at hx; subst hx; simp) ?_)
   refine yTF hG 12 (by kernel_rfl) rfl ?_
   refine yW hG 13 (by kernel_rfl) rfl (by kernel_rfl) rfl ?_
   refine AAny.done (by kernel_rfl) ?_
   refine run_blk ?_
   refine run_sub_code (σ' := ⟨[(1, .int .i64 i111), (2, .int .i64 i3), (3, .optr (.loc 3) 0 0), (6, .optr (.loc 6) 0 0), (7, .optr (.loc 7) 0 0), (9, .int .i64 i113)], [(70, ⟨40, 4, false, pcellss (ks114 ++ [LP.mk k134 n134 p134 e134 fs134 q134 f134 ks134])⟩), (7, ⟨40, 4, true, [[.int .i64 k1, .int .i64 i5, .imm 0 3 true [], .osl (.loc 70)]]⟩), (6, ⟨40, 4, true, [[.int .i64 0, .int .i64 0, .imm 0 3 true [], .imm 0 4 true []]]⟩), (3, ⟨40, 4, true, [[.int .i64 k1, .int .i64 n1, .imm p1 3 e1 (fcellss fs1), .imm q1 4 f1 (pcellss ks1)]]⟩)], [], O, tk131⟩) (Sub.trans (Sub.drop (k := 69) rfl) (Sub.env _ ⟨rfl, rfl, rfl, rfl, rfl, rfl, trivial⟩)) ?_
   refine run_region ?_
   refine yL rfl ?_
   refine yB rfl ?_
   refine yR rfl ?_
   refine yN ?_
   exact run_loop_end ⟨m, _, Nat.lt_succ_self _, ⟨(IntKind.i64.wrap (i113 + 1)), (ks114 ++ [LP.mk k134 n134 p134 e134 fs134 q134 f134 ks134]), tk131, (show tkj110 ≤ tk131 by omega), (show Fr tkj110 tk131 _ from (Fr.psnoc (show Fr tkj110 tks_l09Move_L3 _ from (hfr114).mono (by omega) (by omega)) ((show Fr tks_l09Move_L3 tk131 _ from hf135 rfl)) (by omega) (by omega)).mono (by omega) (by omega)), hM, rfl⟩, Sub.pk [1, 2, 3, 6, 7, 9] rfl⟩
  replace hM := ite_f hb115 hM
  refine run_exit_to rfl ?_
  refine run_sr ?_
  refine yD hG rfl ?_
  refine yS hG rfl ?_
  refine yN ?_
  refine run_ret_to ?_
  refine fin_sub (Sub.freeze (k := 70) rfl rfl) ?_
  replace hM := some_t hM
  subst hM
  refine fin_x hG rfl rfl rfl (v' := .agg [.int .i64 k1, .int .i64 i5, .imm 0 3 true (fcellss []), .imm tks_l09Move_L3 4 false (pcellss ks114)]) (by rfl) ⟨rfl, (show tk ≤ (tks_l09Move_L3 + 1) by omega), _, rfl, ⟨k1, i5, 0, true, [], tks_l09Move_L3, false, ks114, rfl, rfl, fun _ => (show Fr tk (tks_l09Move_L3 + 1) _ from (Fr.app (show Fr tkj110 tkj110 _ from Fr.nil _ _) (show Fr tkj110 (tks_l09Move_L3 + 1) _ from Fr.pstop (show Fr tkj110 tks_l09Move_L3 _ from (hfr114).mono (by omega) (by omega)) (by omega) (by omega)) (by omega) (by omega)).mono (by omega) (by omega))⟩⟩
 clear hM
 obtain ⟨i8, ks9, tks_l09Move_L1, hle164, hfr9, hM, rfl⟩ := hI
 obtain _ | m := m
 ·exact absurd hM (by rw [s_l09Move_L1]; exact fun h => by cases h)
 rw [s_l09Move_L1] at hM
 refine run_seq ?_
 refine run_sr ?_
 refine yL rfl ?_
 refine yF hG rfl ?_
 refine yD hG rfl ?_
 refine run_pu rfl (lenImm_step hG rfl rfl rfl rfl (flen _)) rfl (ltb rfl) ?_
 refine yB rfl ?_
 refine yN ?_
 refine run_ifd rfl rfl (fun hb10 => ?_) (fun hb10 => ?_)
 ·replace hM := ite_t hb10 hM
  refine run_skip ?_
  refine run_seq ?_
  refine run_block ?_
  refine run_draw [.loc 7, .loc 45] (n := 12) mixed rfl (by intro x hx; simp only [List.mem_cons, List.not_mem_nil, or_false] at hx; rcases hx with rfl | rfl <;> rfl) ?_
  refine yTF hG 0 (by kernel_rfl) rfl ?_
  refine yTF hG 2 (by kernel_rfl) rfl ?_
  refine yTL hG 3 (by kernel_rfl) rfl ?_
  refine yTV 4 (by kernel_rfl) rfl ?_
  obtain ⟨y11, hy12, hM⟩ := bind_t hM
  obtain ⟨k13, n13, q13, f13, ks13, rfl, hc14, hi15⟩ := fidx (ks := fs1) hy12
  refine yT 5 (by kernel_rfl) rfl rfl rfl (ltb rfl) ((indexImm_step hG rfl rfl rfl hi15 rfl rfl rfl rfl hc14).rd _) ?_
  refine yTL hG 6 (by kernel_rfl) rfl ?_
  refine AAny.each (rs := [1, 7]) (by kernel_rfl) (fun h => by cases h) (fun i hi => ?_)
  simp only [List.mem_cons, List.not_mem_nil, or_false] at hi
  rcases hi with rfl | rfl
  ·refine AOp.rd rfl rfl rfl (ltb rfl) (aload_rd hG rfl rfl rfl (by first | (simp [ldok]; done) | exact List.not_mem_nil | trivial)) ?_
   obtain ⟨r16, hg17, hM⟩ := bind_t hM
   refine yC 7 (by kernel_rfl) rfl rfl (s_l09Copy_ok n k13 n13 q13 f13 ks13 hg17 _ _) (callK_retX (fun v tk18 (hle19 : tks_l09Move_L1 ≤ tk18) h20 => ?_))
   obtain ⟨k21, n21, q21, f21, ks21, rfl, rfl, hf22⟩ := h20
   refine AAny.one (i := 8) (by kernel_rfl) (AOp.step rfl rfl rfl (ltb rfl) (buildSlice_step (d := 44) hG rfl rfl rfl rfl rfl (by rfl) (by rfl) (by rfl) (by decide)) yE ?_)
   obtain ⟨hc23, hM⟩ := chk_t hM
   try rw [show ((fers ks9) ++ [(F.mk k21 n21 (fers ks21))] : List F) = (fers (ks9 ++ [LF.mk k21 n21 q21 f21 ks21])) from fers_app ks9 [LF.mk k21 n21 q21 f21 ks21]] at hM
   refine AAny.one (i := 9) (by kernel_rfl) (AOp.step rfl rfl rfl (ltb rfl) (appendM_step hG rfl rfl rfl rfl rfl rfl rfl rfl rfl rfl rfl (fcellss_sz ([LF.mk k21 n21 q21 f21 ks21])) (flen ks9) (flen ([LF.mk k21 n21 q21 f21 ks21])) hc23 (by decide) (fcellss_app _ _)) (by intro x hx; simp only [List.mem_cons, List.not_mem_nil, or_false] at hx; subst hx; simp) ?_)
   refine yTF hG 10 (by kernel_rfl) rfl ?_
   refine yW hG 11 (by kernel_rfl) rfl (by kernel_rfl) rfl ?_
   refine AAny.done (by kernel_rfl) ?_
   refine run_blk ?_
   refine run_sub_code (σ' := ⟨[(1, .int .i64 i2), (2, .int .i64 i3), (3, .optr (.loc 3) 0 0), (6, .optr (.loc 6) 0 0), (7, .optr (.loc 7) 0 0), (8, .int .i64 i8)], [(45, ⟨42, 3, false, fcellss (ks9 ++ [LF.mk k21 n21 q21 f21 ks21])⟩), (7, ⟨40, 4, true, [[.int .i64 k1, .int .i64 i5, .osl (.loc 45), .imm 0 4 true []]]⟩), (6, ⟨40, 4, true, [[.int .i64 0, .int .i64 0, .imm 0 3 true [], .imm 0 4 true []]]⟩), (3, ⟨40, 4, true, [[.int .i64 k1, .int .i64 n1, .imm p1 3 e1 (fcellss fs1), .imm q1 4 f1 (pcellss ks1)]]⟩)], [], O, tk18⟩) (Sub.trans (Sub.drop (k := 44) rfl) (Sub.env _ ⟨rfl, rfl, rfl, rfl, rfl, rfl, trivial⟩)) ?_
   refine run_region ?_
   refine yL rfl ?_
   refine yB rfl ?_
   refine yR rfl ?_
   refine yN ?_
   exact run_loop_end ⟨m, _, Nat.lt_succ_self _, ⟨(IntKind.i64.wrap (i8 + 1)), (ks9 ++ [LF.mk k21 n21 q21 f21 ks21]), tk18, (show tkj4 ≤ tk18 by omega), (show Fr tkj4 tk18 _ from (Fr.fsnoc (show Fr tkj4 tks_l09Move_L1 _ from (hfr9).mono (by omega) (by omega)) ((show Fr tks_l09Move_L1 tk18 _ from hf22 rfl)) (by omega) (by omega)).mono (by omega) (by omega)), hM, rfl⟩, Sub.pk [1, 2, 3, 6, 7, 8] rfl⟩
  obtain ⟨r24, hg25, hM⟩ := bind_t hM
  refine yI rfl rfl (s_l09Copy_ok n k13 n13 q13 f13 ks13 hg25 _ _) (callK_retX (fun v tk26 (hle27 : tks_l09Move_L1 ≤ tk26) h28 => ?_))
  obtain ⟨k29, n29, q29, f29, ks29, rfl, rfl, hf30⟩ := h28
  refine AAny.each (rs := [1, 8]) (by kernel_rfl) (fun h => by cases h) (fun i hi => ?_)
  simp only [List.mem_cons, List.not_mem_nil, or_false] at hi
  rcases hi with rfl | rfl
  ·refine AOp.rd rfl rfl rfl (ltb rfl) (aload_rd hG rfl rfl rfl (by first | (simp [ldok]; done) | exact List.not_mem_nil | trivial)) ?_
   refine AAny.one (i := 8) (by kernel_rfl) (AOp.step rfl rfl rfl (ltb rfl) (buildSlice_step (d := 44) hG rfl rfl rfl rfl rfl (by rfl) (by rfl) (by rfl) (by decide)) yE ?_)
   obtain ⟨hc31, hM⟩ := chk_t hM
   try rw [show ((fers ks9) ++ [(F.mk k29 n29 (fers ks29))] : List F) = (fers (ks9 ++ [LF.mk k29 n29 q29 f29 ks29])) from fers_app ks9 [LF.mk k29 n29 q29 f29 ks29]] at hM
   refine AAny.one (i := 9) (by kernel_rfl) (AOp.step rfl rfl rfl (ltb rfl) (appendM_step hG rfl rfl rfl rfl rfl rfl rfl rfl rfl rfl rfl (fcellss_sz ([LF.mk k29 n29 q29 f29 ks29])) (flen ks9) (flen ([LF.mk k29 n29 q29 f29 ks29])) hc31 (by decide) (fcellss_app _ _)) (by intro x hx; simp only [List.mem_cons, List.not_mem_nil, or_false] at hx; subst hx; simp) ?_)
   refine yTF hG 10 (by kernel_rfl) rfl ?_
   refine yW hG 11 (by kernel_rfl) rfl (by kernel_rfl) rfl ?_
   refine AAny.done (by kernel_rfl) ?_
   refine run_blk ?_
   refine run_sub_code (σ' := ⟨[(1, .int .i64 i2), (2, .int .i64 i3), (3, .optr (.loc 3) 0 0), (6, .optr (.loc 6) 0 0), (7, .optr (.loc 7) 0 0), (8, .int .i64 i8)], [(45, ⟨42, 3, false, fcellss (ks9 ++ [LF.mk k29 n29 q29 f29 ks29])⟩), (7, ⟨40, 4, true, [[.int .i64 k1, .int .i64 i5, .osl (.loc 45), .imm 0 4 true []]]⟩), (6, ⟨40, 4, true, [[.int .i64 0, .int .i64 0, .imm 0 3 true [], .imm 0 4 true []]]⟩), (3, ⟨40, 4, true, [[.int .i64 k1, .int .i64 n1, .imm p1 3 e1 (fcellss fs1), .imm q1 4 f1 (pcellss ks1)]]⟩)], [], O, tk26⟩) (Sub.trans (Sub.drop (k := 44) rfl) (Sub.env _ ⟨rfl, rfl, rfl, rfl, rfl, rfl, trivial⟩)) ?_
   refine run_region ?_
   refine yL rfl ?_
   refine yB rfl ?_
   refine yR rfl ?_
   refine yN ?_
   exact run_loop_end ⟨m, _, Nat.lt_succ_self _, ⟨(IntKind.i64.wrap (i8 + 1)), (ks9 ++ [LF.mk k29 n29 q29 f29 ks29]), tk26, (show tkj4 ≤ tk26 by omega), (show Fr tkj4 tk26 _ from (Fr.fsnoc (show Fr tkj4 tks_l09Move_L1 _ from (hfr9).mono (by omega) (by omega)) ((show Fr tks_l09Move_L1 tk26 _ from hf30 rfl)) (by omega) (by omega)).mono (by omega) (by omega)), hM, rfl⟩, Sub.pk [1, 2, 3, 6, 7, 8] rfl⟩
  refine AOp.step rfl rfl rfl (ltb rfl) (buildSlice_step (d := 44) hG rfl rfl rfl rfl rfl (by rfl) (by rfl) (by rfl) (by decide)) yE ?_
  refine AAny.one (i := 1) (by kernel_rfl) (AOp.rd rfl rfl rfl (ltb rfl) (aload_rd hG rfl rfl rfl (by first | (simp [ldok]; done) | exact List.not_mem_nil | trivial)) ?_)
  obtain ⟨hc32, hM⟩ := chk_t hM
  try rw [show ((fers ks9) ++ [(F.mk k29 n29 (fers ks29))] : List F) = (fers (ks9 ++ [LF.mk k29 n29 q29 f29 ks29])) from fers_app ks9 [LF.mk k29 n29 q29 f29 ks29]] at hM
  refine AAny.one (i := 9) (by kernel_rfl) (AOp.step rfl rfl rfl (ltb rfl) (appendM_step hG rfl rfl rfl rfl rfl rfl rfl rfl rfl rfl rfl (fcellss_sz ([LF.mk k29 n29 q29 f29 ks29])) (flen ks9) (flen ([LF.mk k29 n29 q29 f29 ks29])) hc32 (by decide) (fcellss_app _ _)) (by intro x hx; simp only [List.mem_cons, List.not_mem_nil, or_false] at hx; subst hx; simp) ?_)
  refine yTF hG 10 (by kernel_rfl) rfl ?_
  refine yW hG 11 (by kernel_rfl) rfl (by kernel_rfl) rfl ?_
  refine AAny.done (by kernel_rfl) ?_
  refine run_blk ?_
  refine run_sub_code (σ' := ⟨[(1, .int .i64 i2), (2, .int .i64 i3), (3, .optr (.loc 3) 0 0), (6, .optr (.loc 6) 0 0), (7, .optr (.loc 7) 0 0), (8, .int .i64 i8)], [(45, ⟨42, 3, false, fcellss (ks9 ++ [LF.mk k29 n29 q29 f29 ks29])⟩), (7, ⟨40, 4, true, [[.int .i64 k1, .int .i64 i5, .osl (.loc 45), .imm 0 4 true []]]⟩), (6, ⟨40, 4, true, [[.int .i64 0, .int .i64 0, .imm 0 3 true [], .imm 0 4 true []]]⟩), (3, ⟨40, 4, true, [[.int .i64 k1, .int .i64 n1, .imm p1 3 e1 (fcellss fs1), .imm q1 4 f1 (pcellss ks1)]]⟩)], [], O, tk26⟩) (Sub.trans (Sub.drop (k := 44) rfl) (Sub.env _ ⟨rfl, rfl, rfl, rfl, rfl, rfl, trivial⟩)) ?_
  refine run_region ?_
  refine yL rfl ?_
  refine yB rfl ?_
  refine yR rfl ?_
  refine yN ?_
  exact run_loop_end ⟨m, _, Nat.lt_succ_self _, ⟨(IntKind.i64.wrap (i8 + 1)), (ks9 ++ [LF.mk k29 n29 q29 f29 ks29]), tk26, (show tkj4 ≤ tk26 by omega), (show Fr tkj4 tk26 _ from (Fr.fsnoc (show Fr tkj4 tks_l09Move_L1 _ from (hfr9).mono (by omega) (by omega)) ((show Fr tks_l09Move_L1 tk26 _ from hf30 rfl)) (by omega) (by omega)).mono (by omega) (by omega)), hM, rfl⟩, Sub.pk [1, 2, 3, 6, 7, 8] rfl⟩
 replace hM := ite_f hb10 hM
 refine run_exit_to rfl ?_
 refine run_seq ?_
 refine run_sr ?_
 refine yF hG rfl ?_
 refine yD hG rfl ?_
 refine yB rfl ?_
 refine yN ?_
 obtain ⟨j33, hj86, hM⟩ := jn_t hM
 refine run_cutL [.code _] (fun σ' => ∃ (i34 : Int) (tkj33 : Nat), tks_l09Move_L1 ≤ tkj33 ∧ j33 i34 = some r ∧ Sub ⟨Go.Proofs.Try.prog, S0, Go.Proofs.Try.f158.ntmps, [], fun _ => False, []⟩ σ' ⟨[(1, .int .i64 i34), (2, .int .i64 i3), (3, .optr (.loc 3) 0 0), (6, .optr (.loc 6) 0 0), (7, .optr (.loc 7) 0 0)], [(45, ⟨42, 3, false, fcellss ks9⟩), (7, ⟨40, 4, true, [[.int .i64 k1, .int .i64 i5, .osl (.loc 45), .imm 0 4 true []]]⟩), (6, ⟨40, 4, true, [[.int .i64 0, .int .i64 0, .imm 0 3 true [], .imm 0 4 true []]]⟩), (3, ⟨40, 4, true, [[.int .i64 k1, .int .i64 n1, .imm p1 3 e1 (fcellss fs1), .imm q1 4 f1 (pcellss ks1)]]⟩)], [], O, tkj33⟩) rfl ?_ ?_
 ·refine run_ifd rfl rfl (fun hb35 => ?_) (fun hb35 => ?_)
  ·replace hM := ite_t hb35 hM
   refine run_region ?_
   refine yL rfl ?_
   refine yB rfl ?_
   refine yR rfl ?_
   refine yN ?_
   exact ⟨(IntKind.i64.wrap (i2 + 1)), tks_l09Move_L1, (show tks_l09Move_L1 ≤ tks_l09Move_L1 by omega), hM, Sub.pk [1, 2, 3, 6, 7] rfl⟩
  replace hM := ite_f hb35 hM
  refine run_skip ?_
  exact ⟨i2, tks_l09Move_L1, (show tks_l09Move_L1 ≤ tks_l09Move_L1 by omega), hM, Sub.pk [1, 2, 3, 6, 7] rfl⟩
 clear hM
 rintro σ' ⟨i34, tkj33, hle85, hM, hsub⟩
 rw [hj86] at hM
 clear hj86
 refine run_sub_code hsub ?_
 refine run_seq ?_
 refine run_sr ?_
 refine yR rfl ?_
 refine yN ?_
 refine run_block ?_
 refine run_peel (fun m σ => ∃ (i36 : Int) (ks37 : List LP) (tks_l09Move_L2 : Nat), tkj33 ≤ tks_l09Move_L2 ∧ Fr tkj33 tks_l09Move_L2 (ptoks ks37) ∧ s_l09Move_L2 (s_l09Move n) (Pf.mk k1 n1 (fers fs1) (pers ks1)) i3 i5 (fers ks9) i34 m i36 (pers ks37) = some r ∧ σ = ⟨[(1, .int .i64 i34), (2, .int .i64 i3), (3, .optr (.loc 3) 0 0), (6, .optr (.loc 6) 0 0), (7, .optr (.loc 7) 0 0), (9, .int .i64 i36)], [(70, ⟨40, 4, false, pcellss ks37⟩), (45, ⟨42, 3, false, fcellss ks9⟩), (7, ⟨40, 4, true, [[.int .i64 k1, .int .i64 i5, .osl (.loc 45), .osl (.loc 70)]]⟩), (6, ⟨40, 4, true, [[.int .i64 0, .int .i64 0, .imm 0 3 true [], .imm 0 4 true []]]⟩), (3, ⟨40, 4, true, [[.int .i64 k1, .int .i64 n1, .imm p1 3 e1 (fcellss fs1), .imm q1 4 f1 (pcellss ks1)]]⟩)], [], O, tks_l09Move_L2⟩) n ?_ (fun m σ hI => ?_)
 ·refine run_seq ?_
  refine run_sr ?_
  refine yL rfl ?_
  refine yF hG rfl ?_
  refine yD hG rfl ?_
  refine run_pu rfl (lenImm_step hG rfl rfl rfl rfl (plen _)) rfl (ltb rfl) ?_
  refine yB rfl ?_
  refine yN ?_
  refine run_ifd rfl rfl (fun hb61 => ?_) (fun hb61 => ?_)
  ·replace hM := ite_t hb61 hM
   refine run_skip ?_
   refine run_seq ?_
   refine run_block ?_
   refine run_draw [.loc 7] (n := 14) mixed rfl (by intro x hx; simp only [List.mem_cons, List.not_mem_nil, or_false] at hx; rcases hx with rfl <;> rfl) ?_
   refine yTF hG 0 (by kernel_rfl) rfl ?_
   refine yTF hG 2 (by kernel_rfl) rfl ?_
   refine yTL hG 3 (by kernel_rfl) rfl ?_
   refine yTV 4 (by kernel_rfl) rfl ?_
   obtain ⟨y62, hy63, hM⟩ := bind_t hM
   obtain ⟨k64, n64, p64, e64, fs64, q64, f64, ks64, rfl, hc65, hi66⟩ := pidx (ks := ks1) hy63
   refine yT 5 (by kernel_rfl) rfl rfl rfl (ltb rfl) ((indexImm_step hG rfl rfl rfl hi66 rfl rfl rfl rfl hc65).rd _) ?_
   refine yTL hG 6 (by kernel_rfl) rfl ?_
   refine yTV 7 (by kernel_rfl) rfl ?_
   refine yTV 8 (by kernel_rfl) rfl ?_
   refine AAny.each (rs := [1, 9]) (by kernel_rfl) (fun h => by cases h) (fun i hi => ?_)
   simp only [List.mem_cons, List.not_mem_nil, or_false] at hi
   rcases hi with rfl | rfl
   ·refine AOp.rd rfl rfl rfl (ltb rfl) (aload_rd hG rfl rfl rfl (by first | (simp [ldok]; done) | exact List.not_mem_nil | trivial)) ?_
    obtain ⟨r67, hg68, hM⟩ := bind_t hM
    refine yC 9 (by kernel_rfl) rfl rfl (ih_s_l09Move k64 n64 p64 e64 fs64 q64 f64 ks64 i34 i3 hg68 _ _) (callK_retX (fun v tk69 (hle70 : tkj33 ≤ tk69) h71 => ?_))
    obtain ⟨k72, n72, p72, e72, fs72, q72, f72, ks72, rfl, rfl, hf73⟩ := h71
    refine AAny.one (i := 10) (by kernel_rfl) (AOp.step rfl rfl rfl (ltb rfl) (buildSlice_step (d := 69) hG rfl rfl rfl rfl rfl (by rfl) (by rfl) (by rfl) (by decide)) yE ?_)
    obtain ⟨hc74, hM⟩ := chk_t hM
    try rw [show ((pers ([] : List LP)) ++ [(Pf.mk k72 n72 (fers fs72) (pers ks72))] : List Pf) = (pers (([] : List LP) ++ [LP.mk k72 n72 p72 e72 fs72 q72 f72 ks72])) from pers_app ([] : List LP) [LP.mk k72 n72 p72 e72 fs72 q72 f72 ks72]] at hM
    refine AAny.one (i := 11) (by kernel_rfl) (AOp.step rfl rfl rfl (ltb rfl) (appendFM_step (d := 70) hG rfl rfl rfl rfl rfl rfl rfl (pcellss_sz ([] : List LP)) rfl (pcellss_sz ([LP.mk k72 n72 p72 e72 fs72 q72 f72 ks72])) (plen ([] : List LP)) (plen ([LP.mk k72 n72 p72 e72 fs72 q72 f72 ks72])) (by simp [pers]) hc74 (by decide) (pcellss_app _ _)) yE ?_)
    refine yTF hG 12 (by kernel_rfl) rfl ?_
    refine yW hG 13 (by kernel_rfl) rfl (by kernel_rfl) rfl ?_
    refine AAny.done (by kernel_rfl) ?_
    refine run_blk ?_
    refine run_sub_code (σ' := ⟨[(1, .int .i64 i34), (2, .int .i64 i3), (3, .optr (.loc 3) 0 0), (6, .optr (.loc 6) 0 0), (7, .optr (.loc 7) 0 0), (9, .int .i64 0)], [(70, ⟨40, 4, false, pcellss (([] : List LP) ++ [LP.mk k72 n72 p72 e72 fs72 q72 f72 ks72])⟩), (45, ⟨42, 3, false, fcellss ks9⟩), (7, ⟨40, 4, true, [[.int .i64 k1, .int .i64 i5, .osl (.loc 45), .osl (.loc 70)]]⟩), (6, ⟨40, 4, true, [[.int .i64 0, .int .i64 0, .imm 0 3 true [], .imm 0 4 true []]]⟩), (3, ⟨40, 4, true, [[.int .i64 k1, .int .i64 n1, .imm p1 3 e1 (fcellss fs1), .imm q1 4 f1 (pcellss ks1)]]⟩)], [], O, tk69⟩) (Sub.trans (Sub.drop (k := 69) rfl) (Sub.env _ ⟨rfl, rfl, rfl, rfl, rfl, rfl, trivial⟩)) ?_
    refine run_region ?_
    refine yL rfl ?_
    refine yB rfl ?_
    refine yR rfl ?_
    refine yN ?_
    exact run_loop_end ⟨n, _, Nat.le_refl _, ⟨(IntKind.i64.wrap (0 + 1)), (([] : List LP) ++ [LP.mk k72 n72 p72 e72 fs72 q72 f72 ks72]), tk69, (show tkj33 ≤ tk69 by omega), (show Fr tkj33 tk69 _ from (Fr.pcons ((show Fr tkj33 tk69 _ from hf73 rfl)) (show Fr tk69 tk69 _ from Fr.nil _ _) (by omega) (by omega)).mono (by omega) (by omega)), hM, rfl⟩, Sub.pk [1, 2, 3, 6, 7, 9] rfl⟩
   obtain ⟨r75, hg76, hM⟩ := bind_t hM
   refine yI rfl rfl (ih_s_l09Move k64 n64 p64 e64 fs64 q64 f64 ks64 i34 i3 hg76 _ _) (callK_retX (fun v tk77 (hle78 : tkj33 ≤ tk77) h79 => ?_))
   obtain ⟨k80, n80, p80, e80, fs80, q80, f80, ks80, rfl, rfl, hf81⟩ := h79
   refine AAny.each (rs := [1, 10]) (by kernel_rfl) (fun h => by cases h) (fun i hi => ?_)
   simp only [List.mem_cons, List.not_mem_nil, or_false] at hi
   rcases hi with rfl | rfl
   ·refine AOp.rd rfl rfl rfl (ltb rfl) (aload_rd hG rfl rfl rfl (by first | (simp [ldok]; done) | exact List.not_mem_nil | trivial)) ?_
    refine AAny.one (i := 10) (by kernel_rfl) (AOp.step rfl rfl rfl (ltb rfl) (buildSlice_step (d := 69) hG rfl rfl rfl rfl rfl (by rfl) (by rfl) (by rfl) (by decide)) yE ?_)
    obtain ⟨hc82, hM⟩ := chk_t hM
    try rw [show ((pers ([] : List LP)) ++ [(Pf.mk k80 n80 (fers fs80) (pers ks80))] : List Pf) = (pers (([] : List LP) ++ [LP.mk k80 n80 p80 e80 fs80 q80 f80 ks80])) from pers_app ([] : List LP) [LP.mk k80 n80 p80 e80 fs80 q80 f80 ks80]] at hM
    refine AAny.one (i := 11) (by kernel_rfl) (AOp.step rfl rfl rfl (ltb rfl) (appendFM_step (d := 70) hG rfl rfl rfl rfl rfl rfl rfl (pcellss_sz ([] : List LP)) rfl (pcellss_sz ([LP.mk k80 n80 p80 e80 fs80 q80 f80 ks80])) (plen ([] : List LP)) (plen ([LP.mk k80 n80 p80 e80 fs80 q80 f80 ks80])) (by simp [pers]) hc82 (by decide) (pcellss_app _ _)) yE ?_)
    refine yTF hG 12 (by kernel_rfl) rfl ?_
    refine yW hG 13 (by kernel_rfl) rfl (by kernel_rfl) rfl ?_
    refine AAny.done (by kernel_rfl) ?_
    refine run_blk ?_
    refine run_sub_code (σ' := ⟨[(1, .int .i64 i34), (2, .int .i64 i3), (3, .optr (.loc 3) 0 0), (6, .optr (.loc 6) 0 0), (7, .optr (.loc 7) 0 0), (9, .int .i64 0)], [(70, ⟨40, 4, false, pcellss (([] : List LP) ++ [LP.mk k80 n80 p80 e80 fs80 q80 f80 ks80])⟩), (45, ⟨42, 3, false, fcellss ks9⟩), (7, ⟨40, 4, true, [[.int .i64 k1, .int .i64 i5, .osl (.loc 45), .osl (.loc 70)]]⟩), (6, ⟨40, 4, true, [[.int .i64 0, .int .i64 0, .imm 0 3 true [], .imm 0 4 true []]]⟩), (3, ⟨40, 4, true, [[.int .i64 k1, .int .i64 n1, .imm p1 3 e1 (fcellss fs1), .imm q1 4 f1 (pcellss ks1)]]⟩)], [], O, tk77⟩) (Sub.trans (Sub.drop (k := 69) rfl) (Sub.env _ ⟨rfl, rfl, rfl, rfl, rfl, rfl, trivial⟩)) ?_
    refine run_region ?_
    refine yL rfl ?_
    refine yB rfl ?_
    refine yR rfl ?_
    refine yN ?_
    exact run_loop_end ⟨n, _, Nat.le_refl _, ⟨(IntKind.i64.wrap (0 + 1)), (([] : List LP) ++ [LP.mk k80 n80 p80 e80 fs80 q80 f80 ks80]), tk77, (show tkj33 ≤ tk77 by omega), (show Fr tkj33 tk77 _ from (Fr.pcons ((show Fr tkj33 tk77 _ from hf81 rfl)) (show Fr tk77 tk77 _ from Fr.nil _ _) (by omega) (by omega)).mono (by omega) (by omega)), hM, rfl⟩, Sub.pk [1, 2, 3, 6, 7, 9] rfl⟩
   refine AOp.step rfl rfl rfl (ltb rfl) (buildSlice_step (d := 69) hG rfl rfl rfl rfl rfl (by rfl) (by rfl) (by rfl) (by decide)) yE ?_
   refine AAny.one (i := 1) (by kernel_rfl) (AOp.rd rfl rfl rfl (ltb rfl) (aload_rd hG rfl rfl rfl (by first | (simp [ldok]; done) | exact List.not_mem_nil | trivial)) ?_)
   obtain ⟨hc83, hM⟩ := chk_t hM
   try rw [show ((pers ([] : List LP)) ++ [(Pf.mk k80 n80 (fers fs80) (pers ks80))] : List Pf) = (pers (([] : List LP) ++ [LP.mk k80 n80 p80 e80 fs80 q80 f80 ks80])) from pers_app ([] : List LP) [LP.mk k80 n80 p80 e80 fs80 q80 f80 ks80]] at hM
   refine AAny.one (i := 11) (by kernel_rfl) (AOp.step rfl rfl rfl (ltb rfl) (appendFM_step (d := 70) hG rfl rfl rfl rfl rfl rfl rfl (pcellss_sz ([] : List LP)) rfl (pcellss_sz ([LP.mk k80 n80 p80 e80 fs80 q80 f80 ks80])) (plen ([] : List LP)) (plen ([LP.mk k80 n80 p80 e80 fs80 q80 f80 ks80])) (by simp [pers]) hc83 (by decide) (pcellss_app _ _)) yE ?_)
   refine yTF hG 12 (by kernel_rfl) rfl ?_
   refine yW hG 13 (by kernel_rfl) rfl (by kernel_rfl) rfl ?_
   refine AAny.done (by kernel_rfl) ?_
   refine run_blk ?_
   refine run_sub_code (σ' := ⟨[(1, .int .i64 i34), (2, .int .i64 i3), (3, .optr (.loc 3) 0 0), (6, .optr (.loc 6) 0 0), (7, .optr (.loc 7) 0 0), (9, .int .i64 0)], [(70, ⟨40, 4, false, pcellss (([] : List LP) ++ [LP.mk k80 n80 p80 e80 fs80 q80 f80 ks80])⟩), (45, ⟨42, 3, false, fcellss ks9⟩), (7, ⟨40, 4, true, [[.int .i64 k1, .int .i64 i5, .osl (.loc 45), .osl (.loc 70)]]⟩), (6, ⟨40, 4, true, [[.int .i64 0, .int .i64 0, .imm 0 3 true [], .imm 0 4 true []]]⟩), (3, ⟨40, 4, true, [[.int .i64 k1, .int .i64 n1, .imm p1 3 e1 (fcellss fs1), .imm q1 4 f1 (pcellss ks1)]]⟩)], [], O, tk77⟩) (Sub.trans (Sub.drop (k := 69) rfl) (Sub.env _ ⟨rfl, rfl, rfl, rfl, rfl, rfl, trivial⟩)) ?_
   refine run_region ?_
   refine yL rfl ?_
   refine yB rfl ?_
   refine yR rfl ?_
   refine yN ?_
   exact run_loop_end ⟨n, _, Nat.le_refl _, ⟨(IntKind.i64.wrap (0 + 1)), (([] : List LP) ++ [LP.mk k80 n80 p80 e80 fs80 q80 f80 ks80]), tk77, (show tkj33 ≤ tk77 by omega), (show Fr tkj33 tk77 _ from (Fr.pcons ((show Fr tkj33 tk77 _ from hf81 rfl)) (show Fr tk77 tk77 _ from Fr.nil _ _) (by omega) (by omega)).mono (by omega) (by omega)), hM, rfl⟩, Sub.pk [1, 2, 3, 6, 7, 9] rfl⟩
  replace hM := ite_f hb61 hM
  refine run_exit_to rfl ?_
  refine run_sr ?_
  refine yD hG rfl ?_
  refine yS hG rfl ?_
  refine yN ?_
  refine run_ret_to ?_
  refine fin_sub (Sub.freeze (k := 45) rfl rfl) ?_
  replace hM := some_t hM
  subst hM
  refine fin_x hG rfl rfl rfl (v' := .agg [.int .i64 k1, .int .i64 i5, .imm tkj33 3 false (fcellss ks9), .imm 0 4 true (pcellss [])]) (by rfl) ⟨rfl, (show tk ≤ (tkj33 + 1) by omega), _, rfl, ⟨k1, i5, tkj33, false, ks9, 0, true, [], rfl, rfl, fun _ => (show Fr tk (tkj33 + 1) _ from (Fr.app (show Fr tkj4 (tkj33 + 1) _ from Fr.fstop (show Fr tkj4 tkj33 _ from (hfr9).mono (by omega) (by omega)) (by omega) (by omega)) (show Fr (tkj33 + 1) (tkj33 + 1) _ from Fr.nil _ _) (by omega) (by omega)).mono (by omega) (by omega))⟩⟩
 clear hM
 obtain ⟨i36, ks37, tks_l09Move_L2, hle84, hfr37, hM, rfl⟩ := hI
 obtain _ | m := m
 ·exact absurd hM (by rw [s_l09Move_L2]; exact fun h => by cases h)
 rw [s_l09Move_L2] at hM
 refine run_seq ?_
 refine run_sr ?_
 refine yL rfl ?_
 refine yF hG rfl ?_
 refine yD hG rfl ?_
 refine run_pu rfl (lenImm_step hG rfl rfl rfl rfl (plen _)) rfl (ltb rfl) ?_
 refine yB rfl ?_
 refine yN ?_
 refine run_ifd rfl rfl (fun hb38 => ?_) (fun hb38 => ?_)
 ·replace hM := ite_t hb38 hM
  refine run_skip ?_
  refine run_seq ?_
  refine run_block ?_
  refine run_draw [.loc 7, .loc 70] (n := 14) mixed rfl (by intro x hx; simp only [List.mem_cons, List.not_mem_nil, or_false] at hx; rcases hx with rfl | rfl <;> rfl) ?_
  refine yTF hG 0 (by kernel_rfl) rfl ?_
  refine yTF hG 2 (by kernel_rfl) rfl ?_
  refine yTL hG 3 (by kernel_rfl) rfl ?_
  refine yTV 4 (by kernel_rfl) rfl ?_
  obtain ⟨y39, hy40, hM⟩ := bind_t hM
  obtain ⟨k41, n41, p41, e41, fs41, q41, f41, ks41, rfl, hc42, hi43⟩ := pidx (ks := ks1) hy40
  refine yT 5 (by kernel_rfl) rfl rfl rfl (ltb rfl) ((indexImm_step hG rfl rfl rfl hi43 rfl rfl rfl rfl hc42).rd _) ?_
  refine yTL hG 6 (by kernel_rfl) rfl ?_
  refine yTV 7 (by kernel_rfl) rfl ?_
  refine yTV 8 (by kernel_rfl) rfl ?_
  refine AAny.each (rs := [1, 9]) (by kernel_rfl) (fun h => by cases h) (fun i hi => ?_)
  simp only [List.mem_cons, List.not_mem_nil, or_false] at hi
  rcases hi with rfl | rfl
  ·refine AOp.rd rfl rfl rfl (ltb rfl) (aload_rd hG rfl rfl rfl (by first | (simp [ldok]; done) | exact List.not_mem_nil | trivial)) ?_
   obtain ⟨r44, hg45, hM⟩ := bind_t hM
   refine yC 9 (by kernel_rfl) rfl rfl (ih_s_l09Move k41 n41 p41 e41 fs41 q41 f41 ks41 i34 i3 hg45 _ _) (callK_retX (fun v tk46 (hle47 : tks_l09Move_L2 ≤ tk46) h48 => ?_))
   obtain ⟨k49, n49, p49, e49, fs49, q49, f49, ks49, rfl, rfl, hf50⟩ := h48
   refine AAny.one (i := 10) (by kernel_rfl) (AOp.step rfl rfl rfl (ltb rfl) (buildSlice_step (d := 69) hG rfl rfl rfl rfl rfl (by rfl) (by rfl) (by rfl) (by decide)) yE ?_)
   obtain ⟨hc51, hM⟩ := chk_t hM
   try rw [show ((pers ks37) ++ [(Pf.mk k49 n49 (fers fs49) (pers ks49))] : List Pf) = (pers (ks37 ++ [LP.mk k49 n49 p49 e49 fs49 q49 f49 ks49])) from pers_app ks37 [LP.mk k49 n49 p49 e49 fs49 q49 f49 ks49]] at hM
   refine AAny.one (i := 11) (by kernel_rfl) (AOp.step rfl rfl rfl (ltb rfl) (appendM_step hG rfl rfl rfl rfl rfl rfl rfl rfl rfl rfl rfl (pcellss_sz ([LP.mk k49 n49 p49 e49 fs49 q49 f49 ks49])) (plen ks37) (plen ([LP.mk k49 n49 p49 e49 fs49 q49 f49 ks49])) hc51 (by decide) (pcellss_app _ _)) (by intro x hx; simp only [List.mem_cons, List.not_mem_nil, or_false] at hx; subst hx; simp) ?_)
   refine yTF hG 12 (by kernel_rfl) rfl ?_
   refine yW hG 13 (by kernel_rfl) rfl (by kernel_rfl) rfl ?_
   refine AAny.done (by kernel_rfl) ?_
   refine run_blk ?_
   refine run_sub_code (σ' := ⟨[(1, .int .i64 i34), (2, .int .i64 i3), (3, .optr (.loc 3) 0 0), (6, .optr (.loc 6) 0 0), (7, .optr (.loc 7) 0 0), (9, .int .i64 i36)], [(70, ⟨40, 4, false, pcellss (ks37 ++ [LP.mk k49 n49 p49 e49 fs49 q49 f49 ks49])⟩), (45, ⟨42, 3, false, fcellss ks9⟩), (7, ⟨40, 4, true, [[.int .i64 k1, .int .i64 i5, .osl (.loc 45), .osl (.loc 70)]]⟩), (6, ⟨40, 4, true, [[.int .i64 0, .int .i64 0, .imm 0 3 true [], .imm 0 4 true []]]⟩), (3, ⟨40, 4, true, [[.int .i64 k1, .int .i64 n1, .imm p1 3 e1 (fcellss fs1), .imm q1 4 f1 (pcellss ks1)]]⟩)], [], O, tk46⟩) (Sub.trans (Sub.drop (k := 69) rfl) (Sub.env _ ⟨rfl, rfl, rfl, rfl, rfl, rfl, trivial⟩)) ?_
   refine run_region ?_
   refine yL rfl ?_
   refine yB rfl ?_
   refine yR rfl ?_
   refine yN ?_
   exact run_loop_end ⟨m, _, Nat.lt_succ_self _, ⟨(IntKind.i64.wrap (i36 + 1)), (ks37 ++ [LP.mk k49 n49 p49 e49 fs49 q49 f49 ks49]), tk46, (show tkj33 ≤ tk46 by omega), (show Fr tkj33 tk46 _ from (Fr.psnoc (show Fr tkj33 tks_l09Move_L2 _ from (hfr37).mono (by omega) (by omega)) ((show Fr tks_l09Move_L2 tk46 _ from hf50 rfl)) (by omega) (by omega)).mono (by omega) (by omega)), hM, rfl⟩, Sub.pk [1, 2, 3, 6, 7, 9] rfl⟩
  obtain ⟨r52, hg53, hM⟩ := bind_t hM
  refine yI rfl rfl (ih_s_l09Move k41 n41 p41 e41 fs41 q41 f41 ks41 i34 i3 hg53 _ _) (callK_retX (fun v tk54 (hle55 : tks_l09Move_L2 ≤ tk54) h56 => ?_))
  obtain ⟨k57, n57, p57, e57, fs57, q57, f57, ks57, rfl, rfl, hf58⟩ := h56
  refine AAny.each (rs := [1, 10]) (by kernel_rfl) (fun h => by cases h) (fun i hi => ?_)
  simp only [List.mem_cons, List.not_mem_nil, or_false] at hi
  rcases hi with rfl | rfl
  ·refine AOp.rd rfl rfl rfl (ltb rfl) (aload_rd hG rfl rfl rfl (by first | (simp [ldok]; done) | exact List.not_mem_nil | trivial)) ?_
   refine AAny.one (i := 10) (by kernel_rfl) (AOp.step rfl rfl rfl (ltb rfl) (buildSlice_step (d := 69) hG rfl rfl rfl rfl rfl (by rfl) (by rfl) (by rfl) (by decide)) yE ?_)
   obtain ⟨hc59, hM⟩ := chk_t hM
   try rw [show ((pers ks37) ++ [(Pf.mk k57 n57 (fers fs57) (pers ks57))] : List Pf) = (pers (ks37 ++ [LP.mk k57 n57 p57 e57 fs57 q57 f57 ks57])) from pers_app ks37 [LP.mk k57 n57 p57 e57 fs57 q57 f57 ks57]] at hM
   refine AAny.one (i := 11) (by kernel_rfl) (AOp.step rfl rfl rfl (ltb rfl) (appendM_step hG rfl rfl rfl rfl rfl rfl rfl rfl rfl rfl rfl (pcellss_sz ([LP.mk k57 n57 p57 e57 fs57 q57 f57 ks57])) (plen ks37) (plen ([LP.mk k57 n57 p57 e57 fs57 q57 f57 ks57])) hc59 (by decide) (pcellss_app _ _)) (by intro x hx; simp only [List.mem_cons, List.not_mem_nil, or_false] at hx; subst hx; simp) ?_)
   refine yTF hG 12 (by kernel_rfl) rfl ?_
   refine yW hG 13 (by kernel_rfl) rfl (by kernel_rfl) rfl ?_
   refine AAny.done (by kernel_rfl) ?_
   refine run_blk ?_
   refine run_sub_code (σ' := ⟨[(1, .int .i64 i34), (2, .int .i64 i3), (3, .optr (.loc 3) 0 0), (6, .optr (.loc 6) 0 0), (7, .optr (.loc 7) 0 0), (9, .int .i64 i36)], [(70, ⟨40, 4, false, pcellss (ks37 ++ [LP.mk k57 n57 p57 e57 fs57 q57 f57 ks57])⟩), (45, ⟨42, 3, false, fcellss ks9⟩), (7, ⟨40, 4, true, [[.int .i64 k1, .int .i64 i5, .osl (.loc 45), .osl (.loc 70)]]⟩), (6, ⟨40, 4, true, [[.int .i64 0, .int .i64 0, .imm 0 3 true [], .imm 0 4 true []]]⟩), (3, ⟨40, 4, true, [[.int .i64 k1, .int .i64 n1, .imm p1 3 e1 (fcellss fs1), .imm q1 4 f1 (pcellss ks1)]]⟩)], [], O, tk54⟩) (Sub.trans (Sub.drop (k := 69) rfl) (Sub.env _ ⟨rfl, rfl, rfl, rfl, rfl, rfl, trivial⟩)) ?_
   refine run_region ?_
   refine yL rfl ?_
   refine yB rfl ?_
   refine yR rfl ?_
   refine yN ?_
   exact run_loop_end ⟨m, _, Nat.lt_succ_self _, ⟨(IntKind.i64.wrap (i36 + 1)), (ks37 ++ [LP.mk k57 n57 p57 e57 fs57 q57 f57 ks57]), tk54, (show tkj33 ≤ tk54 by omega), (show Fr tkj33 tk54 _ from (Fr.psnoc (show Fr tkj33 tks_l09Move_L2 _ from (hfr37).mono (by omega) (by omega)) ((show Fr tks_l09Move_L2 tk54 _ from hf58 rfl)) (by omega) (by omega)).mono (by omega) (by omega)), hM, rfl⟩, Sub.pk [1, 2, 3, 6, 7, 9] rfl⟩
  refine AOp.step rfl rfl rfl (ltb rfl) (buildSlice_step (d := 69) hG rfl rfl rfl rfl rfl (by rfl) (by rfl) (by rfl) (by decide)) yE ?_
  refine AAny.one (i := 1) (by kernel_rfl) (AOp.rd rfl rfl rfl (ltb rfl) (aload_rd hG rfl rfl rfl (by first | (simp [ldok]; done) | exact List.not_mem_nil | trivial)) ?_)
  obtain ⟨hc60, hM⟩ := chk_t hM
  try rw [show ((pers ks37) ++ [(Pf.mk k57 n57 (fers fs57) (pers ks57))] : List Pf) = (pers (ks37 ++ [LP.mk k57 n57 p57 e57 fs57 q57 f57 ks57])) from pers_app ks37 [LP.mk k57 n57 p57 e57 fs57 q57 f57 ks57]] at hM
  refine AAny.one (i := 11) (by kernel_rfl) (AOp.step rfl rfl rfl (ltb rfl) (appendM_step hG rfl rfl rfl rfl rfl rfl rfl rfl rfl rfl rfl (pcellss_sz ([LP.mk k57 n57 p57 e57 fs57 q57 f57 ks57])) (plen ks37) (plen ([LP.mk k57 n57 p57 e57 fs57 q57 f57 ks57])) hc60 (by decide) (pcellss_app _ _)) (by intro x hx; simp only [List.mem_cons, List.not_mem_nil, or_false] at hx; subst hx; simp) ?_)
  refine yTF hG 12 (by kernel_rfl) rfl ?_
  refine yW hG 13 (by kernel_rfl) rfl (by kernel_rfl) rfl ?_
  refine AAny.done (by kernel_rfl) ?_
  refine run_blk ?_
  refine run_sub_code (σ' := ⟨[(1, .int .i64 i34), (2, .int .i64 i3), (3, .optr (.loc 3) 0 0), (6, .optr (.loc 6) 0 0), (7, .optr (.loc 7) 0 0), (9, .int .i64 i36)], [(70, ⟨40, 4, false, pcellss (ks37 ++ [LP.mk k57 n57 p57 e57 fs57 q57 f57 ks57])⟩), (45, ⟨42, 3, false, fcellss ks9⟩), (7, ⟨40, 4, true, [[.int .i64 k1, .int .i64 i5, .osl (.loc 45), .osl (.loc 70)]]⟩), (6, ⟨40, 4, true, [[.int .i64 0, .int .i64 0, .imm 0 3 true [], .imm 0 4 true []]]⟩), (3, ⟨40, 4, true, [[.int .i64 k1, .int .i64 n1, .imm p1 3 e1 (fcellss fs1), .imm q1 4 f1 (pcellss ks1)]]⟩)], [], O, tk54⟩) (Sub.trans (Sub.drop (k := 69) rfl) (Sub.env _ ⟨rfl, rfl, rfl, rfl, rfl, rfl, trivial⟩)) ?_
  refine run_region ?_
  refine yL rfl ?_
  refine yB rfl ?_
  refine yR rfl ?_
  refine yN ?_
  exact run_loop_end ⟨m, _, Nat.lt_succ_self _, ⟨(IntKind.i64.wrap (i36 + 1)), (ks37 ++ [LP.mk k57 n57 p57 e57 fs57 q57 f57 ks57]), tk54, (show tkj33 ≤ tk54 by omega), (show Fr tkj33 tk54 _ from (Fr.psnoc (show Fr tkj33 tks_l09Move_L2 _ from (hfr37).mono (by omega) (by omega)) ((show Fr tks_l09Move_L2 tk54 _ from hf58 rfl)) (by omega) (by omega)).mono (by omega) (by omega)), hM, rfl⟩, Sub.pk [1, 2, 3, 6, 7, 9] rfl⟩
 replace hM := ite_f hb38 hM
 refine run_exit_to rfl ?_
 refine run_sr ?_
 refine yD hG rfl ?_
 refine yS hG rfl ?_
 refine yN ?_
 refine run_ret_to ?_
 refine fin_sub (Sub.freeze (k := 45) rfl rfl) ?_
 refine fin_sub (Sub.freeze (k := 70) rfl rfl) ?_
 replace hM := some_t hM
 subst hM
 refine fin_x hG rfl rfl rfl (v' := .agg [.int .i64 k1, .int .i64 i5, .imm tks_l09Move_L2 3 false (fcellss ks9), .imm (tks_l09Move_L2 + 1) 4 false (pcellss ks37)]) (by rfl) ⟨rfl, (show tk ≤ ((tks_l09Move_L2 + 1) + 1) by omega), _, rfl, ⟨k1, i5, tks_l09Move_L2, false, ks9, (tks_l09Move_L2 + 1), false, ks37, rfl, rfl, fun _ => (show Fr tk ((tks_l09Move_L2 + 1) + 1) _ from by first | exact Fr.fpab (q1 := tks_l09Move_L2) (q := (tks_l09Move_L2 + 1)) (show Fr tkj4 tks_l09Move_L1 _ from hfr9) (show Fr tkj33 tks_l09Move_L2 _ from hfr37) (by omega) (by omega) (by omega) (by omega) (by omega) (by omega) (by omega) (by omega) (by omega) | exact Fr.fpba (q1 := tks_l09Move_L2) (q := (tks_l09Move_L2 + 1)) (show Fr tkj4 tks_l09Move_L1 _ from hfr9) (show Fr tkj33 tks_l09Move_L2 _ from hfr37) (by omega) (by omega) (by omega) (by omega) (by omega) (by omega) (by omega) (by omega) (by omega))⟩⟩

theorem s_l09Move_all : ∀ (n : Nat), (s_l09Move_P n)
 | 0 => by intro k1 n1 p1 e1 fs1 q1 f1 ks1 i2 i3 r hM; rw [s_l09Move] at hM; cases hM
 | n + 1 => have ih := s_l09Move_all n; s_l09Move_st n (ih)

theorem s_l09Move_ok (n : Nat) : s_l09Move_P n := s_l09Move_all n

end Go.Am.Ytpkeophkdemcpaa
