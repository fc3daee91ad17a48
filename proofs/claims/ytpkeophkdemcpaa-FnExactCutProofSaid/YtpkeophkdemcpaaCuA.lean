/- Printed by a program of ours: Lean functions that do what the Go functions do, and the contracts. -/
import Derived.Test.YtpkeophkdemcpaaTypes
import Derived.Test.YtpkeophkdemcpaaMi4
import Derived.Test.YtpkeophkdemcpaaMc1
import Derived.Test.YtpkeophkdemcpaaMb3
import Derived.Test.YtpkeophkdemcpaaMxPA
import Derived.Test.YtpkeophkdemcpaaMz
-- packed
namespace Go.Am.Ytpkeophkdemcpaa
open Go Go.Am

def i_Proof_lifted_c1 (i1 : Int) (i2 : Int) (i3 : Int) : Option Pf :=
 if i1 ≥ i2 then
  some (Pf.mk 1 (IntKind.i64.wrap (i1 + i3)) [] [])
 else
  some (Pf.mk 1 i1 [] [])

set_option maxRecDepth 100000 in
theorem i_Proof_lifted_c1_ok : ∀ (i1 : Int) (i2 : Int) (X0 : ID) (i3 : Int) {r : Pf}, i_Proof_lifted_c1 i1 i2 i3 = some r → ∀ (O : Heap) (tk : Nat), O X0 = some ⟨3, 1, true, [[.int .i64 i3]]⟩ → ACalls Go.Proofs.Try.prog 169 [.int .i64 i1, .int .i64 i2, .optr X0 0 0] O tk (RetX O tk (fun v tk' => VP true tk tk' r v)) := by
 intro i1 i2 X0 i3 r hM O tk hX0
 unfold i_Proof_lifted_c1 at hM
 refine acalls_of_run Go.Proofs.Try.func169 rfl rfl [X0] [⟨3, 1, true, [[.int .i64 i3]]⟩] (Bor.one hX0 rfl) [(0, .int .i64 i1), (1, .int .i64 i2), (2, .optr (.bor 0) 0 0)] (.cons (entS rfl) (.cons (entS rfl) (.cons (.bor 0 _ _ _ rfl) (.nil _)))) (leb rfl) (by intro y h; simp only [List.mem_cons, List.not_mem_nil, or_false] at h; rcases h with rfl <;> simp [tch, tch0]) (fun S0 hO htk hfz => ?_)
 refine run_sr ?_
 refine run_op rfl (alloc_step (d := 5) hG rfl rfl rfl) rfl (ltb rfl) ?_
 refine yN ?_
 refine run_seq ?_
 refine run_sr ?_
 refine yL rfl ?_
 refine yL rfl ?_
 refine yB rfl ?_
 refine yN ?_
 refine run_ifd rfl rfl (fun hb4 => ?_) (fun hb4 => ?_)
 ·replace hM := ite_t hb4 hM
  refine run_region ?_
  refine yL rfl ?_
  refine yD hG rfl ?_
  refine yB rfl ?_
  refine yR rfl ?_
  refine yN ?_
  refine run_sr ?_
  refine yL rfl ?_
  refine run_pu rfl (build_step hG rfl (by rfl) rfl (fun h => by cases h) (by rfl)) rfl (ltb rfl) ?_
  refine yS hG rfl ?_
  refine yN ?_
  refine run_ret_to ?_
  replace hM := some_t hM
  subst hM
  refine fin_x hG rfl rfl rfl (v' := .agg [.int .i64 1, .int .i64 (IntKind.i64.wrap (i1 + i3)), .imm 0 3 true (fcellss []), .imm 0 4 true (pcellss [])]) (by rfl) ⟨out_same (Bor.one hX0 rfl), (show tk ≤ tk by omega), _, rfl, ⟨1, (IntKind.i64.wrap (i1 + i3)), 0, true, [], 0, true, [], rfl, rfl, fun _ => Fr.nil _ _⟩⟩
 replace hM := ite_f hb4 hM
 refine run_skip ?_
 refine run_sr ?_
 refine yL rfl ?_
 refine run_pu rfl (build_step hG rfl (by rfl) rfl (fun h => by cases h) (by rfl)) rfl (ltb rfl) ?_
 refine yS hG rfl ?_
 refine yN ?_
 refine run_ret_to ?_
 replace hM := some_t hM
 subst hM
 refine fin_x hG rfl rfl rfl (v' := .agg [.int .i64 1, .int .i64 i1, .imm 0 3 true (fcellss []), .imm 0 4 true (pcellss [])]) (by rfl) ⟨out_same (Bor.one hX0 rfl), (show tk ≤ tk by omega), _, rfl, ⟨1, i1, 0, true, [], 0, true, [], rfl, rfl, fun _ => Fr.nil _ _⟩⟩

def i_Proof_moved__fn_i_Proof_lifted_c1v_L1 (rec_i_Proof_moved__fn_i_Proof_lifted_c1v : Pf → Int → Int → Option Pf) (x1 : Pf) (i3 : Int) (i13 : Int) (i14 : Int) (l15 : List F) (i32 : Int) : Nat → Int → List Pf → Option Pf
 | 0, _, _ => none
 | m + 1, i34, l35 =>
  if i34 < ((x1.kids).length : Int) then
   (idx x1.kids i34).bind fun y37 =>
   (rec_i_Proof_moved__fn_i_Proof_lifted_c1v y37 i32 i3).bind fun r42 =>
   chk ((l35).length + ([r42]).length ≤ 1099511627776) <|
   i_Proof_moved__fn_i_Proof_lifted_c1v_L1 rec_i_Proof_moved__fn_i_Proof_lifted_c1v x1 i3 i13 i14 l15 i32 m (IntKind.i64.wrap (i34 + 1)) (l35 ++ [r42])
  else
   some (Pf.mk i13 i14 l15 l35)

def i_Proof_moved__fn_i_Proof_lifted_c1v : Nat → Pf → Int → Int → Option Pf
 | 0, _, _, _ => none
 | n + 1, x1, i2, i3 =>
  if x1.kind = 1 then
   (i_Proof_lifted_c1 x1.n i2 i3).bind fun r5 =>
   some r5
  else
   jn (fun (i13 : Int) (i14 : Int) (l15 : List F) =>
    jn (fun (i32 : Int) =>
     if 0 < ((x1.kids).length : Int) then
      (idx x1.kids 0).bind fun y60 =>
      (i_Proof_moved__fn_i_Proof_lifted_c1v n y60 i32 i3).bind fun r65 =>
      chk ((([] : List Pf)).length + ([r65]).length ≤ 1099511627776) <|
      i_Proof_moved__fn_i_Proof_lifted_c1v_L1 (i_Proof_moved__fn_i_Proof_lifted_c1v n) x1 i3 i13 i14 l15 i32 n (IntKind.i64.wrap (0 + 1)) (([] : List Pf) ++ [r65])
     else
      some (Pf.mk i13 i14 l15 [])) fun j31 =>
    if x1.kind = 5 then
     j31 (IntKind.i64.wrap (i2 + 1))
    else
     j31 i2) fun j12 =>
   (i_cloneForms n x1.forms).bind fun r17 =>
   j12 x1.kind 0 r17

def i_Proof_moved__fn_i_Proof_lifted_c1v_P (n : Nat) : Prop := ∀ (k1 : Int) (n1 : Int) (p1 : Nat) (e1 : Bool) (fs1 : List LF) (q1 : Nat) (f1 : Bool) (ks1 : List LP) (i2 : Int) (X0 : ID) (i3 : Int) {r : Pf}, i_Proof_moved__fn_i_Proof_lifted_c1v n (Pf.mk k1 n1 (fers fs1) (pers ks1)) i2 i3 = some r → ∀ (O : Heap) (tk : Nat), O X0 = some ⟨3, 1, true, [[.int .i64 i3]]⟩ → ACalls Go.Proofs.Try.prog 100 [.agg [.int .i64 k1, .int .i64 n1, .imm p1 3 e1 (fcellss fs1), .imm q1 4 f1 (pcellss ks1)], .int .i64 i2, .fn (.func 169) [] [.optr X0 0 0]] O tk (RetX O tk (fun v tk' => VP true tk tk' r v))

set_option maxHeartbeats 20000000 in
set_option maxHeartbeats 20000000 in
set_option maxRecDepth 100000 in
theorem i_Proof_moved__fn_i_Proof_lifted_c1v_st (n : Nat) (ih_i_Proof_moved__fn_i_Proof_lifted_c1v : i_Proof_moved__fn_i_Proof_lifted_c1v_P n) : i_Proof_moved__fn_i_Proof_lifted_c1v_P (n + 1) := by
 intro k1 n1 p1 e1 fs1 q1 f1 ks1 i2 X0 i3 r hM O tk hX0
 rw [i_Proof_moved__fn_i_Proof_lifted_c1v] at hM
 refine acalls_of_run Go.Proofs.Try.func100 rfl rfl [X0] [⟨3, 1, true, [[.int .i64 i3]]⟩] (Bor.one hX0 rfl) [(0, .agg [.int .i64 k1, .int .i64 n1, .imm p1 3 e1 (fcellss fs1), .imm q1 4 f1 (pcellss ks1)]), (1, .int .i64 i2), (2, .fn (.func 169) [] [.optr (.bor 0) 0 0])] (.cons (.agg _) (.cons (entS rfl) (.cons (ent_fn (.bor 0 _ _ _ rfl)) (.nil _)))) (leb rfl) (by intro y h; simp only [List.mem_cons, List.not_mem_nil, or_false] at h; rcases h with rfl <;> simp [tch, tch0]) (fun S0 hO htk hfz => ?_)
 refine run_sr ?_
 refine run_op rfl (box_step (d := 3) rfl rfl rfl rfl rfl) rfl (ltb rfl) ?_
 refine run_op rfl (alloc_step (d := 6) hG rfl rfl rfl) rfl (ltb rfl) ?_
 refine yN ?_
 refine run_seq ?_
 refine run_sr ?_
 refine yF hG rfl ?_
 refine yD hG rfl ?_
 refine yB rfl ?_
 refine yN ?_
 refine run_ifd rfl rfl (fun hb4 => ?_) (fun hb4 => ?_)
 ·replace hM := ite_t hb4 hM
  refine run_sr ?_
  refine yL rfl ?_
  refine yF hG rfl ?_
  refine yD hG rfl ?_
  refine yL rfl ?_
  obtain ⟨r5, hg6, hM⟩ := bind_t hM
  refine yK rfl (i_Proof_lifted_c1_ok n1 i2 (.bor 0) i3 hg6 _ _ rfl) (callK_retX (fun v tk7 (hle8 : tk ≤ tk7) h9 => ?_))
  obtain ⟨k10, n10, p10, e10, fs10, q10, f10, ks10, rfl, rfl, hf11⟩ := h9
  refine yS hG rfl ?_
  refine yN ?_
  refine run_ret_to ?_
  replace hM := some_t hM
  subst hM
  refine fin_x hG rfl rfl rfl (v' := .agg [.int .i64 k10, .int .i64 n10, .imm p10 3 e10 (fcellss fs10), .imm q10 4 f10 (pcellss ks10)]) (by rfl) ⟨out_same (Bor.one hX0 rfl), (show tk ≤ tk7 by omega), _, rfl, ⟨k10, n10, p10, e10, fs10, q10, f10, ks10, rfl, rfl, fun _ => (show Fr tk tk7 _ from ((show Fr tk tk7 _ from hf11 rfl)).mono (by omega) (by omega))⟩⟩
 replace hM := ite_f hb4 hM
 refine run_skip ?_
 refine run_seq ?_
 obtain ⟨j12, hj86, hM⟩ := jn_t hM
 refine run_cutL [.code _] (fun σ' => ∃ (i13 : Int) (i14 : Int) (q15 : Nat) (f15 : Bool) (ks15 : List LF) (tkj12 : Nat), tk ≤ tkj12 ∧ Fr tk tkj12 (fstoks q15 ks15) ∧ j12 i13 i14 (fers ks15) = some r ∧ Sub ⟨Go.Proofs.Try.prog, S0, Go.Proofs.Try.f100.ntmps, [X0], fun _ => False, []⟩ σ' ⟨[(1, .int .i64 i2), (2, .fn (.func 169) [] [.optr (.bor 0) 0 0]), (3, .optr (.loc 3) 0 0), (6, .optr (.loc 6) 0 0), (7, .optr (.loc 7) 0 0)], [(7, ⟨26, 4, true, [[.int .i64 i13, .int .i64 i14, .imm q15 3 f15 (fcellss ks15), .imm 0 4 true []]]⟩), (6, ⟨26, 4, true, [[.int .i64 0, .int .i64 0, .imm 0 3 true [], .imm 0 4 true []]]⟩), (3, ⟨26, 4, true, [[.int .i64 k1, .int .i64 n1, .imm p1 3 e1 (fcellss fs1), .imm q1 4 f1 (pcellss ks1)]]⟩)], [⟨3, 1, true, [[.int .i64 i3]]⟩], O, tkj12⟩) rfl ?_ ?_
 ·refine run_draw [] (n := 8) mixed rfl yE ?_
  refine yTF hG 0 (by kernel_rfl) rfl ?_
  refine yTL hG 1 (by kernel_rfl) rfl ?_
  refine yTF hG 2 (by kernel_rfl) rfl ?_
  refine yTL hG 3 (by kernel_rfl) rfl ?_
  refine AAny.eachN (rs := [4, 6]) (by kernel_rfl) (fun h => by cases h) (fun i hi => ?_)
  simp only [List.mem_cons, List.not_mem_nil, or_false] at hi
  rcases hi with rfl | rfl
  ·refine AOpN.of ?_
   obtain ⟨r17, hg18, hM⟩ := bind_t hM
   refine yI rfl rfl (i_cloneForms_ok n p1 e1 fs1 hg18 _ _) (callK_retX (fun v tk19 (hle20 : tk ≤ tk19) h21 => ?_))
   obtain ⟨q22, f22, ks22, rfl, rfl, hf23⟩ := h21
   refine yT 5 (by kernel_rfl) rfl rfl rfl (ltb rfl) ((build_step hG rfl (by rfl) rfl (fun h => by cases h) (by rfl)).rd _) ?_
   refine AAny.eachN (rs := [6]) (by kernel_rfl) (fun h => by cases h) (fun i hi => ?_)
   simp only [List.mem_cons, List.not_mem_nil, or_false] at hi
   subst hi
   ·refine AOpN.alloc hG rfl rfl rfl (ltb rfl) rfl rfl rfl ?_
    refine yW hG 7 (by kernel_rfl) rfl (by kernel_rfl) rfl ?_
    refine AAny.done (by kernel_rfl) ?_
    exact ⟨k1, 0, q22, f22, ks22, tk19, (show tk ≤ tk19 by omega), (show Fr tk tk19 _ from ((show Fr tk tk19 _ from hf23 rfl)).mono (by omega) (by omega)), hM, Sub.pk [1, 2, 3, 6, 7] rfl⟩
  refine AOpN.alloc hG rfl rfl rfl (ltb rfl) rfl rfl rfl ?_
  obtain ⟨r24, hg25, hM⟩ := bind_t hM
  refine yC 4 (by kernel_rfl) rfl rfl (i_cloneForms_ok n p1 e1 fs1 hg25 _ _) (callK_retX (fun v tk26 (hle27 : tk ≤ tk26) h28 => ?_))
  obtain ⟨q29, f29, ks29, rfl, rfl, hf30⟩ := h28
  refine yT 5 (by kernel_rfl) rfl rfl rfl (ltb rfl) ((build_step hG rfl (by rfl) rfl (fun h => by cases h) (by rfl)).rd _) ?_
  refine yW hG 7 (by kernel_rfl) rfl (by kernel_rfl) rfl ?_
  refine AAny.done (by kernel_rfl) ?_
  exact ⟨k1, 0, q29, f29, ks29, tk26, (show tk ≤ tk26 by omega), (show Fr tk tk26 _ from ((show Fr tk tk26 _ from hf30 rfl)).mono (by omega) (by omega)), hM, Sub.pk [1, 2, 3, 6, 7] rfl⟩
 clear hM
 rintro σ' ⟨i13, i14, q15, f15, ks15, tkj12, hle85, hfr16, hM, hsub⟩
 rw [hj86] at hM
 clear hj86
 refine run_sub_code hsub ?_
 refine run_seq ?_
 refine run_sr ?_
 refine yF hG rfl ?_
 refine yD hG rfl ?_
 refine yB rfl ?_
 refine yN ?_
 obtain ⟨j31, hj84, hM⟩ := jn_t hM
 refine run_cutL [.code _] (fun σ' => ∃ (i32 : Int) (tkj31 : Nat), tkj12 ≤ tkj31 ∧ j31 i32 = some r ∧ Sub ⟨Go.Proofs.Try.prog, S0, Go.Proofs.Try.f100.ntmps, [X0], fun _ => False, []⟩ σ' ⟨[(1, .int .i64 i32), (2, .fn (.func 169) [] [.optr (.bor 0) 0 0]), (3, .optr (.loc 3) 0 0), (6, .optr (.loc 6) 0 0), (7, .optr (.loc 7) 0 0)], [(7, ⟨26, 4, true, [[.int .i64 i13, .int .i64 i14, .imm q15 3 f15 (fcellss ks15), .imm 0 4 true []]]⟩), (6, ⟨26, 4, true, [[.int .i64 0, .int .i64 0, .imm 0 3 true [], .imm 0 4 true []]]⟩), (3, ⟨26, 4, true, [[.int .i64 k1, .int .i64 n1, .imm p1 3 e1 (fcellss fs1), .imm q1 4 f1 (pcellss ks1)]]⟩)], [⟨3, 1, true, [[.int .i64 i3]]⟩], O, tkj31⟩) rfl ?_ ?_
 ·refine run_ifd rfl rfl (fun hb33 => ?_) (fun hb33 => ?_)
  ·replace hM := ite_t hb33 hM
   refine run_region ?_
   refine yL rfl ?_
   refine yB rfl ?_
   refine yR rfl ?_
   refine yN ?_
   exact ⟨(IntKind.i64.wrap (i2 + 1)), tkj12, (show tkj12 ≤ tkj12 by omega), hM, Sub.pk [1, 2, 3, 6, 7] rfl⟩
  replace hM := ite_f hb33 hM
  refine run_skip ?_
  exact ⟨i2, tkj12, (show tkj12 ≤ tkj12 by omega), hM, Sub.pk [1, 2, 3, 6, 7] rfl⟩
 clear hM
 rintro σ' ⟨i32, tkj31, hle83, hM, hsub⟩
 rw [hj84] at hM
 clear hj84
 refine run_sub_code hsub ?_
 refine run_seq ?_
 refine run_sr ?_
 refine yF hG rfl ?_
 refine yD hG rfl ?_
 refine run_pu rfl (lenImm_step hG rfl rfl rfl rfl (plen _)) rfl (ltb rfl) ?_
 refine yL rfl ?_
 refine yN ?_
 refine run_block ?_
 refine run_peel (fun m σ => ∃ (i34 : Int) (ks35 : List LP) (tki_Proof_moved__fn_i_Proof_lifted_c1v_L1 : Nat), tkj31 ≤ tki_Proof_moved__fn_i_Proof_lifted_c1v_L1 ∧ Fr tkj31 tki_Proof_moved__fn_i_Proof_lifted_c1v_L1 (ptoks ks35) ∧ i_Proof_moved__fn_i_Proof_lifted_c1v_L1 (i_Proof_moved__fn_i_Proof_lifted_c1v n) (Pf.mk k1 n1 (fers fs1) (pers ks1)) i3 i13 i14 (fers ks15) i32 m i34 (pers ks35) = some r ∧ σ = ⟨[(1, .int .i64 i32), (2, .fn (.func 169) [] [.optr (.bor 0) 0 0]), (6, .optr (.loc 6) 0 0), (7, .optr (.loc 7) 0 0), (30, .imm q1 4 f1 (pcellss ks1)), (31, .int .i64 (((pers ks1)).length : Int)), (32, .int .i64 i34)], [(43, ⟨26, 4, false, pcellss ks35⟩), (7, ⟨26, 4, true, [[.int .i64 i13, .int .i64 i14, .imm q15 3 f15 (fcellss ks15), .osl (.loc 43)]]⟩), (6, ⟨26, 4, true, [[.int .i64 0, .int .i64 0, .imm 0 3 true [], .imm 0 4 true []]]⟩)], [⟨3, 1, true, [[.int .i64 i3]]⟩], O, tki_Proof_moved__fn_i_Proof_lifted_c1v_L1⟩) n ?_ (fun m σ hI => ?_)
 ·refine run_sr ?_
  refine yB rfl ?_
  refine yN ?_
  refine run_seq ?_
  refine run_ifd rfl rfl (fun hb59 => ?_) (fun hb59 => ?_)
  ·replace hM := ite_t hb59 hM
   refine run_skip ?_
   refine run_seq ?_
   refine run_block ?_
   refine run_sr ?_
   obtain ⟨y60, hy61, hM⟩ := bind_t hM
   obtain ⟨k62, n62, p62, e62, fs62, q62, f62, ks62, rfl, hc63, hi64⟩ := pidx (ks := ks1) hy61
   refine run_pu rfl (indexImm_step hG rfl rfl rfl hi64 rfl rfl rfl rfl hc63) rfl (ltb rfl) ?_
   refine yD hG rfl ?_
   refine run_op rfl (alloc_step (d := 9) hG rfl rfl rfl) rfl (ltb rfl) ?_
   refine yS hG rfl ?_
   refine yN ?_
   refine run_draw [.loc 7, .bor 0] (n := 10) mixed rfl (by intro x hx; simp only [List.mem_cons, List.not_mem_nil, or_false] at hx; rcases hx with rfl | rfl <;> rfl) ?_
   refine yTF hG 0 (by kernel_rfl) rfl ?_
   refine yTL hG 2 (by kernel_rfl) rfl ?_
   refine yTV 3 (by kernel_rfl) rfl ?_
   refine yTV 4 (by kernel_rfl) rfl ?_
   refine AAny.each (rs := [1, 5]) (by kernel_rfl) (fun h => by cases h) (fun i hi => ?_)
   simp only [List.mem_cons, List.not_mem_nil, or_false] at hi
   rcases hi with rfl | rfl
   ·refine AOp.rd rfl rfl rfl (ltb rfl) (aload_rd hG rfl rfl rfl (by first | (simp [ldok]; done) | exact List.not_mem_nil | trivial)) ?_
    obtain ⟨r65, hg66, hM⟩ := bind_t hM
    refine AAny.one (i := 5) (by kernel_rfl) (AOp.call rfl rfl rfl rfl (ltb rfl) rfl rfl rfl yE (by intro x hx; have hx : x ∈ [ID.bor 0] := hx; simp only [List.mem_cons, List.not_mem_nil, or_false] at hx; subst hx; simp) (ih_i_Proof_moved__fn_i_Proof_lifted_c1v k62 n62 p62 e62 fs62 q62 f62 ks62 i32 (.bor 0) i3 hg66 _ _ rfl) (callK_retX (fun v tk67 (hle68 : tkj31 ≤ tk67) h69 => ?_)))
    obtain ⟨k70, n70, p70, e70, fs70, q70, f70, ks70, rfl, rfl, hf71⟩ := h69
    refine AAny.one (i := 6) (by kernel_rfl) (AOp.step rfl rfl rfl (ltb rfl) (buildSlice_step (d := 42) hG rfl rfl rfl rfl rfl (by rfl) (by rfl) (by rfl) (by decide)) yE ?_)
    obtain ⟨hc72, hM⟩ := chk_t hM
    try rw [show ((pers ([] : List LP)) ++ [(Pf.mk k70 n70 (fers fs70) (pers ks70))] : List Pf) = (pers (([] : List LP) ++ [LP.mk k70 n70 p70 e70 fs70 q70 f70 ks70])) from pers_app ([] : List LP) [LP.mk k70 n70 p70 e70 fs70 q70 f70 ks70]] at hM
    refine AAny.one (i := 7) (by kernel_rfl) (AOp.step rfl rfl rfl (ltb rfl) (appendFM_step (d := 43) hG rfl rfl rfl rfl rfl rfl rfl (pcellss_sz ([] : List LP)) rfl (pcellss_sz ([LP.mk k70 n70 p70 e70 fs70 q70 f70 ks70])) (plen ([] : List LP)) (plen ([LP.mk k70 n70 p70 e70 fs70 q70 f70 ks70])) (by simp [pers]) hc72 (by decide) (pcellss_app _ _)) yE ?_)
    refine yTF hG 8 (by kernel_rfl) rfl ?_
    refine yW hG 9 (by kernel_rfl) rfl (by kernel_rfl) rfl ?_
    refine AAny.done (by kernel_rfl) ?_
    refine run_blk ?_
    refine run_sub_code (σ' := ⟨[(1, .int .i64 i32), (2, .fn (.func 169) [] [.optr (.bor 0) 0 0]), (6, .optr (.loc 6) 0 0), (7, .optr (.loc 7) 0 0), (30, .imm q1 4 f1 (pcellss ks1)), (31, .int .i64 (((pers ks1)).length : Int)), (32, .int .i64 0)], [(43, ⟨26, 4, false, pcellss (([] : List LP) ++ [LP.mk k70 n70 p70 e70 fs70 q70 f70 ks70])⟩), (7, ⟨26, 4, true, [[.int .i64 i13, .int .i64 i14, .imm q15 3 f15 (fcellss ks15), .osl (.loc 43)]]⟩), (6, ⟨26, 4, true, [[.int .i64 0, .int .i64 0, .imm 0 3 true [], .imm 0 4 true []]]⟩)], [⟨3, 1, true, [[.int .i64 i3]]⟩], O, tk67⟩) (Sub.trans (Sub.drop (k := 42) rfl) (Sub.trans (Sub.drop (k := 9) rfl) (Sub.trans (Sub.drop (k := 3) rfl) (Sub.env _ ⟨rfl, rfl, rfl, rfl, rfl, rfl, rfl, trivial⟩)))) ?_
    refine run_region ?_
    refine yB rfl ?_
    refine yL rfl ?_
    refine yN ?_
    exact run_loop_end ⟨n, _, Nat.le_refl _, ⟨(IntKind.i64.wrap (0 + 1)), (([] : List LP) ++ [LP.mk k70 n70 p70 e70 fs70 q70 f70 ks70]), tk67, (show tkj31 ≤ tk67 by omega), (show Fr tkj31 tk67 _ from (Fr.pcons ((show Fr tkj31 tk67 _ from hf71 rfl)) (show Fr tk67 tk67 _ from Fr.nil _ _) (by omega) (by omega)).mono (by omega) (by omega)), hM, rfl⟩, Sub.pk [1, 2, 6, 7, 30, 31, 32] rfl⟩
   obtain ⟨r73, hg74, hM⟩ := bind_t hM
   refine AOp.call rfl rfl rfl rfl (ltb rfl) rfl rfl rfl yE (by intro x hx; have hx : x ∈ [ID.bor 0] := hx; simp only [List.mem_cons, List.not_mem_nil, or_false] at hx; subst hx; simp) (ih_i_Proof_moved__fn_i_Proof_lifted_c1v k62 n62 p62 e62 fs62 q62 f62 ks62 i32 (.bor 0) i3 hg74 _ _ rfl) (callK_retX (fun v tk75 (hle76 : tkj31 ≤ tk75) h77 => ?_))
   obtain ⟨k78, n78, p78, e78, fs78, q78, f78, ks78, rfl, rfl, hf79⟩ := h77
   refine AAny.each (rs := [1, 6]) (by kernel_rfl) (fun h => by cases h) (fun i hi => ?_)
   simp only [List.mem_cons, List.not_mem_nil, or_false] at hi
   rcases hi with rfl | rfl
   ·refine AOp.rd rfl rfl rfl (ltb rfl) (aload_rd hG rfl rfl rfl (by first | (simp [ldok]; done) | exact List.not_mem_nil | trivial)) ?_
    refine AAny.one (i := 6) (by kernel_rfl) (AOp.step rfl rfl rfl (ltb rfl) (buildSlice_step (d := 42) hG rfl rfl rfl rfl rfl (by rfl) (by rfl) (by rfl) (by decide)) yE ?_)
    obtain ⟨hc80, hM⟩ := chk_t hM
    try rw [show ((pers ([] : List LP)) ++ [(Pf.mk k78 n78 (fers fs78) (pers ks78))] : List Pf) = (pers (([] : List LP) ++ [LP.mk k78 n78 p78 e78 fs78 q78 f78 ks78])) from pers_app ([] : List LP) [LP.mk k78 n78 p78 e78 fs78 q78 f78 ks78]] at hM
    refine AAny.one (i := 7) (by kernel_rfl) (AOp.step rfl rfl rfl (ltb rfl) (appendFM_step (d := 43) hG rfl rfl rfl rfl rfl rfl rfl (pcellss_sz ([] : List LP)) rfl (pcellss_sz ([LP.mk k78 n78 p78 e78 fs78 q78 f78 ks78])) (plen ([] : List LP)) (plen ([LP.mk k78 n78 p78 e78 fs78 q78 f78 ks78])) (by simp [pers]) hc80 (by decide) (pcellss_app _ _)) yE ?_)
    refine yTF hG 8 (by kernel_rfl) rfl ?_
    refine yW hG 9 (by kernel_rfl) rfl (by kernel_rfl) rfl ?_
    refine AAny.done (by kernel_rfl) ?_
    refine run_blk ?_
    refine run_sub_code (σ' := ⟨[(1, .int .i64 i32), (2, .fn (.func 169) [] [.optr (.bor 0) 0 0]), (6, .optr (.loc 6) 0 0), (7, .optr (.loc 7) 0 0), (30, .imm q1 4 f1 (pcellss ks1)), (31, .int .i64 (((pers ks1)).length : Int)), (32, .int .i64 0)], [(43, ⟨26, 4, false, pcellss (([] : List LP) ++ [LP.mk k78 n78 p78 e78 fs78 q78 f78 ks78])⟩), (7, ⟨26, 4, true, [[.int .i64 i13, .int .i64 i14, .imm q15 3 f15 (fcellss ks15), .osl (.loc 43)]]⟩), (6, ⟨26, 4, true, [[.int .i64 0, .int .i64 0, .imm 0 3 true [], .imm 0 4 true []]]⟩)], [⟨3, 1, true, [[.int .i64 i3]]⟩], O, tk75⟩) (Sub.trans (Sub.drop (k := 42) rfl) (Sub.trans (Sub.drop (k := 9) rfl) (Sub.trans (Sub.drop (k := 3) rfl) (Sub.env _ ⟨rfl, rfl, rfl, rfl, rfl, rfl, rfl, trivial⟩)))) ?_
    refine run_region ?_
    refine yB rfl ?_
    refine yL rfl ?_
    refine yN ?_
    exact run_loop_end ⟨n, _, Nat.le_refl _, ⟨(IntKind.i64.wrap (0 + 1)), (([] : List LP) ++ [LP.mk k78 n78 p78 e78 fs78 q78 f78 ks78]), tk75, (show tkj31 ≤ tk75 by omega), (show Fr tkj31 tk75 _ from (Fr.pcons ((show Fr tkj31 tk75 _ from hf79 rfl)) (show Fr tk75 tk75 _ from Fr.nil _ _) (by omega) (by omega)).mono (by omega) (by omega)), hM, rfl⟩, Sub.pk [1, 2, 6, 7, 30, 31, 32] rfl⟩
   refine AOp.step rfl rfl rfl (ltb rfl) (buildSlice_step (d := 42) hG rfl rfl rfl rfl rfl (by rfl) (by rfl) (by rfl) (by decide)) yE ?_
   refine AAny.one (i := 1) (by kernel_rfl) (AOp.rd rfl rfl rfl (ltb rfl) (aload_rd hG rfl rfl rfl (by first | (simp [ldok]; done) | exact List.not_mem_nil | trivial)) ?_)
   obtain ⟨hc81, hM⟩ := chk_t hM
   try rw [show ((pers ([] : List LP)) ++ [(Pf.mk k78 n78 (fers fs78) (pers ks78))] : List Pf) = (pers (([] : List LP) ++ [LP.mk k78 n78 p78 e78 fs78 q78 f78 ks78])) from pers_app ([] : List LP) [LP.mk k78 n78 p78 e78 fs78 q78 f78 ks78]] at hM
   refine AAny.one (i := 7) (by kernel_rfl) (AOp.step rfl rfl rfl (ltb rfl) (appendFM_step (d := 43) hG rfl rfl rfl rfl rfl rfl rfl (pcellss_sz ([] : List LP)) rfl (pcellss_sz ([LP.mk k78 n78 p78 e78 fs78 q78 f78 ks78])) (plen ([] : List LP)) (plen ([LP.mk k78 n78 p78 e78 fs78 q78 f78 ks78])) (by simp [pers]) hc81 (by decide) (pcellss_app _ _)) yE ?_)
   refine yTF hG 8 (by kernel_rfl) rfl ?_
   refine yW hG 9 (by kernel_rfl) rfl (by kernel_rfl) rfl ?_
   refine AAny.done (by kernel_rfl) ?_
   refine run_blk ?_
   refine run_sub_code (σ' := ⟨[(1, .int .i64 i32), (2, .fn (.func 169) [] [.optr (.bor 0) 0 0]), (6, .optr (.loc 6) 0 0), (7, .optr (.loc 7) 0 0), (30, .imm q1 4 f1 (pcellss ks1)), (31, .int .i64 (((pers ks1)).length : Int)), (32, .int .i64 0)], [(43, ⟨26, 4, false, pcellss (([] : List LP) ++ [LP.mk k78 n78 p78 e78 fs78 q78 f78 ks78])⟩), (7, ⟨26, 4, true, [[.int .i64 i13, .int .i64 i14, .imm q15 3 f15 (fcellss ks15), .osl (.loc 43)]]⟩), (6, ⟨26, 4, true, [[.int .i64 0, .int .i64 0, .imm 0 3 true [], .imm 0 4 true []]]⟩)], [⟨3, 1, true, [[.int .i64 i3]]⟩], O, tk75⟩) (Sub.trans (Sub.drop (k := 42) rfl) (Sub.trans (Sub.drop (k := 9) rfl) (Sub.trans (Sub.drop (k := 3) rfl) (Sub.env _ ⟨rfl, rfl, rfl, rfl, rfl, rfl, rfl, trivial⟩)))) ?_
   refine run_region ?_
   refine yB rfl ?_
   refine yL rfl ?_
   refine yN ?_
   exact run_loop_end ⟨n, _, Nat.le_refl _, ⟨(IntKind.i64.wrap (0 + 1)), (([] : List LP) ++ [LP.mk k78 n78 p78 e78 fs78 q78 f78 ks78]), tk75, (show tkj31 ≤ tk75 by omega), (show Fr tkj31 tk75 _ from (Fr.pcons ((show Fr tkj31 tk75 _ from hf79 rfl)) (show Fr tk75 tk75 _ from Fr.nil _ _) (by omega) (by omega)).mono (by omega) (by omega)), hM, rfl⟩, Sub.pk [1, 2, 6, 7, 30, 31, 32] rfl⟩
  replace hM := ite_f hb59 hM
  refine run_exit_to rfl ?_
  refine run_sr ?_
  refine yD hG rfl ?_
  refine yS hG rfl ?_
  refine yN ?_
  refine run_ret_to ?_
  replace hM := some_t hM
  subst hM
  refine fin_x hG rfl rfl rfl (v' := .agg [.int .i64 i13, .int .i64 i14, .imm q15 3 f15 (fcellss ks15), .imm 0 4 true (pcellss [])]) (by rfl) ⟨out_same (Bor.one hX0 rfl), (show tk ≤ tkj31 by omega), _, rfl, ⟨i13, i14, q15, f15, ks15, 0, true, [], rfl, rfl, fun _ => (show Fr tk tkj31 _ from (Fr.app (hfr16) (show Fr tkj12 tkj12 _ from Fr.nil _ _) (by omega) (by omega)).mono (by omega) (by omega))⟩⟩
 clear hM
 obtain ⟨i34, ks35, tki_Proof_moved__fn_i_Proof_lifted_c1v_L1, hle82, hfr35, hM, rfl⟩ := hI
 obtain _ | m := m
 ·exact absurd hM (by rw [i_Proof_moved__fn_i_Proof_lifted_c1v_L1]; exact fun h => by cases h)
 rw [i_Proof_moved__fn_i_Proof_lifted_c1v_L1] at hM
 refine run_sr ?_
 refine yB rfl ?_
 refine yN ?_
 refine run_seq ?_
 refine run_ifd rfl rfl (fun hb36 => ?_) (fun hb36 => ?_)
 ·replace hM := ite_t hb36 hM
  refine run_skip ?_
  refine run_seq ?_
  refine run_block ?_
  refine run_sr ?_
  obtain ⟨y37, hy38, hM⟩ := bind_t hM
  obtain ⟨k39, n39, p39, e39, fs39, q39, f39, ks39, rfl, hc40, hi41⟩ := pidx (ks := ks1) hy38
  refine run_pu rfl (indexImm_step hG rfl rfl rfl hi41 rfl rfl rfl rfl hc40) rfl (ltb rfl) ?_
  refine yD hG rfl ?_
  refine run_op rfl (alloc_step (d := 9) hG rfl rfl rfl) rfl (ltb rfl) ?_
  refine yS hG rfl ?_
  refine yN ?_
  refine run_draw [.loc 7, .bor 0, .loc 43] (n := 10) mixed rfl (by intro x hx; simp only [List.mem_cons, List.not_mem_nil, or_false] at hx; rcases hx with rfl | rfl | rfl <;> rfl) ?_
  refine yTF hG 0 (by kernel_rfl) rfl ?_
  refine yTL hG 2 (by kernel_rfl) rfl ?_
  refine yTV 3 (by kernel_rfl) rfl ?_
  refine yTV 4 (by kernel_rfl) rfl ?_
  refine AAny.each (rs := [1, 5]) (by kernel_rfl) (fun h => by cases h) (fun i hi => ?_)
  simp only [List.mem_cons, List.not_mem_nil, or_false] at hi
  rcases hi with rfl | rfl
  ·refine AOp.rd rfl rfl rfl (ltb rfl) (aload_rd hG rfl rfl rfl (by first | (simp [ldok]; done) | exact List.not_mem_nil | trivial)) ?_
   obtain ⟨r42, hg43, hM⟩ := bind_t hM
   refine AAny.one (i := 5) (by kernel_rfl) (AOp.call rfl rfl rfl rfl (ltb rfl) rfl rfl rfl yE (by intro x hx; have hx : x ∈ [ID.bor 0] := hx; simp only [List.mem_cons, List.not_mem_nil, or_false] at hx; subst hx; simp) (ih_i_Proof_moved__fn_i_Proof_lifted_c1v k39 n39 p39 e39 fs39 q39 f39 ks39 i32 (.bor 0) i3 hg43 _ _ rfl) (callK_retX (fun v tk44 (hle45 : tki_Proof_moved__fn_i_Proof_lifted_c1v_L1 ≤ tk44) h46 => ?_)))
   obtain ⟨k47, n47, p47, e47, fs47, q47, f47, ks47, rfl, rfl, hf48⟩ := h46
   refine AAny.one (i := 6) (by kernel_rfl) (AOp.step rfl rfl rfl (ltb rfl) (buildSlice_step (d := 42) hG rfl rfl rfl rfl rfl (by rfl) (by rfl) (by rfl) (by decide)) yE ?_)
   obtain ⟨hc49, hM⟩ := chk_t hM
   try rw [show ((pers ks35) ++ [(Pf.mk k47 n47 (fers fs47) (pers ks47))] : List Pf) = (pers (ks35 ++ [LP.mk k47 n47 p47 e47 fs47 q47 f47 ks47])) from pers_app ks35 [LP.mk k47 n47 p47 e47 fs47 q47 f47 ks47]] at hM
   refine AAny.one (i := 7) (by kernel_rfl) (AOp.step rfl rfl rfl (ltb rfl) (appendM_step hG rfl rfl rfl rfl rfl rfl rfl rfl rfl rfl rfl (pcellss_sz ([LP.mk k47 n47 p47 e47 fs47 q47 f47 ks47])) (plen ks35) (plen ([LP.mk k47 n47 p47 e47 fs47 q47 f47 ks47])) hc49 (by decide) (pcellss_app _ _)) (by intro x hx; simp only [List.mem_cons, List.not_mem_nil, or_false] at hx; subst hx; simp) ?_)
   refine yTF hG 8 (by kernel_rfl) rfl ?_
   refine yW hG 9 (by kernel_rfl) rfl (by kernel_rfl) rfl ?_
   refine AAny.done (by kernel_rfl) ?_
   refine run_blk ?_
   refine run_sub_code (σ' := ⟨[(1, .int .i64 i32), (2, .fn (.func 169) [] [.optr (.bor 0) 0 0]), (6, .optr (.loc 6) 0 0), (7, .optr (.loc 7) 0 0), (30, .imm q1 4 f1 (pcellss ks1)), (31, .int .i64 (((pers ks1)).length : Int)), (32, .int .i64 i34)], [(43, ⟨26, 4, false, pcellss (ks35 ++ [LP.mk k47 n47 p47 e47 fs47 q47 f47 ks47])⟩), (7, ⟨26, 4, true, [[.int .i64 i13, .int .i64 i14, .imm q15 3 f15 (fcellss ks15), .osl (.loc 43)]]⟩), (6, ⟨26, 4, true, [[.int .i64 0, .int .i64 0, .imm 0 3 true [], .imm 0 4 true []]]⟩)], [⟨3, 1, true, [[.int .i64 i3]]⟩], O, tk44⟩) (Sub.trans (Sub.drop (k := 42) rfl) (Sub.trans (Sub.drop (k := 9) rfl) (Sub.env _ ⟨rfl, rfl, rfl, rfl, rfl, rfl, rfl, trivial⟩))) ?_
   refine run_region ?_
   refine yB rfl ?_
   refine yL rfl ?_
   refine yN ?_
   exact run_loop_end ⟨m, _, Nat.lt_succ_self _, ⟨(IntKind.i64.wrap (i34 + 1)), (ks35 ++ [LP.mk k47 n47 p47 e47 fs47 q47 f47 ks47]), tk44, (show tkj31 ≤ tk44 by omega), (show Fr tkj31 tk44 _ from (Fr.psnoc (show Fr tkj31 tki_Proof_moved__fn_i_Proof_lifted_c1v_L1 _ from (hfr35).mono (by omega) (by omega)) ((show Fr tki_Proof_moved__fn_i_Proof_lifted_c1v_L1 tk44 _ from hf48 rfl)) (by omega) (by omega)).mono (by omega) (by omega)), hM, rfl⟩, Sub.pk [1, 2, 6, 7, 30, 31, 32] rfl⟩
  obtain ⟨r50, hg51, hM⟩ := bind_t hM
  refine AOp.call rfl rfl rfl rfl (ltb rfl) rfl rfl rfl yE (by intro x hx; have hx : x ∈ [ID.bor 0] := hx; simp only [List.mem_cons, List.not_mem_nil, or_false] at hx; subst hx; simp) (ih_i_Proof_moved__fn_i_Proof_lifted_c1v k39 n39 p39 e39 fs39 q39 f39 ks39 i32 (.bor 0) i3 hg51 _ _ rfl) (callK_retX (fun v tk52 (hle53 : tki_Proof_moved__fn_i_Proof_lifted_c1v_L1 ≤ tk52) h54 => ?_))
  obtain ⟨k55, n55, p55, e55, fs55, q55, f55, ks55, rfl, rfl, hf56⟩ := h54
  refine AAny.each (rs := [1, 6]) (by kernel_rfl) (fun h => by cases h) (fun i hi => ?_)
  simp only [List.mem_cons, List.not_mem_nil, or_false] at hi
  rcases hi with rfl | rfl
  ·refine AOp.rd rfl rfl rfl (ltb rfl) (aload_rd hG rfl rfl rfl (by first | (simp [ldok]; done) | exact List.not_mem_nil | trivial)) ?_
   refine AAny.one (i := 6) (by kernel_rfl) (AOp.step rfl rfl rfl (ltb rfl) (buildSlice_step (d := 42) hG rfl rfl rfl rfl rfl (by rfl) (by rfl) (by rfl) (by decide)) yE ?_)
   obtain ⟨hc57, hM⟩ := chk_t hM
   try rw [show ((pers ks35) ++ [(Pf.mk k55 n55 (fers fs55) (pers ks55))] : List Pf) = (pers (ks35 ++ [LP.mk k55 n55 p55 e55 fs55 q55 f55 ks55])) from pers_app ks35 [LP.mk k55 n55 p55 e55 fs55 q55 f55 ks55]] at hM
   refine AAny.one (i := 7) (by kernel_rfl) (AOp.step rfl rfl rfl (ltb rfl) (appendM_step hG rfl rfl rfl rfl rfl rfl rfl rfl rfl rfl rfl (pcellss_sz ([LP.mk k55 n55 p55 e55 fs55 q55 f55 ks55])) (plen ks35) (plen ([LP.mk k55 n55 p55 e55 fs55 q55 f55 ks55])) hc57 (by decide) (pcellss_app _ _)) (by intro x hx; simp only [List.mem_cons, List.not_mem_nil, or_false] at hx; subst hx; simp) ?_)
   refine yTF hG 8 (by kernel_rfl) rfl ?_
   refine yW hG 9 (by kernel_rfl) rfl (by kernel_rfl) rfl ?_
   refine AAny.done (by kernel_rfl) ?_
   refine run_blk ?_
   refine run_sub_code (σ' := ⟨[(1, .int .i64 i32), (2, .fn (.func 169) [] [.optr (.bor 0) 0 0]), (6, .optr (.loc 6) 0 0), (7, .optr (.loc 7) 0 0), (30, .imm q1 4 f1 (pcellss ks1)), (31, .int .i64 (((pers ks1)).length : Int)), (32, .int .i64 i34)], [(43, ⟨26, 4, false, pcellss (ks35 ++ [LP.mk k55 n55 p55 e55 fs55 q55 f55 ks55])⟩), (7, ⟨26, 4, true, [[.int .i64 i13, .int .i64 i14, .imm q15 3 f15 (fcellss ks15), .osl (.loc 43)]]⟩), (6, ⟨26, 4, true, [[.int .i64 0, .int .i64 0, .imm 0 3 true [], .imm 0 4 true []]]⟩)], [⟨3, 1, true, [[.int .i64 i3]]⟩], O, tk52⟩) (Sub.trans (Sub.drop (k := 42) rfl) (Sub.trans (Sub.drop (k := 9) rfl) (Sub.env _ ⟨rfl, rfl, rfl, rfl, rfl, rfl, rfl, trivial⟩))) ?_
   refine run_region ?_
   refine yB rfl ?_
   refine yL rfl ?_
   refine yN ?_
   exact run_loop_end ⟨m, _, Nat.lt_succ_self _, ⟨(IntKind.i64.wrap (i34 + 1)), (ks35 ++ [LP.mk k55 n55 p55 e55 fs55 q55 f55 ks55]), tk52, (show tkj31 ≤ tk52 by omega), (show Fr tkj31 tk52 _ from (Fr.psnoc (show Fr tkj31 tki_Proof_moved__fn_i_Proof_lifted_c1v_L1 _ from (hfr35).mono (by omega) (by omega)) ((show Fr tki_Proof_moved__fn_i_Proof_lifted_c1v_L1 tk52 _ from hf56 rfl)) (by omega) (by omega)).mono (by omega) (by omega)), hM, rfl⟩, Sub.pk [1, 2, 6, 7, 30, 31, 32] rfl⟩
  refine AOp.step rfl rfl rfl (ltb rfl) (buildSlice_step (d := 42) hG rfl rfl rfl rfl rfl (by rfl) (by rfl) (by rfl) (by decide)) yE ?_
  refine AAny.one (i := 1) (by kernel_rfl) (AOp.rd rfl rfl rfl (ltb rfl) (aload_rd hG rfl rfl rfl (by first | (simp [ldok]; done) | exact List.not_mem_nil | trivial)) ?_)
  obtain ⟨hc58, hM⟩ := chk_t hM
  try rw [show ((pers ks35) ++ [(Pf.mk k55 n55 (fers fs55) (pers ks55))] : List Pf) = (pers (ks35 ++ [LP.mk k55 n55 p55 e55 fs55 q55 f55 ks55])) from pers_app ks35 [LP.mk k55 n55 p55 e55 fs55 q55 f55 ks55]] at hM
  refine AAny.one (i := 7) (by kernel_rfl) (AOp.step rfl rfl rfl (ltb rfl) (appendM_step hG rfl rfl rfl rfl rfl rfl rfl rfl rfl rfl rfl (pcellss_sz ([LP.mk k55 n55 p55 e55 fs55 q55 f55 ks55])) (plen ks35) (plen ([LP.mk k55 n55 p55 e55 fs55 q55 f55 ks55])) hc58 (by decide) (pcellss_app _ _)) (by intro x hx; simp only [List.mem_cons, List.not_mem_nil, or_false] at hx; subst hx; simp) ?_)
  refine yTF hG 8 (by kernel_rfl) rfl ?_
  refine yW hG 9 (by kernel_rfl) rfl (by kernel_rfl) rfl ?_
  refine AAny.done (by kernel_rfl) ?_
  refine run_blk ?_
  refine run_sub_code (σ' := ⟨[(1, .int .i64 i32), (2, .fn (.func 169) [] [.optr (.bor 0) 0 0]), (6, .optr (.loc 6) 0 0), (7, .optr (.loc 7) 0 0), (30, .imm q1 4 f1 (pcellss ks1)), (31, .int .i64 (((pers ks1)).length : Int)), (32, .int .i64 i34)], [(43, ⟨26, 4, false, pcellss (ks35 ++ [LP.mk k55 n55 p55 e55 fs55 q55 f55 ks55])⟩), (7, ⟨26, 4, true, [[.int .i64 i13, .int .i64 i14, .imm q15 3 f15 (fcellss ks15), .osl (.loc 43)]]⟩), (6, ⟨26, 4, true, [[.int .i64 0, .int .i64 0, .imm 0 3 true [], .imm 0 4 true []]]⟩)], [⟨3, 1, true, [[.int .i64 i3]]⟩], O, tk52⟩) (Sub.trans (Sub.drop (k := 42) rfl) (Sub.trans (Sub.drop (k := 9) rfl) (Sub.env _ ⟨rfl, rfl, rfl, rfl, rfl, rfl, rfl, trivial⟩))) ?_
  refine run_region ?_
  refine yB rfl ?_
  refine yL rfl ?_
  refine yN ?_
  exact run_loop_end ⟨m, _, Nat.lt_succ_self _, ⟨(IntKind.i64.wrap (i34 + 1)), (ks35 ++ [LP.mk k55 n55 p55 e55 fs55 q55 f55 ks55]), tk52, (show tkj31 ≤ tk52 by omega), (show Fr tkj31 tk52 _ from (Fr.psnoc (show Fr tkj31 tki_Proof_moved__fn_i_Proof_lifted_c1v_L1 _ from (hfr35).mono (by omega) (by omega)) ((show Fr tki_Proof_moved__fn_i_Proof_lifted_c1v_L1 tk52 _ from hf56 rfl)) (by omega) (by omega)).mono (by omega) (by omega)), hM, rfl⟩, Sub.pk [1, 2, 6, 7, 30, 31, 32] rfl⟩
 replace hM := ite_f hb36 hM
 refine run_exit_to rfl ?_
 refine run_sr ?_
 refine yD hG rfl ?_
 refine yS hG rfl ?_
 refine yN ?_
 refine run_ret_to ?_
 refine fin_sub (Sub.freeze (k := 43) rfl rfl) ?_
 replace hM := some_t hM
 subst hM
 refine fin_x hG rfl rfl rfl (v' := .agg [.int .i64 i13, .int .i64 i14, .imm q15 3 f15 (fcellss ks15), .imm tki_Proof_moved__fn_i_Proof_lifted_c1v_L1 4 false (pcellss ks35)]) (by rfl) ⟨out_same (Bor.one hX0 rfl), (show tk ≤ (tki_Proof_moved__fn_i_Proof_lifted_c1v_L1 + 1) by omega), _, rfl, ⟨i13, i14, q15, f15, ks15, tki_Proof_moved__fn_i_Proof_lifted_c1v_L1, false, ks35, rfl, rfl, fun _ => (show Fr tk (tki_Proof_moved__fn_i_Proof_lifted_c1v_L1 + 1) _ from (Fr.app (show Fr tk tkj31 _ from (hfr16).mono (by omega) (by omega)) (show Fr tkj31 (tki_Proof_moved__fn_i_Proof_lifted_c1v_L1 + 1) _ from Fr.pstop (show Fr tkj31 tki_Proof_moved__fn_i_Proof_lifted_c1v_L1 _ from (hfr35).mono (by omega) (by omega)) (by omega) (by omega)) (by omega) (by omega)).mono (by omega) (by omega))⟩⟩

theorem i_Proof_moved__fn_i_Proof_lifted_c1v_all : ∀ (n : Nat), (i_Proof_moved__fn_i_Proof_lifted_c1v_P n)
 | 0 => by intro k1 n1 p1 e1 fs1 q1 f1 ks1 i2 X0 i3 r hM; rw [i_Proof_moved__fn_i_Proof_lifted_c1v] at hM; cases hM
 | n + 1 => have ih := i_Proof_moved__fn_i_Proof_lifted_c1v_all n; i_Proof_moved__fn_i_Proof_lifted_c1v_st n (ih)

theorem i_Proof_moved__fn_i_Proof_lifted_c1v_ok (n : Nat) : i_Proof_moved__fn_i_Proof_lifted_c1v_P n := i_Proof_moved__fn_i_Proof_lifted_c1v_all n

def i_Proof_lifted (n : Nat) (x1 : Pf) (i2 : Int) : Option Pf :=
 (i_Proof_moved__fn_i_Proof_lifted_c1v n x1 0 i2).bind fun r3 =>
 some r3

set_option maxRecDepth 100000 in
theorem i_Proof_lifted_ok (n : Nat) : ∀ (k1 : Int) (n1 : Int) (p1 : Nat) (e1 : Bool) (fs1 : List LF) (q1 : Nat) (f1 : Bool) (ks1 : List LP) (i2 : Int) {r : Pf}, i_Proof_lifted n (Pf.mk k1 n1 (fers fs1) (pers ks1)) i2 = some r → ∀ (O : Heap) (tk : Nat), ACalls Go.Proofs.Try.prog 102 [.agg [.int .i64 k1, .int .i64 n1, .imm p1 3 e1 (fcellss fs1), .imm q1 4 f1 (pcellss ks1)], .int .i64 i2] O tk (RetX O tk (fun v tk' => VP true tk tk' r v)) := by
 intro k1 n1 p1 e1 fs1 q1 f1 ks1 i2 r hM O tk
 unfold i_Proof_lifted at hM
 refine acalls_of_run Go.Proofs.Try.func102 rfl rfl [] [] (Bor.nil _) [(0, .agg [.int .i64 k1, .int .i64 n1, .imm p1 3 e1 (fcellss fs1), .imm q1 4 f1 (pcellss ks1)]), (1, .int .i64 i2)] (.cons (.agg _) (.cons (entS rfl) (.nil _))) (leb rfl) (fun _ h => by cases h) (fun S0 hO htk hfz => ?_)
 refine run_sr ?_
 refine run_op rfl (box_step (d := 2) rfl rfl rfl rfl rfl) rfl (ltb rfl) ?_
 refine run_op rfl (box_step (d := 3) rfl rfl rfl rfl rfl) rfl (ltb rfl) ?_
 refine run_op rfl (alloc_step (d := 4) hG rfl rfl rfl) rfl (ltb rfl) ?_
 refine yN ?_
 refine run_sr ?_
 refine yD hG rfl ?_
 refine run_pu rfl (makeFunc_step (first := []) (cap := [.tmp 3]) rfl rfl rfl) rfl (ltb rfl) ?_
 obtain ⟨r3, hg4, hM⟩ := bind_t hM
 refine yK rfl (i_Proof_moved__fn_i_Proof_lifted_c1v_ok n k1 n1 p1 e1 fs1 q1 f1 ks1 0 (.loc 3) i2 hg4 _ _ rfl) (callK_retX (fun v tk5 (hle6 : tk ≤ tk5) h7 => ?_))
 obtain ⟨k8, n8, p8, e8, fs8, q8, f8, ks8, rfl, rfl, hf9⟩ := h7
 refine yS hG rfl ?_
 refine yN ?_
 refine run_ret_to ?_
 replace hM := some_t hM
 subst hM
 refine fin_x hG rfl rfl rfl (v' := .agg [.int .i64 k8, .int .i64 n8, .imm p8 3 e8 (fcellss fs8), .imm q8 4 f8 (pcellss ks8)]) (by rfl) ⟨rfl, (show tk ≤ tk5 by omega), _, rfl, ⟨k8, n8, p8, e8, fs8, q8, f8, ks8, rfl, rfl, fun _ => (show Fr tk tk5 _ from ((show Fr tk tk5 _ from hf9 rfl)).mono (by omega) (by omega))⟩⟩

end Go.Am.Ytpkeophkdemcpaa
