/- Printed by a program of ours: Lean functions that do what the Go functions do, and the contracts. -/
import Derived.Test.YtoajlhhalpldfaaGreatDoorMi1
import Derived.Test.YtoajlhhalpldfaaGreatDoorTypes
import Derived.Test.YtoajlhhalpldfaaGreatDoorMz
-- packed
namespace Go.Am.YtoajlhhalpldfaaGreatDoor
open Go Go.Am

def w_eqTreeS_L1 (rec_w_eqTree : T → T → Option Bool) (l1 : List T) (l2 : List T) : Nat → Int → Option Bool
 | 0, _ => none
 | m + 1, i4 =>
  if i4 < ((l1).length : Int) then
   (idx l1 i4).bind fun y6 =>
   (idx l2 i4).bind fun y11 =>
   (rec_w_eqTree y6 y11).bind fun r16 =>
   if (!r16) = true then
    some false
   else
    w_eqTreeS_L1 rec_w_eqTree l1 l2 m (IntKind.i64.wrap (i4 + 1))
  else
   some true

mutual

def w_eqTree : Nat → T → T → Option Bool
 | 0, _, _ => none
 | n + 1, x1, x2 =>
  if (x1.kind != x2.kind) = true then
   some false
  else
   if (x1.n != x2.n) = true then
    some false
   else
    if (!(x1.name.toList == x2.name.toList)) = true then
     some false
    else
     (w_eqTreeS n x1.kids x2.kids).bind fun r6 =>
     if (!r6) = true then
      some false
     else
      some true

def w_eqTreeS : Nat → List T → List T → Option Bool
 | 0, _, _ => none
 | n + 1, l1, l2 =>
  if (((l1).length : Int) != ((l2).length : Int)) = true then
   some false
  else
   w_eqTreeS_L1 (w_eqTree n) l1 l2 n 0

end

def w_eqTree_P (n : Nat) : Prop := ∀ (k1 : Int) (n1 : Int) (s1 : ByteArray) (q1 : Nat) (f1 : Bool) (ks1 : List LT) (k2 : Int) (n2 : Int) (s2 : ByteArray) (q2 : Nat) (f2 : Bool) (ks2 : List LT) {r : Bool}, w_eqTree n (T.mk k1 n1 s1 (ers ks1)) (T.mk k2 n2 s2 (ers ks2)) = some r → ∀ (O : Heap) (tk : Nat), ACalls Go.Proofs.Tryz.prog 16 [.agg [.int .i64 k1, .int .i64 n1, .str s1, .imm q1 4 f1 (cellss ks1)], .agg [.int .i64 k2, .int .i64 n2, .str s2, .imm q2 4 f2 (cellss ks2)]] O tk (RetX O tk (fun v tk' => v = .bool r))

set_option maxRecDepth 100000 in
theorem w_eqTree_st (n : Nat) (ih_w_eqTreeS : ∀ (q1 : Nat) (f1 : Bool) (ks1 : List LT) (q2 : Nat) (f2 : Bool) (ks2 : List LT) {r : Bool}, w_eqTreeS n (ers ks1) (ers ks2) = some r → ∀ (O : Heap) (tk : Nat), ACalls Go.Proofs.Tryz.prog 49 [.imm q1 4 f1 (cellss ks1), .imm q2 4 f2 (cellss ks2)] O tk (RetX O tk (fun v tk' => v = .bool r))) : w_eqTree_P (n + 1) := by
 intro k1 n1 s1 q1 f1 ks1 k2 n2 s2 q2 f2 ks2 r hM O tk
 rw [w_eqTree] at hM
 refine acalls_of_run Go.Proofs.Tryz.func16 rfl rfl [] [] (Bor.nil _) [(0, .agg [.int .i64 k1, .int .i64 n1, .str s1, .imm q1 4 f1 (cellss ks1)]), (1, .agg [.int .i64 k2, .int .i64 n2, .str s2, .imm q2 4 f2 (cellss ks2)])] (.cons (.agg _) (.cons (.agg _) (.nil _))) (leb rfl) (fun _ h => by cases h) (fun S0 hO htk hfz => ?_)
 refine run_sr ?_
 refine run_op rfl (box_step (d := 2) rfl rfl rfl rfl rfl) rfl (ltb rfl) ?_
 refine run_op rfl (box_step (d := 3) rfl rfl rfl rfl rfl) rfl (ltb rfl) ?_
 refine yR rfl ?_
 refine yN ?_
 refine run_seq ?_
 refine run_sr ?_
 refine yF hG rfl ?_
 refine yD hG rfl ?_
 refine yF hG rfl ?_
 refine yD hG rfl ?_
 refine yB rfl ?_
 refine yN ?_
 refine run_ifb rfl rfl (fun hb3 => ?_) (fun hb3 => ?_)
 ·replace hM := ite_t hb3 hM
  refine run_sr ?_
  refine yR rfl ?_
  refine yN ?_
  refine run_ret_to ?_
  obtain rfl := some_t hM
  refine fin_x hG rfl rfl rfl (v' := .bool false) (by rfl) ⟨rfl, (show tk ≤ tk by omega), _, rfl, rfl⟩
 replace hM := ite_f hb3 hM
 refine run_skip ?_
 refine run_seq ?_
 refine run_sr ?_
 refine yF hG rfl ?_
 refine yD hG rfl ?_
 refine yF hG rfl ?_
 refine yD hG rfl ?_
 refine yB rfl ?_
 refine yN ?_
 refine run_ifb rfl rfl (fun hb4 => ?_) (fun hb4 => ?_)
 ·replace hM := ite_t hb4 hM
  refine run_sr ?_
  refine yR rfl ?_
  refine yN ?_
  refine run_ret_to ?_
  obtain rfl := some_t hM
  refine fin_x hG rfl rfl rfl (v' := .bool false) (by rfl) ⟨rfl, (show tk ≤ tk by omega), _, rfl, rfl⟩
 replace hM := ite_f hb4 hM
 refine run_skip ?_
 refine run_seq ?_
 refine run_sr ?_
 refine yF hG rfl ?_
 refine yD hG rfl ?_
 refine yF hG rfl ?_
 refine yD hG rfl ?_
 refine yB rfl ?_
 refine yN ?_
 refine run_sub_code (σ' := ⟨[(2, .optr (.loc 2) 0 0), (3, .optr (.loc 3) 0 0), (4, .bool false), (19, .bool (!(s1.toList == s2.toList)))], [(3, ⟨27, 4, true, [[.int .i64 k2, .int .i64 n2, .str s2, .imm q2 4 f2 (cellss ks2)]]⟩), (2, ⟨27, 4, true, [[.int .i64 k1, .int .i64 n1, .str s1, .imm q1 4 f1 (cellss ks1)]]⟩)], [], O, tk⟩) (Sub.env _ ⟨rfl, rfl, rfl, rfl, trivial⟩) ?_
 refine run_ifb rfl rfl (fun hb5 => ?_) (fun hb5 => ?_)
 ·replace hM := ite_t hb5 hM
  refine run_sr ?_
  refine yR rfl ?_
  refine yN ?_
  refine run_ret_to ?_
  obtain rfl := some_t hM
  refine fin_x hG rfl rfl rfl (v' := .bool false) (by rfl) ⟨rfl, (show tk ≤ tk by omega), _, rfl, rfl⟩
 replace hM := ite_f hb5 hM
 refine run_skip ?_
 refine run_seq ?_
 refine run_sr ?_
 refine yF hG rfl ?_
 refine yD hG rfl ?_
 refine yF hG rfl ?_
 refine yD hG rfl ?_
 obtain ⟨r6, hg7, hM⟩ := bind_t hM
 refine yK rfl (ih_w_eqTreeS q1 f1 ks1 q2 f2 ks2 hg7 _ _) (callK_retX (fun v tk8 (hle9 : tk ≤ tk8) h10 => ?_))
 subst h10
 refine run_pu rfl (aun_step rfl rfl rfl) rfl (ltb rfl) ?_
 refine yN ?_
 refine run_ifb rfl rfl (fun hb13 => ?_) (fun hb13 => ?_)
 ·replace hM := ite_t hb13 hM
  refine run_sr ?_
  refine yR rfl ?_
  refine yN ?_
  refine run_ret_to ?_
  obtain rfl := some_t hM
  refine fin_x hG rfl rfl rfl (v' := .bool false) (by rfl) ⟨rfl, (show tk ≤ tk8 by omega), _, rfl, rfl⟩
 replace hM := ite_f hb13 hM
 refine run_skip ?_
 refine run_sr ?_
 refine yR rfl ?_
 refine yN ?_
 refine run_ret_to ?_
 obtain rfl := some_t hM
 refine fin_x hG rfl rfl rfl (v' := .bool true) (by rfl) ⟨rfl, (show tk ≤ tk8 by omega), _, rfl, rfl⟩

set_option maxRecDepth 100000 in
theorem w_eqTreeS_st (n : Nat) (ih_w_eqTree : w_eqTree_P n) : ∀ (q1 : Nat) (f1 : Bool) (ks1 : List LT) (q2 : Nat) (f2 : Bool) (ks2 : List LT) {r : Bool}, w_eqTreeS (n + 1) (ers ks1) (ers ks2) = some r → ∀ (O : Heap) (tk : Nat), ACalls Go.Proofs.Tryz.prog 49 [.imm q1 4 f1 (cellss ks1), .imm q2 4 f2 (cellss ks2)] O tk (RetX O tk (fun v tk' => v = .bool r)) := by
 intro q1 f1 ks1 q2 f2 ks2 r hM O tk
 rw [w_eqTreeS] at hM
 refine acalls_of_run Go.Proofs.Tryz.func49 rfl rfl [] [] (Bor.nil _) [(0, .imm q1 4 f1 (cellss ks1)), (1, .imm q2 4 f2 (cellss ks2))] (.cons (entS rfl) (.cons (entS rfl) (.nil _))) (leb rfl) (fun _ h => by cases h) (fun S0 hO htk hfz => ?_)
 refine run_sr ?_
 refine yR rfl ?_
 refine yN ?_
 refine run_seq ?_
 refine run_sr ?_
 refine yL rfl ?_
 refine run_pu rfl (lenImm_step hG rfl rfl rfl rfl (tlen _)) rfl (ltb rfl) ?_
 refine yL rfl ?_
 refine run_pu rfl (lenImm_step hG rfl rfl rfl rfl (tlen _)) rfl (ltb rfl) ?_
 refine yB rfl ?_
 refine yN ?_
 refine run_ifb rfl rfl (fun hb3 => ?_) (fun hb3 => ?_)
 ·replace hM := ite_t hb3 hM
  refine run_sr ?_
  refine yR rfl ?_
  refine yN ?_
  refine run_ret_to ?_
  obtain rfl := some_t hM
  refine fin_x hG rfl rfl rfl (v' := .bool false) (by rfl) ⟨rfl, (show tk ≤ tk by omega), _, rfl, rfl⟩
 replace hM := ite_f hb3 hM
 refine run_skip ?_
 refine run_seq ?_
 refine run_sr ?_
 refine yR rfl ?_
 refine yN ?_
 refine run_block ?_
 refine run_rounds (fun m σ => ∃ (i4 : Int) (tkw_eqTreeS_L1 : Nat), tk ≤ tkw_eqTreeS_L1 ∧ w_eqTreeS_L1 (w_eqTree n) (ers ks1) (ers ks2) m i4 = some r ∧ σ = ⟨[(0, .imm q1 4 f1 (cellss ks1)), (1, .imm q2 4 f2 (cellss ks2)), (4, .bool false), (5, .int .i64 i4)], [], [], O, tkw_eqTreeS_L1⟩) n (Sub.pk [0, 1, 4, 5] rfl) ⟨0, tk, Nat.le_refl _, hM, rfl⟩ (fun m σ hI => ?_)
 clear hM
 obtain ⟨i4, tkw_eqTreeS_L1, hle24, hM, rfl⟩ := hI
 obtain _ | m := m
 ·exact absurd hM (by rw [w_eqTreeS_L1]; exact fun h => by cases h)
 rw [w_eqTreeS_L1] at hM
 refine run_seq ?_
 refine run_sr ?_
 refine yL rfl ?_
 refine yL rfl ?_
 refine run_pu rfl (lenImm_step hG rfl rfl rfl rfl (tlen _)) rfl (ltb rfl) ?_
 refine yB rfl ?_
 refine yN ?_
 refine run_ifd rfl rfl (fun hb5 => ?_) (fun hb5 => ?_)
 ·replace hM := ite_t hb5 hM
  refine run_skip ?_
  refine run_seq ?_
  refine run_block ?_
  refine run_seq ?_
  refine run_draw [] (n := 10) mixed rfl yE ?_
  refine yTV 0 (by kernel_rfl) rfl ?_
  refine yTV 1 (by kernel_rfl) rfl ?_
  obtain ⟨y6, hy7, hM⟩ := bind_t hM
  obtain ⟨k8, n8, s8, q8, f8, ks8, rfl, hc9, hi10⟩ := tidx hy7
  refine yT 2 (by kernel_rfl) rfl rfl rfl (ltb rfl) ((indexImm_step hG rfl rfl rfl hi10 rfl rfl rfl rfl hc9).rd _) ?_
  refine yTL hG 3 (by kernel_rfl) rfl ?_
  refine yTV 4 (by kernel_rfl) rfl ?_
  refine yTV 5 (by kernel_rfl) rfl ?_
  obtain ⟨y11, hy12, hM⟩ := bind_t hM
  obtain ⟨k13, n13, s13, q13, f13, ks13, rfl, hc14, hi15⟩ := tidx hy12
  refine yT 6 (by kernel_rfl) rfl rfl rfl (ltb rfl) ((indexImm_step hG rfl rfl rfl hi15 rfl rfl rfl rfl hc14).rd _) ?_
  refine yTL hG 7 (by kernel_rfl) rfl ?_
  obtain ⟨r16, hg17, hM⟩ := bind_t hM
  refine yC 8 (by kernel_rfl) rfl rfl (ih_w_eqTree k8 n8 s8 q8 f8 ks8 k13 n13 s13 q13 f13 ks13 hg17 _ _) (callK_retX (fun v tk18 (hle19 : tkw_eqTreeS_L1 ≤ tk18) h20 => ?_))
  subst h20
  refine yT 9 (by kernel_rfl) rfl rfl rfl (ltb rfl) ((aun_step rfl rfl rfl).rd _) ?_
  refine AAny.done (by kernel_rfl) ?_
  refine run_sub_code (σ' := ⟨[(0, .imm q1 4 f1 (cellss ks1)), (1, .imm q2 4 f2 (cellss ks2)), (4, .bool false), (5, .int .i64 i4), (26, .bool (!r16))], [], [], O, tk18⟩) (Sub.env _ ⟨rfl, rfl, rfl, rfl, rfl, trivial⟩) ?_
  refine run_ifb rfl rfl (fun hb23 => ?_) (fun hb23 => ?_)
  ·replace hM := ite_t hb23 hM
   refine run_sr ?_
   refine yR rfl ?_
   refine yN ?_
   refine run_ret_to ?_
   obtain rfl := some_t hM
   refine fin_x hG rfl rfl rfl (v' := .bool false) (by rfl) ⟨rfl, (show tk ≤ tk18 by omega), _, rfl, rfl⟩
  replace hM := ite_f hb23 hM
  refine run_skip ?_
  refine run_blk ?_
  refine run_region ?_
  refine yL rfl ?_
  refine yB rfl ?_
  refine yR rfl ?_
  refine yN ?_
  exact run_loop_end ⟨m, _, Nat.lt_succ_self _, ⟨(IntKind.i64.wrap (i4 + 1)), tk18, (show tk ≤ tk18 by omega), hM, rfl⟩, Sub.pk [0, 1, 4, 5] rfl⟩
 replace hM := ite_f hb5 hM
 refine run_exit_to rfl ?_
 refine run_sr ?_
 refine yR rfl ?_
 refine yN ?_
 refine run_ret_to ?_
 obtain rfl := some_t hM
 refine fin_x hG rfl rfl rfl (v' := .bool true) (by rfl) ⟨rfl, (show tk ≤ tkw_eqTreeS_L1 by omega), _, rfl, rfl⟩

theorem w_eqTree_all : ∀ (n : Nat), (w_eqTree_P n) ∧ (∀ (q1 : Nat) (f1 : Bool) (ks1 : List LT) (q2 : Nat) (f2 : Bool) (ks2 : List LT) {r : Bool}, w_eqTreeS n (ers ks1) (ers ks2) = some r → ∀ (O : Heap) (tk : Nat), ACalls Go.Proofs.Tryz.prog 49 [.imm q1 4 f1 (cellss ks1), .imm q2 4 f2 (cellss ks2)] O tk (RetX O tk (fun v tk' => v = .bool r)))
 | 0 => ⟨(by intro k1 n1 s1 q1 f1 ks1 k2 n2 s2 q2 f2 ks2 r hM; rw [w_eqTree] at hM; cases hM), (by intro q1 f1 ks1 q2 f2 ks2 r hM; rw [w_eqTreeS] at hM; cases hM)⟩
 | n + 1 => have ih := w_eqTree_all n; ⟨w_eqTree_st n (ih.2), w_eqTreeS_st n (ih.1)⟩

theorem w_eqTree_ok (n : Nat) : w_eqTree_P n := (w_eqTree_all n).1

end Go.Am.YtoajlhhalpldfaaGreatDoor
