/- Printed by a program of ours: Lean functions that do what the Go functions do, and the contracts. -/
import Derived.Test.YtoajlhhalpldfaaGreatDoorMl0
import Derived.Test.YtoajlhhalpldfaaGreatDoorTypes
import Derived.Test.YtoajlhhalpldfaaGreatDoorTzT
import Derived.Test.YtoajlhhalpldfaaGreatDoorDlTree
import Derived.Test.YtoajlhhalpldfaaGreatDoorMz
-- packed
namespace Go.Am.YtoajlhhalpldfaaGreatDoor
open Go Go.Am

def w_FnExactFamilyText (n : Nat) (x1 : T) (i2 : Int) : Option Bool :=
 (w_szTree n x1 1048576).bind fun r3 =>
 if r3 < 0 then
  some true
 else
  (w_toTree n x1).bind fun r11 =>
  (s_FamilyText n r11 i2).bind fun r18 =>
  (w_toTree n x1).bind fun r31 =>
  (i_FamilyText n r31 i2).bind fun r38 =>
  if (!(r38.1.toList == r18.1.toList)) = true then
   some false
  else
   if (r38.2 != r18.2) = true then
    some false
   else
    (w_toTree n x1).bind fun r53 =>
    (w_eqTree n r31 r53).bind fun r60 =>
    if (!r60) = true then
     some false
    else
     some true

set_option maxRecDepth 100000 in
theorem w_FnExactFamilyText_ok (n : Nat) : ∀ (k1 : Int) (n1 : Int) (s1 : ByteArray) (q1 : Nat) (f1 : Bool) (ks1 : List LT) (i2 : Int) {r : Bool}, w_FnExactFamilyText n (T.mk k1 n1 s1 (ers ks1)) i2 = some r → ∀ (O : Heap) (tk : Nat), ACalls Go.Proofs.Tryz.prog 4 [.agg [.int .i64 k1, .int .i64 n1, .str s1, .imm q1 4 f1 (cellss ks1)], .int .i64 i2] O tk (RetX O tk (fun v tk' => v = .bool r)) := by
 intro k1 n1 s1 q1 f1 ks1 i2 r hM O tk
 unfold w_FnExactFamilyText at hM
 refine acalls_of_run Go.Proofs.Tryz.func4 rfl rfl [] [] (Bor.nil _) [(0, .agg [.int .i64 k1, .int .i64 n1, .str s1, .imm q1 4 f1 (cellss ks1)]), (1, .int .i64 i2)] (.cons (.agg _) (.cons (entS rfl) (.nil _))) (leb rfl) (fun _ h => by cases h) (fun S0 hO htk hfz => ?_)
 refine run_sr ?_
 refine run_op rfl (box_step (d := 2) rfl rfl rfl rfl rfl) rfl (ltb rfl) ?_
 refine yR rfl ?_
 refine yN ?_
 refine run_sr ?_
 refine yR rfl ?_
 refine yN ?_
 refine run_sr ?_
 refine yD hG rfl ?_
 refine yL rfl ?_
 obtain ⟨r3, hg4, hM⟩ := bind_t hM
 refine yK rfl (w_szTree_ok n k1 n1 s1 q1 f1 ks1 1048576 hg4 _ _) (callK_retX (fun v tk5 (hle6 : tk ≤ tk5) h7 => ?_))
 subst h7
 refine yR rfl ?_
 refine yN ?_
 refine run_seq ?_
 refine run_sr ?_
 refine yL rfl ?_
 refine yB rfl ?_
 refine yN ?_
 refine run_ifd rfl rfl (fun hb10 => ?_) (fun hb10 => ?_)
 ·replace hM := ite_t hb10 hM
  refine run_sr ?_
  refine yR rfl ?_
  refine yN ?_
  refine run_ret_to ?_
  replace hM := some_t hM
  subst hM
  refine fin_x hG rfl rfl rfl (v' := .bool true) (by rfl) ⟨rfl, (show tk ≤ tk5 by omega), _, rfl, rfl⟩
 replace hM := ite_f hb10 hM
 refine run_skip ?_
 refine run_sr ?_
 refine yD hG rfl ?_
 obtain ⟨r11, hg12, hM⟩ := bind_t hM
 refine yK rfl (w_toTree_ok n k1 n1 s1 q1 f1 ks1 hg12 _ _) (callK_retX (fun v tk13 (hle14 : tk5 ≤ tk13) h15 => ?_))
 obtain ⟨k16, n16, s16, q16, f16, ks16, rfl, rfl, hf17⟩ := h15
 refine yL rfl ?_
 obtain ⟨r18, hg19, hM⟩ := bind_t hM
 refine yK rfl (s_FamilyText_ok n k16 n16 s16 q16 f16 ks16 i2 hg19 _ _) (callK_retX (fun v tk20 (hle21 : tk13 ≤ tk20) h22 => ?_))
 obtain ⟨ra27, ra28, va29, va30, rfl, rfl, rfl, rfl⟩ := h22
 refine yL rfl ?_
 refine run_pu rfl (extract_step rfl rfl rfl) rfl (ltb rfl) ?_
 refine run_pu rfl (extract_step rfl rfl rfl) rfl (ltb rfl) ?_
 refine yR rfl ?_
 refine yR rfl ?_
 refine yN ?_
 refine run_sub_code (σ' := ⟨[(1, .int .i64 i2), (2, .optr (.loc 2) 0 0), (4, .bool false), (6, .str ra27), (7, .int .i64 ra28)], [(2, ⟨38, 4, true, [[.int .i64 k1, .int .i64 n1, .str s1, .imm q1 4 f1 (cellss ks1)]]⟩)], [], O, tk20⟩) (Sub.env _ ⟨rfl, rfl, rfl, rfl, rfl, trivial⟩) ?_
 refine run_sr ?_
 refine yD hG rfl ?_
 obtain ⟨r31, hg32, hM⟩ := bind_t hM
 refine yK rfl (w_toTree_ok n k1 n1 s1 q1 f1 ks1 hg32 _ _) (callK_retX (fun v tk33 (hle34 : tk20 ≤ tk33) h35 => ?_))
 obtain ⟨k36, n36, s36, q36, f36, ks36, rfl, rfl, hf37⟩ := h35
 refine run_op rfl (alloc_step (d := 8) hG rfl rfl rfl) rfl (ltb rfl) ?_
 refine yS hG rfl ?_
 refine yN ?_
 refine run_sr ?_
 refine yD hG rfl ?_
 refine yL rfl ?_
 obtain ⟨r38, hg39, hM⟩ := bind_t hM
 refine yK rfl (i_FamilyText_ok n k36 n36 s36 q36 f36 ks36 i2 hg39 _ _) (callK_retX (fun v tk40 (hle41 : tk33 ≤ tk40) h42 => ?_))
 obtain ⟨ra47, ra48, va49, va50, rfl, rfl, rfl, rfl⟩ := h42
 refine yL rfl ?_
 refine run_pu rfl (extract_step rfl rfl rfl) rfl (ltb rfl) ?_
 refine run_pu rfl (extract_step rfl rfl rfl) rfl (ltb rfl) ?_
 refine yR rfl ?_
 refine yR rfl ?_
 refine yN ?_
 refine run_seq ?_
 refine run_sr ?_
 refine yL rfl ?_
 refine yL rfl ?_
 refine yB rfl ?_
 refine yL rfl ?_
 refine run_splitb (i := 34) rfl (fun hb51 => ?_) (fun hb51 => ?_)
 ·replace hM := ite_t hb51 hM
  refine yO rfl ?_
  refine yO rfl ?_
  refine yO rfl ?_
  refine yP rfl ?_
  refine yN ?_
  refine run_sub_code (σ' := ⟨[(2, .optr (.loc 2) 0 0), (4, .bool false), (8, .optr (.loc 8) 0 0), (38, .bool true)], [(8, ⟨27, 4, true, [[.int .i64 k36, .int .i64 n36, .str s36, .imm q36 4 f36 (cellss ks36)]]⟩), (2, ⟨38, 4, true, [[.int .i64 k1, .int .i64 n1, .str s1, .imm q1 4 f1 (cellss ks1)]]⟩)], [], O, tk40⟩) (Sub.env _ ⟨rfl, rfl, rfl, rfl, trivial⟩) ?_
  refine run_if rfl rfl (fun _ => ?_) (fun h => by cases h)
  refine run_sr ?_
  refine yR rfl ?_
  refine yN ?_
  refine run_ret_to ?_
  replace hM := some_t hM
  subst hM
  refine fin_x hG rfl rfl rfl (v' := .bool false) (by rfl) ⟨rfl, (show tk ≤ tk40 by omega), _, rfl, rfl⟩
 replace hM := ite_f hb51 hM
 refine run_puG (on_of rfl rfl rfl rfl) (move_step (.inl rfl) rfl) rfl (ltb rfl) ?_
 refine run_puG (on_of rfl rfl rfl rfl) (move_step (.inl rfl) rfl) rfl (ltb rfl) ?_
 refine run_puG (on_of rfl rfl rfl rfl) (abin_step rfl rfl rfl rfl (fun _ h => by cases h)) rfl (ltb rfl) ?_
 refine yP rfl ?_
 refine yN ?_
 refine run_sub_code (σ' := ⟨[(2, .optr (.loc 2) 0 0), (4, .bool false), (8, .optr (.loc 8) 0 0), (38, .bool (ra48 != ra28))], [(8, ⟨27, 4, true, [[.int .i64 k36, .int .i64 n36, .str s36, .imm q36 4 f36 (cellss ks36)]]⟩), (2, ⟨38, 4, true, [[.int .i64 k1, .int .i64 n1, .str s1, .imm q1 4 f1 (cellss ks1)]]⟩)], [], O, tk40⟩) (Sub.env _ ⟨rfl, rfl, rfl, rfl, trivial⟩) ?_
 refine run_ifb rfl rfl (fun hb52 => ?_) (fun hb52 => ?_)
 ·replace hM := ite_t hb52 hM
  refine run_sr ?_
  refine yR rfl ?_
  refine yN ?_
  refine run_ret_to ?_
  replace hM := some_t hM
  subst hM
  refine fin_x hG rfl rfl rfl (v' := .bool false) (by rfl) ⟨rfl, (show tk ≤ tk40 by omega), _, rfl, rfl⟩
 replace hM := ite_f hb52 hM
 refine run_skip ?_
 refine run_seq ?_
 refine run_seq ?_
 refine run_draw [] (n := 5) mixed rfl yE ?_
 refine yTL hG 0 (by kernel_rfl) rfl ?_
 refine yTL hG 1 (by kernel_rfl) rfl ?_
 obtain ⟨r53, hg54, hM⟩ := bind_t hM
 refine yC 2 (by kernel_rfl) rfl rfl (w_toTree_ok n k1 n1 s1 q1 f1 ks1 hg54 _ _) (callK_retX (fun v tk55 (hle56 : tk40 ≤ tk55) h57 => ?_))
 obtain ⟨k58, n58, s58, q58, f58, ks58, rfl, rfl, hf59⟩ := h57
 obtain ⟨r60, hg61, hM⟩ := bind_t hM
 refine yC 3 (by kernel_rfl) rfl rfl (w_eqTree_ok n k36 n36 s36 q36 f36 ks36 k58 n58 s58 q58 f58 ks58 hg61 _ _) (callK_retX (fun v tk62 (hle63 : tk55 ≤ tk62) h64 => ?_))
 subst h64
 refine yT 4 (by kernel_rfl) rfl rfl rfl (ltb rfl) ((aun_step rfl rfl rfl).rd _) ?_
 refine AAny.done (by kernel_rfl) ?_
 refine run_ifb rfl rfl (fun hb67 => ?_) (fun hb67 => ?_)
 ·replace hM := ite_t hb67 hM
  refine run_sr ?_
  refine yR rfl ?_
  refine yN ?_
  refine run_ret_to ?_
  replace hM := some_t hM
  subst hM
  refine fin_x hG rfl rfl rfl (v' := .bool false) (by rfl) ⟨rfl, (show tk ≤ tk62 by omega), _, rfl, rfl⟩
 replace hM := ite_f hb67 hM
 refine run_skip ?_
 refine run_sr ?_
 refine yR rfl ?_
 refine yN ?_
 refine run_ret_to ?_
 replace hM := some_t hM
 subst hM
 refine fin_x hG rfl rfl rfl (v' := .bool true) (by rfl) ⟨rfl, (show tk ≤ tk62 by omega), _, rfl, rfl⟩

end Go.Am.YtoajlhhalpldfaaGreatDoor
