/- Printed by a program of ours: Lean functions that do what the Go functions do, and the contracts. -/
import Derived.Test.YtiobknkpdkkikaaTypes
import Derived.Test.YtiobknkpdkkikaaMsExpr
import Derived.Test.YtiobknkpdkkikaaMsTree
import Derived.Test.YtiobknkpdkkikaaEpEExpr
import Derived.Test.YtiobknkpdkkikaaMlExpr
import Derived.Test.YtiobknkpdkkikaaMeTree
import Derived.Test.YtiobknkpdkkikaaMhTree
-- packed
namespace Go.Am.Ytiobknkpdkkikaa
open Go Go.Am

def w_FnExactEncodeExpr (n : Nat) (x1 : Pf) (i2 : Int) : Option Bool :=
 (w_szExpr n x1 1048576).bind fun r3 =>
 if r3 < 0 then
  some true
 else
  (w_toExpr n x1).bind fun r11 =>
  (s_EncodeExpr n r11 i2).bind fun r18 =>
  (w_toExpr n x1).bind fun r31 =>
  (i_EncodeExpr n r31 i2).bind fun r38 =>
  (w_eqTree n r38.1 r18.1).bind fun r51 =>
  if (!r51) = true then
   some false
  else
   if (r38.2 != r18.2) = true then
    some false
   else
    (w_toExpr n x1).bind fun r60 =>
    (w_eqExpr n r31 r60).bind fun r67 =>
    if (!r67) = true then
     some false
    else
     (w_markExpr r31 1).bind fun r75 =>
     if r75.2 < 0 then
      some false
     else
      (w_eqTree n r38.1 r18.1).bind fun r89 =>
      if (!r89) = true then
       some false
      else
       if (r38.2 != r18.2) = true then
        some false
       else
        (w_markTree r38.1 1).bind fun r98 =>
        (w_heldTree n (T.mk r38.1.kind r38.1.n r38.1.name r98.1) 1).bind fun r107 =>
        if r107 < 0 then
         some false
        else
         if (r107 != r98.2) = true then
          some false
         else
          (w_toExpr n x1).bind fun r116 =>
          (i_EncodeExpr n r116 i2).bind fun r123 =>
          (w_eqTree n r123.1 r18.1).bind fun r136 =>
          if (!r136) = true then
           some false
          else
           if (r123.2 != r18.2) = true then
            some false
           else
            (w_heldTree n (T.mk r38.1.kind r38.1.n r38.1.name r98.1) 1).bind fun r145 =>
            if r145 < 0 then
             some false
            else
             if (r145 != r98.2) = true then
              some false
             else
              some true

set_option maxHeartbeats 2000000 in
set_option maxRecDepth 100000 in
theorem w_FnExactEncodeExpr_ok (n : Nat) : ∀ (k1 : Int) (n1 : Int) (p1 : Nat) (e1 : Bool) (fs1 : List LF) (q1 : Nat) (f1 : Bool) (ks1 : List LP) (i2 : Int) {r : Bool}, w_FnExactEncodeExpr n (Pf.mk k1 n1 (fers fs1) (pers ks1)) i2 = some r → (∀ x ∈ fstoks p1 fs1, x = 0) → (∀ x ∈ pstoks q1 ks1, x = 0) → ∀ (O : Heap) (tk : Nat), O = (fun _ => none) → 2 ≤ tk → ACalls Go.Proofs.Try.prog 4 [.agg [.int .i64 k1, .int .i64 n1, .imm p1 3 e1 (fcellss fs1), .imm q1 4 f1 (pcellss ks1)], .int .i64 i2] O tk (RetX O tk (fun v tk' => v = .bool r)) := by
 intro k1 n1 p1 e1 fs1 q1 f1 ks1 i2 r hM ho0 ho1 O tk hOn h2tk
 unfold w_FnExactEncodeExpr at hM
 refine acalls_of_run Go.Proofs.Try.func4 rfl rfl [] [] (Bor.nil _) [(0, .agg [.int .i64 k1, .int .i64 n1, .imm p1 3 e1 (fcellss fs1), .imm q1 4 f1 (pcellss ks1)]), (1, .int .i64 i2)] (.cons (.agg _) (.cons (entS rfl) (.nil _))) (leb rfl) (fun _ h => by cases h) (fun S0 hO htk hfz => ?_)
 refine run_sr ?_
 refine run_op rfl (box_step (d := 2) rfl rfl rfl rfl rfl) rfl (ltb rfl) ?_
 refine mvR rfl rfl rfl rfl (ltb rfl) ?_
 refine run_ops_nil ?_
 refine run_sr ?_
 refine mvR rfl rfl rfl rfl (ltb rfl) ?_
 refine run_ops_nil ?_
 refine run_sr ?_
 refine run_ld hG rfl rfl rfl rfl rfl (ltb rfl) ?_
 refine mvL rfl rfl rfl rfl (ltb rfl) ?_
 obtain ⟨r3, hg4, hM⟩ := bind_t hM
 refine run_call rfl rfl rfl (ltb rfl) rfl rfl rfl (fun _ h => absurd h List.not_mem_nil) (w_szExpr_ok n k1 n1 p1 e1 fs1 q1 f1 ks1 1048576 hg4 _ _) (callK_retX (fun v tk5 (hle6 : tk ≤ tk5) h7 => ?_))
 subst h7
 refine mvR rfl rfl rfl rfl (ltb rfl) ?_
 refine run_ops_nil ?_
 refine run_seq ?_
 refine run_sr ?_
 refine mvL rfl rfl rfl rfl (ltb rfl) ?_
 refine run_bin rfl rfl rfl rfl rfl rfl rfl (ltb rfl) ?_
 refine run_ops_nil ?_
 refine run_ifd rfl rfl (fun hb10 => ?_) (fun hb10 => ?_)
 ·replace hM := ite_t hb10 hM
  refine run_sr ?_
  refine mvR rfl rfl rfl rfl (ltb rfl) ?_
  refine run_ops_nil ?_
  refine run_ret_to ?_
  obtain rfl := some_t hM
  refine fin_x hG rfl rfl rfl (v' := .bool true) (by rfl) ⟨rfl, (show tk ≤ tk5 by omega), _, rfl, rfl⟩
 ·replace hM := ite_f hb10 hM
  refine run_skip ?_
  refine run_sr ?_
  refine run_ld hG rfl rfl rfl rfl rfl (ltb rfl) ?_
  obtain ⟨r11, hg12, hM⟩ := bind_t hM
  refine run_call rfl rfl rfl (ltb rfl) rfl rfl rfl (fun _ h => absurd h List.not_mem_nil) (w_toExpr_ok n k1 n1 p1 e1 fs1 q1 f1 ks1 hg12 _ _) (callK_retX (fun v tk13 (hle14 : tk5 ≤ tk13) h15 => ?_))
  obtain ⟨k16, n16, p16, e16, fs16, q16, f16, ks16, rfl, rfl, hf17⟩ := h15
  refine mvL rfl rfl rfl rfl (ltb rfl) ?_
  obtain ⟨r18, hg19, hM⟩ := bind_t hM
  refine run_call rfl rfl rfl (ltb rfl) rfl rfl rfl (fun _ h => absurd h List.not_mem_nil) (s_EncodeExpr_ok n k16 n16 p16 e16 fs16 q16 f16 ks16 i2 hg19 _ _) (callK_retX (fun v tk20 (hle21 : tk13 ≤ tk20) h22 => ?_))
  obtain ⟨ra27, ra28, va29, va30, rfl, rfl, ⟨k23, n23, s23, q23, f23, ks23, rfl, rfl, hf24⟩, rfl⟩ := h22
  refine mvL rfl rfl rfl rfl (ltb rfl) ?_
  refine run_pu rfl (extract_step rfl rfl rfl) rfl (ltb rfl) ?_
  refine run_pu rfl (extract_step rfl rfl rfl) rfl (ltb rfl) ?_
  refine run_op rfl (alloc_step (d := 6) hG rfl rfl rfl) rfl (ltb rfl) ?_
  refine run_op0 rfl (store_step hG rfl rfl rfl rfl rfl rfl rfl rfl) rfl ?_
  refine mvR rfl rfl rfl rfl (ltb rfl) ?_
  refine run_ops_nil ?_
  refine run_sub_code (σ' := ⟨[(1, .int .i64 i2), (2, .optr (.loc 2) 0 0), (4, .bool false), (6, .optr (.loc 6) 0 0), (7, .int .i64 ra28)], [(6, ⟨39, 4, true, [[.int .i64 k23, .int .i64 n23, .str s23, .imm q23 4 f23 (cellss ks23)]]⟩), (2, ⟨25, 4, true, [[.int .i64 k1, .int .i64 n1, .imm p1 3 e1 (fcellss fs1), .imm q1 4 f1 (pcellss ks1)]]⟩)], [], O, tk20⟩) (Sub.env _ ⟨rfl, rfl, rfl, rfl, rfl, trivial⟩) ?_
  refine run_sr ?_
  refine run_ld hG rfl rfl rfl rfl rfl (ltb rfl) ?_
  obtain ⟨r31, hg32, hM⟩ := bind_t hM
  refine run_call rfl rfl rfl (ltb rfl) rfl rfl rfl (fun _ h => absurd h List.not_mem_nil) (w_toExpr_ok n k1 n1 p1 e1 fs1 q1 f1 ks1 hg32 _ _) (callK_retX (fun v tk33 (hle34 : tk20 ≤ tk33) h35 => ?_))
  obtain ⟨k36, n36, p36, e36, fs36, q36, f36, ks36, rfl, rfl, hf37⟩ := h35
  refine run_op rfl (alloc_step (d := 8) hG rfl rfl rfl) rfl (ltb rfl) ?_
  refine run_op0 rfl (store_step hG rfl rfl rfl rfl rfl rfl rfl rfl) rfl ?_
  refine run_ops_nil ?_
  refine run_sr ?_
  refine run_ld hG rfl rfl rfl rfl rfl (ltb rfl) ?_
  refine mvL rfl rfl rfl rfl (ltb rfl) ?_
  obtain ⟨r38, hg39, hM⟩ := bind_t hM
  refine run_call rfl rfl rfl (ltb rfl) rfl rfl rfl (fun _ h => absurd h List.not_mem_nil) (i_EncodeExpr_ok n k36 n36 p36 e36 fs36 q36 f36 ks36 i2 hg39 _ _) (callK_retX (fun v tk40 (hle41 : tk33 ≤ tk40) h42 => ?_))
  obtain ⟨ra47, ra48, va49, va50, rfl, rfl, ⟨k43, n43, s43, q43, f43, ks43, rfl, rfl, hf44⟩, rfl⟩ := h42
  refine mvL rfl rfl rfl rfl (ltb rfl) ?_
  refine run_pu rfl (extract_step rfl rfl rfl) rfl (ltb rfl) ?_
  refine run_pu rfl (extract_step rfl rfl rfl) rfl (ltb rfl) ?_
  refine run_op rfl (alloc_step (d := 9) hG rfl rfl rfl) rfl (ltb rfl) ?_
  refine run_op0 rfl (store_step hG rfl rfl rfl rfl rfl rfl rfl rfl) rfl ?_
  refine mvR rfl rfl rfl rfl (ltb rfl) ?_
  refine run_ops_nil ?_
  refine run_seq ?_
  refine run_sr ?_
  refine run_ld hG rfl rfl rfl rfl rfl (ltb rfl) ?_
  refine run_ld hG rfl rfl rfl rfl rfl (ltb rfl) ?_
  obtain ⟨r51, hg52, hM⟩ := bind_t hM
  refine run_call rfl rfl rfl (ltb rfl) rfl rfl rfl (fun _ h => absurd h List.not_mem_nil) (w_eqTree_ok n k43 n43 s43 q43 f43 ks43 k23 n23 s23 q23 f23 ks23 hg52 _ _) (callK_retX (fun v tk53 (hle54 : tk40 ≤ tk53) h55 => ?_))
  subst h55
  refine run_pu rfl (aun_step rfl rfl rfl) rfl (ltb rfl) ?_
  refine mvL rfl rfl rfl rfl (ltb rfl) ?_
  refine run_splitb (i := 40) rfl (fun hb58 => ?_) (fun hb58 => ?_)
  ·replace hM := ite_t hb58 hM
   refine run_off (on_of rfl rfl rfl rfl) rfl (ltb rfl) ?_
   refine run_off (on_of rfl rfl rfl rfl) rfl (ltb rfl) ?_
   refine run_off (on_of rfl rfl rfl rfl) rfl (ltb rfl) ?_
   refine run_pu rfl (pick_step rfl rfl rfl) rfl (ltb rfl) ?_
   refine run_ops_nil ?_
   refine run_sub_code (σ' := ⟨[(1, .int .i64 i2), (2, .optr (.loc 2) 0 0), (4, .bool false), (6, .optr (.loc 6) 0 0), (7, .int .i64 ra28), (8, .optr (.loc 8) 0 0), (9, .optr (.loc 9) 0 0), (10, .int .i64 ra48), (44, .bool true)], [(9, ⟨39, 4, true, [[.int .i64 k43, .int .i64 n43, .str s43, .imm q43 4 f43 (cellss ks43)]]⟩), (8, ⟨30, 4, true, [[.int .i64 k36, .int .i64 n36, .imm p36 3 e36 (fcellss fs36), .imm q36 4 f36 (pcellss ks36)]]⟩), (6, ⟨39, 4, true, [[.int .i64 k23, .int .i64 n23, .str s23, .imm q23 4 f23 (cellss ks23)]]⟩), (2, ⟨25, 4, true, [[.int .i64 k1, .int .i64 n1, .imm p1 3 e1 (fcellss fs1), .imm q1 4 f1 (pcellss ks1)]]⟩)], [], O, tk53⟩) (Sub.env _ ⟨rfl, rfl, rfl, rfl, rfl, rfl, rfl, rfl, rfl, trivial⟩) ?_
   refine run_if rfl rfl (fun _ => ?_) (fun h => by cases h)
   refine run_sr ?_
   refine mvR rfl rfl rfl rfl (ltb rfl) ?_
   refine run_ops_nil ?_
   refine run_ret_to ?_
   obtain rfl := some_t hM
   refine fin_x hG rfl rfl rfl (v' := .bool false) (by rfl) ⟨rfl, (show tk ≤ tk53 by omega), _, rfl, rfl⟩
  ·replace hM := ite_f hb58 hM
   refine run_puG (on_of rfl rfl rfl rfl) (move_step (.inl rfl) rfl) rfl (ltb rfl) ?_
   refine run_puG (on_of rfl rfl rfl rfl) (move_step (.inl rfl) rfl) rfl (ltb rfl) ?_
   refine run_puG (on_of rfl rfl rfl rfl) (abin_step rfl rfl rfl rfl (fun _ h => by cases h)) rfl (ltb rfl) ?_
   refine run_pu rfl (pick_step rfl rfl rfl) rfl (ltb rfl) ?_
   refine run_ops_nil ?_
   refine run_sub_code (σ' := ⟨[(1, .int .i64 i2), (2, .optr (.loc 2) 0 0), (4, .bool false), (6, .optr (.loc 6) 0 0), (7, .int .i64 ra28), (8, .optr (.loc 8) 0 0), (9, .optr (.loc 9) 0 0), (10, .int .i64 ra48), (44, .bool (ra48 != ra28))], [(9, ⟨39, 4, true, [[.int .i64 k43, .int .i64 n43, .str s43, .imm q43 4 f43 (cellss ks43)]]⟩), (8, ⟨30, 4, true, [[.int .i64 k36, .int .i64 n36, .imm p36 3 e36 (fcellss fs36), .imm q36 4 f36 (pcellss ks36)]]⟩), (6, ⟨39, 4, true, [[.int .i64 k23, .int .i64 n23, .str s23, .imm q23 4 f23 (cellss ks23)]]⟩), (2, ⟨25, 4, true, [[.int .i64 k1, .int .i64 n1, .imm p1 3 e1 (fcellss fs1), .imm q1 4 f1 (pcellss ks1)]]⟩)], [], O, tk53⟩) (Sub.env _ ⟨rfl, rfl, rfl, rfl, rfl, rfl, rfl, rfl, rfl, trivial⟩) ?_
   refine run_ifb rfl rfl (fun hb59 => ?_) (fun hb59 => ?_)
   ·replace hM := ite_t hb59 hM
    refine run_sr ?_
    refine mvR rfl rfl rfl rfl (ltb rfl) ?_
    refine run_ops_nil ?_
    refine run_ret_to ?_
    obtain rfl := some_t hM
    refine fin_x hG rfl rfl rfl (v' := .bool false) (by rfl) ⟨rfl, (show tk ≤ tk53 by omega), _, rfl, rfl⟩
   ·replace hM := ite_f hb59 hM
    refine run_skip ?_
    refine run_seq ?_
    refine run_seq ?_
    refine run_draw [] (n := 5) mixed rfl (fun _ h => absurd h List.not_mem_nil) ?_
    refine AAny.take (i := 0) rfl (by kernel_rfl) (by kernel_rfl) (by kernel_rfl) rfl rfl (ltb rfl) (aload_rd hG rfl rfl rfl (by first | (simp [ldok]; done) | exact List.not_mem_nil | trivial)) ?_
    refine AAny.take (i := 1) rfl (by kernel_rfl) (by kernel_rfl) (by kernel_rfl) rfl rfl (ltb rfl) (aload_rd hG rfl rfl rfl (by first | (simp [ldok]; done) | exact List.not_mem_nil | trivial)) ?_
    obtain ⟨r60, hg61, hM⟩ := bind_t hM
    refine AAny.one (i := 2) (by kernel_rfl) (AOp.call rfl rfl rfl rfl (ltb rfl) rfl rfl rfl (fun _ h => absurd h List.not_mem_nil) (fun _ h => absurd h List.not_mem_nil) (w_toExpr_ok n k1 n1 p1 e1 fs1 q1 f1 ks1 hg61 _ _) (callK_retX (fun v tk62 (hle63 : tk53 ≤ tk62) h64 => ?_)))
    obtain ⟨k65, n65, p65, e65, fs65, q65, f65, ks65, rfl, rfl, hf66⟩ := h64
    obtain ⟨r67, hg68, hM⟩ := bind_t hM
    refine AAny.one (i := 3) (by kernel_rfl) (AOp.call rfl rfl rfl rfl (ltb rfl) rfl rfl rfl (fun _ h => absurd h List.not_mem_nil) (fun _ h => absurd h List.not_mem_nil) (w_eqExpr_ok n k36 n36 p36 e36 fs36 q36 f36 ks36 k65 n65 p65 e65 fs65 q65 f65 ks65 hg68 _ _) (callK_retX (fun v tk69 (hle70 : tk62 ≤ tk69) h71 => ?_)))
    subst h71
    refine AAny.take (i := 4) rfl (by kernel_rfl) (by kernel_rfl) (by kernel_rfl) rfl rfl (ltb rfl) ((aun_step rfl rfl rfl).rd _) ?_
    refine AAny.done (by kernel_rfl) ?_
    refine run_ifb rfl rfl (fun hb74 => ?_) (fun hb74 => ?_)
    ·replace hM := ite_t hb74 hM
     refine run_sr ?_
     refine mvR rfl rfl rfl rfl (ltb rfl) ?_
     refine run_ops_nil ?_
     refine run_ret_to ?_
     obtain rfl := some_t hM
     refine fin_x hG rfl rfl rfl (v' := .bool false) (by rfl) ⟨rfl, (show tk ≤ tk69 by omega), _, rfl, rfl⟩
    ·replace hM := ite_f hb74 hM
     refine run_skip ?_
     refine run_sr ?_
     refine mvR rfl rfl rfl rfl (ltb rfl) ?_
     refine run_ops_nil ?_
     refine run_sr ?_
     refine run_ld hG rfl rfl rfl rfl rfl (ltb rfl) ?_
     refine mvL rfl rfl rfl rfl (ltb rfl) ?_
     obtain ⟨r75, hg76, hM⟩ := bind_t hM
     refine run_callT rfl rfl rfl (ltb rfl) rfl rfl rfl rfl rfl hOn (fun x hx => by have := ((show Fr tk20 tk33 _ from (show Fr tk20 tk33 _ from hf37 rfl))).2 x hx; show S0.tk ≤ x; omega) (w_markExpr_m k36 n36 p36 e36 fs36 q36 f36 ks36 1 _ (Fr.ge (show Fr tk20 tk33 _ from (show Fr tk20 tk33 _ from hf37 rfl)) (by omega)) ((show Fr tk20 tk33 _ from (show Fr tk20 tk33 _ from hf37 rfl))).1 hg76) (fun out S' hR (hle78 : tk69 ≤ S'.tk) => ?_)
     obtain ⟨fs84, ks79, k80, rfl, rfl, _, hst81, hln82, hst85, hln86, hu83, hu87⟩ := hR
     generalize S'.tk = tk77 at hle78 ⊢
     refine ⟨_, rfl, rfl, GQ p36 e36 fs36 fs84 q36 f36 ks36 ks79, GQ.turned (Fr.ge (show Fr tk20 tk33 _ from (show Fr tk20 tk33 _ from hf37 rfl)) (by omega)) hst81 hln82 hst85 hln86 hu83 hu87, [(1, .int .i64 i2), (2, .optr (.loc 2) 0 0), (4, .bool false), (6, .optr (.loc 6) 0 0), (7, .int .i64 ra28), (8, .optr (.loc 8) 0 0), (9, .optr (.loc 9) 0 0), (10, .int .i64 ra48), (44, .bool (ra48 != ra28)), (45, .agg [.int .i64 k36, .int .i64 n36, .imm p36 3 e36 (fcellss fs84), .imm q36 4 f36 (pcellss ks79)]), (46, .agg [.int .i64 k1, .int .i64 n1, .imm p1 3 e1 (fcellss fs1), .imm q1 4 f1 (pcellss ks1)]), (47, .agg [.int .i64 k65, .int .i64 n65, .imm p65 3 e65 (fcellss fs65), .imm q65 4 f65 (pcellss ks65)]), (48, .bool r67), (49, .bool (!r67)), (11, .int .i64 1), (50, .agg [.int .i64 k36, .int .i64 n36, .imm p36 3 e36 (fcellss fs84), .imm q36 4 f36 (pcellss ks79)]), (51, .int .i64 1)], [(9, ⟨39, 4, true, [[.int .i64 k43, .int .i64 n43, .str s43, .imm q43 4 f43 (cellss ks43)]]⟩), (8, ⟨30, 4, true, [[.int .i64 k36, .int .i64 n36, .imm p36 3 e36 (fcellss fs84), .imm q36 4 f36 (pcellss ks79)]]⟩), (6, ⟨39, 4, true, [[.int .i64 k23, .int .i64 n23, .str s23, .imm q23 4 f23 (cellss ks23)]]⟩), (2, ⟨25, 4, true, [[.int .i64 k1, .int .i64 n1, .imm p1 3 e1 (fcellss fs1), .imm q1 4 f1 (pcellss ks1)]]⟩)], (.cons _ _ _ _ rfl (Tn.av (.int _ _)) (.cons _ _ _ _ rfl (.optr _ _ _) (.cons _ _ _ _ rfl (Tn.av (.bool _)) (.cons _ _ _ _ rfl (.optr _ _ _) (.cons _ _ _ _ rfl (Tn.av (.int _ _)) (.cons _ _ _ _ rfl (.optr _ _ _) (.cons _ _ _ _ rfl (.optr _ _ _) (.cons _ _ _ _ rfl (Tn.av (.int _ _)) (.cons _ _ _ _ rfl (Tn.av (.bool _)) (.cons _ _ _ _ rfl (TnCs.agg (.cons _ _ _ _ (Tn.av (.int _ _)) (.cons _ _ _ _ (Tn.av (.int _ _)) (.cons _ _ _ _ (GQ.tnf hln82) (.cons _ _ _ _ (GQ.tnp hln86) .nil)))) rfl) (.cons _ _ _ _ rfl (TnCs.agg (.cons _ _ _ _ (Tn.av (.int _ _)) (.cons _ _ _ _ (Tn.av (.int _ _)) (.cons _ _ _ _ (Tn.av (fs_av (old_av ho0))) (.cons _ _ _ _ (Tn.av (ps_av (old_av ho1))) .nil)))) rfl) (.cons _ _ _ _ rfl (TnCs.agg (.cons _ _ _ _ (Tn.av (.int _ _)) (.cons _ _ _ _ (Tn.av (.int _ _)) (.cons _ _ _ _ (Tn.av (fs_av (fun x hx => fr_av (show Fr tk53 tk62 _ from (show Fr tk53 tk62 _ from hf66 rfl)) (show Fr tk20 tk33 _ from (show Fr tk20 tk33 _ from hf37 rfl)) (by omega) (by omega) x (List.mem_append.2 (.inl hx))))) (.cons _ _ _ _ (Tn.av (ps_av (fun x hx => fr_av (show Fr tk53 tk62 _ from (show Fr tk53 tk62 _ from hf66 rfl)) (show Fr tk20 tk33 _ from (show Fr tk20 tk33 _ from hf37 rfl)) (by omega) (by omega) x (List.mem_append.2 (.inr hx))))) .nil)))) rfl) (.cons _ _ _ _ rfl (Tn.av (.bool _)) (.cons _ _ _ _ rfl (Tn.av (.bool _)) (.cons _ _ _ _ rfl (Tn.av (.int _ _)) (.cons _ _ _ _ rfl (TnCs.agg (.cons _ _ _ _ (Tn.av (.int _ _)) (.cons _ _ _ _ (Tn.av (.int _ _)) (.cons _ _ _ _ (GQ.tnf hln82) (.cons _ _ _ _ (GQ.tnp hln86) .nil)))) rfl) (.cons _ _ _ _ rfl (Tn.av (.int _ _)) .nil))))))))))))))))), (.cons _ _ _ _ _ (TnCs.box (.cons _ _ _ _ (Tn.av (.int _ _)) (.cons _ _ _ _ (Tn.av (.int _ _)) (.cons _ _ _ _ (Tn.av (.str _)) (.cons _ _ _ _ (Tn.av (ts_av (fr_av (show Fr tk33 tk40 _ from (show Fr tk33 tk40 _ from hf44 rfl)) (show Fr tk20 tk33 _ from (show Fr tk20 tk33 _ from hf37 rfl)) (by omega) (by omega)))) .nil)))) rfl) (.cons _ _ _ _ _ (TnCs.box (.cons _ _ _ _ (Tn.av (.int _ _)) (.cons _ _ _ _ (Tn.av (.int _ _)) (.cons _ _ _ _ (GQ.tnf hln82) (.cons _ _ _ _ (GQ.tnp hln86) .nil)))) rfl) (.cons _ _ _ _ _ (TnCs.box (.cons _ _ _ _ (Tn.av (.int _ _)) (.cons _ _ _ _ (Tn.av (.int _ _)) (.cons _ _ _ _ (Tn.av (.str _)) (.cons _ _ _ _ (Tn.av (ts_av (fr_av (show Fr tk13 tk20 _ from (show Fr tk13 tk20 _ from hf24 rfl)) (show Fr tk20 tk33 _ from (show Fr tk20 tk33 _ from hf37 rfl)) (by omega) (by omega)))) .nil)))) rfl) (.cons _ _ _ _ _ (TnCs.box (.cons _ _ _ _ (Tn.av (.int _ _)) (.cons _ _ _ _ (Tn.av (.int _ _)) (.cons _ _ _ _ (Tn.av (fs_av (old_av ho0))) (.cons _ _ _ _ (Tn.av (ps_av (old_av ho1))) .nil)))) rfl) .nil)))), ?_⟩
     refine mvR rfl rfl rfl rfl (ltb rfl) ?_
     refine run_ops_nil ?_
     refine run_seq ?_
     refine run_sr ?_
     refine mvL rfl rfl rfl rfl (ltb rfl) ?_
     refine run_bin rfl rfl rfl rfl rfl rfl rfl (ltb rfl) ?_
     refine mvL rfl rfl rfl rfl (ltb rfl) ?_
     refine run_splitd (i := 55) rfl (fun hb88 => ?_) (fun hb88 => ?_)
     ·replace hM := ite_t hb88 hM
      refine run_off (on_of rfl rfl rfl rfl) rfl (ltb rfl) ?_
      refine run_off (on_of rfl rfl rfl rfl) rfl (ltb rfl) ?_
      refine run_off (on_of rfl rfl rfl rfl) rfl (ltb rfl) ?_
      refine run_off (on_of rfl rfl rfl rfl) rfl (ltb rfl) ?_
      refine run_pu rfl (pick_step rfl rfl rfl) rfl (ltb rfl) ?_
      refine mvL rfl rfl rfl rfl (ltb rfl) ?_
      refine run_off (on_of rfl rfl rfl rfl) rfl (ltb rfl) ?_
      refine run_off (on_of rfl rfl rfl rfl) rfl (ltb rfl) ?_
      refine run_off (on_of rfl rfl rfl rfl) rfl (ltb rfl) ?_
      refine run_pu rfl (pick_step rfl rfl rfl) rfl (ltb rfl) ?_
      refine run_ops_nil ?_
      refine run_sub_code (σ' := ⟨[(1, .int .i64 i2), (2, .optr (.loc 2) 0 0), (4, .bool false), (6, .optr (.loc 6) 0 0), (7, .int .i64 ra28), (9, .optr (.loc 9) 0 0), (65, .bool true)], [(9, ⟨39, 4, true, [[.int .i64 k43, .int .i64 n43, .str s43, .imm q43 4 f43 (cellss ks43)]]⟩), (6, ⟨39, 4, true, [[.int .i64 k23, .int .i64 n23, .str s23, .imm q23 4 f23 (cellss ks23)]]⟩), (2, ⟨25, 4, true, [[.int .i64 k1, .int .i64 n1, .imm p1 3 e1 (fcellss fs1), .imm q1 4 f1 (pcellss ks1)]]⟩)], [], O, tk77⟩) (Sub.trans (Sub.drop (k := 8) rfl) (Sub.env _ ⟨rfl, rfl, rfl, rfl, rfl, rfl, rfl, trivial⟩)) ?_
      refine run_if rfl rfl (fun _ => ?_) (fun h => by cases h)
      refine run_sr ?_
      refine mvR rfl rfl rfl rfl (ltb rfl) ?_
      refine run_ops_nil ?_
      refine run_ret_to ?_
      obtain rfl := some_t hM
      refine fin_x hG rfl rfl rfl (v' := .bool false) (by rfl) ⟨rfl, (show tk ≤ tk77 by omega), _, rfl, rfl⟩
     ·replace hM := ite_f hb88 hM
      refine run_rdG (on_of rfl rfl rfl rfl) (aload_rd hG rfl rfl rfl (by first | (simp [ldok]; done) | exact List.not_mem_nil | trivial)) rfl (ltb rfl) ?_
      refine run_rdG (on_of rfl rfl rfl rfl) (aload_rd hG rfl rfl rfl (by first | (simp [ldok]; done) | exact List.not_mem_nil | trivial)) rfl (ltb rfl) ?_
      obtain ⟨r89, hg90, hM⟩ := bind_t hM
      refine run_callG (on_of rfl rfl rfl rfl) rfl rfl (ltb rfl) rfl rfl rfl (fun _ h => absurd h List.not_mem_nil) (w_eqTree_ok n k43 n43 s43 q43 f43 ks43 k23 n23 s23 q23 f23 ks23 hg90 _ _) (callK_retX (fun v tk91 (hle92 : tk77 ≤ tk91) h93 => ?_))
      subst h93
      refine run_puG (on_of rfl rfl rfl rfl) (aun_step rfl rfl rfl) rfl (ltb rfl) ?_
      refine run_pu rfl (pick_step rfl rfl rfl) rfl (ltb rfl) ?_
      refine mvL rfl rfl rfl rfl (ltb rfl) ?_
      refine run_splitb (i := 61) rfl (fun hb96 => ?_) (fun hb96 => ?_)
      ·replace hM := ite_t hb96 hM
       refine run_off (on_of rfl rfl rfl rfl) rfl (ltb rfl) ?_
       refine run_off (on_of rfl rfl rfl rfl) rfl (ltb rfl) ?_
       refine run_off (on_of rfl rfl rfl rfl) rfl (ltb rfl) ?_
       refine run_pu rfl (pick_step rfl rfl rfl) rfl (ltb rfl) ?_
       refine run_ops_nil ?_
       refine run_sub_code (σ' := ⟨[(1, .int .i64 i2), (2, .optr (.loc 2) 0 0), (4, .bool false), (6, .optr (.loc 6) 0 0), (7, .int .i64 ra28), (9, .optr (.loc 9) 0 0), (65, .bool true)], [(9, ⟨39, 4, true, [[.int .i64 k43, .int .i64 n43, .str s43, .imm q43 4 f43 (cellss ks43)]]⟩), (6, ⟨39, 4, true, [[.int .i64 k23, .int .i64 n23, .str s23, .imm q23 4 f23 (cellss ks23)]]⟩), (2, ⟨25, 4, true, [[.int .i64 k1, .int .i64 n1, .imm p1 3 e1 (fcellss fs1), .imm q1 4 f1 (pcellss ks1)]]⟩)], [], O, tk91⟩) (Sub.trans (Sub.drop (k := 8) rfl) (Sub.env _ ⟨rfl, rfl, rfl, rfl, rfl, rfl, rfl, trivial⟩)) ?_
       refine run_if rfl rfl (fun _ => ?_) (fun h => by cases h)
       refine run_sr ?_
       refine mvR rfl rfl rfl rfl (ltb rfl) ?_
       refine run_ops_nil ?_
       refine run_ret_to ?_
       obtain rfl := some_t hM
       refine fin_x hG rfl rfl rfl (v' := .bool false) (by rfl) ⟨rfl, (show tk ≤ tk91 by omega), _, rfl, rfl⟩
      ·replace hM := ite_f hb96 hM
       refine run_puG (on_of rfl rfl rfl rfl) (move_step (.inl rfl) rfl) rfl (ltb rfl) ?_
       refine run_puG (on_of rfl rfl rfl rfl) (move_step (.inl rfl) rfl) rfl (ltb rfl) ?_
       refine run_puG (on_of rfl rfl rfl rfl) (abin_step rfl rfl rfl rfl (fun _ h => by cases h)) rfl (ltb rfl) ?_
       refine run_pu rfl (pick_step rfl rfl rfl) rfl (ltb rfl) ?_
       refine run_ops_nil ?_
       refine run_sub_code (σ' := ⟨[(1, .int .i64 i2), (2, .optr (.loc 2) 0 0), (4, .bool false), (6, .optr (.loc 6) 0 0), (7, .int .i64 ra28), (9, .optr (.loc 9) 0 0), (65, .bool (ra48 != ra28))], [(9, ⟨39, 4, true, [[.int .i64 k43, .int .i64 n43, .str s43, .imm q43 4 f43 (cellss ks43)]]⟩), (6, ⟨39, 4, true, [[.int .i64 k23, .int .i64 n23, .str s23, .imm q23 4 f23 (cellss ks23)]]⟩), (2, ⟨25, 4, true, [[.int .i64 k1, .int .i64 n1, .imm p1 3 e1 (fcellss fs1), .imm q1 4 f1 (pcellss ks1)]]⟩)], [], O, tk91⟩) (Sub.trans (Sub.drop (k := 8) rfl) (Sub.env _ ⟨rfl, rfl, rfl, rfl, rfl, rfl, rfl, trivial⟩)) ?_
       refine run_ifb rfl rfl (fun hb97 => ?_) (fun hb97 => ?_)
       ·replace hM := ite_t hb97 hM
        refine run_sr ?_
        refine mvR rfl rfl rfl rfl (ltb rfl) ?_
        refine run_ops_nil ?_
        refine run_ret_to ?_
        obtain rfl := some_t hM
        refine fin_x hG rfl rfl rfl (v' := .bool false) (by rfl) ⟨rfl, (show tk ≤ tk91 by omega), _, rfl, rfl⟩
       ·replace hM := ite_f hb97 hM
        refine run_skip ?_
        refine run_sr ?_
        refine mvR rfl rfl rfl rfl (ltb rfl) ?_
        refine run_ops_nil ?_
        refine run_sr ?_
        refine run_ld hG rfl rfl rfl rfl rfl (ltb rfl) ?_
        refine mvL rfl rfl rfl rfl (ltb rfl) ?_
        obtain ⟨r98, hg99, hM⟩ := bind_t hM
        refine run_callT rfl rfl rfl (ltb rfl) rfl rfl rfl rfl rfl hOn (fun x hx => by have := ((show Fr tk33 tk40 _ from (show Fr tk33 tk40 _ from hf44 rfl))).2 x hx; show S0.tk ≤ x; omega) (w_markTree_m k43 n43 s43 q43 f43 ks43 1 _ (Fr.ge (show Fr tk33 tk40 _ from (show Fr tk33 tk40 _ from hf44 rfl)) (by omega)) ((show Fr tk33 tk40 _ from (show Fr tk33 tk40 _ from hf44 rfl))).1 hg99) (fun out S' hR (hle101 : tk91 ≤ S'.tk) => ?_)
        obtain ⟨ks102, k103, rfl, rfl, _, hst104, hln105, hu106⟩ := hR
        generalize S'.tk = tk100 at hle101 ⊢
        refine ⟨_, rfl, rfl, GT q43 f43 ks43 ks102, GT.turned (Fr.ge (show Fr tk33 tk40 _ from (show Fr tk33 tk40 _ from hf44 rfl)) (by omega)) hst104 hln105 hu106, [(1, .int .i64 i2), (2, .optr (.loc 2) 0 0), (4, .bool false), (6, .optr (.loc 6) 0 0), (7, .int .i64 ra28), (9, .optr (.loc 9) 0 0), (65, .bool (ra48 != ra28)), (12, .int .i64 1), (66, .agg [.int .i64 k43, .int .i64 n43, .str s43, .imm q43 4 f43 (cellss ks102)]), (67, .int .i64 1)], [(9, ⟨39, 4, true, [[.int .i64 k43, .int .i64 n43, .str s43, .imm q43 4 f43 (cellss ks102)]]⟩), (6, ⟨39, 4, true, [[.int .i64 k23, .int .i64 n23, .str s23, .imm q23 4 f23 (cellss ks23)]]⟩), (2, ⟨25, 4, true, [[.int .i64 k1, .int .i64 n1, .imm p1 3 e1 (fcellss fs1), .imm q1 4 f1 (pcellss ks1)]]⟩)], (.cons _ _ _ _ rfl (Tn.av (.int _ _)) (.cons _ _ _ _ rfl (.optr _ _ _) (.cons _ _ _ _ rfl (Tn.av (.bool _)) (.cons _ _ _ _ rfl (.optr _ _ _) (.cons _ _ _ _ rfl (Tn.av (.int _ _)) (.cons _ _ _ _ rfl (.optr _ _ _) (.cons _ _ _ _ rfl (Tn.av (.bool _)) (.cons _ _ _ _ rfl (Tn.av (.int _ _)) (.cons _ _ _ _ rfl (TnCs.agg (.cons _ _ _ _ (Tn.av (.int _ _)) (.cons _ _ _ _ (Tn.av (.int _ _)) (.cons _ _ _ _ (Tn.av (.str _)) (.cons _ _ _ _ (GT.tn hln105) .nil)))) rfl) (.cons _ _ _ _ rfl (Tn.av (.int _ _)) .nil)))))))))), (.cons _ _ _ _ _ (TnCs.box (.cons _ _ _ _ (Tn.av (.int _ _)) (.cons _ _ _ _ (Tn.av (.int _ _)) (.cons _ _ _ _ (Tn.av (.str _)) (.cons _ _ _ _ (GT.tn hln105) .nil)))) rfl) (.cons _ _ _ _ _ (TnCs.box (.cons _ _ _ _ (Tn.av (.int _ _)) (.cons _ _ _ _ (Tn.av (.int _ _)) (.cons _ _ _ _ (Tn.av (.str _)) (.cons _ _ _ _ (Tn.av (ts_av (fr_av (show Fr tk13 tk20 _ from (show Fr tk13 tk20 _ from hf24 rfl)) (show Fr tk33 tk40 _ from (show Fr tk33 tk40 _ from hf44 rfl)) (by omega) (by omega)))) .nil)))) rfl) (.cons _ _ _ _ _ (TnCs.box (.cons _ _ _ _ (Tn.av (.int _ _)) (.cons _ _ _ _ (Tn.av (.int _ _)) (.cons _ _ _ _ (Tn.av (fs_av (old_av ho0))) (.cons _ _ _ _ (Tn.av (ps_av (old_av ho1))) .nil)))) rfl) .nil))), ?_⟩
        refine mvR rfl rfl rfl rfl (ltb rfl) ?_
        refine run_ops_nil ?_
        refine run_sr ?_
        refine mvR rfl rfl rfl rfl (ltb rfl) ?_
        refine run_ops_nil ?_
        refine run_sr ?_
        refine run_ld hG rfl rfl rfl rfl rfl (ltb rfl) ?_
        refine mvL rfl rfl rfl rfl (ltb rfl) ?_
        obtain ⟨r107, hg108, hM⟩ := bind_t hM
        refine run_call rfl rfl rfl (ltb rfl) rfl rfl rfl (fun _ h => absurd h List.not_mem_nil) (w_heldTree_ok n k43 n43 s43 q43 f43 ks102 1 hg108 _ _) (callK_retX (fun v tk109 (hle110 : tk100 ≤ tk109) h111 => ?_))
        subst h111
        refine mvR rfl rfl rfl rfl (ltb rfl) ?_
        refine run_ops_nil ?_
        refine run_seq ?_
        refine run_sr ?_
        refine mvL rfl rfl rfl rfl (ltb rfl) ?_
        refine run_bin rfl rfl rfl rfl rfl rfl rfl (ltb rfl) ?_
        refine run_ops_nil ?_
        refine run_ifd rfl rfl (fun hb114 => ?_) (fun hb114 => ?_)
        ·replace hM := ite_t hb114 hM
         refine run_sr ?_
         refine mvR rfl rfl rfl rfl (ltb rfl) ?_
         refine run_ops_nil ?_
         refine run_ret_to ?_
         obtain rfl := some_t hM
         refine fin_x hG rfl rfl rfl (v' := .bool false) (by rfl) ⟨rfl, (show tk ≤ tk109 by omega), _, rfl, rfl⟩
        ·replace hM := ite_f hb114 hM
         refine run_skip ?_
         refine run_seq ?_
         refine run_sr ?_
         refine mvL rfl rfl rfl rfl (ltb rfl) ?_
         refine mvL rfl rfl rfl rfl (ltb rfl) ?_
         refine run_bin rfl rfl rfl rfl rfl rfl rfl (ltb rfl) ?_
         refine run_ops_nil ?_
         refine run_sub_code (σ' := ⟨[(1, .int .i64 i2), (2, .optr (.loc 2) 0 0), (4, .bool false), (6, .optr (.loc 6) 0 0), (7, .int .i64 ra28), (9, .optr (.loc 9) 0 0), (12, .int .i64 k103), (13, .int .i64 r107), (76, .bool (r107 != k103))], [(9, ⟨39, 4, true, [[.int .i64 k43, .int .i64 n43, .str s43, .imm q43 4 f43 (cellss ks102)]]⟩), (6, ⟨39, 4, true, [[.int .i64 k23, .int .i64 n23, .str s23, .imm q23 4 f23 (cellss ks23)]]⟩), (2, ⟨25, 4, true, [[.int .i64 k1, .int .i64 n1, .imm p1 3 e1 (fcellss fs1), .imm q1 4 f1 (pcellss ks1)]]⟩)], [], O, tk109⟩) (Sub.env _ ⟨rfl, rfl, rfl, rfl, rfl, rfl, rfl, rfl, rfl, trivial⟩) ?_
         refine run_ifb rfl rfl (fun hb115 => ?_) (fun hb115 => ?_)
         ·replace hM := ite_t hb115 hM
          refine run_sr ?_
          refine mvR rfl rfl rfl rfl (ltb rfl) ?_
          refine run_ops_nil ?_
          refine run_ret_to ?_
          obtain rfl := some_t hM
          refine fin_x hG rfl rfl rfl (v' := .bool false) (by rfl) ⟨rfl, (show tk ≤ tk109 by omega), _, rfl, rfl⟩
         ·replace hM := ite_f hb115 hM
          refine run_skip ?_
          refine run_sr ?_
          refine run_ld hG rfl rfl rfl rfl rfl (ltb rfl) ?_
          obtain ⟨r116, hg117, hM⟩ := bind_t hM
          refine run_call rfl rfl rfl (ltb rfl) rfl rfl rfl (fun _ h => absurd h List.not_mem_nil) (w_toExpr_ok n k1 n1 p1 e1 fs1 q1 f1 ks1 hg117 _ _) (callK_retX (fun v tk118 (hle119 : tk109 ≤ tk118) h120 => ?_))
          obtain ⟨k121, n121, p121, e121, fs121, q121, f121, ks121, rfl, rfl, hf122⟩ := h120
          refine mvL rfl rfl rfl rfl (ltb rfl) ?_
          obtain ⟨r123, hg124, hM⟩ := bind_t hM
          refine run_call rfl rfl rfl (ltb rfl) rfl rfl rfl (fun _ h => absurd h List.not_mem_nil) (i_EncodeExpr_ok n k121 n121 p121 e121 fs121 q121 f121 ks121 i2 hg124 _ _) (callK_retX (fun v tk125 (hle126 : tk118 ≤ tk125) h127 => ?_))
          obtain ⟨ra132, ra133, va134, va135, rfl, rfl, ⟨k128, n128, s128, q128, f128, ks128, rfl, rfl, hf129⟩, rfl⟩ := h127
          refine mvL rfl rfl rfl rfl (ltb rfl) ?_
          refine run_pu rfl (extract_step rfl rfl rfl) rfl (ltb rfl) ?_
          refine run_pu rfl (extract_step rfl rfl rfl) rfl (ltb rfl) ?_
          refine run_op rfl (alloc_step (d := 14) hG rfl rfl rfl) rfl (ltb rfl) ?_
          refine run_op0 rfl (store_step hG rfl rfl rfl rfl rfl rfl rfl rfl) rfl ?_
          refine mvR rfl rfl rfl rfl (ltb rfl) ?_
          refine run_ops_nil ?_
          refine run_seq ?_
          refine run_sr ?_
          refine run_ld hG rfl rfl rfl rfl rfl (ltb rfl) ?_
          refine run_ld hG rfl rfl rfl rfl rfl (ltb rfl) ?_
          obtain ⟨r136, hg137, hM⟩ := bind_t hM
          refine run_call rfl rfl rfl (ltb rfl) rfl rfl rfl (fun _ h => absurd h List.not_mem_nil) (w_eqTree_ok n k128 n128 s128 q128 f128 ks128 k23 n23 s23 q23 f23 ks23 hg137 _ _) (callK_retX (fun v tk138 (hle139 : tk125 ≤ tk138) h140 => ?_))
          subst h140
          refine run_pu rfl (aun_step rfl rfl rfl) rfl (ltb rfl) ?_
          refine mvL rfl rfl rfl rfl (ltb rfl) ?_
          refine run_splitb (i := 88) rfl (fun hb143 => ?_) (fun hb143 => ?_)
          ·replace hM := ite_t hb143 hM
           refine run_off (on_of rfl rfl rfl rfl) rfl (ltb rfl) ?_
           refine run_off (on_of rfl rfl rfl rfl) rfl (ltb rfl) ?_
           refine run_off (on_of rfl rfl rfl rfl) rfl (ltb rfl) ?_
           refine run_pu rfl (pick_step rfl rfl rfl) rfl (ltb rfl) ?_
           refine run_ops_nil ?_
           refine run_sub_code (σ' := ⟨[(4, .bool false), (9, .optr (.loc 9) 0 0), (12, .int .i64 k103), (13, .int .i64 r107), (92, .bool true)], [(9, ⟨39, 4, true, [[.int .i64 k43, .int .i64 n43, .str s43, .imm q43 4 f43 (cellss ks102)]]⟩)], [], O, tk138⟩) (Sub.trans (Sub.drop (k := 14) rfl) (Sub.trans (Sub.drop (k := 6) rfl) (Sub.trans (Sub.drop (k := 2) rfl) (Sub.env _ ⟨rfl, rfl, rfl, rfl, rfl, trivial⟩)))) ?_
           refine run_if rfl rfl (fun _ => ?_) (fun h => by cases h)
           refine run_sr ?_
           refine mvR rfl rfl rfl rfl (ltb rfl) ?_
           refine run_ops_nil ?_
           refine run_ret_to ?_
           obtain rfl := some_t hM
           refine fin_x hG rfl rfl rfl (v' := .bool false) (by rfl) ⟨rfl, (show tk ≤ tk138 by omega), _, rfl, rfl⟩
          ·replace hM := ite_f hb143 hM
           refine run_puG (on_of rfl rfl rfl rfl) (move_step (.inl rfl) rfl) rfl (ltb rfl) ?_
           refine run_puG (on_of rfl rfl rfl rfl) (move_step (.inl rfl) rfl) rfl (ltb rfl) ?_
           refine run_puG (on_of rfl rfl rfl rfl) (abin_step rfl rfl rfl rfl (fun _ h => by cases h)) rfl (ltb rfl) ?_
           refine run_pu rfl (pick_step rfl rfl rfl) rfl (ltb rfl) ?_
           refine run_ops_nil ?_
           refine run_sub_code (σ' := ⟨[(4, .bool false), (9, .optr (.loc 9) 0 0), (12, .int .i64 k103), (13, .int .i64 r107), (92, .bool (ra133 != ra28))], [(9, ⟨39, 4, true, [[.int .i64 k43, .int .i64 n43, .str s43, .imm q43 4 f43 (cellss ks102)]]⟩)], [], O, tk138⟩) (Sub.trans (Sub.drop (k := 14) rfl) (Sub.trans (Sub.drop (k := 6) rfl) (Sub.trans (Sub.drop (k := 2) rfl) (Sub.env _ ⟨rfl, rfl, rfl, rfl, rfl, trivial⟩)))) ?_
           refine run_ifb rfl rfl (fun hb144 => ?_) (fun hb144 => ?_)
           ·replace hM := ite_t hb144 hM
            refine run_sr ?_
            refine mvR rfl rfl rfl rfl (ltb rfl) ?_
            refine run_ops_nil ?_
            refine run_ret_to ?_
            obtain rfl := some_t hM
            refine fin_x hG rfl rfl rfl (v' := .bool false) (by rfl) ⟨rfl, (show tk ≤ tk138 by omega), _, rfl, rfl⟩
           ·replace hM := ite_f hb144 hM
            refine run_skip ?_
            refine run_sr ?_
            refine mvR rfl rfl rfl rfl (ltb rfl) ?_
            refine run_ops_nil ?_
            refine run_sr ?_
            refine run_ld hG rfl rfl rfl rfl rfl (ltb rfl) ?_
            refine mvL rfl rfl rfl rfl (ltb rfl) ?_
            obtain ⟨r145, hg146, hM⟩ := bind_t hM
            refine run_call rfl rfl rfl (ltb rfl) rfl rfl rfl (fun _ h => absurd h List.not_mem_nil) (w_heldTree_ok n k43 n43 s43 q43 f43 ks102 1 hg146 _ _) (callK_retX (fun v tk147 (hle148 : tk138 ≤ tk147) h149 => ?_))
            subst h149
            refine mvR rfl rfl rfl rfl (ltb rfl) ?_
            refine run_ops_nil ?_
            refine run_seq ?_
            refine run_sr ?_
            refine mvL rfl rfl rfl rfl (ltb rfl) ?_
            refine run_bin rfl rfl rfl rfl rfl rfl rfl (ltb rfl) ?_
            refine run_ops_nil ?_
            refine run_ifd rfl rfl (fun hb152 => ?_) (fun hb152 => ?_)
            ·replace hM := ite_t hb152 hM
             refine run_sr ?_
             refine mvR rfl rfl rfl rfl (ltb rfl) ?_
             refine run_ops_nil ?_
             refine run_ret_to ?_
             obtain rfl := some_t hM
             refine fin_x hG rfl rfl rfl (v' := .bool false) (by rfl) ⟨rfl, (show tk ≤ tk147 by omega), _, rfl, rfl⟩
            ·replace hM := ite_f hb152 hM
             refine run_skip ?_
             refine run_seq ?_
             refine run_sr ?_
             refine mvL rfl rfl rfl rfl (ltb rfl) ?_
             refine mvL rfl rfl rfl rfl (ltb rfl) ?_
             refine run_bin rfl rfl rfl rfl rfl rfl rfl (ltb rfl) ?_
             refine run_ops_nil ?_
             refine run_ifb rfl rfl (fun hb153 => ?_) (fun hb153 => ?_)
             ·replace hM := ite_t hb153 hM
              refine run_sr ?_
              refine mvR rfl rfl rfl rfl (ltb rfl) ?_
              refine run_ops_nil ?_
              refine run_ret_to ?_
              obtain rfl := some_t hM
              refine fin_x hG rfl rfl rfl (v' := .bool false) (by rfl) ⟨rfl, (show tk ≤ tk147 by omega), _, rfl, rfl⟩
             ·replace hM := ite_f hb153 hM
              refine run_skip ?_
              refine run_sr ?_
              refine mvR rfl rfl rfl rfl (ltb rfl) ?_
              refine run_ops_nil ?_
              refine run_ret_to ?_
              obtain rfl := some_t hM
              refine fin_x hG rfl rfl rfl (v' := .bool true) (by rfl) ⟨rfl, (show tk ≤ tk147 by omega), _, rfl, rfl⟩

end Go.Am.Ytiobknkpdkkikaa
