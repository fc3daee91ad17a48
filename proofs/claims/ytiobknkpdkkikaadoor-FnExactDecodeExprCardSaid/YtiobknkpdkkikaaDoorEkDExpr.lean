/- Printed by a program of ours: Lean functions that do what the Go functions do, and the contracts. -/
import Derived.Test.YtiobknkpdkkikaaDoorMl0
import Derived.Test.YtiobknkpdkkikaaDoorMb1
import Derived.Test.YtiobknkpdkkikaaDoorMb3
import Derived.Test.YtiobknkpdkkikaaDoorTypes
import Derived.Test.YtiobknkpdkkikaaDoorMi4
import Derived.Test.YtiobknkpdkkikaaDoorMc1
import Derived.Test.YtiobknkpdkkikaaDoorEkDType
-- packed
namespace Go.Am.YtiobknkpdkkikaaDoor
open Go Go.Am

def i_readExpr : Nat → T → Int → Option (Rz Pf)
 | 0, _, _ => none
 | n + 1, x1, i2 =>
  jn (
   (idx x1.kids 0).bind fun y121 =>
   (idx x1.kids 1).bind fun y126 =>
   (idx y126.kids 0).bind fun y131 =>
   zb (i_readType n y121) fun r136 =>
   zb (i_readExpr n y131 (IntKind.i64.wrap (i2 + 1))) fun r145 =>
   some (.ok (Pf.mk 3 0 [r136] [r145]))) fun j3 =>
  if x1.kind = 5 then
   if ((x1.kids).length : Int) = 0 then
    if x1.n < i2 then
     some (.ok (Pf.mk 1 x1.n [] []))
    else
     if (x1.kind != 6) = true then
      some (.stop 3 0)
     else
      if (((x1.kids).length : Int) != 2) = true then
       some (.stop 3 0)
      else
       if (x1.name.toList == (⟨#[97, 112, 112]⟩ : ByteArray).toList) = true then
        (idx x1.kids 0).bind fun y10 =>
        (idx x1.kids 1).bind fun y15 =>
        zb (i_readExpr n y10 i2) fun r20 =>
        zb (i_readExpr n y15 i2) fun r29 =>
        some (.ok (Pf.mk 2 0 [] [r20, r29]))
       else
        if (!(x1.name.toList == (⟨#[108, 97, 109]⟩ : ByteArray).toList)) = true then
         some (.stop 3 0)
        else
         (idx x1.kids 1).bind fun y39 =>
         if (y39.kind != 4) = true then
          some (.stop 3 0)
         else
          j3
   else
    if (x1.kind != 6) = true then
     some (.stop 3 0)
    else
     if (((x1.kids).length : Int) != 2) = true then
      some (.stop 3 0)
     else
      if (x1.name.toList == (⟨#[97, 112, 112]⟩ : ByteArray).toList) = true then
       (idx x1.kids 0).bind fun y48 =>
       (idx x1.kids 1).bind fun y53 =>
       zb (i_readExpr n y48 i2) fun r58 =>
       zb (i_readExpr n y53 i2) fun r67 =>
       some (.ok (Pf.mk 2 0 [] [r58, r67]))
      else
       if (!(x1.name.toList == (⟨#[108, 97, 109]⟩ : ByteArray).toList)) = true then
        some (.stop 3 0)
       else
        (idx x1.kids 1).bind fun y77 =>
        if (y77.kind != 4) = true then
         some (.stop 3 0)
        else
         j3
  else
   if (x1.kind != 6) = true then
    some (.stop 3 0)
   else
    if (((x1.kids).length : Int) != 2) = true then
     some (.stop 3 0)
    else
     if (x1.name.toList == (⟨#[97, 112, 112]⟩ : ByteArray).toList) = true then
      (idx x1.kids 0).bind fun y86 =>
      (idx x1.kids 1).bind fun y91 =>
      zb (i_readExpr n y86 i2) fun r96 =>
      zb (i_readExpr n y91 i2) fun r105 =>
      some (.ok (Pf.mk 2 0 [] [r96, r105]))
     else
      if (!(x1.name.toList == (⟨#[108, 97, 109]⟩ : ByteArray).toList)) = true then
       some (.stop 3 0)
      else
       (idx x1.kids 1).bind fun y115 =>
       if (y115.kind != 4) = true then
        some (.stop 3 0)
       else
        j3

set_option maxHeartbeats 2000000 in
set_option maxRecDepth 100000 in
theorem i_readExpr_st (n : Nat) (ih_i_readExpr : ∀ (k1 : Int) (n1 : Int) (s1 : ByteArray) (q1 : Nat) (f1 : Bool) (ks1 : List LT) (i2 : Int) {r : (Rz Pf)}, i_readExpr n (T.mk k1 n1 s1 (ers ks1)) i2 = some r → ∀ (O : Heap) (tk : Nat), ACalls Go.Proofs.Tryd.prog 75 [.agg [.int .i64 k1, .int .i64 n1, .str s1, .imm q1 4 f1 (cellss ks1)], .int .i64 i2] O tk (RetZ HT O tk r (fun r v tk' => VP true tk tk' r v))) : ∀ (k1 : Int) (n1 : Int) (s1 : ByteArray) (q1 : Nat) (f1 : Bool) (ks1 : List LT) (i2 : Int) {r : (Rz Pf)}, i_readExpr (n + 1) (T.mk k1 n1 s1 (ers ks1)) i2 = some r → ∀ (O : Heap) (tk : Nat), ACalls Go.Proofs.Tryd.prog 75 [.agg [.int .i64 k1, .int .i64 n1, .str s1, .imm q1 4 f1 (cellss ks1)], .int .i64 i2] O tk (RetZ HT O tk r (fun r v tk' => VP true tk tk' r v)) := by
 intro k1 n1 s1 q1 f1 ks1 i2 r hM O tk
 rw [i_readExpr] at hM
 refine acalls_of_run Go.Proofs.Tryd.func75 rfl rfl [] [] (Bor.nil _) [(0, .agg [.int .i64 k1, .int .i64 n1, .str s1, .imm q1 4 f1 (cellss ks1)]), (1, .int .i64 i2)] (.cons (.agg _) (.cons (entS rfl) (.nil _))) (leb rfl) (fun _ h => by cases h) (fun S0 hO htk hfz => ?_)
 refine run_sr ?_
 refine run_op rfl (box_step (d := 2) rfl rfl rfl rfl rfl) rfl (ltb rfl) ?_
 refine run_op rfl (alloc_step (d := 4) hG rfl rfl rfl) rfl (ltb rfl) ?_
 refine run_ops_nil ?_
 refine run_seq ?_
 refine run_block ?_
 refine run_seq ?_
 obtain ⟨j3, hj164, hM⟩ := jn_t hM
 refine run_cutL [.code _, .code _, .blk 0] (fun σ' => ∃ (tkj3 : Nat), tk ≤ tkj3 ∧ j3 = some r ∧ Sub ⟨Go.Proofs.Tryd.prog, S0, Go.Proofs.Tryd.f75.ntmps, [], fun _ => False, []⟩ σ' ⟨[(1, .int .i64 i2), (2, .optr (.loc 2) 0 0), (4, .optr (.loc 4) 0 0)], [(4, ⟨60, 4, true, [[.int .i64 0, .int .i64 0, .imm 0 3 true [], .imm 0 4 true []]]⟩), (2, ⟨34, 4, true, [[.int .i64 k1, .int .i64 n1, .str s1, .imm q1 4 f1 (cellss ks1)]]⟩)], [], O, tkj3⟩) rfl ?_ ?_
 ·refine run_region ?_
  refine run_pu rfl (fieldAddr_step hG rfl rfl rfl rfl rfl) rfl (ltb rfl) ?_
  refine run_ld hG rfl rfl rfl rfl rfl (ltb rfl) ?_
  refine run_bin rfl rfl rfl rfl rfl rfl rfl (ltb rfl) ?_
  refine mvL rfl rfl rfl rfl (ltb rfl) ?_
  refine run_splitd (i := 9) rfl (fun hb4 => ?_) (fun hb4 => ?_)
  ·replace hM := ite_t hb4 hM
   refine run_puG (on_of rfl rfl rfl rfl) (fieldAddr_step hG rfl rfl rfl rfl rfl) rfl (ltb rfl) ?_
   refine run_rdG (on_of rfl rfl rfl rfl) (aload_rd hG rfl rfl rfl (by first | (simp [ldok]; done) | exact List.not_mem_nil | trivial)) rfl (ltb rfl) ?_
   refine run_puG (on_of rfl rfl rfl rfl) (lenImm_step hG rfl rfl rfl rfl (tlen _)) rfl (ltb rfl) ?_
   refine run_puG (on_of rfl rfl rfl rfl) (abin_step rfl rfl rfl rfl (fun _ h => by cases h)) rfl (ltb rfl) ?_
   refine run_pu rfl (pick_step rfl rfl rfl) rfl (ltb rfl) ?_
   refine mvL rfl rfl rfl rfl (ltb rfl) ?_
   refine run_splitd (i := 15) rfl (fun hb5 => ?_) (fun hb5 => ?_)
   ·replace hM := ite_t hb5 hM
    refine run_puG (on_of rfl rfl rfl rfl) (fieldAddr_step hG rfl rfl rfl rfl rfl) rfl (ltb rfl) ?_
    refine run_rdG (on_of rfl rfl rfl rfl) (aload_rd hG rfl rfl rfl (by first | (simp [ldok]; done) | exact List.not_mem_nil | trivial)) rfl (ltb rfl) ?_
    refine run_puG (on_of rfl rfl rfl rfl) (move_step (.inl rfl) rfl) rfl (ltb rfl) ?_
    refine run_puG (on_of rfl rfl rfl rfl) (abin_step rfl rfl rfl rfl (fun _ h => by cases h)) rfl (ltb rfl) ?_
    refine run_pu rfl (pick_step rfl rfl rfl) rfl (ltb rfl) ?_
    refine mvR rfl rfl rfl rfl (ltb rfl) ?_
    refine run_ops_nil ?_
    refine run_sub_code (σ' := ⟨[(1, .int .i64 i2), (2, .optr (.loc 2) 0 0), (4, .optr (.loc 4) 0 0), (5, .bool (decide (n1 < i2)))], [(4, ⟨60, 4, true, [[.int .i64 0, .int .i64 0, .imm 0 3 true [], .imm 0 4 true []]]⟩), (2, ⟨34, 4, true, [[.int .i64 k1, .int .i64 n1, .str s1, .imm q1 4 f1 (cellss ks1)]]⟩)], [], O, tk⟩) (Sub.env _ ⟨rfl, rfl, rfl, rfl, trivial⟩) ?_
    refine run_ifd rfl rfl (fun hb6 => ?_) (fun hb6 => ?_)
    ·replace hM := ite_t hb6 hM
     refine run_sr ?_
     refine run_pu rfl (fieldAddr_step hG rfl rfl rfl rfl rfl) rfl (ltb rfl) ?_
     refine run_ld hG rfl rfl rfl rfl rfl (ltb rfl) ?_
     refine run_pu rfl (build_step hG rfl (by rfl) rfl (fun h => by cases h) (by rfl)) rfl (ltb rfl) ?_
     refine run_op0 rfl (store_step hG rfl rfl rfl rfl rfl rfl rfl rfl) rfl ?_
     refine run_ops_nil ?_
     refine run_ret_to ?_
     refine cut_ret ?_
     obtain rfl := some_t hM
     refine fin_x hG rfl rfl rfl (v' := .agg [.int .i64 1, .int .i64 n1, .imm 0 3 true (fcellss []), .imm 0 4 true (pcellss [])]) (by rfl) ⟨rfl, (show tk ≤ tk by omega), _, rfl, ⟨1, n1, 0, true, [], 0, true, [], rfl, rfl, fun _ => Fr.nil _ _⟩⟩
    ·replace hM := ite_f hb6 hM
     refine run_sr ?_
     refine run_pu rfl (fieldAddr_step hG rfl rfl rfl rfl rfl) rfl (ltb rfl) ?_
     refine run_ld hG rfl rfl rfl rfl rfl (ltb rfl) ?_
     refine run_bin rfl rfl rfl rfl rfl rfl rfl (ltb rfl) ?_
     refine mvL rfl rfl rfl rfl (ltb rfl) ?_
     refine run_splitb (i := 28) rfl (fun hb7 => ?_) (fun hb7 => ?_)
     ·replace hM := ite_t hb7 hM
      refine run_off (on_of rfl rfl rfl rfl) rfl (ltb rfl) ?_
      refine run_off (on_of rfl rfl rfl rfl) rfl (ltb rfl) ?_
      refine run_off (on_of rfl rfl rfl rfl) rfl (ltb rfl) ?_
      refine run_off (on_of rfl rfl rfl rfl) rfl (ltb rfl) ?_
      refine run_pu rfl (pick_step rfl rfl rfl) rfl (ltb rfl) ?_
      refine mvR rfl rfl rfl rfl (ltb rfl) ?_
      refine run_ops_nil ?_
      refine run_if rfl rfl (fun _ => ?_) (fun h => by cases h)
      refine run_region ?_
      obtain rfl := some_t hM
      exact run_call rfl rfl rfl (ltb rfl) rfl rfl rfl (fun _ h => absurd h List.not_mem_nil) (i_stop_ok 3 0 _ _) (callK_retS (run_pan_at (cut_pan (⟨rfl, (show tk ≤ tk by omega), rfl⟩))))
     ·replace hM := ite_f hb7 hM
      refine run_puG (on_of rfl rfl rfl rfl) (fieldAddr_step hG rfl rfl rfl rfl rfl) rfl (ltb rfl) ?_
      refine run_rdG (on_of rfl rfl rfl rfl) (aload_rd hG rfl rfl rfl (by first | (simp [ldok]; done) | exact List.not_mem_nil | trivial)) rfl (ltb rfl) ?_
      refine run_puG (on_of rfl rfl rfl rfl) (lenImm_step hG rfl rfl rfl rfl (tlen _)) rfl (ltb rfl) ?_
      refine run_puG (on_of rfl rfl rfl rfl) (abin_step rfl rfl rfl rfl (fun _ h => by cases h)) rfl (ltb rfl) ?_
      refine run_pu rfl (pick_step rfl rfl rfl) rfl (ltb rfl) ?_
      refine mvR rfl rfl rfl rfl (ltb rfl) ?_
      refine run_ops_nil ?_
      refine run_ifb rfl rfl (fun hb8 => ?_) (fun hb8 => ?_)
      ·replace hM := ite_t hb8 hM
       refine run_region ?_
       obtain rfl := some_t hM
       exact run_call rfl rfl rfl (ltb rfl) rfl rfl rfl (fun _ h => absurd h List.not_mem_nil) (i_stop_ok 3 0 _ _) (callK_retS (run_pan_at (cut_pan (⟨rfl, (show tk ≤ tk by omega), rfl⟩))))
      ·replace hM := ite_f hb8 hM
       refine run_sr ?_
       refine run_pu rfl (fieldAddr_step hG rfl rfl rfl rfl rfl) rfl (ltb rfl) ?_
       refine run_ld hG rfl rfl rfl rfl rfl (ltb rfl) ?_
       refine run_bin rfl rfl rfl rfl rfl rfl rfl (ltb rfl) ?_
       refine mvR rfl rfl rfl rfl (ltb rfl) ?_
       refine run_ops_nil ?_
       refine run_sub_code (σ' := ⟨[(1, .int .i64 i2), (2, .optr (.loc 2) 0 0), (4, .optr (.loc 4) 0 0), (35, .bool (s1.toList == (⟨#[97, 112, 112]⟩ : ByteArray).toList))], [(4, ⟨60, 4, true, [[.int .i64 0, .int .i64 0, .imm 0 3 true [], .imm 0 4 true []]]⟩), (2, ⟨34, 4, true, [[.int .i64 k1, .int .i64 n1, .str s1, .imm q1 4 f1 (cellss ks1)]]⟩)], [], O, tk⟩) (Sub.env _ ⟨rfl, rfl, rfl, rfl, trivial⟩) ?_
       refine run_ifb rfl rfl (fun hb9 => ?_) (fun hb9 => ?_)
       ·replace hM := ite_t hb9 hM
        refine run_seq ?_
        refine run_draw [.loc 4] (n := 15) mixed rfl (by intro x hx; simp only [List.mem_cons, List.not_mem_nil, or_false] at hx; rcases hx with rfl <;> rfl) ?_
        refine AAny.take (i := 0) rfl (by kernel_rfl) (by kernel_rfl) (by kernel_rfl) rfl rfl (ltb rfl) ((fieldAddr_step hG rfl rfl rfl rfl rfl).rd _) ?_
        refine AAny.take (i := 1) rfl (by kernel_rfl) (by kernel_rfl) (by kernel_rfl) rfl rfl (ltb rfl) (aload_rd hG rfl rfl rfl (by first | (simp [ldok]; done) | exact List.not_mem_nil | trivial)) ?_
        obtain ⟨y10, hy11, hM⟩ := bind_t hM
        obtain ⟨k12, n12, s12, q12, f12, ks12, rfl, hc13, hi14⟩ := tidx (ks := ks1) hy11
        refine AAny.take (i := 2) rfl (by kernel_rfl) (by kernel_rfl) (by kernel_rfl) rfl rfl (ltb rfl) ((indexImm_step hG rfl rfl rfl hi14 rfl rfl rfl rfl hc13).rd _) ?_
        refine AAny.take (i := 3) rfl (by kernel_rfl) (by kernel_rfl) (by kernel_rfl) rfl rfl (ltb rfl) (aload_rd hG rfl rfl rfl (by first | (simp [ldok]; done) | exact List.not_mem_nil | trivial)) ?_
        refine AAny.take (i := 4) rfl (by kernel_rfl) (by kernel_rfl) (by kernel_rfl) rfl rfl (ltb rfl) ((move_step (.inl rfl) rfl).rd _) ?_
        refine AAny.take (i := 6) rfl (by kernel_rfl) (by kernel_rfl) (by kernel_rfl) rfl rfl (ltb rfl) ((fieldAddr_step hG rfl rfl rfl rfl rfl).rd _) ?_
        refine AAny.take (i := 7) rfl (by kernel_rfl) (by kernel_rfl) (by kernel_rfl) rfl rfl (ltb rfl) (aload_rd hG rfl rfl rfl (by first | (simp [ldok]; done) | exact List.not_mem_nil | trivial)) ?_
        obtain ⟨y15, hy16, hM⟩ := bind_t hM
        obtain ⟨k17, n17, s17, q17, f17, ks17, rfl, hc18, hi19⟩ := tidx (ks := ks1) hy16
        refine AAny.take (i := 8) rfl (by kernel_rfl) (by kernel_rfl) (by kernel_rfl) rfl rfl (ltb rfl) ((indexImm_step hG rfl rfl rfl hi19 rfl rfl rfl rfl hc18).rd _) ?_
        refine AAny.take (i := 9) rfl (by kernel_rfl) (by kernel_rfl) (by kernel_rfl) rfl rfl (ltb rfl) (aload_rd hG rfl rfl rfl (by first | (simp [ldok]; done) | exact List.not_mem_nil | trivial)) ?_
        refine AAny.take (i := 10) rfl (by kernel_rfl) (by kernel_rfl) (by kernel_rfl) rfl rfl (ltb rfl) ((move_step (.inl rfl) rfl).rd _) ?_
        obtain ⟨z25, hg21, hM⟩ := zb_t hM
        refine AAny.one (i := 5) (by kernel_rfl) (AOp.call rfl rfl rfl rfl (ltb rfl) rfl rfl rfl (fun _ h => absurd h List.not_mem_nil) (fun _ h => absurd h List.not_mem_nil) (ih_i_readExpr k12 n12 s12 q12 f12 ks12 i2 hg21 _ _) (callK_retZ (fun r20 v tk22 hz28 (hle23 : tk ≤ tk22) h24 => ?_) (fun c p tk22 hz (_ : tk ≤ tk22) => by subst hz; obtain rfl := bd_stop hM; exact run_pan_at (cut_pan (⟨rfl, (show tk ≤ tk22 by omega), rfl⟩)))))
        subst hz28
        replace hM := bd_ok hM
        obtain ⟨k26, n26, p26, e26, fs26, q26, f26, ks26, rfl, rfl, hf27⟩ := h24
        obtain ⟨z34, hg30, hM⟩ := zb_t hM
        refine AAny.one (i := 11) (by kernel_rfl) (AOp.call rfl rfl rfl rfl (ltb rfl) rfl rfl rfl (fun _ h => absurd h List.not_mem_nil) (fun _ h => absurd h List.not_mem_nil) (ih_i_readExpr k17 n17 s17 q17 f17 ks17 i2 hg30 _ _) (callK_retZ (fun r29 v tk31 hz37 (hle32 : tk22 ≤ tk31) h33 => ?_) (fun c p tk31 hz (_ : tk22 ≤ tk31) => by subst hz; obtain rfl := bd_stop hM; exact run_pan_at (cut_pan (⟨rfl, (show tk ≤ tk31 by omega), rfl⟩)))))
        subst hz37
        replace hM := bd_ok hM
        obtain ⟨k35, n35, p35, e35, fs35, q35, f35, ks35, rfl, rfl, hf36⟩ := h33
        refine AAny.one (i := 12) (by kernel_rfl) (AOp.step rfl rfl rfl (ltb rfl) (buildSlice_step (d := 51) hG rfl rfl rfl rfl rfl (by rfl) (by rfl) (by rfl) (by decide)) (fun _ h => absurd h List.not_mem_nil) ?_)
        refine AAny.take (i := 13) rfl (by kernel_rfl) (by kernel_rfl) (by kernel_rfl) rfl rfl (ltb rfl) ((build_step hG rfl (by rfl) rfl (fun h => by cases h) (by rfl)).rd _) ?_
        refine AAny.one (i := 14) (by kernel_rfl) (AOp.step0 rfl rfl rfl (store_step hG rfl rfl rfl rfl rfl rfl rfl rfl) (by intro x hx; exact hx) ?_)
        refine AAny.done (by kernel_rfl) ?_
        refine run_ret_to ?_
        refine cut_ret ?_
        refine fin_sub (Sub.freeze (k := 51) rfl rfl) ?_
        obtain rfl := some_t hM
        refine fin_x hG rfl rfl rfl (v' := .agg [.int .i64 2, .int .i64 0, .imm 0 3 true (fcellss []), .imm tk31 4 false (pcellss [LP.mk k26 n26 p26 e26 fs26 q26 f26 ks26, LP.mk k35 n35 p35 e35 fs35 q35 f35 ks35])]) (by rfl) ⟨rfl, (show tk ≤ (tk31 + 1) by omega), _, rfl, ⟨2, 0, 0, true, [], tk31, false, [LP.mk k26 n26 p26 e26 fs26 q26 f26 ks26, LP.mk k35 n35 p35 e35 fs35 q35 f35 ks35], rfl, rfl, fun _ => (show Fr tk (tk31 + 1) _ from (Fr.app (show Fr tk tk _ from Fr.nil _ _) (show Fr tk (tk31 + 1) _ from Fr.pstop (show Fr tk tk31 _ from (Fr.pcons (show Fr tk tk22 _ from ((show Fr tk tk22 _ from hf27 rfl)).mono (by omega) (by omega)) (Fr.pcons ((show Fr tk22 tk31 _ from hf36 rfl)) (show Fr tk31 tk31 _ from Fr.nil _ _) (by omega) (by omega)) (by omega) (by omega)).mono (by omega) (by omega)) (by omega) (by omega)) (by omega) (by omega)).mono (by omega) (by omega))⟩⟩
       ·replace hM := ite_f hb9 hM
        refine run_sr ?_
        refine run_pu rfl (fieldAddr_step hG rfl rfl rfl rfl rfl) rfl (ltb rfl) ?_
        refine run_ld hG rfl rfl rfl rfl rfl (ltb rfl) ?_
        refine run_bin rfl rfl rfl rfl rfl rfl rfl (ltb rfl) ?_
        refine mvL rfl rfl rfl rfl (ltb rfl) ?_
        refine run_splitb (i := 57) rfl (fun hb38 => ?_) (fun hb38 => ?_)
        ·replace hM := ite_t hb38 hM
         refine run_off (on_of rfl rfl rfl rfl) rfl (ltb rfl) ?_
         refine run_off (on_of rfl rfl rfl rfl) rfl (ltb rfl) ?_
         refine run_off (on_of rfl rfl rfl rfl) rfl (ltb rfl) ?_
         refine run_off (on_of rfl rfl rfl rfl) rfl (ltb rfl) ?_
         refine run_off (on_of rfl rfl rfl rfl) rfl (ltb rfl) ?_
         refine run_off (on_of rfl rfl rfl rfl) rfl (ltb rfl) ?_
         refine run_pu rfl (pick_step rfl rfl rfl) rfl (ltb rfl) ?_
         refine mvR rfl rfl rfl rfl (ltb rfl) ?_
         refine run_ops_nil ?_
         refine run_if rfl rfl (fun _ => ?_) (fun h => by cases h)
         refine run_region ?_
         obtain rfl := some_t hM
         exact run_call rfl rfl rfl (ltb rfl) rfl rfl rfl (fun _ h => absurd h List.not_mem_nil) (i_stop_ok 3 0 _ _) (callK_retS (run_pan_at (cut_pan (⟨rfl, (show tk ≤ tk by omega), rfl⟩))))
        ·replace hM := ite_f hb38 hM
         refine run_puG (on_of rfl rfl rfl rfl) (fieldAddr_step hG rfl rfl rfl rfl rfl) rfl (ltb rfl) ?_
         refine run_rdG (on_of rfl rfl rfl rfl) (aload_rd hG rfl rfl rfl (by first | (simp [ldok]; done) | exact List.not_mem_nil | trivial)) rfl (ltb rfl) ?_
         obtain ⟨y39, hy40, hM⟩ := bind_t hM
         obtain ⟨k41, n41, s41, q41, f41, ks41, rfl, hc42, hi43⟩ := tidx (ks := ks1) hy40
         refine run_puG (on_of rfl rfl rfl rfl) (indexImm_step hG rfl rfl rfl hi43 rfl rfl rfl rfl hc42) rfl (ltb rfl) ?_
         refine run_puG (on_of rfl rfl rfl rfl) (fieldAddr_step hG rfl rfl rfl rfl rfl) rfl (ltb rfl) ?_
         refine run_rdG (on_of rfl rfl rfl rfl) (aload_rd hG rfl rfl rfl (by first | (simp [ldok]; done) | exact List.not_mem_nil | trivial)) rfl (ltb rfl) ?_
         refine run_puG (on_of rfl rfl rfl rfl) (abin_step rfl rfl rfl rfl (fun _ h => by cases h)) rfl (ltb rfl) ?_
         refine run_pu rfl (pick_step rfl rfl rfl) rfl (ltb rfl) ?_
         refine mvR rfl rfl rfl rfl (ltb rfl) ?_
         refine run_ops_nil ?_
         refine run_ifb rfl rfl (fun hb44 => ?_) (fun hb44 => ?_)
         ·replace hM := ite_t hb44 hM
          refine run_region ?_
          obtain rfl := some_t hM
          exact run_call rfl rfl rfl (ltb rfl) rfl rfl rfl (fun _ h => absurd h List.not_mem_nil) (i_stop_ok 3 0 _ _) (callK_retS (run_pan_at (cut_pan (⟨rfl, (show tk ≤ tk by omega), rfl⟩))))
         ·replace hM := ite_f hb44 hM
          refine run_skip ?_
          refine run_blk ?_
          exact ⟨tk, (show tk ≤ tk by omega), hM, Sub.env [(1, .int .i64 i2), (2, .optr (.loc 2) 0 0), (4, .optr (.loc 4) 0 0)] ⟨rfl, rfl, rfl, trivial⟩⟩
   ·replace hM := ite_f hb5 hM
    refine run_off (on_of rfl rfl rfl rfl) rfl (ltb rfl) ?_
    refine run_off (on_of rfl rfl rfl rfl) rfl (ltb rfl) ?_
    refine run_off (on_of rfl rfl rfl rfl) rfl (ltb rfl) ?_
    refine run_off (on_of rfl rfl rfl rfl) rfl (ltb rfl) ?_
    refine run_pu rfl (pick_step rfl rfl rfl) rfl (ltb rfl) ?_
    refine mvR rfl rfl rfl rfl (ltb rfl) ?_
    refine run_ops_nil ?_
    refine run_sub_code (σ' := ⟨[(1, .int .i64 i2), (2, .optr (.loc 2) 0 0), (4, .optr (.loc 4) 0 0), (5, .bool false)], [(4, ⟨60, 4, true, [[.int .i64 0, .int .i64 0, .imm 0 3 true [], .imm 0 4 true []]]⟩), (2, ⟨34, 4, true, [[.int .i64 k1, .int .i64 n1, .str s1, .imm q1 4 f1 (cellss ks1)]]⟩)], [], O, tk⟩) (Sub.env _ ⟨rfl, rfl, rfl, rfl, trivial⟩) ?_
    refine run_if rfl rfl (fun h => by cases h) (fun _ => ?_)
    refine run_sr ?_
    refine run_pu rfl (fieldAddr_step hG rfl rfl rfl rfl rfl) rfl (ltb rfl) ?_
    refine run_ld hG rfl rfl rfl rfl rfl (ltb rfl) ?_
    refine run_bin rfl rfl rfl rfl rfl rfl rfl (ltb rfl) ?_
    refine mvL rfl rfl rfl rfl (ltb rfl) ?_
    refine run_splitb (i := 28) rfl (fun hb45 => ?_) (fun hb45 => ?_)
    ·replace hM := ite_t hb45 hM
     refine run_off (on_of rfl rfl rfl rfl) rfl (ltb rfl) ?_
     refine run_off (on_of rfl rfl rfl rfl) rfl (ltb rfl) ?_
     refine run_off (on_of rfl rfl rfl rfl) rfl (ltb rfl) ?_
     refine run_off (on_of rfl rfl rfl rfl) rfl (ltb rfl) ?_
     refine run_pu rfl (pick_step rfl rfl rfl) rfl (ltb rfl) ?_
     refine mvR rfl rfl rfl rfl (ltb rfl) ?_
     refine run_ops_nil ?_
     refine run_if rfl rfl (fun _ => ?_) (fun h => by cases h)
     refine run_region ?_
     obtain rfl := some_t hM
     exact run_call rfl rfl rfl (ltb rfl) rfl rfl rfl (fun _ h => absurd h List.not_mem_nil) (i_stop_ok 3 0 _ _) (callK_retS (run_pan_at (cut_pan (⟨rfl, (show tk ≤ tk by omega), rfl⟩))))
    ·replace hM := ite_f hb45 hM
     refine run_puG (on_of rfl rfl rfl rfl) (fieldAddr_step hG rfl rfl rfl rfl rfl) rfl (ltb rfl) ?_
     refine run_rdG (on_of rfl rfl rfl rfl) (aload_rd hG rfl rfl rfl (by first | (simp [ldok]; done) | exact List.not_mem_nil | trivial)) rfl (ltb rfl) ?_
     refine run_puG (on_of rfl rfl rfl rfl) (lenImm_step hG rfl rfl rfl rfl (tlen _)) rfl (ltb rfl) ?_
     refine run_puG (on_of rfl rfl rfl rfl) (abin_step rfl rfl rfl rfl (fun _ h => by cases h)) rfl (ltb rfl) ?_
     refine run_pu rfl (pick_step rfl rfl rfl) rfl (ltb rfl) ?_
     refine mvR rfl rfl rfl rfl (ltb rfl) ?_
     refine run_ops_nil ?_
     refine run_ifb rfl rfl (fun hb46 => ?_) (fun hb46 => ?_)
     ·replace hM := ite_t hb46 hM
      refine run_region ?_
      obtain rfl := some_t hM
      exact run_call rfl rfl rfl (ltb rfl) rfl rfl rfl (fun _ h => absurd h List.not_mem_nil) (i_stop_ok 3 0 _ _) (callK_retS (run_pan_at (cut_pan (⟨rfl, (show tk ≤ tk by omega), rfl⟩))))
     ·replace hM := ite_f hb46 hM
      refine run_sr ?_
      refine run_pu rfl (fieldAddr_step hG rfl rfl rfl rfl rfl) rfl (ltb rfl) ?_
      refine run_ld hG rfl rfl rfl rfl rfl (ltb rfl) ?_
      refine run_bin rfl rfl rfl rfl rfl rfl rfl (ltb rfl) ?_
      refine mvR rfl rfl rfl rfl (ltb rfl) ?_
      refine run_ops_nil ?_
      refine run_sub_code (σ' := ⟨[(1, .int .i64 i2), (2, .optr (.loc 2) 0 0), (4, .optr (.loc 4) 0 0), (35, .bool (s1.toList == (⟨#[97, 112, 112]⟩ : ByteArray).toList))], [(4, ⟨60, 4, true, [[.int .i64 0, .int .i64 0, .imm 0 3 true [], .imm 0 4 true []]]⟩), (2, ⟨34, 4, true, [[.int .i64 k1, .int .i64 n1, .str s1, .imm q1 4 f1 (cellss ks1)]]⟩)], [], O, tk⟩) (Sub.env _ ⟨rfl, rfl, rfl, rfl, trivial⟩) ?_
      refine run_ifb rfl rfl (fun hb47 => ?_) (fun hb47 => ?_)
      ·replace hM := ite_t hb47 hM
       refine run_seq ?_
       refine run_draw [.loc 4] (n := 15) mixed rfl (by intro x hx; simp only [List.mem_cons, List.not_mem_nil, or_false] at hx; rcases hx with rfl <;> rfl) ?_
       refine AAny.take (i := 0) rfl (by kernel_rfl) (by kernel_rfl) (by kernel_rfl) rfl rfl (ltb rfl) ((fieldAddr_step hG rfl rfl rfl rfl rfl).rd _) ?_
       refine AAny.take (i := 1) rfl (by kernel_rfl) (by kernel_rfl) (by kernel_rfl) rfl rfl (ltb rfl) (aload_rd hG rfl rfl rfl (by first | (simp [ldok]; done) | exact List.not_mem_nil | trivial)) ?_
       obtain ⟨y48, hy49, hM⟩ := bind_t hM
       obtain ⟨k50, n50, s50, q50, f50, ks50, rfl, hc51, hi52⟩ := tidx (ks := ks1) hy49
       refine AAny.take (i := 2) rfl (by kernel_rfl) (by kernel_rfl) (by kernel_rfl) rfl rfl (ltb rfl) ((indexImm_step hG rfl rfl rfl hi52 rfl rfl rfl rfl hc51).rd _) ?_
       refine AAny.take (i := 3) rfl (by kernel_rfl) (by kernel_rfl) (by kernel_rfl) rfl rfl (ltb rfl) (aload_rd hG rfl rfl rfl (by first | (simp [ldok]; done) | exact List.not_mem_nil | trivial)) ?_
       refine AAny.take (i := 4) rfl (by kernel_rfl) (by kernel_rfl) (by kernel_rfl) rfl rfl (ltb rfl) ((move_step (.inl rfl) rfl).rd _) ?_
       refine AAny.take (i := 6) rfl (by kernel_rfl) (by kernel_rfl) (by kernel_rfl) rfl rfl (ltb rfl) ((fieldAddr_step hG rfl rfl rfl rfl rfl).rd _) ?_
       refine AAny.take (i := 7) rfl (by kernel_rfl) (by kernel_rfl) (by kernel_rfl) rfl rfl (ltb rfl) (aload_rd hG rfl rfl rfl (by first | (simp [ldok]; done) | exact List.not_mem_nil | trivial)) ?_
       obtain ⟨y53, hy54, hM⟩ := bind_t hM
       obtain ⟨k55, n55, s55, q55, f55, ks55, rfl, hc56, hi57⟩ := tidx (ks := ks1) hy54
       refine AAny.take (i := 8) rfl (by kernel_rfl) (by kernel_rfl) (by kernel_rfl) rfl rfl (ltb rfl) ((indexImm_step hG rfl rfl rfl hi57 rfl rfl rfl rfl hc56).rd _) ?_
       refine AAny.take (i := 9) rfl (by kernel_rfl) (by kernel_rfl) (by kernel_rfl) rfl rfl (ltb rfl) (aload_rd hG rfl rfl rfl (by first | (simp [ldok]; done) | exact List.not_mem_nil | trivial)) ?_
       refine AAny.take (i := 10) rfl (by kernel_rfl) (by kernel_rfl) (by kernel_rfl) rfl rfl (ltb rfl) ((move_step (.inl rfl) rfl).rd _) ?_
       obtain ⟨z63, hg59, hM⟩ := zb_t hM
       refine AAny.one (i := 5) (by kernel_rfl) (AOp.call rfl rfl rfl rfl (ltb rfl) rfl rfl rfl (fun _ h => absurd h List.not_mem_nil) (fun _ h => absurd h List.not_mem_nil) (ih_i_readExpr k50 n50 s50 q50 f50 ks50 i2 hg59 _ _) (callK_retZ (fun r58 v tk60 hz66 (hle61 : tk ≤ tk60) h62 => ?_) (fun c p tk60 hz (_ : tk ≤ tk60) => by subst hz; obtain rfl := bd_stop hM; exact run_pan_at (cut_pan (⟨rfl, (show tk ≤ tk60 by omega), rfl⟩)))))
       subst hz66
       replace hM := bd_ok hM
       obtain ⟨k64, n64, p64, e64, fs64, q64, f64, ks64, rfl, rfl, hf65⟩ := h62
       obtain ⟨z72, hg68, hM⟩ := zb_t hM
       refine AAny.one (i := 11) (by kernel_rfl) (AOp.call rfl rfl rfl rfl (ltb rfl) rfl rfl rfl (fun _ h => absurd h List.not_mem_nil) (fun _ h => absurd h List.not_mem_nil) (ih_i_readExpr k55 n55 s55 q55 f55 ks55 i2 hg68 _ _) (callK_retZ (fun r67 v tk69 hz75 (hle70 : tk60 ≤ tk69) h71 => ?_) (fun c p tk69 hz (_ : tk60 ≤ tk69) => by subst hz; obtain rfl := bd_stop hM; exact run_pan_at (cut_pan (⟨rfl, (show tk ≤ tk69 by omega), rfl⟩)))))
       subst hz75
       replace hM := bd_ok hM
       obtain ⟨k73, n73, p73, e73, fs73, q73, f73, ks73, rfl, rfl, hf74⟩ := h71
       refine AAny.one (i := 12) (by kernel_rfl) (AOp.step rfl rfl rfl (ltb rfl) (buildSlice_step (d := 51) hG rfl rfl rfl rfl rfl (by rfl) (by rfl) (by rfl) (by decide)) (fun _ h => absurd h List.not_mem_nil) ?_)
       refine AAny.take (i := 13) rfl (by kernel_rfl) (by kernel_rfl) (by kernel_rfl) rfl rfl (ltb rfl) ((build_step hG rfl (by rfl) rfl (fun h => by cases h) (by rfl)).rd _) ?_
       refine AAny.one (i := 14) (by kernel_rfl) (AOp.step0 rfl rfl rfl (store_step hG rfl rfl rfl rfl rfl rfl rfl rfl) (by intro x hx; exact hx) ?_)
       refine AAny.done (by kernel_rfl) ?_
       refine run_ret_to ?_
       refine cut_ret ?_
       refine fin_sub (Sub.freeze (k := 51) rfl rfl) ?_
       obtain rfl := some_t hM
       refine fin_x hG rfl rfl rfl (v' := .agg [.int .i64 2, .int .i64 0, .imm 0 3 true (fcellss []), .imm tk69 4 false (pcellss [LP.mk k64 n64 p64 e64 fs64 q64 f64 ks64, LP.mk k73 n73 p73 e73 fs73 q73 f73 ks73])]) (by rfl) ⟨rfl, (show tk ≤ (tk69 + 1) by omega), _, rfl, ⟨2, 0, 0, true, [], tk69, false, [LP.mk k64 n64 p64 e64 fs64 q64 f64 ks64, LP.mk k73 n73 p73 e73 fs73 q73 f73 ks73], rfl, rfl, fun _ => (show Fr tk (tk69 + 1) _ from (Fr.app (show Fr tk tk _ from Fr.nil _ _) (show Fr tk (tk69 + 1) _ from Fr.pstop (show Fr tk tk69 _ from (Fr.pcons (show Fr tk tk60 _ from ((show Fr tk tk60 _ from hf65 rfl)).mono (by omega) (by omega)) (Fr.pcons ((show Fr tk60 tk69 _ from hf74 rfl)) (show Fr tk69 tk69 _ from Fr.nil _ _) (by omega) (by omega)) (by omega) (by omega)).mono (by omega) (by omega)) (by omega) (by omega)) (by omega) (by omega)).mono (by omega) (by omega))⟩⟩
      ·replace hM := ite_f hb47 hM
       refine run_sr ?_
       refine run_pu rfl (fieldAddr_step hG rfl rfl rfl rfl rfl) rfl (ltb rfl) ?_
       refine run_ld hG rfl rfl rfl rfl rfl (ltb rfl) ?_
       refine run_bin rfl rfl rfl rfl rfl rfl rfl (ltb rfl) ?_
       refine mvL rfl rfl rfl rfl (ltb rfl) ?_
       refine run_splitb (i := 57) rfl (fun hb76 => ?_) (fun hb76 => ?_)
       ·replace hM := ite_t hb76 hM
        refine run_off (on_of rfl rfl rfl rfl) rfl (ltb rfl) ?_
        refine run_off (on_of rfl rfl rfl rfl) rfl (ltb rfl) ?_
        refine run_off (on_of rfl rfl rfl rfl) rfl (ltb rfl) ?_
        refine run_off (on_of rfl rfl rfl rfl) rfl (ltb rfl) ?_
        refine run_off (on_of rfl rfl rfl rfl) rfl (ltb rfl) ?_
        refine run_off (on_of rfl rfl rfl rfl) rfl (ltb rfl) ?_
        refine run_pu rfl (pick_step rfl rfl rfl) rfl (ltb rfl) ?_
        refine mvR rfl rfl rfl rfl (ltb rfl) ?_
        refine run_ops_nil ?_
        refine run_if rfl rfl (fun _ => ?_) (fun h => by cases h)
        refine run_region ?_
        obtain rfl := some_t hM
        exact run_call rfl rfl rfl (ltb rfl) rfl rfl rfl (fun _ h => absurd h List.not_mem_nil) (i_stop_ok 3 0 _ _) (callK_retS (run_pan_at (cut_pan (⟨rfl, (show tk ≤ tk by omega), rfl⟩))))
       ·replace hM := ite_f hb76 hM
        refine run_puG (on_of rfl rfl rfl rfl) (fieldAddr_step hG rfl rfl rfl rfl rfl) rfl (ltb rfl) ?_
        refine run_rdG (on_of rfl rfl rfl rfl) (aload_rd hG rfl rfl rfl (by first | (simp [ldok]; done) | exact List.not_mem_nil | trivial)) rfl (ltb rfl) ?_
        obtain ⟨y77, hy78, hM⟩ := bind_t hM
        obtain ⟨k79, n79, s79, q79, f79, ks79, rfl, hc80, hi81⟩ := tidx (ks := ks1) hy78
        refine run_puG (on_of rfl rfl rfl rfl) (indexImm_step hG rfl rfl rfl hi81 rfl rfl rfl rfl hc80) rfl (ltb rfl) ?_
        refine run_puG (on_of rfl rfl rfl rfl) (fieldAddr_step hG rfl rfl rfl rfl rfl) rfl (ltb rfl) ?_
        refine run_rdG (on_of rfl rfl rfl rfl) (aload_rd hG rfl rfl rfl (by first | (simp [ldok]; done) | exact List.not_mem_nil | trivial)) rfl (ltb rfl) ?_
        refine run_puG (on_of rfl rfl rfl rfl) (abin_step rfl rfl rfl rfl (fun _ h => by cases h)) rfl (ltb rfl) ?_
        refine run_pu rfl (pick_step rfl rfl rfl) rfl (ltb rfl) ?_
        refine mvR rfl rfl rfl rfl (ltb rfl) ?_
        refine run_ops_nil ?_
        refine run_ifb rfl rfl (fun hb82 => ?_) (fun hb82 => ?_)
        ·replace hM := ite_t hb82 hM
         refine run_region ?_
         obtain rfl := some_t hM
         exact run_call rfl rfl rfl (ltb rfl) rfl rfl rfl (fun _ h => absurd h List.not_mem_nil) (i_stop_ok 3 0 _ _) (callK_retS (run_pan_at (cut_pan (⟨rfl, (show tk ≤ tk by omega), rfl⟩))))
        ·replace hM := ite_f hb82 hM
         refine run_skip ?_
         refine run_blk ?_
         exact ⟨tk, (show tk ≤ tk by omega), hM, Sub.env [(1, .int .i64 i2), (2, .optr (.loc 2) 0 0), (4, .optr (.loc 4) 0 0)] ⟨rfl, rfl, rfl, trivial⟩⟩
  ·replace hM := ite_f hb4 hM
   refine run_off (on_of rfl rfl rfl rfl) rfl (ltb rfl) ?_
   refine run_off (on_of rfl rfl rfl rfl) rfl (ltb rfl) ?_
   refine run_off (on_of rfl rfl rfl rfl) rfl (ltb rfl) ?_
   refine run_off (on_of rfl rfl rfl rfl) rfl (ltb rfl) ?_
   refine run_pu rfl (pick_step rfl rfl rfl) rfl (ltb rfl) ?_
   refine mvL rfl rfl rfl rfl (ltb rfl) ?_
   refine run_off (on_of rfl rfl rfl rfl) rfl (ltb rfl) ?_
   refine run_off (on_of rfl rfl rfl rfl) rfl (ltb rfl) ?_
   refine run_off (on_of rfl rfl rfl rfl) rfl (ltb rfl) ?_
   refine run_off (on_of rfl rfl rfl rfl) rfl (ltb rfl) ?_
   refine run_pu rfl (pick_step rfl rfl rfl) rfl (ltb rfl) ?_
   refine mvR rfl rfl rfl rfl (ltb rfl) ?_
   refine run_ops_nil ?_
   refine run_if rfl rfl (fun h => by cases h) (fun _ => ?_)
   refine run_sr ?_
   refine run_pu rfl (fieldAddr_step hG rfl rfl rfl rfl rfl) rfl (ltb rfl) ?_
   refine run_ld hG rfl rfl rfl rfl rfl (ltb rfl) ?_
   refine run_bin rfl rfl rfl rfl rfl rfl rfl (ltb rfl) ?_
   refine mvL rfl rfl rfl rfl (ltb rfl) ?_
   refine run_splitb (i := 28) rfl (fun hb83 => ?_) (fun hb83 => ?_)
   ·replace hM := ite_t hb83 hM
    refine run_off (on_of rfl rfl rfl rfl) rfl (ltb rfl) ?_
    refine run_off (on_of rfl rfl rfl rfl) rfl (ltb rfl) ?_
    refine run_off (on_of rfl rfl rfl rfl) rfl (ltb rfl) ?_
    refine run_off (on_of rfl rfl rfl rfl) rfl (ltb rfl) ?_
    refine run_pu rfl (pick_step rfl rfl rfl) rfl (ltb rfl) ?_
    refine mvR rfl rfl rfl rfl (ltb rfl) ?_
    refine run_ops_nil ?_
    refine run_sub_code (σ' := ⟨[(1, .int .i64 i2), (2, .optr (.loc 2) 0 0), (4, .optr (.loc 4) 0 0), (24, .bool true)], [(4, ⟨60, 4, true, [[.int .i64 0, .int .i64 0, .imm 0 3 true [], .imm 0 4 true []]]⟩), (2, ⟨34, 4, true, [[.int .i64 k1, .int .i64 n1, .str s1, .imm q1 4 f1 (cellss ks1)]]⟩)], [], O, tk⟩) (Sub.env _ ⟨rfl, rfl, rfl, rfl, trivial⟩) ?_
    refine run_if rfl rfl (fun _ => ?_) (fun h => by cases h)
    refine run_region ?_
    obtain rfl := some_t hM
    exact run_call rfl rfl rfl (ltb rfl) rfl rfl rfl (fun _ h => absurd h List.not_mem_nil) (i_stop_ok 3 0 _ _) (callK_retS (run_pan_at (cut_pan (⟨rfl, (show tk ≤ tk by omega), rfl⟩))))
   ·replace hM := ite_f hb83 hM
    refine run_puG (on_of rfl rfl rfl rfl) (fieldAddr_step hG rfl rfl rfl rfl rfl) rfl (ltb rfl) ?_
    refine run_rdG (on_of rfl rfl rfl rfl) (aload_rd hG rfl rfl rfl (by first | (simp [ldok]; done) | exact List.not_mem_nil | trivial)) rfl (ltb rfl) ?_
    refine run_puG (on_of rfl rfl rfl rfl) (lenImm_step hG rfl rfl rfl rfl (tlen _)) rfl (ltb rfl) ?_
    refine run_puG (on_of rfl rfl rfl rfl) (abin_step rfl rfl rfl rfl (fun _ h => by cases h)) rfl (ltb rfl) ?_
    refine run_pu rfl (pick_step rfl rfl rfl) rfl (ltb rfl) ?_
    refine mvR rfl rfl rfl rfl (ltb rfl) ?_
    refine run_ops_nil ?_
    refine run_sub_code (σ' := ⟨[(1, .int .i64 i2), (2, .optr (.loc 2) 0 0), (4, .optr (.loc 4) 0 0), (24, .bool ((((ers ks1)).length : Int) != 2))], [(4, ⟨60, 4, true, [[.int .i64 0, .int .i64 0, .imm 0 3 true [], .imm 0 4 true []]]⟩), (2, ⟨34, 4, true, [[.int .i64 k1, .int .i64 n1, .str s1, .imm q1 4 f1 (cellss ks1)]]⟩)], [], O, tk⟩) (Sub.env _ ⟨rfl, rfl, rfl, rfl, trivial⟩) ?_
    refine run_ifb rfl rfl (fun hb84 => ?_) (fun hb84 => ?_)
    ·replace hM := ite_t hb84 hM
     refine run_region ?_
     obtain rfl := some_t hM
     exact run_call rfl rfl rfl (ltb rfl) rfl rfl rfl (fun _ h => absurd h List.not_mem_nil) (i_stop_ok 3 0 _ _) (callK_retS (run_pan_at (cut_pan (⟨rfl, (show tk ≤ tk by omega), rfl⟩))))
    ·replace hM := ite_f hb84 hM
     refine run_sr ?_
     refine run_pu rfl (fieldAddr_step hG rfl rfl rfl rfl rfl) rfl (ltb rfl) ?_
     refine run_ld hG rfl rfl rfl rfl rfl (ltb rfl) ?_
     refine run_bin rfl rfl rfl rfl rfl rfl rfl (ltb rfl) ?_
     refine mvR rfl rfl rfl rfl (ltb rfl) ?_
     refine run_ops_nil ?_
     refine run_ifb rfl rfl (fun hb85 => ?_) (fun hb85 => ?_)
     ·replace hM := ite_t hb85 hM
      refine run_seq ?_
      refine run_draw [.loc 4] (n := 15) mixed rfl (by intro x hx; simp only [List.mem_cons, List.not_mem_nil, or_false] at hx; rcases hx with rfl <;> rfl) ?_
      refine AAny.take (i := 0) rfl (by kernel_rfl) (by kernel_rfl) (by kernel_rfl) rfl rfl (ltb rfl) ((fieldAddr_step hG rfl rfl rfl rfl rfl).rd _) ?_
      refine AAny.take (i := 1) rfl (by kernel_rfl) (by kernel_rfl) (by kernel_rfl) rfl rfl (ltb rfl) (aload_rd hG rfl rfl rfl (by first | (simp [ldok]; done) | exact List.not_mem_nil | trivial)) ?_
      obtain ⟨y86, hy87, hM⟩ := bind_t hM
      obtain ⟨k88, n88, s88, q88, f88, ks88, rfl, hc89, hi90⟩ := tidx (ks := ks1) hy87
      refine AAny.take (i := 2) rfl (by kernel_rfl) (by kernel_rfl) (by kernel_rfl) rfl rfl (ltb rfl) ((indexImm_step hG rfl rfl rfl hi90 rfl rfl rfl rfl hc89).rd _) ?_
      refine AAny.take (i := 3) rfl (by kernel_rfl) (by kernel_rfl) (by kernel_rfl) rfl rfl (ltb rfl) (aload_rd hG rfl rfl rfl (by first | (simp [ldok]; done) | exact List.not_mem_nil | trivial)) ?_
      refine AAny.take (i := 4) rfl (by kernel_rfl) (by kernel_rfl) (by kernel_rfl) rfl rfl (ltb rfl) ((move_step (.inl rfl) rfl).rd _) ?_
      refine AAny.take (i := 6) rfl (by kernel_rfl) (by kernel_rfl) (by kernel_rfl) rfl rfl (ltb rfl) ((fieldAddr_step hG rfl rfl rfl rfl rfl).rd _) ?_
      refine AAny.take (i := 7) rfl (by kernel_rfl) (by kernel_rfl) (by kernel_rfl) rfl rfl (ltb rfl) (aload_rd hG rfl rfl rfl (by first | (simp [ldok]; done) | exact List.not_mem_nil | trivial)) ?_
      obtain ⟨y91, hy92, hM⟩ := bind_t hM
      obtain ⟨k93, n93, s93, q93, f93, ks93, rfl, hc94, hi95⟩ := tidx (ks := ks1) hy92
      refine AAny.take (i := 8) rfl (by kernel_rfl) (by kernel_rfl) (by kernel_rfl) rfl rfl (ltb rfl) ((indexImm_step hG rfl rfl rfl hi95 rfl rfl rfl rfl hc94).rd _) ?_
      refine AAny.take (i := 9) rfl (by kernel_rfl) (by kernel_rfl) (by kernel_rfl) rfl rfl (ltb rfl) (aload_rd hG rfl rfl rfl (by first | (simp [ldok]; done) | exact List.not_mem_nil | trivial)) ?_
      refine AAny.take (i := 10) rfl (by kernel_rfl) (by kernel_rfl) (by kernel_rfl) rfl rfl (ltb rfl) ((move_step (.inl rfl) rfl).rd _) ?_
      obtain ⟨z101, hg97, hM⟩ := zb_t hM
      refine AAny.one (i := 5) (by kernel_rfl) (AOp.call rfl rfl rfl rfl (ltb rfl) rfl rfl rfl (fun _ h => absurd h List.not_mem_nil) (fun _ h => absurd h List.not_mem_nil) (ih_i_readExpr k88 n88 s88 q88 f88 ks88 i2 hg97 _ _) (callK_retZ (fun r96 v tk98 hz104 (hle99 : tk ≤ tk98) h100 => ?_) (fun c p tk98 hz (_ : tk ≤ tk98) => by subst hz; obtain rfl := bd_stop hM; exact run_pan_at (cut_pan (⟨rfl, (show tk ≤ tk98 by omega), rfl⟩)))))
      subst hz104
      replace hM := bd_ok hM
      obtain ⟨k102, n102, p102, e102, fs102, q102, f102, ks102, rfl, rfl, hf103⟩ := h100
      obtain ⟨z110, hg106, hM⟩ := zb_t hM
      refine AAny.one (i := 11) (by kernel_rfl) (AOp.call rfl rfl rfl rfl (ltb rfl) rfl rfl rfl (fun _ h => absurd h List.not_mem_nil) (fun _ h => absurd h List.not_mem_nil) (ih_i_readExpr k93 n93 s93 q93 f93 ks93 i2 hg106 _ _) (callK_retZ (fun r105 v tk107 hz113 (hle108 : tk98 ≤ tk107) h109 => ?_) (fun c p tk107 hz (_ : tk98 ≤ tk107) => by subst hz; obtain rfl := bd_stop hM; exact run_pan_at (cut_pan (⟨rfl, (show tk ≤ tk107 by omega), rfl⟩)))))
      subst hz113
      replace hM := bd_ok hM
      obtain ⟨k111, n111, p111, e111, fs111, q111, f111, ks111, rfl, rfl, hf112⟩ := h109
      refine AAny.one (i := 12) (by kernel_rfl) (AOp.step rfl rfl rfl (ltb rfl) (buildSlice_step (d := 51) hG rfl rfl rfl rfl rfl (by rfl) (by rfl) (by rfl) (by decide)) (fun _ h => absurd h List.not_mem_nil) ?_)
      refine AAny.take (i := 13) rfl (by kernel_rfl) (by kernel_rfl) (by kernel_rfl) rfl rfl (ltb rfl) ((build_step hG rfl (by rfl) rfl (fun h => by cases h) (by rfl)).rd _) ?_
      refine AAny.one (i := 14) (by kernel_rfl) (AOp.step0 rfl rfl rfl (store_step hG rfl rfl rfl rfl rfl rfl rfl rfl) (by intro x hx; exact hx) ?_)
      refine AAny.done (by kernel_rfl) ?_
      refine run_ret_to ?_
      refine cut_ret ?_
      refine fin_sub (Sub.freeze (k := 51) rfl rfl) ?_
      obtain rfl := some_t hM
      refine fin_x hG rfl rfl rfl (v' := .agg [.int .i64 2, .int .i64 0, .imm 0 3 true (fcellss []), .imm tk107 4 false (pcellss [LP.mk k102 n102 p102 e102 fs102 q102 f102 ks102, LP.mk k111 n111 p111 e111 fs111 q111 f111 ks111])]) (by rfl) ⟨rfl, (show tk ≤ (tk107 + 1) by omega), _, rfl, ⟨2, 0, 0, true, [], tk107, false, [LP.mk k102 n102 p102 e102 fs102 q102 f102 ks102, LP.mk k111 n111 p111 e111 fs111 q111 f111 ks111], rfl, rfl, fun _ => (show Fr tk (tk107 + 1) _ from (Fr.app (show Fr tk tk _ from Fr.nil _ _) (show Fr tk (tk107 + 1) _ from Fr.pstop (show Fr tk tk107 _ from (Fr.pcons (show Fr tk tk98 _ from ((show Fr tk tk98 _ from hf103 rfl)).mono (by omega) (by omega)) (Fr.pcons ((show Fr tk98 tk107 _ from hf112 rfl)) (show Fr tk107 tk107 _ from Fr.nil _ _) (by omega) (by omega)) (by omega) (by omega)).mono (by omega) (by omega)) (by omega) (by omega)) (by omega) (by omega)).mono (by omega) (by omega))⟩⟩
     ·replace hM := ite_f hb85 hM
      refine run_sr ?_
      refine run_pu rfl (fieldAddr_step hG rfl rfl rfl rfl rfl) rfl (ltb rfl) ?_
      refine run_ld hG rfl rfl rfl rfl rfl (ltb rfl) ?_
      refine run_bin rfl rfl rfl rfl rfl rfl rfl (ltb rfl) ?_
      refine mvL rfl rfl rfl rfl (ltb rfl) ?_
      refine run_splitb (i := 57) rfl (fun hb114 => ?_) (fun hb114 => ?_)
      ·replace hM := ite_t hb114 hM
       refine run_off (on_of rfl rfl rfl rfl) rfl (ltb rfl) ?_
       refine run_off (on_of rfl rfl rfl rfl) rfl (ltb rfl) ?_
       refine run_off (on_of rfl rfl rfl rfl) rfl (ltb rfl) ?_
       refine run_off (on_of rfl rfl rfl rfl) rfl (ltb rfl) ?_
       refine run_off (on_of rfl rfl rfl rfl) rfl (ltb rfl) ?_
       refine run_off (on_of rfl rfl rfl rfl) rfl (ltb rfl) ?_
       refine run_pu rfl (pick_step rfl rfl rfl) rfl (ltb rfl) ?_
       refine mvR rfl rfl rfl rfl (ltb rfl) ?_
       refine run_ops_nil ?_
       refine run_if rfl rfl (fun _ => ?_) (fun h => by cases h)
       refine run_region ?_
       obtain rfl := some_t hM
       exact run_call rfl rfl rfl (ltb rfl) rfl rfl rfl (fun _ h => absurd h List.not_mem_nil) (i_stop_ok 3 0 _ _) (callK_retS (run_pan_at (cut_pan (⟨rfl, (show tk ≤ tk by omega), rfl⟩))))
      ·replace hM := ite_f hb114 hM
       refine run_puG (on_of rfl rfl rfl rfl) (fieldAddr_step hG rfl rfl rfl rfl rfl) rfl (ltb rfl) ?_
       refine run_rdG (on_of rfl rfl rfl rfl) (aload_rd hG rfl rfl rfl (by first | (simp [ldok]; done) | exact List.not_mem_nil | trivial)) rfl (ltb rfl) ?_
       obtain ⟨y115, hy116, hM⟩ := bind_t hM
       obtain ⟨k117, n117, s117, q117, f117, ks117, rfl, hc118, hi119⟩ := tidx (ks := ks1) hy116
       refine run_puG (on_of rfl rfl rfl rfl) (indexImm_step hG rfl rfl rfl hi119 rfl rfl rfl rfl hc118) rfl (ltb rfl) ?_
       refine run_puG (on_of rfl rfl rfl rfl) (fieldAddr_step hG rfl rfl rfl rfl rfl) rfl (ltb rfl) ?_
       refine run_rdG (on_of rfl rfl rfl rfl) (aload_rd hG rfl rfl rfl (by first | (simp [ldok]; done) | exact List.not_mem_nil | trivial)) rfl (ltb rfl) ?_
       refine run_puG (on_of rfl rfl rfl rfl) (abin_step rfl rfl rfl rfl (fun _ h => by cases h)) rfl (ltb rfl) ?_
       refine run_pu rfl (pick_step rfl rfl rfl) rfl (ltb rfl) ?_
       refine mvR rfl rfl rfl rfl (ltb rfl) ?_
       refine run_ops_nil ?_
       refine run_sub_code (σ' := ⟨[(1, .int .i64 i2), (2, .optr (.loc 2) 0 0), (4, .optr (.loc 4) 0 0), (53, .bool (k117 != 4))], [(4, ⟨60, 4, true, [[.int .i64 0, .int .i64 0, .imm 0 3 true [], .imm 0 4 true []]]⟩), (2, ⟨34, 4, true, [[.int .i64 k1, .int .i64 n1, .str s1, .imm q1 4 f1 (cellss ks1)]]⟩)], [], O, tk⟩) (Sub.env _ ⟨rfl, rfl, rfl, rfl, trivial⟩) ?_
       refine run_ifb rfl rfl (fun hb120 => ?_) (fun hb120 => ?_)
       ·replace hM := ite_t hb120 hM
        refine run_region ?_
        obtain rfl := some_t hM
        exact run_call rfl rfl rfl (ltb rfl) rfl rfl rfl (fun _ h => absurd h List.not_mem_nil) (i_stop_ok 3 0 _ _) (callK_retS (run_pan_at (cut_pan (⟨rfl, (show tk ≤ tk by omega), rfl⟩))))
       ·replace hM := ite_f hb120 hM
        refine run_skip ?_
        refine run_blk ?_
        exact ⟨tk, (show tk ≤ tk by omega), hM, Sub.env [(1, .int .i64 i2), (2, .optr (.loc 2) 0 0), (4, .optr (.loc 4) 0 0)] ⟨rfl, rfl, rfl, trivial⟩⟩
 ·clear hM
  rintro σ' ⟨tkj3, hle163, hM, hsub⟩
  rw [hj164] at hM
  clear hj164
  refine run_sub_code hsub ?_
  refine run_seq ?_
  refine run_draw [.loc 4] (n := 19) mixed rfl (by intro x hx; simp only [List.mem_cons, List.not_mem_nil, or_false] at hx; rcases hx with rfl <;> rfl) ?_
  refine AAny.take (i := 0) rfl (by kernel_rfl) (by kernel_rfl) (by kernel_rfl) rfl rfl (ltb rfl) ((fieldAddr_step hG rfl rfl rfl rfl rfl).rd _) ?_
  refine AAny.take (i := 1) rfl (by kernel_rfl) (by kernel_rfl) (by kernel_rfl) rfl rfl (ltb rfl) (aload_rd hG rfl rfl rfl (by first | (simp [ldok]; done) | exact List.not_mem_nil | trivial)) ?_
  obtain ⟨y121, hy122, hM⟩ := bind_t hM
  obtain ⟨k123, n123, s123, q123, f123, ks123, rfl, hc124, hi125⟩ := tidx (ks := ks1) hy122
  refine AAny.take (i := 2) rfl (by kernel_rfl) (by kernel_rfl) (by kernel_rfl) rfl rfl (ltb rfl) ((indexImm_step hG rfl rfl rfl hi125 rfl rfl rfl rfl hc124).rd _) ?_
  refine AAny.take (i := 3) rfl (by kernel_rfl) (by kernel_rfl) (by kernel_rfl) rfl rfl (ltb rfl) (aload_rd hG rfl rfl rfl (by first | (simp [ldok]; done) | exact List.not_mem_nil | trivial)) ?_
  refine AAny.take (i := 6) rfl (by kernel_rfl) (by kernel_rfl) (by kernel_rfl) rfl rfl (ltb rfl) ((fieldAddr_step hG rfl rfl rfl rfl rfl).rd _) ?_
  refine AAny.take (i := 7) rfl (by kernel_rfl) (by kernel_rfl) (by kernel_rfl) rfl rfl (ltb rfl) (aload_rd hG rfl rfl rfl (by first | (simp [ldok]; done) | exact List.not_mem_nil | trivial)) ?_
  obtain ⟨y126, hy127, hM⟩ := bind_t hM
  obtain ⟨k128, n128, s128, q128, f128, ks128, rfl, hc129, hi130⟩ := tidx (ks := ks1) hy127
  refine AAny.take (i := 8) rfl (by kernel_rfl) (by kernel_rfl) (by kernel_rfl) rfl rfl (ltb rfl) ((indexImm_step hG rfl rfl rfl hi130 rfl rfl rfl rfl hc129).rd _) ?_
  refine AAny.take (i := 9) rfl (by kernel_rfl) (by kernel_rfl) (by kernel_rfl) rfl rfl (ltb rfl) ((fieldAddr_step hG rfl rfl rfl rfl rfl).rd _) ?_
  refine AAny.take (i := 10) rfl (by kernel_rfl) (by kernel_rfl) (by kernel_rfl) rfl rfl (ltb rfl) (aload_rd hG rfl rfl rfl (by first | (simp [ldok]; done) | exact List.not_mem_nil | trivial)) ?_
  obtain ⟨y131, hy132, hM⟩ := bind_t hM
  obtain ⟨k133, n133, s133, q133, f133, ks133, rfl, hc134, hi135⟩ := tidx (ks := ks128) hy132
  refine AAny.take (i := 11) rfl (by kernel_rfl) (by kernel_rfl) (by kernel_rfl) rfl rfl (ltb rfl) ((indexImm_step hG rfl rfl rfl hi135 rfl rfl rfl rfl hc134).rd _) ?_
  refine AAny.take (i := 12) rfl (by kernel_rfl) (by kernel_rfl) (by kernel_rfl) rfl rfl (ltb rfl) (aload_rd hG rfl rfl rfl (by first | (simp [ldok]; done) | exact List.not_mem_nil | trivial)) ?_
  refine AAny.take (i := 13) rfl (by kernel_rfl) (by kernel_rfl) (by kernel_rfl) rfl rfl (ltb rfl) ((move_step (.inl rfl) rfl).rd _) ?_
  refine AAny.take (i := 14) rfl (by kernel_rfl) (by kernel_rfl) (by kernel_rfl) rfl rfl (ltb rfl) ((abin_step rfl rfl rfl rfl (fun _ h => by cases h)).rd _) ?_
  obtain ⟨z141, hg137, hM⟩ := zb_t hM
  refine AAny.one (i := 4) (by kernel_rfl) (AOp.call rfl rfl rfl rfl (ltb rfl) rfl rfl rfl (fun _ h => absurd h List.not_mem_nil) (fun _ h => absurd h List.not_mem_nil) (i_readType_ok n k123 n123 s123 q123 f123 ks123 hg137 _ _) (callK_retZ (fun r136 v tk138 hz144 (hle139 : tkj3 ≤ tk138) h140 => ?_) (fun c p tk138 hz (_ : tkj3 ≤ tk138) => by subst hz; obtain rfl := bd_stop hM; exact run_pan_at (⟨rfl, (show tk ≤ tk138 by omega), rfl⟩))))
  subst hz144
  replace hM := bd_ok hM
  obtain ⟨k142, n142, q142, f142, ks142, rfl, rfl, hf143⟩ := h140
  refine AAny.each (rs := [5, 15]) (by kernel_rfl) (fun h => by cases h) (fun i hi => ?_)
  simp only [List.mem_cons, List.not_mem_nil, or_false] at hi
  rcases hi with rfl | rfl
  ·refine AOp.step rfl rfl rfl (ltb rfl) (buildSlice_step (d := 71) hG rfl rfl rfl rfl rfl (by rfl) (by rfl) (by rfl) (by decide)) (fun _ h => absurd h List.not_mem_nil) ?_
   obtain ⟨z150, hg146, hM⟩ := zb_t hM
   refine AAny.one (i := 15) (by kernel_rfl) (AOp.call rfl rfl rfl rfl (ltb rfl) rfl rfl rfl (fun _ h => absurd h List.not_mem_nil) (fun _ h => absurd h List.not_mem_nil) (ih_i_readExpr k133 n133 s133 q133 f133 ks133 (IntKind.i64.wrap (i2 + 1)) hg146 _ _) (callK_retZ (fun r145 v tk147 hz153 (hle148 : tk138 ≤ tk147) h149 => ?_) (fun c p tk147 hz (_ : tk138 ≤ tk147) => by subst hz; obtain rfl := bd_stop hM; exact run_pan_at (⟨rfl, (show tk ≤ tk147 by omega), rfl⟩))))
   subst hz153
   replace hM := bd_ok hM
   obtain ⟨k151, n151, p151, e151, fs151, q151, f151, ks151, rfl, rfl, hf152⟩ := h149
   refine AAny.one (i := 16) (by kernel_rfl) (AOp.step rfl rfl rfl (ltb rfl) (buildSlice_step (d := 82) hG rfl rfl rfl rfl rfl (by rfl) (by rfl) (by rfl) (by decide)) (fun _ h => absurd h List.not_mem_nil) ?_)
   refine AAny.take (i := 17) rfl (by kernel_rfl) (by kernel_rfl) (by kernel_rfl) rfl rfl (ltb rfl) ((build_step hG rfl (by rfl) rfl (fun h => by cases h) (by rfl)).rd _) ?_
   refine AAny.one (i := 18) (by kernel_rfl) (AOp.step0 rfl rfl rfl (store_step hG rfl rfl rfl rfl rfl rfl rfl rfl) (by intro x hx; exact hx) ?_)
   refine AAny.done (by kernel_rfl) ?_
   refine run_ret_to ?_
   refine fin_sub (Sub.freeze (k := 71) rfl rfl) ?_
   refine fin_sub (Sub.freeze (k := 82) rfl rfl) ?_
   obtain rfl := some_t hM
   refine fin_x hG rfl rfl rfl (v' := .agg [.int .i64 3, .int .i64 0, .imm tk147 3 false (fcellss [LF.mk k142 n142 q142 f142 ks142]), .imm (tk147 + 1) 4 false (pcellss [LP.mk k151 n151 p151 e151 fs151 q151 f151 ks151])]) (by rfl) ⟨rfl, (show tk ≤ ((tk147 + 1) + 1) by omega), _, rfl, ⟨3, 0, tk147, false, [LF.mk k142 n142 q142 f142 ks142], (tk147 + 1), false, [LP.mk k151 n151 p151 e151 fs151 q151 f151 ks151], rfl, rfl, fun _ => (show Fr tk ((tk147 + 1) + 1) _ from by first | exact Fr.fpab (q1 := tk147) (q := (tk147 + 1)) (show Fr tkj3 tk138 _ from Fr.fcons ((show Fr tkj3 tk138 _ from hf143 rfl)) (show Fr tk138 tk138 _ from Fr.nil _ _) (by omega) (by omega)) (show Fr tk138 tk147 _ from Fr.pcons ((show Fr tk138 tk147 _ from hf152 rfl)) (show Fr tk147 tk147 _ from Fr.nil _ _) (by omega) (by omega)) (by omega) (by omega) (by omega) (by omega) (by omega) (by omega) (by omega) (by omega) (by omega) | exact Fr.fpba (q1 := tk147) (q := (tk147 + 1)) (show Fr tkj3 tk138 _ from Fr.fcons ((show Fr tkj3 tk138 _ from hf143 rfl)) (show Fr tk138 tk138 _ from Fr.nil _ _) (by omega) (by omega)) (show Fr tk138 tk147 _ from Fr.pcons ((show Fr tk138 tk147 _ from hf152 rfl)) (show Fr tk147 tk147 _ from Fr.nil _ _) (by omega) (by omega)) (by omega) (by omega) (by omega) (by omega) (by omega) (by omega) (by omega) (by omega) (by omega))⟩⟩
  ·obtain ⟨z159, hg155, hM⟩ := zb_t hM
   refine AOp.call rfl rfl rfl rfl (ltb rfl) rfl rfl rfl (fun _ h => absurd h List.not_mem_nil) (fun _ h => absurd h List.not_mem_nil) (ih_i_readExpr k133 n133 s133 q133 f133 ks133 (IntKind.i64.wrap (i2 + 1)) hg155 _ _) (callK_retZ (fun r154 v tk156 hz162 (hle157 : tk138 ≤ tk156) h158 => ?_) (fun c p tk156 hz (_ : tk138 ≤ tk156) => by subst hz; obtain rfl := bd_stop hM; exact run_pan_at (⟨rfl, (show tk ≤ tk156 by omega), rfl⟩)))
   subst hz162
   replace hM := bd_ok hM
   obtain ⟨k160, n160, p160, e160, fs160, q160, f160, ks160, rfl, rfl, hf161⟩ := h158
   refine AAny.each (rs := [5, 16]) (by kernel_rfl) (fun h => by cases h) (fun i hi => ?_)
   simp only [List.mem_cons, List.not_mem_nil, or_false] at hi
   rcases hi with rfl | rfl
   ·refine AOp.step rfl rfl rfl (ltb rfl) (buildSlice_step (d := 71) hG rfl rfl rfl rfl rfl (by rfl) (by rfl) (by rfl) (by decide)) (fun _ h => absurd h List.not_mem_nil) ?_
    refine AAny.one (i := 16) (by kernel_rfl) (AOp.step rfl rfl rfl (ltb rfl) (buildSlice_step (d := 82) hG rfl rfl rfl rfl rfl (by rfl) (by rfl) (by rfl) (by decide)) (fun _ h => absurd h List.not_mem_nil) ?_)
    refine AAny.take (i := 17) rfl (by kernel_rfl) (by kernel_rfl) (by kernel_rfl) rfl rfl (ltb rfl) ((build_step hG rfl (by rfl) rfl (fun h => by cases h) (by rfl)).rd _) ?_
    refine AAny.one (i := 18) (by kernel_rfl) (AOp.step0 rfl rfl rfl (store_step hG rfl rfl rfl rfl rfl rfl rfl rfl) (by intro x hx; exact hx) ?_)
    refine AAny.done (by kernel_rfl) ?_
    refine run_ret_to ?_
    refine fin_sub (Sub.freeze (k := 71) rfl rfl) ?_
    refine fin_sub (Sub.freeze (k := 82) rfl rfl) ?_
    obtain rfl := some_t hM
    refine fin_x hG rfl rfl rfl (v' := .agg [.int .i64 3, .int .i64 0, .imm tk156 3 false (fcellss [LF.mk k142 n142 q142 f142 ks142]), .imm (tk156 + 1) 4 false (pcellss [LP.mk k160 n160 p160 e160 fs160 q160 f160 ks160])]) (by rfl) ⟨rfl, (show tk ≤ ((tk156 + 1) + 1) by omega), _, rfl, ⟨3, 0, tk156, false, [LF.mk k142 n142 q142 f142 ks142], (tk156 + 1), false, [LP.mk k160 n160 p160 e160 fs160 q160 f160 ks160], rfl, rfl, fun _ => (show Fr tk ((tk156 + 1) + 1) _ from by first | exact Fr.fpab (q1 := tk156) (q := (tk156 + 1)) (show Fr tkj3 tk138 _ from Fr.fcons ((show Fr tkj3 tk138 _ from hf143 rfl)) (show Fr tk138 tk138 _ from Fr.nil _ _) (by omega) (by omega)) (show Fr tk138 tk156 _ from Fr.pcons ((show Fr tk138 tk156 _ from hf161 rfl)) (show Fr tk156 tk156 _ from Fr.nil _ _) (by omega) (by omega)) (by omega) (by omega) (by omega) (by omega) (by omega) (by omega) (by omega) (by omega) (by omega) | exact Fr.fpba (q1 := tk156) (q := (tk156 + 1)) (show Fr tkj3 tk138 _ from Fr.fcons ((show Fr tkj3 tk138 _ from hf143 rfl)) (show Fr tk138 tk138 _ from Fr.nil _ _) (by omega) (by omega)) (show Fr tk138 tk156 _ from Fr.pcons ((show Fr tk138 tk156 _ from hf161 rfl)) (show Fr tk156 tk156 _ from Fr.nil _ _) (by omega) (by omega)) (by omega) (by omega) (by omega) (by omega) (by omega) (by omega) (by omega) (by omega) (by omega))⟩⟩
   ·refine AOp.step rfl rfl rfl (ltb rfl) (buildSlice_step (d := 82) hG rfl rfl rfl rfl rfl (by rfl) (by rfl) (by rfl) (by decide)) (fun _ h => absurd h List.not_mem_nil) ?_
    refine AAny.one (i := 5) (by kernel_rfl) (AOp.step rfl rfl rfl (ltb rfl) (buildSlice_step (d := 71) hG rfl rfl rfl rfl rfl (by rfl) (by rfl) (by rfl) (by decide)) (fun _ h => absurd h List.not_mem_nil) ?_)
    refine AAny.take (i := 17) rfl (by kernel_rfl) (by kernel_rfl) (by kernel_rfl) rfl rfl (ltb rfl) ((build_step hG rfl (by rfl) rfl (fun h => by cases h) (by rfl)).rd _) ?_
    refine AAny.one (i := 18) (by kernel_rfl) (AOp.step0 rfl rfl rfl (store_step hG rfl rfl rfl rfl rfl rfl rfl rfl) (by intro x hx; exact hx) ?_)
    refine AAny.done (by kernel_rfl) ?_
    refine run_ret_to ?_
    refine fin_sub (Sub.freeze (k := 71) rfl rfl) ?_
    refine fin_sub (Sub.freeze (k := 82) rfl rfl) ?_
    obtain rfl := some_t hM
    refine fin_x hG rfl rfl rfl (v' := .agg [.int .i64 3, .int .i64 0, .imm tk156 3 false (fcellss [LF.mk k142 n142 q142 f142 ks142]), .imm (tk156 + 1) 4 false (pcellss [LP.mk k160 n160 p160 e160 fs160 q160 f160 ks160])]) (by rfl) ⟨rfl, (show tk ≤ ((tk156 + 1) + 1) by omega), _, rfl, ⟨3, 0, tk156, false, [LF.mk k142 n142 q142 f142 ks142], (tk156 + 1), false, [LP.mk k160 n160 p160 e160 fs160 q160 f160 ks160], rfl, rfl, fun _ => (show Fr tk ((tk156 + 1) + 1) _ from by first | exact Fr.fpab (q1 := tk156) (q := (tk156 + 1)) (show Fr tkj3 tk138 _ from Fr.fcons ((show Fr tkj3 tk138 _ from hf143 rfl)) (show Fr tk138 tk138 _ from Fr.nil _ _) (by omega) (by omega)) (show Fr tk138 tk156 _ from Fr.pcons ((show Fr tk138 tk156 _ from hf161 rfl)) (show Fr tk156 tk156 _ from Fr.nil _ _) (by omega) (by omega)) (by omega) (by omega) (by omega) (by omega) (by omega) (by omega) (by omega) (by omega) (by omega) | exact Fr.fpba (q1 := tk156) (q := (tk156 + 1)) (show Fr tkj3 tk138 _ from Fr.fcons ((show Fr tkj3 tk138 _ from hf143 rfl)) (show Fr tk138 tk138 _ from Fr.nil _ _) (by omega) (by omega)) (show Fr tk138 tk156 _ from Fr.pcons ((show Fr tk138 tk156 _ from hf161 rfl)) (show Fr tk156 tk156 _ from Fr.nil _ _) (by omega) (by omega)) (by omega) (by omega) (by omega) (by omega) (by omega) (by omega) (by omega) (by omega) (by omega))⟩⟩

theorem i_readExpr_all : ∀ (n : Nat), (∀ (k1 : Int) (n1 : Int) (s1 : ByteArray) (q1 : Nat) (f1 : Bool) (ks1 : List LT) (i2 : Int) {r : (Rz Pf)}, i_readExpr n (T.mk k1 n1 s1 (ers ks1)) i2 = some r → ∀ (O : Heap) (tk : Nat), ACalls Go.Proofs.Tryd.prog 75 [.agg [.int .i64 k1, .int .i64 n1, .str s1, .imm q1 4 f1 (cellss ks1)], .int .i64 i2] O tk (RetZ HT O tk r (fun r v tk' => VP true tk tk' r v)))
 | 0 => by intro k1 n1 s1 q1 f1 ks1 i2 r hM; rw [i_readExpr] at hM; cases hM
 | n + 1 => have ih := i_readExpr_all n; i_readExpr_st n (ih)

theorem i_readExpr_ok (n : Nat) : ∀ (k1 : Int) (n1 : Int) (s1 : ByteArray) (q1 : Nat) (f1 : Bool) (ks1 : List LT) (i2 : Int) {r : (Rz Pf)}, i_readExpr n (T.mk k1 n1 s1 (ers ks1)) i2 = some r → ∀ (O : Heap) (tk : Nat), ACalls Go.Proofs.Tryd.prog 75 [.agg [.int .i64 k1, .int .i64 n1, .str s1, .imm q1 4 f1 (cellss ks1)], .int .i64 i2] O tk (RetZ HT O tk r (fun r v tk' => VP true tk tk' r v)) := i_readExpr_all n

def i_DecodeExpr_c1__kkv (n : Nat) (x1 : T) (i2 : Int) (x3 : Pf) : Option (Rz Pf) :=
 zb (i_readExpr n x1 i2) fun r4 =>
 some (.ok r4)

set_option maxRecDepth 100000 in
theorem i_DecodeExpr_c1__kkv_ok (n : Nat) : ∀ (k1 : Int) (n1 : Int) (s1 : ByteArray) (q1 : Nat) (f1 : Bool) (ks1 : List LT) (i2 : Int) (X0 : ID) (k3 : Int) (n3 : Int) (p3 : Nat) (e3 : Bool) (fs3 : List LF) (q3 : Nat) (f3 : Bool) (ks3 : List LP) {r : (Rz Pf)}, i_DecodeExpr_c1__kkv n (T.mk k1 n1 s1 (ers ks1)) i2 (Pf.mk k3 n3 (fers fs3) (pers ks3)) = some r → ∀ (O : Heap) (tk : Nat), O X0 = some ⟨60, 4, true, [[.int .i64 k3, .int .i64 n3, .imm p3 3 e3 (fcellss fs3), .imm q3 4 f3 (pcellss ks3)]]⟩ → ACalls Go.Proofs.Tryd.prog 74 [.cptr [.int .i64 k1, .int .i64 n1, .str s1, .imm q1 4 f1 (cellss ks1)], .cptr [.int .i64 i2], .optr X0 0 0] O tk (RetVZ HT O X0 tk r (fun r v o' tk' => ∃ cs, o' = ⟨60, 4, true, [cs]⟩ ∧ VP true tk tk' r (.agg cs) ∧ v = .tup []) (fun o' => o'.up = o')) := by
 intro k1 n1 s1 q1 f1 ks1 i2 X0 k3 n3 p3 e3 fs3 q3 f3 ks3 r hM O tk hX0
 unfold i_DecodeExpr_c1__kkv at hM
 refine acalls_of_run Go.Proofs.Tryd.func74 rfl rfl [X0] [⟨60, 4, true, [[.int .i64 k3, .int .i64 n3, .imm p3 3 e3 (fcellss fs3), .imm q3 4 f3 (pcellss ks3)]]⟩] (Bor.one hX0 rfl) [(0, .cptr [.int .i64 k1, .int .i64 n1, .str s1, .imm q1 4 f1 (cellss ks1)]), (1, .cptr [.int .i64 i2]), (2, .optr (.bor 0) 0 0)] (.cons (.cptr _) (.cons (.cptr _) (.cons (.bor 0 _ _ _ rfl) (.nil _)))) (leb rfl) (by intro y h; simp only [List.mem_cons, List.not_mem_nil, or_false] at h; rcases h with rfl <;> simp [tch, tch0]) (fun S0 hO htk hfz => ?_)
 refine run_region ?_
 refine run_ld hG rfl rfl rfl rfl rfl (ltb rfl) ?_
 refine run_ld hG rfl rfl rfl rfl rfl (ltb rfl) ?_
 obtain ⟨z9, hg5, hM⟩ := zb_t hM
 refine run_call rfl rfl rfl (ltb rfl) rfl rfl rfl (fun _ h => absurd h List.not_mem_nil) (i_readExpr_ok n k1 n1 s1 q1 f1 ks1 i2 hg5 _ _) (callK_retZ (fun r4 v tk6 hz12 (hle7 : tk ≤ tk6) h8 => ?_) (fun c p tk6 hz (_ : tk ≤ tk6) => by subst hz; obtain rfl := bd_stop hM; exact run_pan_at (⟨⟨60, 4, true, [[.int .i64 k3, .int .i64 n3, .imm p3 3 e3 (fcellss fs3), .imm q3 4 f3 (pcellss ks3)]]⟩, rfl, (show tk ≤ tk6 by omega), rfl, rfl⟩)))
 subst hz12
 replace hM := bd_ok hM
 obtain ⟨k10, n10, p10, e10, fs10, q10, f10, ks10, rfl, rfl, hf11⟩ := h8
 refine run_op0 rfl (store_step hG rfl rfl rfl rfl rfl rfl rfl rfl) rfl ?_
 refine run_ops_nil ?_
 show Results _ _ _ _
 obtain rfl := some_t hM
 refine fin_x hG rfl rfl rfl (v' := .tup []) (by rfl) ⟨⟨60, 4, true, [[.int .i64 k10, .int .i64 n10, .imm p10 3 e10 (fcellss fs10), .imm q10 4 f10 (pcellss ks10)]]⟩, rfl, (show tk ≤ tk6 by omega), _, rfl, ⟨_, rfl, ⟨k10, n10, p10, e10, fs10, q10, f10, ks10, rfl, rfl, fun _ => (show Fr tk tk6 _ from ((show Fr tk tk6 _ from hf11 rfl)).mono (by omega) (by omega))⟩, rfl⟩⟩

def i_DecodeExpr (n : Nat) (x1 : T) (i2 : Int) : Option (Pf × Int) :=
 (i_badTerm n x1).bind fun r3 =>
 if r3 = true then
  some ((Pf.mk 0 0 [] []), 1)
 else
  (i_in i2 0 12).bind fun r11 =>
  if (!r11) = true then
   some ((Pf.mk 0 0 [] []), 16)
  else
   (i_DecodeExpr_c1__kkv n x1 i2 (Pf.mk 0 0 [] [])).bind fun z19 =>
   z19.cs (fun r22 =>
    if (0 != 0) = true then
     some ((Pf.mk 0 0 [] []), 0)
    else
     some (r22, 0)) (fun c28 p29 =>
    if (c28 != 0) = true then
     some ((Pf.mk 0 0 [] []), c28)
    else
     none)

set_option maxHeartbeats 2000000 in
set_option maxRecDepth 100000 in
theorem i_DecodeExpr_ok (n : Nat) : ∀ (k1 : Int) (n1 : Int) (s1 : ByteArray) (q1 : Nat) (f1 : Bool) (ks1 : List LT) (i2 : Int) {r : (Pf × Int)}, i_DecodeExpr n (T.mk k1 n1 s1 (ers ks1)) i2 = some r → ∀ (O : Heap) (tk : Nat), ACalls Go.Proofs.Tryd.prog 32 [.agg [.int .i64 k1, .int .i64 n1, .str s1, .imm q1 4 f1 (cellss ks1)], .int .i64 i2] O tk (RetX O tk (fun v tk' => ∃ r0' r1' v0' v1', r = (r0', r1') ∧ v = .tup [v0', v1'] ∧ VP true tk tk' r0' v0' ∧ v1' = .int .i64 r1')) := by
 intro k1 n1 s1 q1 f1 ks1 i2 r hM O tk
 unfold i_DecodeExpr at hM
 refine acalls_of_run Go.Proofs.Tryd.func32 rfl rfl [] [] (Bor.nil _) [(0, .agg [.int .i64 k1, .int .i64 n1, .str s1, .imm q1 4 f1 (cellss ks1)]), (1, .int .i64 i2)] (.cons (.agg _) (.cons (entS rfl) (.nil _))) (leb rfl) (fun _ h => by cases h) (fun S0 hO htk hfz => ?_)
 refine run_sr ?_
 refine run_op rfl (box_step (d := 2) rfl rfl rfl rfl rfl) rfl (ltb rfl) ?_
 refine run_op rfl (box_step (d := 3) rfl rfl rfl rfl rfl) rfl (ltb rfl) ?_
 refine run_op rfl (alloc_step (d := 4) hG rfl rfl rfl) rfl (ltb rfl) ?_
 refine mvR rfl rfl rfl rfl (ltb rfl) ?_
 refine run_ops_nil ?_
 refine run_seq ?_
 refine run_block ?_
 refine run_sr ?_
 refine run_ld hG rfl rfl rfl rfl rfl (ltb rfl) ?_
 obtain ⟨r3, hg4, hM⟩ := bind_t hM
 refine run_call rfl rfl rfl (ltb rfl) rfl rfl rfl (fun _ h => absurd h List.not_mem_nil) (i_badTerm_ok n k1 n1 s1 q1 f1 ks1 hg4 _ _) (callK_retX (fun v tk5 (hle6 : tk ≤ tk5) h7 => ?_))
 subst h7
 refine mvR rfl rfl rfl rfl (ltb rfl) ?_
 refine run_ops_nil ?_
 refine run_ifb rfl rfl (fun hb10 => ?_) (fun hb10 => ?_)
 ·replace hM := ite_t hb10 hM
  refine run_sr ?_
  refine run_pu rfl (build_step hG rfl (by rfl) rfl (fun h => by cases h) (by rfl)) rfl (ltb rfl) ?_
  refine run_op0 rfl (store_step hG rfl rfl rfl rfl rfl rfl rfl rfl) rfl ?_
  refine mvR rfl rfl rfl rfl (ltb rfl) ?_
  refine run_ops_nil ?_
  refine run_ret_to ?_
  obtain rfl := some_t hM
  refine fin_x hG rfl rfl rfl (v' := .tup [.agg [.int .i64 0, .int .i64 0, .imm 0 3 true (fcellss []), .imm 0 4 true (pcellss [])], .int .i64 1]) (by rfl) ⟨rfl, (show tk ≤ tk5 by omega), _, rfl, ⟨_, _, _, _, rfl, rfl, ⟨0, 0, 0, true, [], 0, true, [], rfl, rfl, fun _ => Fr.nil _ _⟩, rfl⟩⟩
 ·replace hM := ite_f hb10 hM
  refine run_sr ?_
  refine run_ld hG rfl rfl rfl rfl rfl (ltb rfl) ?_
  obtain ⟨r11, hg12, hM⟩ := bind_t hM
  refine run_call rfl rfl rfl (ltb rfl) rfl rfl rfl (fun _ h => absurd h List.not_mem_nil) (i_in_ok i2 0 12 hg12 _ _) (callK_retX (fun v tk13 (hle14 : tk5 ≤ tk13) h15 => ?_))
  subst h15
  refine run_pu rfl (aun_step rfl rfl rfl) rfl (ltb rfl) ?_
  refine mvR rfl rfl rfl rfl (ltb rfl) ?_
  refine run_ops_nil ?_
  refine run_ifb rfl rfl (fun hb18 => ?_) (fun hb18 => ?_)
  ·replace hM := ite_t hb18 hM
   refine run_sr ?_
   refine run_pu rfl (build_step hG rfl (by rfl) rfl (fun h => by cases h) (by rfl)) rfl (ltb rfl) ?_
   refine run_op0 rfl (store_step hG rfl rfl rfl rfl rfl rfl rfl rfl) rfl ?_
   refine mvR rfl rfl rfl rfl (ltb rfl) ?_
   refine run_ops_nil ?_
   refine run_ret_to ?_
   obtain rfl := some_t hM
   refine fin_x hG rfl rfl rfl (v' := .tup [.agg [.int .i64 0, .int .i64 0, .imm 0 3 true (fcellss []), .imm 0 4 true (pcellss [])], .int .i64 16]) (by rfl) ⟨rfl, (show tk ≤ tk13 by omega), _, rfl, ⟨_, _, _, _, rfl, rfl, ⟨0, 0, 0, true, [], 0, true, [], rfl, rfl, fun _ => Fr.nil _ _⟩, rfl⟩⟩
  ·replace hM := ite_f hb18 hM
   refine run_skip ?_
   refine run_blk ?_
   refine run_sr ?_
   refine run_pu rfl (build_step hG rfl (by rfl) rfl (fun h => by cases h) (by rfl)) rfl (ltb rfl) ?_
   refine run_op rfl (alloc_step (d := 6) hG rfl rfl rfl) rfl (ltb rfl) ?_
   refine run_op0 rfl (store_step hG rfl rfl rfl rfl rfl rfl rfl rfl) rfl ?_
   refine run_ops_nil ?_
   refine run_sub_code (σ' := ⟨[(2, .optr (.loc 2) 0 0), (3, .optr (.loc 3) 0 0), (4, .optr (.loc 4) 0 0), (5, .int .i64 0), (6, .optr (.loc 6) 0 0)], [(6, ⟨60, 4, true, [[.int .i64 0, .int .i64 0, .imm 0 3 true [], .imm 0 4 true []]]⟩), (4, ⟨60, 4, true, [[.int .i64 0, .int .i64 0, .imm 0 3 true [], .imm 0 4 true []]]⟩), (3, ⟨3, 1, true, [[.int .i64 i2]]⟩), (2, ⟨34, 4, true, [[.int .i64 k1, .int .i64 n1, .str s1, .imm q1 4 f1 (cellss ks1)]]⟩)], [], O, tk13⟩) (Sub.env _ ⟨rfl, rfl, rfl, rfl, rfl, trivial⟩) ?_
   refine run_seq ?_
   refine run_sr ?_
   refine run_sub_ops (Sub.frbox (k := 2) (env' := [(2, .cptr [.int .i64 k1, .int .i64 n1, .str s1, .imm q1 4 f1 (cellss ks1)]), (3, .optr (.loc 3) 0 0), (4, .optr (.loc 4) 0 0), (5, .int .i64 0), (6, .optr (.loc 6) 0 0)]) rfl rfl (.ptr 2 0 _ rfl (.keep 3 _ _ rfl (.keep 4 _ _ rfl (.keep 5 _ _ rfl (.keep 6 _ _ rfl .nil)))))) ?_
   refine run_sub_ops (Sub.frbox (k := 3) (env' := [(2, .cptr [.int .i64 k1, .int .i64 n1, .str s1, .imm q1 4 f1 (cellss ks1)]), (3, .cptr [.int .i64 i2]), (4, .optr (.loc 4) 0 0), (5, .int .i64 0), (6, .optr (.loc 6) 0 0)]) rfl rfl (.keep 2 _ _ rfl (.ptr 3 0 _ rfl (.keep 4 _ _ rfl (.keep 5 _ _ rfl (.keep 6 _ _ rfl .nil)))))) ?_
   refine run_pu rfl (makeFunc_step (first := []) (cap := [.tmp 2, .tmp 3, .tmp 6]) rfl rfl rfl) rfl (ltb rfl) ?_
   obtain ⟨z19, hg20, hM⟩ := bind_t hM
   refine run_call rfl rfl rfl (ltb rfl) rfl rfl rfl (fun _ h => absurd h List.not_mem_nil) (caught_vz (j := 0) rfl (K := 74) (bor := [.loc 6]) (b := [⟨60, 4, true, [[.int .i64 0, .int .i64 0, .imm 0 3 true [], .imm 0 4 true []]]⟩]) (caps := [.cptr [.int .i64 k1, .int .i64 n1, .str s1, .imm q1 4 f1 (cellss ks1)], .cptr [.int .i64 i2], .optr (.loc 6) 0 0]) (caps' := [.cptr [.int .i64 k1, .int .i64 n1, .str s1, .imm q1 4 f1 (cellss ks1)], .cptr [.int .i64 i2], .optr (.bor 0) 0 0]) (Bor.cons rfl rfl (by decide) (Bor.nil _)) (.cons (.cptr _) (.cons (.cptr _) (.cons (.bor 0 _ _ _ rfl) .nil))) rfl (by intro y h; simp only [List.mem_cons, List.not_mem_nil, or_false] at h; rcases h with rfl <;> simp [tch, tch0]) rfl (i_DecodeExpr_c1__kkv_ok n k1 n1 s1 q1 f1 ks1 i2 (.bor 0) 0 0 0 true [] 0 true [] hg20 _ _ rfl) (fun a v o' tk' h => by obtain ⟨_, rfl, ⟨_, _, _, _, _, _, _, _, ⟨⟩, rfl, _⟩, _⟩ := h; rfl)) (callK_retV_loc (k := 6) rfl (fun v o'25 tk23 (hle24 : tk13 ≤ tk23) h21 => ?_))
   rcases z19 with r22 | ⟨c28, p29⟩
   ·replace hM := cs_ok hM
    obtain ⟨rfl, _, ⟨_, rfl, ⟨k26, n26, p26, e26, fs26, q26, f26, ks26, ⟨⟩, rfl, hf27⟩, rfl⟩⟩ := h21
    refine run_op rfl (alloc_step (d := 7) hG rfl rfl rfl) rfl (ltb rfl) ?_
    refine run_op0 rfl (store_step hG rfl rfl rfl rfl rfl rfl rfl rfl) rfl ?_
    refine run_ops_nil ?_
    refine run_sr ?_
    refine run_pu rfl (fieldAddr_step hG rfl rfl rfl rfl rfl) rfl (ltb rfl) ?_
    refine run_ld hG rfl rfl rfl rfl rfl (ltb rfl) ?_
    refine run_bin rfl rfl rfl rfl rfl rfl rfl (ltb rfl) ?_
    refine run_ops_nil ?_
    refine run_ifb rfl rfl (fun hb30 => ?_) (fun hb30 => ?_)
    ·replace hM := ite_t hb30 hM
     refine run_seq ?_
     refine run_draw [.loc 4] (n := 5) mixed rfl (by intro x hx; simp only [List.mem_cons, List.not_mem_nil, or_false] at hx; rcases hx with rfl <;> rfl) ?_
     refine AAny.take (i := 0) rfl (by kernel_rfl) (by kernel_rfl) (by kernel_rfl) rfl rfl (ltb rfl) ((build_step hG rfl (by rfl) rfl (fun h => by cases h) (by rfl)).rd _) ?_
     refine AAny.take (i := 1) rfl (by kernel_rfl) (by kernel_rfl) (by kernel_rfl) rfl rfl (ltb rfl) ((fieldAddr_step hG rfl rfl rfl rfl rfl).rd _) ?_
     refine AAny.take (i := 2) rfl (by kernel_rfl) (by kernel_rfl) (by kernel_rfl) rfl rfl (ltb rfl) (aload_rd hG rfl rfl rfl (by first | (simp [ldok]; done) | exact List.not_mem_nil | trivial)) ?_
     refine AAny.one (i := 3) (by kernel_rfl) (AOp.step0 rfl rfl rfl (store_step hG rfl rfl rfl rfl rfl rfl rfl rfl) (by intro x hx; exact hx) ?_)
     refine AAny.take (i := 4) rfl (by kernel_rfl) (by kernel_rfl) (by kernel_rfl) rfl rfl (ltb rfl) ((move_step (.inr rfl) rfl).rd _) ?_
     refine AAny.done (by kernel_rfl) ?_
     refine run_ret_to ?_
     obtain rfl := some_t hM
     refine fin_x hG rfl rfl rfl (v' := .tup [.agg [.int .i64 0, .int .i64 0, .imm 0 3 true (fcellss []), .imm 0 4 true (pcellss [])], .int .i64 0]) (by rfl) ⟨rfl, (show tk ≤ tk23 by omega), _, rfl, ⟨_, _, _, _, rfl, rfl, ⟨0, 0, 0, true, [], 0, true, [], rfl, rfl, fun _ => Fr.nil _ _⟩, rfl⟩⟩
    ·replace hM := ite_f hb30 hM
     refine run_skip ?_
     refine run_sr ?_
     refine run_ld hG rfl rfl rfl rfl rfl (ltb rfl) ?_
     refine run_op0 rfl (store_step hG rfl rfl rfl rfl rfl rfl rfl rfl) rfl ?_
     refine mvR rfl rfl rfl rfl (ltb rfl) ?_
     refine run_ops_nil ?_
     refine run_ret_to ?_
     obtain rfl := some_t hM
     refine fin_x hG rfl rfl rfl (v' := .tup [.agg [.int .i64 k26, .int .i64 n26, .imm p26 3 e26 (fcellss fs26), .imm q26 4 f26 (pcellss ks26)], .int .i64 0]) (by rfl) ⟨rfl, (show tk ≤ tk23 by omega), _, rfl, ⟨_, _, _, _, rfl, rfl, ⟨k26, n26, p26, e26, fs26, q26, f26, ks26, rfl, rfl, fun _ => (show Fr tk tk23 _ from ((show Fr tk13 tk23 _ from hf27 rfl)).mono (by omega) (by omega))⟩, rfl⟩⟩
   ·replace hM := cs_stop hM
    obtain ⟨rfl, _⟩ := h21
    refine run_op rfl (alloc_step (d := 7) hG rfl rfl rfl) rfl (ltb rfl) ?_
    refine run_op0 rfl (store_step hG rfl rfl rfl rfl rfl rfl rfl rfl) rfl ?_
    refine run_ops_nil ?_
    refine run_sr ?_
    refine run_pu rfl (fieldAddr_step hG rfl rfl rfl rfl rfl) rfl (ltb rfl) ?_
    refine run_ld hG rfl rfl rfl rfl rfl (ltb rfl) ?_
    refine run_bin rfl rfl rfl rfl rfl rfl rfl (ltb rfl) ?_
    refine run_ops_nil ?_
    refine run_ifb rfl rfl (fun hb31 => ?_) (fun hb31 => ?_)
    ·replace hM := ite_t hb31 hM
     refine run_seq ?_
     refine run_draw [.loc 4] (n := 5) mixed rfl (by intro x hx; simp only [List.mem_cons, List.not_mem_nil, or_false] at hx; rcases hx with rfl <;> rfl) ?_
     refine AAny.take (i := 0) rfl (by kernel_rfl) (by kernel_rfl) (by kernel_rfl) rfl rfl (ltb rfl) ((build_step hG rfl (by rfl) rfl (fun h => by cases h) (by rfl)).rd _) ?_
     refine AAny.take (i := 1) rfl (by kernel_rfl) (by kernel_rfl) (by kernel_rfl) rfl rfl (ltb rfl) ((fieldAddr_step hG rfl rfl rfl rfl rfl).rd _) ?_
     refine AAny.take (i := 2) rfl (by kernel_rfl) (by kernel_rfl) (by kernel_rfl) rfl rfl (ltb rfl) (aload_rd hG rfl rfl rfl (by first | (simp [ldok]; done) | exact List.not_mem_nil | trivial)) ?_
     refine AAny.one (i := 3) (by kernel_rfl) (AOp.step0 rfl rfl rfl (store_step hG rfl rfl rfl rfl rfl rfl rfl rfl) (by intro x hx; exact hx) ?_)
     refine AAny.take (i := 4) rfl (by kernel_rfl) (by kernel_rfl) (by kernel_rfl) rfl rfl (ltb rfl) ((move_step (.inr rfl) rfl).rd _) ?_
     refine AAny.done (by kernel_rfl) ?_
     refine run_ret_to ?_
     obtain rfl := some_t hM
     refine fin_x hG rfl rfl rfl (v' := .tup [.agg [.int .i64 0, .int .i64 0, .imm 0 3 true (fcellss []), .imm 0 4 true (pcellss [])], .int .i64 c28]) (by rfl) ⟨rfl, (show tk ≤ tk23 by omega), _, rfl, ⟨_, _, _, _, rfl, rfl, ⟨0, 0, 0, true, [], 0, true, [], rfl, rfl, fun _ => Fr.nil _ _⟩, rfl⟩⟩
    ·replace hM := ite_f hb31 hM
     refine run_skip ?_
     refine run_sr ?_
     cases hM

def s_l09Back : Nat → T → Int → Option (Pf × Bool)
 | 0, _, _ => none
 | n + 1, x1, i2 =>
  if x1.kind = 5 then
   if ((x1.kids).length : Int) = 0 then
    some ((Pf.mk 1 x1.n [] []), (decide (x1.n < i2)))
   else
    some ((Pf.mk 1 x1.n [] []), false)
  else
   if (x1.kind != 6) = true then
    some ((Pf.mk 0 0 [] []), false)
   else
    if (((x1.kids).length : Int) != 2) = true then
     some ((Pf.mk 0 0 [] []), false)
    else
     if (x1.name.toList == (⟨#[97, 112, 112]⟩ : ByteArray).toList) = true then
      (idx x1.kids 0).bind fun y8 =>
      (s_l09Back n y8 i2).bind fun r13 =>
      (idx x1.kids 1).bind fun y26 =>
      (s_l09Back n y26 i2).bind fun r31 =>
      if r13.2 = true then
       some ((Pf.mk 2 0 [] [r13.1, r31.1]), r31.2)
      else
       some ((Pf.mk 2 0 [] [r13.1, r31.1]), false)
     else
      if (x1.name.toList == (⟨#[108, 97, 109]⟩ : ByteArray).toList) = true then
       (idx x1.kids 1).bind fun y46 =>
       if (y46.kind != 4) = true then
        some ((Pf.mk 0 0 [] []), false)
       else
        (idx x1.kids 0).bind fun y52 =>
        (s_l09TypeBack n y52).bind fun r57 =>
        (idx x1.kids 1).bind fun y70 =>
        (idx y70.kids 0).bind fun y75 =>
        (s_l09Back n y75 (IntKind.i64.wrap (i2 + 1))).bind fun r80 =>
        if r57.2 = true then
         some ((Pf.mk 3 0 [r57.1] [r80.1]), r80.2)
        else
         some ((Pf.mk 3 0 [r57.1] [r80.1]), false)
      else
       some ((Pf.mk 0 0 [] []), false)

set_option maxHeartbeats 2000000 in
set_option maxRecDepth 100000 in
theorem s_l09Back_st (n : Nat) (ih_s_l09Back : ∀ (k1 : Int) (n1 : Int) (s1 : ByteArray) (q1 : Nat) (f1 : Bool) (ks1 : List LT) (i2 : Int) {r : (Pf × Bool)}, s_l09Back n (T.mk k1 n1 s1 (ers ks1)) i2 = some r → ∀ (O : Heap) (tk : Nat), ACalls Go.Proofs.Tryd.prog 73 [.agg [.int .i64 k1, .int .i64 n1, .str s1, .imm q1 4 f1 (cellss ks1)], .int .i64 i2] O tk (RetX O tk (fun v tk' => ∃ r0' r1' v0' v1', r = (r0', r1') ∧ v = .tup [v0', v1'] ∧ VP true tk tk' r0' v0' ∧ v1' = .bool r1'))) : ∀ (k1 : Int) (n1 : Int) (s1 : ByteArray) (q1 : Nat) (f1 : Bool) (ks1 : List LT) (i2 : Int) {r : (Pf × Bool)}, s_l09Back (n + 1) (T.mk k1 n1 s1 (ers ks1)) i2 = some r → ∀ (O : Heap) (tk : Nat), ACalls Go.Proofs.Tryd.prog 73 [.agg [.int .i64 k1, .int .i64 n1, .str s1, .imm q1 4 f1 (cellss ks1)], .int .i64 i2] O tk (RetX O tk (fun v tk' => ∃ r0' r1' v0' v1', r = (r0', r1') ∧ v = .tup [v0', v1'] ∧ VP true tk tk' r0' v0' ∧ v1' = .bool r1')) := by
 intro k1 n1 s1 q1 f1 ks1 i2 r hM O tk
 rw [s_l09Back] at hM
 refine acalls_of_run Go.Proofs.Tryd.func73 rfl rfl [] [] (Bor.nil _) [(0, .agg [.int .i64 k1, .int .i64 n1, .str s1, .imm q1 4 f1 (cellss ks1)]), (1, .int .i64 i2)] (.cons (.agg _) (.cons (entS rfl) (.nil _))) (leb rfl) (fun _ h => by cases h) (fun S0 hO htk hfz => ?_)
 refine run_sr ?_
 refine run_op rfl (box_step (d := 2) rfl rfl rfl rfl rfl) rfl (ltb rfl) ?_
 refine run_op rfl (alloc_step (d := 4) hG rfl rfl rfl) rfl (ltb rfl) ?_
 refine mvR rfl rfl rfl rfl (ltb rfl) ?_
 refine run_ops_nil ?_
 refine run_seq ?_
 refine run_sr ?_
 refine run_pu rfl (fieldAddr_step hG rfl rfl rfl rfl rfl) rfl (ltb rfl) ?_
 refine run_ld hG rfl rfl rfl rfl rfl (ltb rfl) ?_
 refine run_bin rfl rfl rfl rfl rfl rfl rfl (ltb rfl) ?_
 refine run_ops_nil ?_
 refine run_ifd rfl rfl (fun hb3 => ?_) (fun hb3 => ?_)
 ·replace hM := ite_t hb3 hM
  refine run_seq ?_
  refine run_draw [.loc 4] (n := 15) mixed rfl (by intro x hx; simp only [List.mem_cons, List.not_mem_nil, or_false] at hx; rcases hx with rfl <;> rfl) ?_
  refine AAny.take (i := 0) rfl (by kernel_rfl) (by kernel_rfl) (by kernel_rfl) rfl rfl (ltb rfl) ((fieldAddr_step hG rfl rfl rfl rfl rfl).rd _) ?_
  refine AAny.take (i := 1) rfl (by kernel_rfl) (by kernel_rfl) (by kernel_rfl) rfl rfl (ltb rfl) (aload_rd hG rfl rfl rfl (by first | (simp [ldok]; done) | exact List.not_mem_nil | trivial)) ?_
  refine AAny.take (i := 2) rfl (by kernel_rfl) (by kernel_rfl) (by kernel_rfl) rfl rfl (ltb rfl) ((build_step hG rfl (by rfl) rfl (fun h => by cases h) (by rfl)).rd _) ?_
  refine AAny.take (i := 3) rfl (by kernel_rfl) (by kernel_rfl) (by kernel_rfl) rfl rfl (ltb rfl) ((fieldAddr_step hG rfl rfl rfl rfl rfl).rd _) ?_
  refine AAny.take (i := 4) rfl (by kernel_rfl) (by kernel_rfl) (by kernel_rfl) rfl rfl (ltb rfl) (aload_rd hG rfl rfl rfl (by first | (simp [ldok]; done) | exact List.not_mem_nil | trivial)) ?_
  refine AAny.take (i := 5) rfl (by kernel_rfl) (by kernel_rfl) (by kernel_rfl) rfl rfl (ltb rfl) ((lenImm_step hG rfl rfl rfl rfl (tlen _)).rd _) ?_
  refine AAny.take (i := 6) rfl (by kernel_rfl) (by kernel_rfl) (by kernel_rfl) rfl rfl (ltb rfl) ((abin_step rfl rfl rfl rfl (fun _ h => by cases h)).rd _) ?_
  refine AAny.take (i := 7) rfl (by kernel_rfl) (by kernel_rfl) (by kernel_rfl) rfl rfl (ltb rfl) ((move_step (.inl rfl) rfl).rd _) ?_
  refine AAny.splitd (i := 24) rfl (by intro x hx; simp only [List.mem_cons, List.not_mem_nil, or_false] at hx; rcases hx with rfl <;> rfl) (fun hb4 => ?_) (fun hb4 => ?_)
  ·replace hM := ite_t hb4 hM
   refine AAny.takeG (i := 8) rfl (by kernel_rfl) (by kernel_rfl) (by kernel_rfl) (on_of rfl rfl rfl rfl) rfl (ltb rfl) ((fieldAddr_step hG rfl rfl rfl rfl rfl).rd _) ?_
   refine AAny.takeG (i := 9) rfl (by kernel_rfl) (by kernel_rfl) (by kernel_rfl) (on_of rfl rfl rfl rfl) rfl (ltb rfl) (aload_rd hG rfl rfl rfl (by first | (simp [ldok]; done) | exact List.not_mem_nil | trivial)) ?_
   refine AAny.takeG (i := 10) rfl (by kernel_rfl) (by kernel_rfl) (by kernel_rfl) (on_of rfl rfl rfl rfl) rfl (ltb rfl) ((move_step (.inl rfl) rfl).rd _) ?_
   refine AAny.takeG (i := 11) rfl (by kernel_rfl) (by kernel_rfl) (by kernel_rfl) (on_of rfl rfl rfl rfl) rfl (ltb rfl) ((abin_step rfl rfl rfl rfl (fun _ h => by cases h)).rd _) ?_
   refine AAny.take (i := 12) rfl (by kernel_rfl) (by kernel_rfl) (by kernel_rfl) rfl rfl (ltb rfl) ((pick_step rfl rfl rfl).rd _) ?_
   refine AAny.one (i := 13) (by kernel_rfl) (AOp.step0 rfl rfl rfl (store_step hG rfl rfl rfl rfl rfl rfl rfl rfl) (by intro x hx; exact hx) ?_)
   refine AAny.take (i := 14) rfl (by kernel_rfl) (by kernel_rfl) (by kernel_rfl) rfl rfl (ltb rfl) ((move_step (.inr rfl) rfl).rd _) ?_
   refine AAny.done (by kernel_rfl) ?_
   refine run_ret_to ?_
   obtain rfl := some_t hM
   refine fin_x hG rfl rfl rfl (v' := .tup [.agg [.int .i64 1, .int .i64 n1, .imm 0 3 true (fcellss []), .imm 0 4 true (pcellss [])], .bool (decide (n1 < i2))]) (by rfl) ⟨rfl, (show tk ≤ tk by omega), _, rfl, ⟨_, _, _, _, rfl, rfl, ⟨1, n1, 0, true, [], 0, true, [], rfl, rfl, fun _ => Fr.nil _ _⟩, rfl⟩⟩
  ·replace hM := ite_f hb4 hM
   refine AAny.off (i := 8) rfl (by kernel_rfl) (by kernel_rfl) (by kernel_rfl) (on_of rfl rfl rfl rfl) rfl (ltb rfl) ?_
   refine AAny.off (i := 9) rfl (by kernel_rfl) (by kernel_rfl) (by kernel_rfl) (on_of rfl rfl rfl rfl) rfl (ltb rfl) ?_
   refine AAny.off (i := 10) rfl (by kernel_rfl) (by kernel_rfl) (by kernel_rfl) (on_of rfl rfl rfl rfl) rfl (ltb rfl) ?_
   refine AAny.off (i := 11) rfl (by kernel_rfl) (by kernel_rfl) (by kernel_rfl) (on_of rfl rfl rfl rfl) rfl (ltb rfl) ?_
   refine AAny.take (i := 12) rfl (by kernel_rfl) (by kernel_rfl) (by kernel_rfl) rfl rfl (ltb rfl) ((pick_step rfl rfl rfl).rd _) ?_
   refine AAny.one (i := 13) (by kernel_rfl) (AOp.step0 rfl rfl rfl (store_step hG rfl rfl rfl rfl rfl rfl rfl rfl) (by intro x hx; exact hx) ?_)
   refine AAny.take (i := 14) rfl (by kernel_rfl) (by kernel_rfl) (by kernel_rfl) rfl rfl (ltb rfl) ((move_step (.inr rfl) rfl).rd _) ?_
   refine AAny.done (by kernel_rfl) ?_
   refine run_ret_to ?_
   obtain rfl := some_t hM
   refine fin_x hG rfl rfl rfl (v' := .tup [.agg [.int .i64 1, .int .i64 n1, .imm 0 3 true (fcellss []), .imm 0 4 true (pcellss [])], .bool false]) (by rfl) ⟨rfl, (show tk ≤ tk by omega), _, rfl, ⟨_, _, _, _, rfl, rfl, ⟨1, n1, 0, true, [], 0, true, [], rfl, rfl, fun _ => Fr.nil _ _⟩, rfl⟩⟩
 ·replace hM := ite_f hb3 hM
  refine run_skip ?_
  refine run_seq ?_
  refine run_sr ?_
  refine run_pu rfl (fieldAddr_step hG rfl rfl rfl rfl rfl) rfl (ltb rfl) ?_
  refine run_ld hG rfl rfl rfl rfl rfl (ltb rfl) ?_
  refine run_bin rfl rfl rfl rfl rfl rfl rfl (ltb rfl) ?_
  refine mvL rfl rfl rfl rfl (ltb rfl) ?_
  refine run_splitb (i := 33) rfl (fun hb5 => ?_) (fun hb5 => ?_)
  ·replace hM := ite_t hb5 hM
   refine run_off (on_of rfl rfl rfl rfl) rfl (ltb rfl) ?_
   refine run_off (on_of rfl rfl rfl rfl) rfl (ltb rfl) ?_
   refine run_off (on_of rfl rfl rfl rfl) rfl (ltb rfl) ?_
   refine run_off (on_of rfl rfl rfl rfl) rfl (ltb rfl) ?_
   refine run_pu rfl (pick_step rfl rfl rfl) rfl (ltb rfl) ?_
   refine run_ops_nil ?_
   refine run_if rfl rfl (fun _ => ?_) (fun h => by cases h)
   refine run_sr ?_
   refine run_pu rfl (build_step hG rfl (by rfl) rfl (fun h => by cases h) (by rfl)) rfl (ltb rfl) ?_
   refine run_op0 rfl (store_step hG rfl rfl rfl rfl rfl rfl rfl rfl) rfl ?_
   refine mvR rfl rfl rfl rfl (ltb rfl) ?_
   refine run_ops_nil ?_
   refine run_ret_to ?_
   obtain rfl := some_t hM
   refine fin_x hG rfl rfl rfl (v' := .tup [.agg [.int .i64 0, .int .i64 0, .imm 0 3 true (fcellss []), .imm 0 4 true (pcellss [])], .bool false]) (by rfl) ⟨rfl, (show tk ≤ tk by omega), _, rfl, ⟨_, _, _, _, rfl, rfl, ⟨0, 0, 0, true, [], 0, true, [], rfl, rfl, fun _ => Fr.nil _ _⟩, rfl⟩⟩
  ·replace hM := ite_f hb5 hM
   refine run_puG (on_of rfl rfl rfl rfl) (fieldAddr_step hG rfl rfl rfl rfl rfl) rfl (ltb rfl) ?_
   refine run_rdG (on_of rfl rfl rfl rfl) (aload_rd hG rfl rfl rfl (by first | (simp [ldok]; done) | exact List.not_mem_nil | trivial)) rfl (ltb rfl) ?_
   refine run_puG (on_of rfl rfl rfl rfl) (lenImm_step hG rfl rfl rfl rfl (tlen _)) rfl (ltb rfl) ?_
   refine run_puG (on_of rfl rfl rfl rfl) (abin_step rfl rfl rfl rfl (fun _ h => by cases h)) rfl (ltb rfl) ?_
   refine run_pu rfl (pick_step rfl rfl rfl) rfl (ltb rfl) ?_
   refine run_ops_nil ?_
   refine run_sub_code (σ' := ⟨[(1, .int .i64 i2), (2, .optr (.loc 2) 0 0), (4, .optr (.loc 4) 0 0), (5, .bool false), (38, .bool ((((ers ks1)).length : Int) != 2))], [(4, ⟨60, 4, true, [[.int .i64 0, .int .i64 0, .imm 0 3 true [], .imm 0 4 true []]]⟩), (2, ⟨34, 4, true, [[.int .i64 k1, .int .i64 n1, .str s1, .imm q1 4 f1 (cellss ks1)]]⟩)], [], O, tk⟩) (Sub.env _ ⟨rfl, rfl, rfl, rfl, rfl, trivial⟩) ?_
   refine run_ifb rfl rfl (fun hb6 => ?_) (fun hb6 => ?_)
   ·replace hM := ite_t hb6 hM
    refine run_sr ?_
    refine run_pu rfl (build_step hG rfl (by rfl) rfl (fun h => by cases h) (by rfl)) rfl (ltb rfl) ?_
    refine run_op0 rfl (store_step hG rfl rfl rfl rfl rfl rfl rfl rfl) rfl ?_
    refine mvR rfl rfl rfl rfl (ltb rfl) ?_
    refine run_ops_nil ?_
    refine run_ret_to ?_
    obtain rfl := some_t hM
    refine fin_x hG rfl rfl rfl (v' := .tup [.agg [.int .i64 0, .int .i64 0, .imm 0 3 true (fcellss []), .imm 0 4 true (pcellss [])], .bool false]) (by rfl) ⟨rfl, (show tk ≤ tk by omega), _, rfl, ⟨_, _, _, _, rfl, rfl, ⟨0, 0, 0, true, [], 0, true, [], rfl, rfl, fun _ => Fr.nil _ _⟩, rfl⟩⟩
   ·replace hM := ite_f hb6 hM
    refine run_skip ?_
    refine run_seq ?_
    refine run_sr ?_
    refine run_pu rfl (fieldAddr_step hG rfl rfl rfl rfl rfl) rfl (ltb rfl) ?_
    refine run_ld hG rfl rfl rfl rfl rfl (ltb rfl) ?_
    refine run_ops_nil ?_
    refine run_block ?_
    refine run_sr ?_
    refine run_bin rfl rfl rfl rfl rfl rfl rfl (ltb rfl) ?_
    refine mvR rfl rfl rfl rfl (ltb rfl) ?_
    refine run_ops_nil ?_
    refine run_ifb rfl rfl (fun hb7 => ?_) (fun hb7 => ?_)
    ·replace hM := ite_t hb7 hM
     refine run_sr ?_
     refine run_pu rfl (fieldAddr_step hG rfl rfl rfl rfl rfl) rfl (ltb rfl) ?_
     refine run_ld hG rfl rfl rfl rfl rfl (ltb rfl) ?_
     obtain ⟨y8, hy9, hM⟩ := bind_t hM
     obtain ⟨k10, n10, s10, q10, f10, ks10, rfl, hc11, hi12⟩ := tidx (ks := ks1) hy9
     refine run_pu rfl (indexImm_step hG rfl rfl rfl hi12 rfl rfl rfl rfl hc11) rfl (ltb rfl) ?_
     refine run_ld hG rfl rfl rfl rfl rfl (ltb rfl) ?_
     refine mvL rfl rfl rfl rfl (ltb rfl) ?_
     obtain ⟨r13, hg14, hM⟩ := bind_t hM
     refine run_call rfl rfl rfl (ltb rfl) rfl rfl rfl (fun _ h => absurd h List.not_mem_nil) (ih_s_l09Back k10 n10 s10 q10 f10 ks10 i2 hg14 _ _) (callK_retX (fun v tk15 (hle16 : tk ≤ tk15) h17 => ?_))
     obtain ⟨ra22, ra23, va24, va25, rfl, rfl, ⟨k18, n18, p18, e18, fs18, q18, f18, ks18, rfl, rfl, hf19⟩, rfl⟩ := h17
     refine mvL rfl rfl rfl rfl (ltb rfl) ?_
     refine run_pu rfl (extract_step rfl rfl rfl) rfl (ltb rfl) ?_
     refine run_pu rfl (extract_step rfl rfl rfl) rfl (ltb rfl) ?_
     refine run_op rfl (alloc_step (d := 6) hG rfl rfl rfl) rfl (ltb rfl) ?_
     refine run_op0 rfl (store_step hG rfl rfl rfl rfl rfl rfl rfl rfl) rfl ?_
     refine mvR rfl rfl rfl rfl (ltb rfl) ?_
     refine run_ops_nil ?_
     refine run_sub_code (σ' := ⟨[(1, .int .i64 i2), (2, .optr (.loc 2) 0 0), (4, .optr (.loc 4) 0 0), (5, .bool false), (6, .optr (.loc 6) 0 0), (7, .bool ra23)], [(6, ⟨60, 4, true, [[.int .i64 k18, .int .i64 n18, .imm p18 3 e18 (fcellss fs18), .imm q18 4 f18 (pcellss ks18)]]⟩), (4, ⟨60, 4, true, [[.int .i64 0, .int .i64 0, .imm 0 3 true [], .imm 0 4 true []]]⟩), (2, ⟨34, 4, true, [[.int .i64 k1, .int .i64 n1, .str s1, .imm q1 4 f1 (cellss ks1)]]⟩)], [], O, tk15⟩) (Sub.env _ ⟨rfl, rfl, rfl, rfl, rfl, rfl, trivial⟩) ?_
     refine run_sr ?_
     refine run_pu rfl (fieldAddr_step hG rfl rfl rfl rfl rfl) rfl (ltb rfl) ?_
     refine run_ld hG rfl rfl rfl rfl rfl (ltb rfl) ?_
     obtain ⟨y26, hy27, hM⟩ := bind_t hM
     obtain ⟨k28, n28, s28, q28, f28, ks28, rfl, hc29, hi30⟩ := tidx (ks := ks1) hy27
     refine run_pu rfl (indexImm_step hG rfl rfl rfl hi30 rfl rfl rfl rfl hc29) rfl (ltb rfl) ?_
     refine run_ld hG rfl rfl rfl rfl rfl (ltb rfl) ?_
     refine mvL rfl rfl rfl rfl (ltb rfl) ?_
     obtain ⟨r31, hg32, hM⟩ := bind_t hM
     refine run_call rfl rfl rfl (ltb rfl) rfl rfl rfl (fun _ h => absurd h List.not_mem_nil) (ih_s_l09Back k28 n28 s28 q28 f28 ks28 i2 hg32 _ _) (callK_retX (fun v tk33 (hle34 : tk15 ≤ tk33) h35 => ?_))
     obtain ⟨ra40, ra41, va42, va43, rfl, rfl, ⟨k36, n36, p36, e36, fs36, q36, f36, ks36, rfl, rfl, hf37⟩, rfl⟩ := h35
     refine mvL rfl rfl rfl rfl (ltb rfl) ?_
     refine run_pu rfl (extract_step rfl rfl rfl) rfl (ltb rfl) ?_
     refine run_pu rfl (extract_step rfl rfl rfl) rfl (ltb rfl) ?_
     refine run_op rfl (alloc_step (d := 8) hG rfl rfl rfl) rfl (ltb rfl) ?_
     refine run_op0 rfl (store_step hG rfl rfl rfl rfl rfl rfl rfl rfl) rfl ?_
     refine mvR rfl rfl rfl rfl (ltb rfl) ?_
     refine run_ops_nil ?_
     refine run_sr ?_
     refine run_ld hG rfl rfl rfl rfl rfl (ltb rfl) ?_
     refine run_ld hG rfl rfl rfl rfl rfl (ltb rfl) ?_
     refine run_op rfl (buildSlice_step (d := 64) hG rfl rfl rfl rfl rfl (by rfl) (by rfl) (by rfl) (by decide)) rfl (ltb rfl) ?_
     refine run_pu rfl (build_step hG rfl (by rfl) rfl (fun h => by cases h) (by rfl)) rfl (ltb rfl) ?_
     refine mvL rfl rfl rfl rfl (ltb rfl) ?_
     refine mvL rfl rfl rfl rfl (ltb rfl) ?_
     refine run_splitb (i := 67) rfl (fun hb44 => ?_) (fun hb44 => ?_)
     ·replace hM := ite_t hb44 hM
      refine run_puG (on_of rfl rfl rfl rfl) (move_step (.inl rfl) rfl) rfl (ltb rfl) ?_
      refine run_pu rfl (pick_step rfl rfl rfl) rfl (ltb rfl) ?_
      refine run_op0 rfl (store_step hG rfl rfl rfl rfl rfl rfl rfl rfl) rfl ?_
      refine mvR rfl rfl rfl rfl (ltb rfl) ?_
      refine run_ops_nil ?_
      refine run_ret_to ?_
      refine fin_sub (Sub.freeze (k := 64) rfl rfl) ?_
      obtain rfl := some_t hM
      refine fin_x hG rfl rfl rfl (v' := .tup [.agg [.int .i64 2, .int .i64 0, .imm 0 3 true (fcellss []), .imm tk33 4 false (pcellss [LP.mk k18 n18 p18 e18 fs18 q18 f18 ks18, LP.mk k36 n36 p36 e36 fs36 q36 f36 ks36])], .bool ra41]) (by rfl) ⟨rfl, (show tk ≤ (tk33 + 1) by omega), _, rfl, ⟨_, _, _, _, rfl, rfl, ⟨2, 0, 0, true, [], tk33, false, [LP.mk k18 n18 p18 e18 fs18 q18 f18 ks18, LP.mk k36 n36 p36 e36 fs36 q36 f36 ks36], rfl, rfl, fun _ => (show Fr tk (tk33 + 1) _ from (Fr.app (show Fr tk tk _ from Fr.nil _ _) (show Fr tk (tk33 + 1) _ from Fr.pstop (show Fr tk tk33 _ from (Fr.pcons (show Fr tk tk15 _ from ((show Fr tk tk15 _ from hf19 rfl)).mono (by omega) (by omega)) (Fr.pcons ((show Fr tk15 tk33 _ from hf37 rfl)) (show Fr tk33 tk33 _ from Fr.nil _ _) (by omega) (by omega)) (by omega) (by omega)).mono (by omega) (by omega)) (by omega) (by omega)) (by omega) (by omega)).mono (by omega) (by omega))⟩, rfl⟩⟩
     ·replace hM := ite_f hb44 hM
      refine run_off (on_of rfl rfl rfl rfl) rfl (ltb rfl) ?_
      refine run_pu rfl (pick_step rfl rfl rfl) rfl (ltb rfl) ?_
      refine run_op0 rfl (store_step hG rfl rfl rfl rfl rfl rfl rfl rfl) rfl ?_
      refine mvR rfl rfl rfl rfl (ltb rfl) ?_
      refine run_ops_nil ?_
      refine run_ret_to ?_
      refine fin_sub (Sub.freeze (k := 64) rfl rfl) ?_
      obtain rfl := some_t hM
      refine fin_x hG rfl rfl rfl (v' := .tup [.agg [.int .i64 2, .int .i64 0, .imm 0 3 true (fcellss []), .imm tk33 4 false (pcellss [LP.mk k18 n18 p18 e18 fs18 q18 f18 ks18, LP.mk k36 n36 p36 e36 fs36 q36 f36 ks36])], .bool false]) (by rfl) ⟨rfl, (show tk ≤ (tk33 + 1) by omega), _, rfl, ⟨_, _, _, _, rfl, rfl, ⟨2, 0, 0, true, [], tk33, false, [LP.mk k18 n18 p18 e18 fs18 q18 f18 ks18, LP.mk k36 n36 p36 e36 fs36 q36 f36 ks36], rfl, rfl, fun _ => (show Fr tk (tk33 + 1) _ from (Fr.app (show Fr tk tk _ from Fr.nil _ _) (show Fr tk (tk33 + 1) _ from Fr.pstop (show Fr tk tk33 _ from (Fr.pcons (show Fr tk tk15 _ from ((show Fr tk tk15 _ from hf19 rfl)).mono (by omega) (by omega)) (Fr.pcons ((show Fr tk15 tk33 _ from hf37 rfl)) (show Fr tk33 tk33 _ from Fr.nil _ _) (by omega) (by omega)) (by omega) (by omega)).mono (by omega) (by omega)) (by omega) (by omega)) (by omega) (by omega)).mono (by omega) (by omega))⟩, rfl⟩⟩
    ·replace hM := ite_f hb7 hM
     refine run_sr ?_
     refine run_bin rfl rfl rfl rfl rfl rfl rfl (ltb rfl) ?_
     refine mvR rfl rfl rfl rfl (ltb rfl) ?_
     refine run_ops_nil ?_
     refine run_ifb rfl rfl (fun hb45 => ?_) (fun hb45 => ?_)
     ·replace hM := ite_t hb45 hM
      refine run_seq ?_
      refine run_sr ?_
      refine run_pu rfl (fieldAddr_step hG rfl rfl rfl rfl rfl) rfl (ltb rfl) ?_
      refine run_ld hG rfl rfl rfl rfl rfl (ltb rfl) ?_
      obtain ⟨y46, hy47, hM⟩ := bind_t hM
      obtain ⟨k48, n48, s48, q48, f48, ks48, rfl, hc49, hi50⟩ := tidx (ks := ks1) hy47
      refine run_pu rfl (indexImm_step hG rfl rfl rfl hi50 rfl rfl rfl rfl hc49) rfl (ltb rfl) ?_
      refine run_pu rfl (fieldAddr_step hG rfl rfl rfl rfl rfl) rfl (ltb rfl) ?_
      refine run_ld hG rfl rfl rfl rfl rfl (ltb rfl) ?_
      refine run_bin rfl rfl rfl rfl rfl rfl rfl (ltb rfl) ?_
      refine run_ops_nil ?_
      refine run_ifb rfl rfl (fun hb51 => ?_) (fun hb51 => ?_)
      ·replace hM := ite_t hb51 hM
       refine run_sr ?_
       refine run_pu rfl (build_step hG rfl (by rfl) rfl (fun h => by cases h) (by rfl)) rfl (ltb rfl) ?_
       refine run_op0 rfl (store_step hG rfl rfl rfl rfl rfl rfl rfl rfl) rfl ?_
       refine mvR rfl rfl rfl rfl (ltb rfl) ?_
       refine run_ops_nil ?_
       refine run_ret_to ?_
       obtain rfl := some_t hM
       refine fin_x hG rfl rfl rfl (v' := .tup [.agg [.int .i64 0, .int .i64 0, .imm 0 3 true (fcellss []), .imm 0 4 true (pcellss [])], .bool false]) (by rfl) ⟨rfl, (show tk ≤ tk by omega), _, rfl, ⟨_, _, _, _, rfl, rfl, ⟨0, 0, 0, true, [], 0, true, [], rfl, rfl, fun _ => Fr.nil _ _⟩, rfl⟩⟩
      ·replace hM := ite_f hb51 hM
       refine run_skip ?_
       refine run_sr ?_
       refine run_pu rfl (fieldAddr_step hG rfl rfl rfl rfl rfl) rfl (ltb rfl) ?_
       refine run_ld hG rfl rfl rfl rfl rfl (ltb rfl) ?_
       obtain ⟨y52, hy53, hM⟩ := bind_t hM
       obtain ⟨k54, n54, s54, q54, f54, ks54, rfl, hc55, hi56⟩ := tidx (ks := ks1) hy53
       refine run_pu rfl (indexImm_step hG rfl rfl rfl hi56 rfl rfl rfl rfl hc55) rfl (ltb rfl) ?_
       refine run_ld hG rfl rfl rfl rfl rfl (ltb rfl) ?_
       obtain ⟨r57, hg58, hM⟩ := bind_t hM
       refine run_call rfl rfl rfl (ltb rfl) rfl rfl rfl (fun _ h => absurd h List.not_mem_nil) (s_l09TypeBack_ok n k54 n54 s54 q54 f54 ks54 hg58 _ _) (callK_retX (fun v tk59 (hle60 : tk ≤ tk59) h61 => ?_))
       obtain ⟨ra66, ra67, va68, va69, rfl, rfl, ⟨k62, n62, q62, f62, ks62, rfl, rfl, hf63⟩, rfl⟩ := h61
       refine mvL rfl rfl rfl rfl (ltb rfl) ?_
       refine run_pu rfl (extract_step rfl rfl rfl) rfl (ltb rfl) ?_
       refine run_pu rfl (extract_step rfl rfl rfl) rfl (ltb rfl) ?_
       refine run_op rfl (alloc_step (d := 10) hG rfl rfl rfl) rfl (ltb rfl) ?_
       refine run_op0 rfl (store_step hG rfl rfl rfl rfl rfl rfl rfl rfl) rfl ?_
       refine mvR rfl rfl rfl rfl (ltb rfl) ?_
       refine run_ops_nil ?_
       refine run_sub_code (σ' := ⟨[(1, .int .i64 i2), (2, .optr (.loc 2) 0 0), (4, .optr (.loc 4) 0 0), (5, .bool false), (10, .optr (.loc 10) 0 0), (11, .bool ra67)], [(10, ⟨43, 3, true, [[.int .i64 k62, .int .i64 n62, .imm q62 3 f62 (fcellss ks62)]]⟩), (4, ⟨60, 4, true, [[.int .i64 0, .int .i64 0, .imm 0 3 true [], .imm 0 4 true []]]⟩), (2, ⟨34, 4, true, [[.int .i64 k1, .int .i64 n1, .str s1, .imm q1 4 f1 (cellss ks1)]]⟩)], [], O, tk59⟩) (Sub.env _ ⟨rfl, rfl, rfl, rfl, rfl, rfl, trivial⟩) ?_
       refine run_sr ?_
       refine run_pu rfl (fieldAddr_step hG rfl rfl rfl rfl rfl) rfl (ltb rfl) ?_
       refine run_ld hG rfl rfl rfl rfl rfl (ltb rfl) ?_
       obtain ⟨y70, hy71, hM⟩ := bind_t hM
       obtain ⟨k72, n72, s72, q72, f72, ks72, rfl, hc73, hi74⟩ := tidx (ks := ks1) hy71
       refine run_pu rfl (indexImm_step hG rfl rfl rfl hi74 rfl rfl rfl rfl hc73) rfl (ltb rfl) ?_
       refine run_pu rfl (fieldAddr_step hG rfl rfl rfl rfl rfl) rfl (ltb rfl) ?_
       refine run_ld hG rfl rfl rfl rfl rfl (ltb rfl) ?_
       obtain ⟨y75, hy76, hM⟩ := bind_t hM
       obtain ⟨k77, n77, s77, q77, f77, ks77, rfl, hc78, hi79⟩ := tidx (ks := ks72) hy76
       refine run_pu rfl (indexImm_step hG rfl rfl rfl hi79 rfl rfl rfl rfl hc78) rfl (ltb rfl) ?_
       refine run_ld hG rfl rfl rfl rfl rfl (ltb rfl) ?_
       refine mvL rfl rfl rfl rfl (ltb rfl) ?_
       refine run_bin rfl rfl rfl rfl rfl rfl rfl (ltb rfl) ?_
       obtain ⟨r80, hg81, hM⟩ := bind_t hM
       refine run_call rfl rfl rfl (ltb rfl) rfl rfl rfl (fun _ h => absurd h List.not_mem_nil) (ih_s_l09Back k77 n77 s77 q77 f77 ks77 (IntKind.i64.wrap (i2 + 1)) hg81 _ _) (callK_retX (fun v tk82 (hle83 : tk59 ≤ tk82) h84 => ?_))
       obtain ⟨ra89, ra90, va91, va92, rfl, rfl, ⟨k85, n85, p85, e85, fs85, q85, f85, ks85, rfl, rfl, hf86⟩, rfl⟩ := h84
       refine mvL rfl rfl rfl rfl (ltb rfl) ?_
       refine run_pu rfl (extract_step rfl rfl rfl) rfl (ltb rfl) ?_
       refine run_pu rfl (extract_step rfl rfl rfl) rfl (ltb rfl) ?_
       refine run_op rfl (alloc_step (d := 12) hG rfl rfl rfl) rfl (ltb rfl) ?_
       refine run_op0 rfl (store_step hG rfl rfl rfl rfl rfl rfl rfl rfl) rfl ?_
       refine mvR rfl rfl rfl rfl (ltb rfl) ?_
       refine run_ops_nil ?_
       refine run_sub_code (σ' := ⟨[(4, .optr (.loc 4) 0 0), (5, .bool false), (10, .optr (.loc 10) 0 0), (11, .bool ra67), (12, .optr (.loc 12) 0 0), (13, .bool ra90)], [(12, ⟨60, 4, true, [[.int .i64 k85, .int .i64 n85, .imm p85 3 e85 (fcellss fs85), .imm q85 4 f85 (pcellss ks85)]]⟩), (10, ⟨43, 3, true, [[.int .i64 k62, .int .i64 n62, .imm q62 3 f62 (fcellss ks62)]]⟩), (4, ⟨60, 4, true, [[.int .i64 0, .int .i64 0, .imm 0 3 true [], .imm 0 4 true []]]⟩)], [], O, tk82⟩) (Sub.trans (Sub.drop (k := 2) rfl) (Sub.env _ ⟨rfl, rfl, rfl, rfl, rfl, rfl, trivial⟩)) ?_
       refine run_sr ?_
       refine run_ld hG rfl rfl rfl rfl rfl (ltb rfl) ?_
       refine run_op rfl (buildSlice_step (d := 101) hG rfl rfl rfl rfl rfl (by rfl) (by rfl) (by rfl) (by decide)) rfl (ltb rfl) ?_
       refine run_ld hG rfl rfl rfl rfl rfl (ltb rfl) ?_
       refine run_op rfl (buildSlice_step (d := 103) hG rfl rfl rfl rfl rfl (by rfl) (by rfl) (by rfl) (by decide)) rfl (ltb rfl) ?_
       refine run_pu rfl (build_step hG rfl (by rfl) rfl (fun h => by cases h) (by rfl)) rfl (ltb rfl) ?_
       refine mvL rfl rfl rfl rfl (ltb rfl) ?_
       refine mvL rfl rfl rfl rfl (ltb rfl) ?_
       refine run_splitb (i := 106) rfl (fun hb93 => ?_) (fun hb93 => ?_)
       ·replace hM := ite_t hb93 hM
        refine run_puG (on_of rfl rfl rfl rfl) (move_step (.inl rfl) rfl) rfl (ltb rfl) ?_
        refine run_pu rfl (pick_step rfl rfl rfl) rfl (ltb rfl) ?_
        refine run_op0 rfl (store_step hG rfl rfl rfl rfl rfl rfl rfl rfl) rfl ?_
        refine mvR rfl rfl rfl rfl (ltb rfl) ?_
        refine run_ops_nil ?_
        refine run_ret_to ?_
        refine fin_sub (Sub.freeze (k := 101) rfl rfl) ?_
        refine fin_sub (Sub.freeze (k := 103) rfl rfl) ?_
        obtain rfl := some_t hM
        refine fin_x hG rfl rfl rfl (v' := .tup [.agg [.int .i64 3, .int .i64 0, .imm tk82 3 false (fcellss [LF.mk k62 n62 q62 f62 ks62]), .imm (tk82 + 1) 4 false (pcellss [LP.mk k85 n85 p85 e85 fs85 q85 f85 ks85])], .bool ra90]) (by rfl) ⟨rfl, (show tk ≤ ((tk82 + 1) + 1) by omega), _, rfl, ⟨_, _, _, _, rfl, rfl, ⟨3, 0, tk82, false, [LF.mk k62 n62 q62 f62 ks62], (tk82 + 1), false, [LP.mk k85 n85 p85 e85 fs85 q85 f85 ks85], rfl, rfl, fun _ => (show Fr tk ((tk82 + 1) + 1) _ from by first | exact Fr.fpab (q1 := tk82) (q := (tk82 + 1)) (show Fr tk tk59 _ from Fr.fcons ((show Fr tk tk59 _ from hf63 rfl)) (show Fr tk59 tk59 _ from Fr.nil _ _) (by omega) (by omega)) (show Fr tk59 tk82 _ from Fr.pcons ((show Fr tk59 tk82 _ from hf86 rfl)) (show Fr tk82 tk82 _ from Fr.nil _ _) (by omega) (by omega)) (by omega) (by omega) (by omega) (by omega) (by omega) (by omega) (by omega) (by omega) (by omega) | exact Fr.fpba (q1 := tk82) (q := (tk82 + 1)) (show Fr tk tk59 _ from Fr.fcons ((show Fr tk tk59 _ from hf63 rfl)) (show Fr tk59 tk59 _ from Fr.nil _ _) (by omega) (by omega)) (show Fr tk59 tk82 _ from Fr.pcons ((show Fr tk59 tk82 _ from hf86 rfl)) (show Fr tk82 tk82 _ from Fr.nil _ _) (by omega) (by omega)) (by omega) (by omega) (by omega) (by omega) (by omega) (by omega) (by omega) (by omega) (by omega))⟩, rfl⟩⟩
       ·replace hM := ite_f hb93 hM
        refine run_off (on_of rfl rfl rfl rfl) rfl (ltb rfl) ?_
        refine run_pu rfl (pick_step rfl rfl rfl) rfl (ltb rfl) ?_
        refine run_op0 rfl (store_step hG rfl rfl rfl rfl rfl rfl rfl rfl) rfl ?_
        refine mvR rfl rfl rfl rfl (ltb rfl) ?_
        refine run_ops_nil ?_
        refine run_ret_to ?_
        refine fin_sub (Sub.freeze (k := 101) rfl rfl) ?_
        refine fin_sub (Sub.freeze (k := 103) rfl rfl) ?_
        obtain rfl := some_t hM
        refine fin_x hG rfl rfl rfl (v' := .tup [.agg [.int .i64 3, .int .i64 0, .imm tk82 3 false (fcellss [LF.mk k62 n62 q62 f62 ks62]), .imm (tk82 + 1) 4 false (pcellss [LP.mk k85 n85 p85 e85 fs85 q85 f85 ks85])], .bool false]) (by rfl) ⟨rfl, (show tk ≤ ((tk82 + 1) + 1) by omega), _, rfl, ⟨_, _, _, _, rfl, rfl, ⟨3, 0, tk82, false, [LF.mk k62 n62 q62 f62 ks62], (tk82 + 1), false, [LP.mk k85 n85 p85 e85 fs85 q85 f85 ks85], rfl, rfl, fun _ => (show Fr tk ((tk82 + 1) + 1) _ from by first | exact Fr.fpab (q1 := tk82) (q := (tk82 + 1)) (show Fr tk tk59 _ from Fr.fcons ((show Fr tk tk59 _ from hf63 rfl)) (show Fr tk59 tk59 _ from Fr.nil _ _) (by omega) (by omega)) (show Fr tk59 tk82 _ from Fr.pcons ((show Fr tk59 tk82 _ from hf86 rfl)) (show Fr tk82 tk82 _ from Fr.nil _ _) (by omega) (by omega)) (by omega) (by omega) (by omega) (by omega) (by omega) (by omega) (by omega) (by omega) (by omega) | exact Fr.fpba (q1 := tk82) (q := (tk82 + 1)) (show Fr tk tk59 _ from Fr.fcons ((show Fr tk tk59 _ from hf63 rfl)) (show Fr tk59 tk59 _ from Fr.nil _ _) (by omega) (by omega)) (show Fr tk59 tk82 _ from Fr.pcons ((show Fr tk59 tk82 _ from hf86 rfl)) (show Fr tk82 tk82 _ from Fr.nil _ _) (by omega) (by omega)) (by omega) (by omega) (by omega) (by omega) (by omega) (by omega) (by omega) (by omega) (by omega))⟩, rfl⟩⟩
     ·replace hM := ite_f hb45 hM
      refine run_skip ?_
      refine run_blk ?_
      refine run_sr ?_
      refine run_pu rfl (build_step hG rfl (by rfl) rfl (fun h => by cases h) (by rfl)) rfl (ltb rfl) ?_
      refine run_op0 rfl (store_step hG rfl rfl rfl rfl rfl rfl rfl rfl) rfl ?_
      refine mvR rfl rfl rfl rfl (ltb rfl) ?_
      refine run_ops_nil ?_
      refine run_ret_to ?_
      obtain rfl := some_t hM
      refine fin_x hG rfl rfl rfl (v' := .tup [.agg [.int .i64 0, .int .i64 0, .imm 0 3 true (fcellss []), .imm 0 4 true (pcellss [])], .bool false]) (by rfl) ⟨rfl, (show tk ≤ tk by omega), _, rfl, ⟨_, _, _, _, rfl, rfl, ⟨0, 0, 0, true, [], 0, true, [], rfl, rfl, fun _ => Fr.nil _ _⟩, rfl⟩⟩

theorem s_l09Back_all : ∀ (n : Nat), (∀ (k1 : Int) (n1 : Int) (s1 : ByteArray) (q1 : Nat) (f1 : Bool) (ks1 : List LT) (i2 : Int) {r : (Pf × Bool)}, s_l09Back n (T.mk k1 n1 s1 (ers ks1)) i2 = some r → ∀ (O : Heap) (tk : Nat), ACalls Go.Proofs.Tryd.prog 73 [.agg [.int .i64 k1, .int .i64 n1, .str s1, .imm q1 4 f1 (cellss ks1)], .int .i64 i2] O tk (RetX O tk (fun v tk' => ∃ r0' r1' v0' v1', r = (r0', r1') ∧ v = .tup [v0', v1'] ∧ VP true tk tk' r0' v0' ∧ v1' = .bool r1')))
 | 0 => by intro k1 n1 s1 q1 f1 ks1 i2 r hM; rw [s_l09Back] at hM; cases hM
 | n + 1 => have ih := s_l09Back_all n; s_l09Back_st n (ih)

theorem s_l09Back_ok (n : Nat) : ∀ (k1 : Int) (n1 : Int) (s1 : ByteArray) (q1 : Nat) (f1 : Bool) (ks1 : List LT) (i2 : Int) {r : (Pf × Bool)}, s_l09Back n (T.mk k1 n1 s1 (ers ks1)) i2 = some r → ∀ (O : Heap) (tk : Nat), ACalls Go.Proofs.Tryd.prog 73 [.agg [.int .i64 k1, .int .i64 n1, .str s1, .imm q1 4 f1 (cellss ks1)], .int .i64 i2] O tk (RetX O tk (fun v tk' => ∃ r0' r1' v0' v1', r = (r0', r1') ∧ v = .tup [v0', v1'] ∧ VP true tk tk' r0' v0' ∧ v1' = .bool r1')) := s_l09Back_all n

def s_DecodeExpr (n : Nat) (x1 : T) (i2 : Int) : Option (Pf × Int) :=
 (s_TermOK n x1).bind fun r3 =>
 if (!r3) = true then
  some ((Pf.mk 0 0 [] []), 1)
 else
  if i2 < 0 then
   some ((Pf.mk 0 0 [] []), 16)
  else
   if i2 > 12 then
    some ((Pf.mk 0 0 [] []), 16)
   else
    (s_l09Back n x1 i2).bind fun r13 =>
    if (!r13.2) = true then
     some ((Pf.mk 0 0 [] []), 3)
    else
     some (r13.1, 0)

set_option maxRecDepth 100000 in
theorem s_DecodeExpr_ok (n : Nat) : ∀ (k1 : Int) (n1 : Int) (s1 : ByteArray) (q1 : Nat) (f1 : Bool) (ks1 : List LT) (i2 : Int) {r : (Pf × Int)}, s_DecodeExpr n (T.mk k1 n1 s1 (ers ks1)) i2 = some r → ∀ (O : Heap) (tk : Nat), ACalls Go.Proofs.Tryd.prog 31 [.agg [.int .i64 k1, .int .i64 n1, .str s1, .imm q1 4 f1 (cellss ks1)], .int .i64 i2] O tk (RetX O tk (fun v tk' => ∃ r0' r1' v0' v1', r = (r0', r1') ∧ v = .tup [v0', v1'] ∧ VP true tk tk' r0' v0' ∧ v1' = .int .i64 r1')) := by
 intro k1 n1 s1 q1 f1 ks1 i2 r hM O tk
 unfold s_DecodeExpr at hM
 refine acalls_of_run Go.Proofs.Tryd.func31 rfl rfl [] [] (Bor.nil _) [(0, .agg [.int .i64 k1, .int .i64 n1, .str s1, .imm q1 4 f1 (cellss ks1)]), (1, .int .i64 i2)] (.cons (.agg _) (.cons (entS rfl) (.nil _))) (leb rfl) (fun _ h => by cases h) (fun S0 hO htk hfz => ?_)
 refine run_sr ?_
 refine run_op rfl (box_step (d := 2) rfl rfl rfl rfl rfl) rfl (ltb rfl) ?_
 refine run_op rfl (alloc_step (d := 4) hG rfl rfl rfl) rfl (ltb rfl) ?_
 refine mvR rfl rfl rfl rfl (ltb rfl) ?_
 refine run_ops_nil ?_
 refine run_seq ?_
 refine run_sr ?_
 refine run_ld hG rfl rfl rfl rfl rfl (ltb rfl) ?_
 obtain ⟨r3, hg4, hM⟩ := bind_t hM
 refine run_call rfl rfl rfl (ltb rfl) rfl rfl rfl (fun _ h => absurd h List.not_mem_nil) (s_TermOK_ok n k1 n1 s1 q1 f1 ks1 hg4 _ _) (callK_retX (fun v tk5 (hle6 : tk ≤ tk5) h7 => ?_))
 subst h7
 refine run_pu rfl (aun_step rfl rfl rfl) rfl (ltb rfl) ?_
 refine run_ops_nil ?_
 refine run_ifb rfl rfl (fun hb10 => ?_) (fun hb10 => ?_)
 ·replace hM := ite_t hb10 hM
  refine run_sr ?_
  refine run_pu rfl (build_step hG rfl (by rfl) rfl (fun h => by cases h) (by rfl)) rfl (ltb rfl) ?_
  refine run_op0 rfl (store_step hG rfl rfl rfl rfl rfl rfl rfl rfl) rfl ?_
  refine mvR rfl rfl rfl rfl (ltb rfl) ?_
  refine run_ops_nil ?_
  refine run_ret_to ?_
  obtain rfl := some_t hM
  refine fin_x hG rfl rfl rfl (v' := .tup [.agg [.int .i64 0, .int .i64 0, .imm 0 3 true (fcellss []), .imm 0 4 true (pcellss [])], .int .i64 1]) (by rfl) ⟨rfl, (show tk ≤ tk5 by omega), _, rfl, ⟨_, _, _, _, rfl, rfl, ⟨0, 0, 0, true, [], 0, true, [], rfl, rfl, fun _ => Fr.nil _ _⟩, rfl⟩⟩
 ·replace hM := ite_f hb10 hM
  refine run_skip ?_
  refine run_seq ?_
  refine run_sr ?_
  refine mvL rfl rfl rfl rfl (ltb rfl) ?_
  refine run_bin rfl rfl rfl rfl rfl rfl rfl (ltb rfl) ?_
  refine mvL rfl rfl rfl rfl (ltb rfl) ?_
  refine run_splitd (i := 14) rfl (fun hb11 => ?_) (fun hb11 => ?_)
  ·replace hM := ite_t hb11 hM
   refine run_off (on_of rfl rfl rfl rfl) rfl (ltb rfl) ?_
   refine run_off (on_of rfl rfl rfl rfl) rfl (ltb rfl) ?_
   refine run_pu rfl (pick_step rfl rfl rfl) rfl (ltb rfl) ?_
   refine run_ops_nil ?_
   refine run_if rfl rfl (fun _ => ?_) (fun h => by cases h)
   refine run_sr ?_
   refine run_pu rfl (build_step hG rfl (by rfl) rfl (fun h => by cases h) (by rfl)) rfl (ltb rfl) ?_
   refine run_op0 rfl (store_step hG rfl rfl rfl rfl rfl rfl rfl rfl) rfl ?_
   refine mvR rfl rfl rfl rfl (ltb rfl) ?_
   refine run_ops_nil ?_
   refine run_ret_to ?_
   obtain rfl := some_t hM
   refine fin_x hG rfl rfl rfl (v' := .tup [.agg [.int .i64 0, .int .i64 0, .imm 0 3 true (fcellss []), .imm 0 4 true (pcellss [])], .int .i64 16]) (by rfl) ⟨rfl, (show tk ≤ tk5 by omega), _, rfl, ⟨_, _, _, _, rfl, rfl, ⟨0, 0, 0, true, [], 0, true, [], rfl, rfl, fun _ => Fr.nil _ _⟩, rfl⟩⟩
  ·replace hM := ite_f hb11 hM
   refine run_puG (on_of rfl rfl rfl rfl) (move_step (.inl rfl) rfl) rfl (ltb rfl) ?_
   refine run_puG (on_of rfl rfl rfl rfl) (abin_step rfl rfl rfl rfl (fun _ h => by cases h)) rfl (ltb rfl) ?_
   refine run_pu rfl (pick_step rfl rfl rfl) rfl (ltb rfl) ?_
   refine run_ops_nil ?_
   refine run_ifd rfl rfl (fun hb12 => ?_) (fun hb12 => ?_)
   ·replace hM := ite_t hb12 hM
    refine run_sr ?_
    refine run_pu rfl (build_step hG rfl (by rfl) rfl (fun h => by cases h) (by rfl)) rfl (ltb rfl) ?_
    refine run_op0 rfl (store_step hG rfl rfl rfl rfl rfl rfl rfl rfl) rfl ?_
    refine mvR rfl rfl rfl rfl (ltb rfl) ?_
    refine run_ops_nil ?_
    refine run_ret_to ?_
    obtain rfl := some_t hM
    refine fin_x hG rfl rfl rfl (v' := .tup [.agg [.int .i64 0, .int .i64 0, .imm 0 3 true (fcellss []), .imm 0 4 true (pcellss [])], .int .i64 16]) (by rfl) ⟨rfl, (show tk ≤ tk5 by omega), _, rfl, ⟨_, _, _, _, rfl, rfl, ⟨0, 0, 0, true, [], 0, true, [], rfl, rfl, fun _ => Fr.nil _ _⟩, rfl⟩⟩
   ·replace hM := ite_f hb12 hM
    refine run_skip ?_
    refine run_sr ?_
    refine run_ld hG rfl rfl rfl rfl rfl (ltb rfl) ?_
    refine mvL rfl rfl rfl rfl (ltb rfl) ?_
    obtain ⟨r13, hg14, hM⟩ := bind_t hM
    refine run_call rfl rfl rfl (ltb rfl) rfl rfl rfl (fun _ h => absurd h List.not_mem_nil) (s_l09Back_ok n k1 n1 s1 q1 f1 ks1 i2 hg14 _ _) (callK_retX (fun v tk15 (hle16 : tk5 ≤ tk15) h17 => ?_))
    obtain ⟨ra22, ra23, va24, va25, rfl, rfl, ⟨k18, n18, p18, e18, fs18, q18, f18, ks18, rfl, rfl, hf19⟩, rfl⟩ := h17
    refine mvL rfl rfl rfl rfl (ltb rfl) ?_
    refine run_pu rfl (extract_step rfl rfl rfl) rfl (ltb rfl) ?_
    refine run_pu rfl (extract_step rfl rfl rfl) rfl (ltb rfl) ?_
    refine run_op rfl (alloc_step (d := 6) hG rfl rfl rfl) rfl (ltb rfl) ?_
    refine run_op0 rfl (store_step hG rfl rfl rfl rfl rfl rfl rfl rfl) rfl ?_
    refine mvR rfl rfl rfl rfl (ltb rfl) ?_
    refine run_ops_nil ?_
    refine run_sub_code (σ' := ⟨[(4, .optr (.loc 4) 0 0), (5, .int .i64 0), (6, .optr (.loc 6) 0 0), (7, .bool ra23)], [(6, ⟨60, 4, true, [[.int .i64 k18, .int .i64 n18, .imm p18 3 e18 (fcellss fs18), .imm q18 4 f18 (pcellss ks18)]]⟩), (4, ⟨60, 4, true, [[.int .i64 0, .int .i64 0, .imm 0 3 true [], .imm 0 4 true []]]⟩)], [], O, tk15⟩) (Sub.trans (Sub.drop (k := 2) rfl) (Sub.env _ ⟨rfl, rfl, rfl, rfl, trivial⟩)) ?_
    refine run_seq ?_
    refine run_sr ?_
    refine mvL rfl rfl rfl rfl (ltb rfl) ?_
    refine run_pu rfl (aun_step rfl rfl rfl) rfl (ltb rfl) ?_
    refine run_ops_nil ?_
    refine run_ifb rfl rfl (fun hb26 => ?_) (fun hb26 => ?_)
    ·replace hM := ite_t hb26 hM
     refine run_sr ?_
     refine run_pu rfl (build_step hG rfl (by rfl) rfl (fun h => by cases h) (by rfl)) rfl (ltb rfl) ?_
     refine run_op0 rfl (store_step hG rfl rfl rfl rfl rfl rfl rfl rfl) rfl ?_
     refine mvR rfl rfl rfl rfl (ltb rfl) ?_
     refine run_ops_nil ?_
     refine run_ret_to ?_
     obtain rfl := some_t hM
     refine fin_x hG rfl rfl rfl (v' := .tup [.agg [.int .i64 0, .int .i64 0, .imm 0 3 true (fcellss []), .imm 0 4 true (pcellss [])], .int .i64 3]) (by rfl) ⟨rfl, (show tk ≤ tk15 by omega), _, rfl, ⟨_, _, _, _, rfl, rfl, ⟨0, 0, 0, true, [], 0, true, [], rfl, rfl, fun _ => Fr.nil _ _⟩, rfl⟩⟩
    ·replace hM := ite_f hb26 hM
     refine run_skip ?_
     refine run_sr ?_
     refine run_ld hG rfl rfl rfl rfl rfl (ltb rfl) ?_
     refine run_op0 rfl (store_step hG rfl rfl rfl rfl rfl rfl rfl rfl) rfl ?_
     refine mvR rfl rfl rfl rfl (ltb rfl) ?_
     refine run_ops_nil ?_
     refine run_ret_to ?_
     obtain rfl := some_t hM
     refine fin_x hG rfl rfl rfl (v' := .tup [.agg [.int .i64 k18, .int .i64 n18, .imm p18 3 e18 (fcellss fs18), .imm q18 4 f18 (pcellss ks18)], .int .i64 0]) (by rfl) ⟨rfl, (show tk ≤ tk15 by omega), _, rfl, ⟨_, _, _, _, rfl, rfl, ⟨k18, n18, p18, e18, fs18, q18, f18, ks18, rfl, rfl, fun _ => (show Fr tk tk15 _ from ((show Fr tk5 tk15 _ from hf19 rfl)).mono (by omega) (by omega))⟩, rfl⟩⟩

end Go.Am.YtiobknkpdkkikaaDoor
