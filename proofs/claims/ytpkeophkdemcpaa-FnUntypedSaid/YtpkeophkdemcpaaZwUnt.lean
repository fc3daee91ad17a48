/- Printed by a program of ours: Lean functions that do what the Go functions do, and the contracts. -/
import Derived.Test.YtpkeophkdemcpaaTypes
import Derived.Test.YtpkeophkdemcpaaMi4
import Derived.Test.YtpkeophkdemcpaaMc1
import Derived.Test.YtpkeophkdemcpaaMb3
import Derived.Test.YtpkeophkdemcpaaMb1
import Derived.Test.YtpkeophkdemcpaaGs0
import Derived.Test.YtpkeophkdemcpaaMp
import Derived.Test.YtpkeophkdemcpaaZsO
import Derived.Test.YtpkeophkdemcpaaEqEncT
import Derived.Test.YtpkeophkdemcpaaMz
-- packed
namespace Go.Am.Ytpkeophkdemcpaa
open Go Go.Am

def w_full (i1 : Int) : Option Bool :=
 if i1 = 11 then
  some true
 else
  some (i1 == 17)

set_option maxRecDepth 100000 in
theorem w_full_ok : ∀ (i1 : Int) {r : Bool}, w_full i1 = some r → ∀ (O : Heap) (tk : Nat), ACalls Go.Proofs.Try.prog 22 [.int .i64 i1] O tk (RetX O tk (fun v tk' => v = .bool r)) := by
 intro i1 r hM O tk
 unfold w_full at hM
 refine acalls_of_run Go.Proofs.Try.func22 rfl rfl [] [] (Bor.nil _) [(0, .int .i64 i1)] (.cons (entS rfl) (.nil _)) (leb rfl) (fun _ h => by cases h) (fun S0 hO htk hfz => ?_)
 refine run_sr ?_
 refine yR rfl ?_
 refine yN ?_
 refine run_sr ?_
 refine yL rfl ?_
 refine yB rfl ?_
 refine yL rfl ?_
 refine run_splitd (i := 5) rfl (fun hb2 => ?_) (fun hb2 => ?_)
 ·replace hM := ite_t hb2 hM
  refine yO rfl ?_
  refine yO rfl ?_
  refine yP rfl ?_
  refine yR rfl ?_
  refine yN ?_
  refine run_ret_to ?_
  replace hM := some_t hM
  subst hM
  refine fin_x hG rfl rfl rfl (v' := .bool true) (by rfl) ⟨rfl, (show tk ≤ tk by omega), _, rfl, rfl⟩
 replace hM := ite_f hb2 hM
 refine run_puG (on_of rfl rfl rfl rfl) (move_step (.inl rfl) rfl) rfl (ltb rfl) ?_
 refine run_puG (on_of rfl rfl rfl rfl) (abin_step rfl rfl rfl rfl (fun _ h => by cases h)) rfl (ltb rfl) ?_
 refine yP rfl ?_
 refine yR rfl ?_
 refine yN ?_
 refine run_ret_to ?_
 replace hM := some_t hM
 subst hM
 refine fin_x hG rfl rfl rfl (v' := .bool (i1 == 17)) (by rfl) ⟨rfl, (show tk ≤ tk by omega), _, rfl, rfl⟩

def w_FnUntyped (n : Nat) (l1 : List Int) : Option (Rz Bool) :=
 if ((l1).length : Int) > 1048576 then
  some (.ok true)
 else
  (s_SpoiltExprOf n l1).bind fun r3 =>
  (i_TypeOf n r3.1 r3.2).bind fun r16 =>
  (s_TypeOf n r3.1 r3.2).bind fun r33 =>
  zb (i_EncodeTyping n r3.1 r3.2) fun r51 =>
  if r16.2.1 = r33.2.1 then
   (w_sameType n r16.1 r33.1).bind fun r73 =>
   if r73 = true then
    if r16.2.1 = r51.2.2 then
     some (.ok true)
    else
     if r16.2.1 = 0 then
      (w_full r51.2.2).bind fun r83 =>
      some (.ok r83)
     else
      some (.ok false)
   else
    some (.ok false)
  else
   some (.ok false)

set_option maxHeartbeats 20000000 in
set_option maxHeartbeats 20000000 in
set_option maxRecDepth 100000 in
theorem w_FnUntyped_ok (n : Nat) : ∀ (f1 : Bool) (l1 : List Int) {r : (Rz Bool)}, w_FnUntyped n l1 = some r → ∀ (O : Heap) (tk : Nat), 2 ≤ tk → ACalls Go.Proofs.Try.prog 5 [.imm 0 1 f1 ((l1 : List Int).map fun n => [AV.int .u8 n])] O tk (RetZ HT O tk r (fun r v tk' => v = .bool r)) := by
 intro f1 l1 r hM O tk h2tk
 unfold w_FnUntyped at hM
 refine acalls_of_run_z Go.Proofs.Try.func5 rfl rfl [] [] (Bor.nil _) [(0, .imm 0 1 f1 ((l1 : List Int).map fun n => [AV.int .u8 n]))] (.cons (entS rfl) (.nil _)) (leb rfl) (fun _ h => by cases h) yE (fun S0 hO htk hfz hzf => ?_)
 refine run_sr ?_
 refine yR rfl ?_
 refine yN ?_
 refine run_seq ?_
 refine run_sr ?_
 refine yL rfl ?_
 refine run_pu rfl (lenImm_step hG rfl rfl rfl rfl (ilen _)) rfl (ltb rfl) ?_
 refine yB rfl ?_
 refine yN ?_
 refine run_ifd rfl rfl (fun hb2 => ?_) (fun hb2 => ?_)
 ·replace hM := ite_t hb2 hM
  refine run_sr ?_
  refine yR rfl ?_
  refine yN ?_
  refine run_ret_to ?_
  replace hM := some_t hM
  subst hM
  refine fin_x hG rfl rfl rfl (v' := .bool true) (by rfl) ⟨rfl, (show tk ≤ tk by omega), _, rfl, rfl⟩
 replace hM := ite_f hb2 hM
 refine run_skip ?_
 refine run_sr ?_
 refine yL rfl ?_
 obtain ⟨r3, hg4, hM⟩ := bind_t hM
 refine yK rfl (s_SpoiltExprOf_ok n f1 l1 hg4 _ _ (show 2 ≤ tk by omega)) (callK_retX (fun v tk5 (hle6 : tk ≤ tk5) h7 => ?_))
 obtain ⟨ra12, ra13, va14, va15, rfl, rfl, ⟨q8, f8, ks8, rfl, rfl, hf9⟩, ⟨k10, n10, p10, e10, fs10, q10, f10, ks10, rfl, rfl, hf11⟩⟩ := h7
 refine yL rfl ?_
 refine run_pu rfl (extract_step rfl rfl rfl) rfl (ltb rfl) ?_
 refine run_pu rfl (extract_step rfl rfl rfl) rfl (ltb rfl) ?_
 refine run_op rfl (alloc_step (d := 4) hG rfl rfl rfl) rfl (ltb rfl) ?_
 refine yR rfl ?_
 refine yS hG rfl ?_
 refine yN ?_
 refine run_sr ?_
 refine yL rfl ?_
 refine yD hG rfl ?_
 obtain ⟨r16, hg17, hM⟩ := bind_t hM
 refine yK rfl (i_TypeOf_ok n q8 f8 ks8 k10 n10 p10 e10 fs10 q10 f10 ks10 hg17 _ _) (callK_retX (fun v tk18 (hle19 : tk5 ≤ tk18) h20 => ?_))
 obtain ⟨ra27, ra28, ra29, va30, va31, va32, rfl, rfl, ⟨k21, n21, q21, f21, ks21, rfl, rfl, hf22⟩, rfl, rfl⟩ := h20
 refine yL rfl ?_
 refine run_pu rfl (extract_step rfl rfl rfl) rfl (ltb rfl) ?_
 refine run_pu rfl (extract_step rfl rfl rfl) rfl (ltb rfl) ?_
 refine run_pu rfl (extract_step rfl rfl rfl) rfl (ltb rfl) ?_
 refine run_op rfl (alloc_step (d := 5) hG rfl rfl rfl) rfl (ltb rfl) ?_
 refine yS hG rfl ?_
 refine yR rfl ?_
 refine yR rfl ?_
 refine yN ?_
 refine run_sub_code (σ' := ⟨[(2, .bool false), (4, .optr (.loc 4) 0 0), (3, .imm q8 3 f8 (fcellss ks8)), (5, .optr (.loc 5) 0 0), (6, .int .i64 ra28)], [(5, ⟨42, 3, true, [[.int .i64 k21, .int .i64 n21, .imm q21 3 f21 (fcellss ks21)]]⟩), (4, ⟨40, 4, true, [[.int .i64 k10, .int .i64 n10, .imm p10 3 e10 (fcellss fs10), .imm q10 4 f10 (pcellss ks10)]]⟩)], [], O, tk18⟩) (Sub.env _ ⟨rfl, rfl, rfl, rfl, rfl, trivial⟩) ?_
 refine run_sr ?_
 refine yL rfl ?_
 refine yD hG rfl ?_
 obtain ⟨r33, hg34, hM⟩ := bind_t hM
 refine yK rfl (s_TypeOf_ok n q8 f8 ks8 k10 n10 p10 e10 fs10 q10 f10 ks10 hg34 _ _) (callK_retX (fun v tk35 (hle36 : tk18 ≤ tk35) h37 => ?_))
 obtain ⟨ra44, ra45, ra46, va47, va48, va49, rfl, rfl, ⟨k38, n38, q38, f38, ks38, rfl, rfl, hf39⟩, rfl, rfl⟩ := h37
 refine yL rfl ?_
 refine run_pu rfl (extract_step rfl rfl rfl) rfl (ltb rfl) ?_
 refine run_pu rfl (extract_step rfl rfl rfl) rfl (ltb rfl) ?_
 refine run_pu rfl (extract_step rfl rfl rfl) rfl (ltb rfl) ?_
 refine run_op rfl (alloc_step (d := 8) hG rfl rfl rfl) rfl (ltb rfl) ?_
 refine yS hG rfl ?_
 refine yR rfl ?_
 refine yR rfl ?_
 refine yN ?_
 refine run_sr ?_
 refine yL rfl ?_
 refine yD hG rfl ?_
 obtain ⟨z56, hg52, hM⟩ := zb_t hM
 refine yK rfl (i_EncodeTyping_ok n q8 f8 ks8 k10 n10 p10 e10 fs10 q10 f10 ks10 hg52 _ _) (callK_retZ (fun r51 v tk53 hz63 (hle54 : tk35 ≤ tk53) h55 => ?_) (fun c p tk53 hz (_ : tk35 ≤ tk53) => by subst hz; obtain rfl := bd_stop hM; exact run_pan_at (⟨rfl, (show tk ≤ tk53 by omega), rfl⟩)))
 subst hz63
 replace hM := bd_ok hM
 obtain ⟨ra64, ra65, ra66, va67, va68, va69, tkm50, rfl, rfl, (hle70 : tk35 ≤ tkm50), (hle71 : tkm50 ≤ tk53), ⟨k57, n57, s57, q57, f57, ks57, rfl, rfl, hf58⟩, ⟨k59, n59, s59, q59, f59, ks59, rfl, rfl, hf60⟩, rfl⟩ := h55
 refine yL rfl ?_
 refine run_pu rfl (extract_step rfl rfl rfl) rfl (ltb rfl) ?_
 refine run_pu rfl (extract_step rfl rfl rfl) rfl (ltb rfl) ?_
 refine run_pu rfl (extract_step rfl rfl rfl) rfl (ltb rfl) ?_
 refine run_op rfl (alloc_step (d := 11) hG rfl rfl rfl) rfl (ltb rfl) ?_
 refine run_op rfl (alloc_step (d := 12) hG rfl rfl rfl) rfl (ltb rfl) ?_
 refine yS hG rfl ?_
 refine yS hG rfl ?_
 refine yR rfl ?_
 refine yN ?_
 refine run_sub_code (σ' := ⟨[(2, .bool false), (5, .optr (.loc 5) 0 0), (6, .int .i64 ra28), (8, .optr (.loc 8) 0 0), (9, .int .i64 ra45), (13, .int .i64 ra66)], [(8, ⟨42, 3, true, [[.int .i64 k38, .int .i64 n38, .imm q38 3 f38 (fcellss ks38)]]⟩), (5, ⟨42, 3, true, [[.int .i64 k21, .int .i64 n21, .imm q21 3 f21 (fcellss ks21)]]⟩)], [], O, tk53⟩) (Sub.trans (Sub.drop (k := 12) rfl) (Sub.trans (Sub.drop (k := 11) rfl) (Sub.trans (Sub.drop (k := 4) rfl) (Sub.env _ ⟨rfl, rfl, rfl, rfl, rfl, rfl, trivial⟩)))) ?_
 refine run_sr ?_
 refine yL rfl ?_
 refine yL rfl ?_
 refine yB rfl ?_
 refine yL rfl ?_
 refine run_splitd (i := 46) rfl (fun hb72 => ?_) (fun hb72 => ?_)
 ·replace hM := ite_t hb72 hM
  refine run_rdG (on_of rfl rfl rfl rfl) (aload_rd hG rfl rfl rfl (by first | (simp [ldok]; done) | exact List.not_mem_nil | trivial)) rfl (ltb rfl) ?_
  refine run_rdG (on_of rfl rfl rfl rfl) (aload_rd hG rfl rfl rfl (by first | (simp [ldok]; done) | exact List.not_mem_nil | trivial)) rfl (ltb rfl) ?_
  obtain ⟨r73, hg74, hM⟩ := bind_t hM
  refine yG (on_of rfl rfl rfl rfl) rfl (w_sameType_ok n k21 n21 q21 f21 ks21 k38 n38 q38 f38 ks38 hg74 _ _) (callK_retX (fun v tk75 (hle76 : tk53 ≤ tk75) h77 => ?_))
  subst h77
  refine yP rfl ?_
  refine yL rfl ?_
  refine run_splitb (i := 51) rfl (fun hb80 => ?_) (fun hb80 => ?_)
  ·replace hM := ite_t hb80 hM
   refine run_puG (on_of rfl rfl rfl rfl) (move_step (.inl rfl) rfl) rfl (ltb rfl) ?_
   refine run_puG (on_of rfl rfl rfl rfl) (move_step (.inl rfl) rfl) rfl (ltb rfl) ?_
   refine run_puG (on_of rfl rfl rfl rfl) (abin_step rfl rfl rfl rfl (fun _ h => by cases h)) rfl (ltb rfl) ?_
   refine run_puG (on_of rfl rfl rfl rfl) (move_step (.inl rfl) rfl) rfl (ltb rfl) ?_
   refine run_splitd (i := 55) rfl (fun hb81 => ?_) (fun hb81 => ?_)
   ·replace hM := ite_t hb81 hM
    refine yO rfl ?_
    refine yO rfl ?_
    refine yO rfl ?_
    refine run_off (off_un rfl rfl rfl) rfl (ltb rfl) ?_
    refine run_off (off_un rfl rfl rfl) rfl (ltb rfl) ?_
    refine yO rfl ?_
    refine run_puG (on_of rfl rfl rfl rfl) (pick_step rfl rfl rfl) rfl (ltb rfl) ?_
    refine yP rfl ?_
    refine yR rfl ?_
    refine yN ?_
    refine run_ret_to ?_
    replace hM := some_t hM
    subst hM
    refine fin_x hG rfl rfl rfl (v' := .bool true) (by rfl) ⟨rfl, (show tk ≤ tk75 by omega), _, rfl, rfl⟩
   replace hM := ite_f hb81 hM
   refine run_puG (on_of rfl rfl rfl rfl) (move_step (.inl rfl) rfl) rfl (ltb rfl) ?_
   refine run_puG (on_of rfl rfl rfl rfl) (abin_step rfl rfl rfl rfl (fun _ h => by cases h)) rfl (ltb rfl) ?_
   refine run_puG (on_of rfl rfl rfl rfl) (move_step (.inl rfl) rfl) rfl (ltb rfl) ?_
   refine run_splitd (i := 58) rfl (fun hb82 => ?_) (fun hb82 => ?_)
   ·replace hM := ite_t hb82 hM
    refine run_puG (on_of rfl rfl rfl rfl) (move_step (.inl rfl) rfl) rfl (ltb rfl) ?_
    obtain ⟨r83, hg84, hM⟩ := bind_t hM
    refine yG (on_of rfl rfl rfl rfl) rfl (w_full_ok ra66 hg84 _ _) (callK_retX (fun v tk85 (hle86 : tk75 ≤ tk85) h87 => ?_))
    subst h87
    refine run_puG (on_of rfl rfl rfl rfl) (pick_step rfl rfl rfl) rfl (ltb rfl) ?_
    refine run_puG (on_of rfl rfl rfl rfl) (pick_step rfl rfl rfl) rfl (ltb rfl) ?_
    refine yP rfl ?_
    refine yR rfl ?_
    refine yN ?_
    refine run_ret_to ?_
    replace hM := some_t hM
    subst hM
    refine fin_x hG rfl rfl rfl (v' := .bool r83) (by rfl) ⟨rfl, (show tk ≤ tk85 by omega), _, rfl, rfl⟩
   replace hM := ite_f hb82 hM
   refine yO rfl ?_
   refine yO rfl ?_
   refine run_puG (on_of rfl rfl rfl rfl) (pick_step rfl rfl rfl) rfl (ltb rfl) ?_
   refine run_puG (on_of rfl rfl rfl rfl) (pick_step rfl rfl rfl) rfl (ltb rfl) ?_
   refine yP rfl ?_
   refine yR rfl ?_
   refine yN ?_
   refine run_ret_to ?_
   replace hM := some_t hM
   subst hM
   refine fin_x hG rfl rfl rfl (v' := .bool false) (by rfl) ⟨rfl, (show tk ≤ tk75 by omega), _, rfl, rfl⟩
  replace hM := ite_f hb80 hM
  refine yO rfl ?_
  refine yO rfl ?_
  refine yO rfl ?_
  refine yO rfl ?_
  refine run_off (off_un rfl rfl rfl) rfl (ltb rfl) ?_
  refine run_off (off_un rfl rfl rfl) rfl (ltb rfl) ?_
  refine run_off (off_un rfl rfl rfl) rfl (ltb rfl) ?_
  refine run_off (off_un rfl rfl rfl) rfl (ltb rfl) ?_
  refine run_off (off_un rfl rfl rfl) rfl (ltb rfl) ?_
  refine run_off (off_un rfl rfl rfl) rfl (ltb rfl) ?_
  refine yO rfl ?_
  refine yP rfl ?_
  refine yR rfl ?_
  refine yN ?_
  refine run_ret_to ?_
  replace hM := some_t hM
  subst hM
  refine fin_x hG rfl rfl rfl (v' := .bool false) (by rfl) ⟨rfl, (show tk ≤ tk75 by omega), _, rfl, rfl⟩
 replace hM := ite_f hb72 hM
 refine yO rfl ?_
 refine yO rfl ?_
 refine yO rfl ?_
 refine yP rfl ?_
 refine yL rfl ?_
 refine yO rfl ?_
 refine yO rfl ?_
 refine yO rfl ?_
 refine yO rfl ?_
 refine run_off (off_un rfl rfl rfl) rfl (ltb rfl) ?_
 refine run_off (off_un rfl rfl rfl) rfl (ltb rfl) ?_
 refine run_off (off_un rfl rfl rfl) rfl (ltb rfl) ?_
 refine run_off (off_un rfl rfl rfl) rfl (ltb rfl) ?_
 refine run_off (off_un rfl rfl rfl) rfl (ltb rfl) ?_
 refine run_off (off_un rfl rfl rfl) rfl (ltb rfl) ?_
 refine yO rfl ?_
 refine yP rfl ?_
 refine yR rfl ?_
 refine yN ?_
 refine run_ret_to ?_
 replace hM := some_t hM
 subst hM
 refine fin_x hG rfl rfl rfl (v' := .bool false) (by rfl) ⟨rfl, (show tk ≤ tk53 by omega), _, rfl, rfl⟩

end Go.Am.Ytpkeophkdemcpaa
