/- Printed by a program of ours: Lean functions that do what the Go functions do, and the contracts. -/
import Derived.Test.YtaedacibojpfkaaTypes
import Derived.Test.YtaedacibojpfkaaMi4
import Derived.Test.YtaedacibojpfkaaMc1
import Derived.Test.YtaedacibojpfkaaMb3
import Derived.Test.YtaedacibojpfkaaMb1
import Derived.Test.YtaedacibojpfkaaGs0
import Derived.Test.YtaedacibojpfkaaGsP
import Derived.Test.YtaedacibojpfkaaMxProves
-- packed
namespace Go.Am.Ytaedacibojpfkaa
open Go Go.Am

def w_FnMoreHyps (n : Nat) (l1 : List Int) (l2 : List Int) : Option Bool :=
 if ((l1).length : Int) > 1048576 then
  some true
 else
  if ((l2).length : Int) > 1048576 then
   some true
  else
   (s_ProofOf n l1).bind fun r5 =>
   (s_ProofOK n r5.2.1).bind fun r22 =>
   if (!r22) = true then
    some true
   else
    (s_FormOf n l2).bind fun r30 =>
    chk (([r30]).length + (r5.1).length ≤ 1099511627776) <|
    (i_Proves n ([r30] ++ r5.1) r5.2.1).bind fun r38 =>
    if r38.2.1 = 0 then
     (w_sameForm n r5.2.2 r38.1).bind fun r56 =>
     some r56
    else
     some false

set_option maxHeartbeats 20000000 in
set_option maxRecDepth 100000 in
theorem w_FnMoreHyps_ok (n : Nat) : ∀ (q1 : Nat) (f1 : Bool) (l1 : List Int) (q2 : Nat) (f2 : Bool) (l2 : List Int) {r : Bool}, w_FnMoreHyps n l1 l2 = some r → ∀ (O : Heap) (tk : Nat), ACalls Go.Proofs.Try.prog 3 [.imm q1 1 f1 ((l1 : List Int).map fun n => [AV.int .u8 n]), .imm q2 1 f2 ((l2 : List Int).map fun n => [AV.int .u8 n])] O tk (RetX O tk (fun v tk' => v = .bool r)) := by
 intro q1 f1 l1 q2 f2 l2 r hM O tk
 unfold w_FnMoreHyps at hM
 refine acalls_of_run Go.Proofs.Try.func3 rfl rfl [] [] (Bor.nil _) [(0, .imm q1 1 f1 ((l1 : List Int).map fun n => [AV.int .u8 n])), (1, .imm q2 1 f2 ((l2 : List Int).map fun n => [AV.int .u8 n]))] (.cons (entS rfl) (.cons (entS rfl) (.nil _))) (leb rfl) (fun _ h => by cases h) (fun S0 hO htk hfz => ?_)
 refine run_sr ?_
 refine mvR rfl rfl rfl rfl (ltb rfl) ?_
 refine run_ops_nil ?_
 refine run_seq ?_
 refine run_sr ?_
 refine mvL rfl rfl rfl rfl (ltb rfl) ?_
 refine run_pu rfl (lenImm_step hG rfl rfl rfl rfl (ilen _)) rfl (ltb rfl) ?_
 refine run_bin rfl rfl rfl rfl rfl rfl rfl (ltb rfl) ?_
 refine mvL rfl rfl rfl rfl (ltb rfl) ?_
 refine run_splitd (i := 14) rfl (fun hb3 => ?_) (fun hb3 => ?_)
 ·replace hM := ite_t hb3 hM
  refine run_off (on_of rfl rfl rfl rfl) rfl (ltb rfl) ?_
  refine run_off (on_of rfl rfl rfl rfl) rfl (ltb rfl) ?_
  refine run_off (on_of rfl rfl rfl rfl) rfl (ltb rfl) ?_
  refine run_pu rfl (pick_step rfl rfl rfl) rfl (ltb rfl) ?_
  refine run_ops_nil ?_
  refine run_if rfl rfl (fun _ => ?_) (fun h => by cases h)
  refine run_sr ?_
  refine mvR rfl rfl rfl rfl (ltb rfl) ?_
  refine run_ops_nil ?_
  refine run_ret_to ?_
  replace hM := some_t hM
  subst hM
  refine fin_x hG rfl rfl rfl (v' := .bool true) (by rfl) ⟨rfl, (show tk ≤ tk by omega), _, rfl, rfl⟩
 ·replace hM := ite_f hb3 hM
  refine run_puG (on_of rfl rfl rfl rfl) (move_step (.inl rfl) rfl) rfl (ltb rfl) ?_
  refine run_puG (on_of rfl rfl rfl rfl) (lenImm_step hG rfl rfl rfl rfl (ilen _)) rfl (ltb rfl) ?_
  refine run_puG (on_of rfl rfl rfl rfl) (abin_step rfl rfl rfl rfl (fun _ h => by cases h)) rfl (ltb rfl) ?_
  refine run_pu rfl (pick_step rfl rfl rfl) rfl (ltb rfl) ?_
  refine run_ops_nil ?_
  refine run_ifd rfl rfl (fun hb4 => ?_) (fun hb4 => ?_)
  ·replace hM := ite_t hb4 hM
   refine run_sr ?_
   refine mvR rfl rfl rfl rfl (ltb rfl) ?_
   refine run_ops_nil ?_
   refine run_ret_to ?_
   replace hM := some_t hM
   subst hM
   refine fin_x hG rfl rfl rfl (v' := .bool true) (by rfl) ⟨rfl, (show tk ≤ tk by omega), _, rfl, rfl⟩
  ·replace hM := ite_f hb4 hM
   refine run_skip ?_
   refine run_sr ?_
   refine mvL rfl rfl rfl rfl (ltb rfl) ?_
   obtain ⟨r5, hg6, hM⟩ := bind_t hM
   refine run_call rfl rfl rfl (ltb rfl) rfl rfl rfl (fun _ h => absurd h List.not_mem_nil) (s_ProofOf_ok n q1 f1 l1 hg6 _ _) (callK_retX (fun v tk7 (hle8 : tk ≤ tk7) h9 => ?_))
   obtain ⟨ra16, ra17, ra18, va19, va20, va21, rfl, rfl, ⟨q10, f10, ks10, rfl, rfl, hf11⟩, ⟨k12, n12, p12, e12, fs12, q12, f12, ks12, rfl, rfl, hf13⟩, ⟨k14, n14, q14, f14, ks14, rfl, rfl, hf15⟩⟩ := h9
   refine mvL rfl rfl rfl rfl (ltb rfl) ?_
   refine run_pu rfl (extract_step rfl rfl rfl) rfl (ltb rfl) ?_
   refine run_pu rfl (extract_step rfl rfl rfl) rfl (ltb rfl) ?_
   refine run_pu rfl (extract_step rfl rfl rfl) rfl (ltb rfl) ?_
   refine run_op rfl (alloc_step (d := 6) hG rfl rfl rfl) rfl (ltb rfl) ?_
   refine run_op rfl (alloc_step (d := 7) hG rfl rfl rfl) rfl (ltb rfl) ?_
   refine mvR rfl rfl rfl rfl (ltb rfl) ?_
   refine run_op0 rfl (store_step hG rfl rfl rfl rfl rfl rfl rfl rfl) rfl ?_
   refine run_op0 rfl (store_step hG rfl rfl rfl rfl rfl rfl rfl rfl) rfl ?_
   refine run_ops_nil ?_
   refine run_sub_code (σ' := ⟨[(1, .imm q2 1 f2 ((l2 : List Int).map fun n => [AV.int .u8 n])), (4, .bool false), (6, .optr (.loc 6) 0 0), (7, .optr (.loc 7) 0 0), (5, .imm q10 3 f10 (fcellss ks10))], [(7, ⟨28, 3, true, [[.int .i64 k14, .int .i64 n14, .imm q14 3 f14 (fcellss ks14)]]⟩), (6, ⟨26, 4, true, [[.int .i64 k12, .int .i64 n12, .imm p12 3 e12 (fcellss fs12), .imm q12 4 f12 (pcellss ks12)]]⟩)], [], O, tk7⟩) (Sub.env _ ⟨rfl, rfl, rfl, rfl, rfl, trivial⟩) ?_
   refine run_seq ?_
   refine run_sr ?_
   refine run_ld hG rfl rfl rfl rfl rfl (ltb rfl) ?_
   obtain ⟨r22, hg23, hM⟩ := bind_t hM
   refine run_call rfl rfl rfl (ltb rfl) rfl rfl rfl (fun _ h => absurd h List.not_mem_nil) (s_ProofOK_ok n k12 n12 p12 e12 fs12 q12 f12 ks12 hg23 _ _) (callK_retX (fun v tk24 (hle25 : tk7 ≤ tk24) h26 => ?_))
   subst h26
   refine run_pu rfl (aun_step rfl rfl rfl) rfl (ltb rfl) ?_
   refine run_ops_nil ?_
   refine run_ifb rfl rfl (fun hb29 => ?_) (fun hb29 => ?_)
   ·replace hM := ite_t hb29 hM
    refine run_sr ?_
    refine mvR rfl rfl rfl rfl (ltb rfl) ?_
    refine run_ops_nil ?_
    refine run_ret_to ?_
    replace hM := some_t hM
    subst hM
    refine fin_x hG rfl rfl rfl (v' := .bool true) (by rfl) ⟨rfl, (show tk ≤ tk24 by omega), _, rfl, rfl⟩
   ·replace hM := ite_f hb29 hM
    refine run_skip ?_
    refine run_seq ?_
    refine run_draw [] (n := 15) mixed rfl (fun _ h => absurd h List.not_mem_nil) ?_
    refine AAny.take (i := 0) rfl (by kernel_rfl) (by kernel_rfl) (by kernel_rfl) rfl rfl (ltb rfl) ((move_step (.inl rfl) rfl).rd _) ?_
    refine AAny.take (i := 3) rfl (by kernel_rfl) (by kernel_rfl) (by kernel_rfl) rfl rfl (ltb rfl) ((move_step (.inl rfl) rfl).rd _) ?_
    refine AAny.take (i := 5) rfl (by kernel_rfl) (by kernel_rfl) (by kernel_rfl) rfl rfl (ltb rfl) (aload_rd hG rfl rfl rfl (by first | (simp [ldok]; done) | exact List.not_mem_nil | trivial)) ?_
    refine AAny.eachN (rs := [1, 11]) (by kernel_rfl) (fun h => by cases h) (fun i hi => ?_)
    simp only [List.mem_cons, List.not_mem_nil, or_false] at hi
    rcases hi with rfl | rfl
    ·refine AOpN.of ?_
     obtain ⟨r30, hg31, hM⟩ := bind_t hM
     refine AOp.call rfl rfl rfl rfl (ltb rfl) rfl rfl rfl (fun _ h => absurd h List.not_mem_nil) (fun _ h => absurd h List.not_mem_nil) (s_FormOf_ok n q2 f2 l2 hg31 _ _) (callK_retX (fun v tk32 (hle33 : tk24 ≤ tk32) h34 => ?_))
     obtain ⟨k35, n35, q35, f35, ks35, rfl, rfl, hf36⟩ := h34
     refine AAny.eachN (rs := [2, 11]) (by kernel_rfl) (fun h => by cases h) (fun i hi => ?_)
     simp only [List.mem_cons, List.not_mem_nil, or_false] at hi
     rcases hi with rfl | rfl
     ·refine AOpN.build hG rfl rfl rfl (ltb rfl) rfl rfl rfl rfl rfl (by rfl) (by rfl) (by rfl) (by decide) ?_
      refine AAny.eachN (rs := [4, 11]) (by kernel_rfl) (fun h => by cases h) (fun i hi => ?_)
      simp only [List.mem_cons, List.not_mem_nil, or_false] at hi
      rcases hi with rfl | rfl
      ·refine AOpN.of ?_
       obtain ⟨hc37, hM⟩ := chk_t hM
       try rw [show ((fers [LF.mk k35 n35 q35 f35 ks35]) ++ (fers ks10) : List F) = (fers ([LF.mk k35 n35 q35 f35 ks35] ++ ks10)) from fers_app [LF.mk k35 n35 q35 f35 ks35] ks10] at hM
       refine AOp.step rfl rfl rfl (ltb rfl) (appendM_step hG rfl rfl rfl rfl rfl rfl rfl rfl rfl rfl rfl (fcellss_sz ks10) (flen ([LF.mk k35 n35 q35 f35 ks35])) (flen ks10) hc37 (by decide) (fcellss_app ([LF.mk k35 n35 q35 f35 ks35]) ks10)) (by intro x hx; simp only [List.mem_cons, List.not_mem_nil, or_false] at hx; subst hx; simp) ?_
       refine AAny.shrink (W' := []) (fun _ h => absurd h List.not_mem_nil) ?_
       refine AAny.sub (Sub.freeze (k := 31) rfl rfl) (fun _ h => absurd h List.not_mem_nil) ?_
       refine AAny.eachN (rs := [6, 11]) (by kernel_rfl) (fun h => by cases h) (fun i hi => ?_)
       simp only [List.mem_cons, List.not_mem_nil, or_false] at hi
       rcases hi with rfl | rfl
       ·refine AOpN.of ?_
        obtain ⟨r38, hg39, hM⟩ := bind_t hM
        refine AOp.call rfl rfl rfl rfl (ltb rfl) rfl rfl rfl (fun _ h => absurd h List.not_mem_nil) (fun _ h => absurd h List.not_mem_nil) (i_Proves_ok n tk32 false ([LF.mk k35 n35 q35 f35 ks35] ++ ks10) k12 n12 p12 e12 fs12 q12 f12 ks12 hg39 _ _) (callK_retX (fun v tk40 (hle41 : (tk32 + 1) ≤ tk40) h42 => ?_))
        obtain ⟨ra49, ra50, ra51, va52, va53, va54, rfl, rfl, ⟨k43, n43, q43, f43, ks43, rfl, rfl, hf44⟩, rfl, rfl⟩ := h42
        refine AAny.take (i := 7) rfl (by kernel_rfl) (by kernel_rfl) (by kernel_rfl) rfl rfl (ltb rfl) ((move_step (.inl rfl) rfl).rd _) ?_
        refine AAny.take (i := 8) rfl (by kernel_rfl) (by kernel_rfl) (by kernel_rfl) rfl rfl (ltb rfl) ((extract_step rfl rfl rfl).rd _) ?_
        refine AAny.take (i := 9) rfl (by kernel_rfl) (by kernel_rfl) (by kernel_rfl) rfl rfl (ltb rfl) ((extract_step rfl rfl rfl).rd _) ?_
        refine AAny.take (i := 10) rfl (by kernel_rfl) (by kernel_rfl) (by kernel_rfl) rfl rfl (ltb rfl) ((extract_step rfl rfl rfl).rd _) ?_
        refine AAny.eachN (rs := [11]) (by kernel_rfl) (fun h => by cases h) (fun i hi => ?_)
        simp only [List.mem_cons, List.not_mem_nil, or_false] at hi
        subst hi
        ·refine AOpN.alloc hG rfl rfl rfl (ltb rfl) rfl rfl rfl ?_
         refine AAny.one (i := 12) (by kernel_rfl) (AOp.step0 rfl rfl rfl (store_step hG rfl rfl rfl rfl rfl rfl rfl rfl) (by intro x hx; have hx : x ∈ [ID.loc 8] := hx; simp only [List.mem_cons, List.not_mem_nil, or_false] at hx; subst hx; simp) ?_)
         refine AAny.take (i := 13) rfl (by kernel_rfl) (by kernel_rfl) (by kernel_rfl) rfl rfl (ltb rfl) ((move_step (.inr rfl) rfl).rd _) ?_
         refine AAny.take (i := 14) rfl (by kernel_rfl) (by kernel_rfl) (by kernel_rfl) rfl rfl (ltb rfl) ((move_step (.inr rfl) rfl).rd _) ?_
         refine AAny.done (by kernel_rfl) ?_
         refine run_sub_code (σ' := ⟨[(4, .bool false), (7, .optr (.loc 7) 0 0), (8, .optr (.loc 8) 0 0), (9, .int .i64 ra50)], [(8, ⟨28, 3, true, [[.int .i64 k43, .int .i64 n43, .imm q43 3 f43 (fcellss ks43)]]⟩), (7, ⟨28, 3, true, [[.int .i64 k14, .int .i64 n14, .imm q14 3 f14 (fcellss ks14)]]⟩)], [], O, tk40⟩) (Sub.trans (Sub.drop (k := 6) rfl) (Sub.env _ ⟨rfl, rfl, rfl, rfl, trivial⟩)) ?_
         refine run_sr ?_
         refine mvL rfl rfl rfl rfl (ltb rfl) ?_
         refine run_bin rfl rfl rfl rfl rfl rfl rfl (ltb rfl) ?_
         refine mvL rfl rfl rfl rfl (ltb rfl) ?_
         refine run_splitd (i := 41) rfl (fun hb55 => ?_) (fun hb55 => ?_)
         ·replace hM := ite_t hb55 hM
          refine run_rdG (on_of rfl rfl rfl rfl) (aload_rd hG rfl rfl rfl (by first | (simp [ldok]; done) | exact List.not_mem_nil | trivial)) rfl (ltb rfl) ?_
          refine run_rdG (on_of rfl rfl rfl rfl) (aload_rd hG rfl rfl rfl (by first | (simp [ldok]; done) | exact List.not_mem_nil | trivial)) rfl (ltb rfl) ?_
          obtain ⟨r56, hg57, hM⟩ := bind_t hM
          refine run_callG (on_of rfl rfl rfl rfl) rfl rfl (ltb rfl) rfl rfl rfl (fun _ h => absurd h List.not_mem_nil) (w_sameForm_ok n k14 n14 q14 f14 ks14 k43 n43 q43 f43 ks43 hg57 _ _) (callK_retX (fun v tk58 (hle59 : tk40 ≤ tk58) h60 => ?_))
          subst h60
          refine run_pu rfl (pick_step rfl rfl rfl) rfl (ltb rfl) ?_
          refine mvR rfl rfl rfl rfl (ltb rfl) ?_
          refine run_ops_nil ?_
          refine run_ret_to ?_
          replace hM := some_t hM
          subst hM
          refine fin_x hG rfl rfl rfl (v' := .bool r56) (by rfl) ⟨rfl, (show tk ≤ tk58 by omega), _, rfl, rfl⟩
         ·replace hM := ite_f hb55 hM
          refine run_off (on_of rfl rfl rfl rfl) rfl (ltb rfl) ?_
          refine run_off (on_of rfl rfl rfl rfl) rfl (ltb rfl) ?_
          refine run_off (on_of rfl rfl rfl rfl) rfl (ltb rfl) ?_
          refine run_pu rfl (pick_step rfl rfl rfl) rfl (ltb rfl) ?_
          refine mvR rfl rfl rfl rfl (ltb rfl) ?_
          refine run_ops_nil ?_
          refine run_ret_to ?_
          replace hM := some_t hM
          subst hM
          refine fin_x hG rfl rfl rfl (v' := .bool false) (by rfl) ⟨rfl, (show tk ≤ tk40 by omega), _, rfl, rfl⟩
       ·refine AOpN.alloc hG rfl rfl rfl (ltb rfl) rfl rfl rfl ?_
        obtain ⟨r63, hg64, hM⟩ := bind_t hM
        refine AAny.one (i := 6) (by kernel_rfl) (AOp.call rfl rfl rfl rfl (ltb rfl) rfl rfl rfl (fun _ h => absurd h List.not_mem_nil) (fun _ h => absurd h List.not_mem_nil) (i_Proves_ok n tk32 false ([LF.mk k35 n35 q35 f35 ks35] ++ ks10) k12 n12 p12 e12 fs12 q12 f12 ks12 hg64 _ _) (callK_retX (fun v tk65 (hle66 : (tk32 + 1) ≤ tk65) h67 => ?_)))
        obtain ⟨ra74, ra75, ra76, va77, va78, va79, rfl, rfl, ⟨k68, n68, q68, f68, ks68, rfl, rfl, hf69⟩, rfl, rfl⟩ := h67
        refine AAny.take (i := 7) rfl (by kernel_rfl) (by kernel_rfl) (by kernel_rfl) rfl rfl (ltb rfl) ((move_step (.inl rfl) rfl).rd _) ?_
        refine AAny.take (i := 8) rfl (by kernel_rfl) (by kernel_rfl) (by kernel_rfl) rfl rfl (ltb rfl) ((extract_step rfl rfl rfl).rd _) ?_
        refine AAny.take (i := 9) rfl (by kernel_rfl) (by kernel_rfl) (by kernel_rfl) rfl rfl (ltb rfl) ((extract_step rfl rfl rfl).rd _) ?_
        refine AAny.take (i := 10) rfl (by kernel_rfl) (by kernel_rfl) (by kernel_rfl) rfl rfl (ltb rfl) ((extract_step rfl rfl rfl).rd _) ?_
        refine AAny.one (i := 12) (by kernel_rfl) (AOp.step0 rfl rfl rfl (store_step hG rfl rfl rfl rfl rfl rfl rfl rfl) (by intro x hx; have hx : x ∈ [ID.loc 8] := hx; simp only [List.mem_cons, List.not_mem_nil, or_false] at hx; subst hx; simp) ?_)
        refine AAny.take (i := 13) rfl (by kernel_rfl) (by kernel_rfl) (by kernel_rfl) rfl rfl (ltb rfl) ((move_step (.inr rfl) rfl).rd _) ?_
        refine AAny.take (i := 14) rfl (by kernel_rfl) (by kernel_rfl) (by kernel_rfl) rfl rfl (ltb rfl) ((move_step (.inr rfl) rfl).rd _) ?_
        refine AAny.done (by kernel_rfl) ?_
        refine run_sub_code (σ' := ⟨[(4, .bool false), (7, .optr (.loc 7) 0 0), (8, .optr (.loc 8) 0 0), (9, .int .i64 ra75)], [(8, ⟨28, 3, true, [[.int .i64 k68, .int .i64 n68, .imm q68 3 f68 (fcellss ks68)]]⟩), (7, ⟨28, 3, true, [[.int .i64 k14, .int .i64 n14, .imm q14 3 f14 (fcellss ks14)]]⟩)], [], O, tk65⟩) (Sub.trans (Sub.drop (k := 6) rfl) (Sub.env _ ⟨rfl, rfl, rfl, rfl, trivial⟩)) ?_
        refine run_sr ?_
        refine mvL rfl rfl rfl rfl (ltb rfl) ?_
        refine run_bin rfl rfl rfl rfl rfl rfl rfl (ltb rfl) ?_
        refine mvL rfl rfl rfl rfl (ltb rfl) ?_
        refine run_splitd (i := 41) rfl (fun hb80 => ?_) (fun hb80 => ?_)
        ·replace hM := ite_t hb80 hM
         refine run_rdG (on_of rfl rfl rfl rfl) (aload_rd hG rfl rfl rfl (by first | (simp [ldok]; done) | exact List.not_mem_nil | trivial)) rfl (ltb rfl) ?_
         refine run_rdG (on_of rfl rfl rfl rfl) (aload_rd hG rfl rfl rfl (by first | (simp [ldok]; done) | exact List.not_mem_nil | trivial)) rfl (ltb rfl) ?_
         obtain ⟨r81, hg82, hM⟩ := bind_t hM
         refine run_callG (on_of rfl rfl rfl rfl) rfl rfl (ltb rfl) rfl rfl rfl (fun _ h => absurd h List.not_mem_nil) (w_sameForm_ok n k14 n14 q14 f14 ks14 k68 n68 q68 f68 ks68 hg82 _ _) (callK_retX (fun v tk83 (hle84 : tk65 ≤ tk83) h85 => ?_))
         subst h85
         refine run_pu rfl (pick_step rfl rfl rfl) rfl (ltb rfl) ?_
         refine mvR rfl rfl rfl rfl (ltb rfl) ?_
         refine run_ops_nil ?_
         refine run_ret_to ?_
         replace hM := some_t hM
         subst hM
         refine fin_x hG rfl rfl rfl (v' := .bool r81) (by rfl) ⟨rfl, (show tk ≤ tk83 by omega), _, rfl, rfl⟩
        ·replace hM := ite_f hb80 hM
         refine run_off (on_of rfl rfl rfl rfl) rfl (ltb rfl) ?_
         refine run_off (on_of rfl rfl rfl rfl) rfl (ltb rfl) ?_
         refine run_off (on_of rfl rfl rfl rfl) rfl (ltb rfl) ?_
         refine run_pu rfl (pick_step rfl rfl rfl) rfl (ltb rfl) ?_
         refine mvR rfl rfl rfl rfl (ltb rfl) ?_
         refine run_ops_nil ?_
         refine run_ret_to ?_
         replace hM := some_t hM
         subst hM
         refine fin_x hG rfl rfl rfl (v' := .bool false) (by rfl) ⟨rfl, (show tk ≤ tk65 by omega), _, rfl, rfl⟩
      ·refine AOpN.alloc hG rfl rfl rfl (ltb rfl) rfl rfl rfl ?_
       obtain ⟨hc88, hM⟩ := chk_t hM
       try rw [show ((fers [LF.mk k35 n35 q35 f35 ks35]) ++ (fers ks10) : List F) = (fers ([LF.mk k35 n35 q35 f35 ks35] ++ ks10)) from fers_app [LF.mk k35 n35 q35 f35 ks35] ks10] at hM
       refine AAny.one (i := 4) (by kernel_rfl) (AOp.step rfl rfl rfl (ltb rfl) (appendM_step hG rfl rfl rfl rfl rfl rfl rfl rfl rfl rfl rfl (fcellss_sz ks10) (flen ([LF.mk k35 n35 q35 f35 ks35])) (flen ks10) hc88 (by decide) (fcellss_app ([LF.mk k35 n35 q35 f35 ks35]) ks10)) (by intro x hx; simp only [List.mem_cons, List.not_mem_nil, or_false] at hx; subst hx; simp) ?_)
       refine AAny.shrink (W' := [.loc 8]) (by decide) ?_
       refine AAny.sub (Sub.freeze (k := 31) rfl rfl) (by intro x hx; simp only [List.mem_cons, List.not_mem_nil, or_false] at hx; rcases hx with rfl <;> rfl) ?_
       obtain ⟨r89, hg90, hM⟩ := bind_t hM
       refine AAny.one (i := 6) (by kernel_rfl) (AOp.call rfl rfl rfl rfl (ltb rfl) rfl rfl rfl (fun _ h => absurd h List.not_mem_nil) (fun _ h => absurd h List.not_mem_nil) (i_Proves_ok n tk32 false ([LF.mk k35 n35 q35 f35 ks35] ++ ks10) k12 n12 p12 e12 fs12 q12 f12 ks12 hg90 _ _) (callK_retX (fun v tk91 (hle92 : (tk32 + 1) ≤ tk91) h93 => ?_)))
       obtain ⟨ra100, ra101, ra102, va103, va104, va105, rfl, rfl, ⟨k94, n94, q94, f94, ks94, rfl, rfl, hf95⟩, rfl, rfl⟩ := h93
       refine AAny.take (i := 7) rfl (by kernel_rfl) (by kernel_rfl) (by kernel_rfl) rfl rfl (ltb rfl) ((move_step (.inl rfl) rfl).rd _) ?_
       refine AAny.take (i := 8) rfl (by kernel_rfl) (by kernel_rfl) (by kernel_rfl) rfl rfl (ltb rfl) ((extract_step rfl rfl rfl).rd _) ?_
       refine AAny.take (i := 9) rfl (by kernel_rfl) (by kernel_rfl) (by kernel_rfl) rfl rfl (ltb rfl) ((extract_step rfl rfl rfl).rd _) ?_
       refine AAny.take (i := 10) rfl (by kernel_rfl) (by kernel_rfl) (by kernel_rfl) rfl rfl (ltb rfl) ((extract_step rfl rfl rfl).rd _) ?_
       refine AAny.one (i := 12) (by kernel_rfl) (AOp.step0 rfl rfl rfl (store_step hG rfl rfl rfl rfl rfl rfl rfl rfl) (by intro x hx; have hx : x ∈ [ID.loc 8] := hx; simp only [List.mem_cons, List.not_mem_nil, or_false] at hx; subst hx; simp) ?_)
       refine AAny.take (i := 13) rfl (by kernel_rfl) (by kernel_rfl) (by kernel_rfl) rfl rfl (ltb rfl) ((move_step (.inr rfl) rfl).rd _) ?_
       refine AAny.take (i := 14) rfl (by kernel_rfl) (by kernel_rfl) (by kernel_rfl) rfl rfl (ltb rfl) ((move_step (.inr rfl) rfl).rd _) ?_
       refine AAny.done (by kernel_rfl) ?_
       refine run_sub_code (σ' := ⟨[(4, .bool false), (7, .optr (.loc 7) 0 0), (8, .optr (.loc 8) 0 0), (9, .int .i64 ra101)], [(8, ⟨28, 3, true, [[.int .i64 k94, .int .i64 n94, .imm q94 3 f94 (fcellss ks94)]]⟩), (7, ⟨28, 3, true, [[.int .i64 k14, .int .i64 n14, .imm q14 3 f14 (fcellss ks14)]]⟩)], [], O, tk91⟩) (Sub.trans (Sub.drop (k := 6) rfl) (Sub.env _ ⟨rfl, rfl, rfl, rfl, trivial⟩)) ?_
       refine run_sr ?_
       refine mvL rfl rfl rfl rfl (ltb rfl) ?_
       refine run_bin rfl rfl rfl rfl rfl rfl rfl (ltb rfl) ?_
       refine mvL rfl rfl rfl rfl (ltb rfl) ?_
       refine run_splitd (i := 41) rfl (fun hb106 => ?_) (fun hb106 => ?_)
       ·replace hM := ite_t hb106 hM
        refine run_rdG (on_of rfl rfl rfl rfl) (aload_rd hG rfl rfl rfl (by first | (simp [ldok]; done) | exact List.not_mem_nil | trivial)) rfl (ltb rfl) ?_
        refine run_rdG (on_of rfl rfl rfl rfl) (aload_rd hG rfl rfl rfl (by first | (simp [ldok]; done) | exact List.not_mem_nil | trivial)) rfl (ltb rfl) ?_
        obtain ⟨r107, hg108, hM⟩ := bind_t hM
        refine run_callG (on_of rfl rfl rfl rfl) rfl rfl (ltb rfl) rfl rfl rfl (fun _ h => absurd h List.not_mem_nil) (w_sameForm_ok n k14 n14 q14 f14 ks14 k94 n94 q94 f94 ks94 hg108 _ _) (callK_retX (fun v tk109 (hle110 : tk91 ≤ tk109) h111 => ?_))
        subst h111
        refine run_pu rfl (pick_step rfl rfl rfl) rfl (ltb rfl) ?_
        refine mvR rfl rfl rfl rfl (ltb rfl) ?_
        refine run_ops_nil ?_
        refine run_ret_to ?_
        replace hM := some_t hM
        subst hM
        refine fin_x hG rfl rfl rfl (v' := .bool r107) (by rfl) ⟨rfl, (show tk ≤ tk109 by omega), _, rfl, rfl⟩
       ·replace hM := ite_f hb106 hM
        refine run_off (on_of rfl rfl rfl rfl) rfl (ltb rfl) ?_
        refine run_off (on_of rfl rfl rfl rfl) rfl (ltb rfl) ?_
        refine run_off (on_of rfl rfl rfl rfl) rfl (ltb rfl) ?_
        refine run_pu rfl (pick_step rfl rfl rfl) rfl (ltb rfl) ?_
        refine mvR rfl rfl rfl rfl (ltb rfl) ?_
        refine run_ops_nil ?_
        refine run_ret_to ?_
        replace hM := some_t hM
        subst hM
        refine fin_x hG rfl rfl rfl (v' := .bool false) (by rfl) ⟨rfl, (show tk ≤ tk91 by omega), _, rfl, rfl⟩
     ·refine AOpN.alloc hG rfl rfl rfl (ltb rfl) rfl rfl rfl ?_
      refine AAny.eachN (rs := [2]) (by kernel_rfl) (fun h => by cases h) (fun i hi => ?_)
      simp only [List.mem_cons, List.not_mem_nil, or_false] at hi
      subst hi
      ·refine AOpN.build hG rfl rfl rfl (ltb rfl) rfl rfl rfl rfl rfl (by rfl) (by rfl) (by rfl) (by decide) ?_
       obtain ⟨hc114, hM⟩ := chk_t hM
       try rw [show ((fers [LF.mk k35 n35 q35 f35 ks35]) ++ (fers ks10) : List F) = (fers ([LF.mk k35 n35 q35 f35 ks35] ++ ks10)) from fers_app [LF.mk k35 n35 q35 f35 ks35] ks10] at hM
       refine AAny.one (i := 4) (by kernel_rfl) (AOp.step rfl rfl rfl (ltb rfl) (appendM_step hG rfl rfl rfl rfl rfl rfl rfl rfl rfl rfl rfl (fcellss_sz ks10) (flen ([LF.mk k35 n35 q35 f35 ks35])) (flen ks10) hc114 (by decide) (fcellss_app ([LF.mk k35 n35 q35 f35 ks35]) ks10)) (by intro x hx; simp only [List.mem_cons, List.not_mem_nil, or_false] at hx; subst hx; simp) ?_)
       refine AAny.shrink (W' := [.loc 8]) (by decide) ?_
       refine AAny.sub (Sub.freeze (k := 31) rfl rfl) (by intro x hx; simp only [List.mem_cons, List.not_mem_nil, or_false] at hx; rcases hx with rfl <;> rfl) ?_
       obtain ⟨r115, hg116, hM⟩ := bind_t hM
       refine AAny.one (i := 6) (by kernel_rfl) (AOp.call rfl rfl rfl rfl (ltb rfl) rfl rfl rfl (fun _ h => absurd h List.not_mem_nil) (fun _ h => absurd h List.not_mem_nil) (i_Proves_ok n tk32 false ([LF.mk k35 n35 q35 f35 ks35] ++ ks10) k12 n12 p12 e12 fs12 q12 f12 ks12 hg116 _ _) (callK_retX (fun v tk117 (hle118 : (tk32 + 1) ≤ tk117) h119 => ?_)))
       obtain ⟨ra126, ra127, ra128, va129, va130, va131, rfl, rfl, ⟨k120, n120, q120, f120, ks120, rfl, rfl, hf121⟩, rfl, rfl⟩ := h119
       refine AAny.take (i := 7) rfl (by kernel_rfl) (by kernel_rfl) (by kernel_rfl) rfl rfl (ltb rfl) ((move_step (.inl rfl) rfl).rd _) ?_
       refine AAny.take (i := 8) rfl (by kernel_rfl) (by kernel_rfl) (by kernel_rfl) rfl rfl (ltb rfl) ((extract_step rfl rfl rfl).rd _) ?_
       refine AAny.take (i := 9) rfl (by kernel_rfl) (by kernel_rfl) (by kernel_rfl) rfl rfl (ltb rfl) ((extract_step rfl rfl rfl).rd _) ?_
       refine AAny.take (i := 10) rfl (by kernel_rfl) (by kernel_rfl) (by kernel_rfl) rfl rfl (ltb rfl) ((extract_step rfl rfl rfl).rd _) ?_
       refine AAny.one (i := 12) (by kernel_rfl) (AOp.step0 rfl rfl rfl (store_step hG rfl rfl rfl rfl rfl rfl rfl rfl) (by intro x hx; have hx : x ∈ [ID.loc 8] := hx; simp only [List.mem_cons, List.not_mem_nil, or_false] at hx; subst hx; simp) ?_)
       refine AAny.take (i := 13) rfl (by kernel_rfl) (by kernel_rfl) (by kernel_rfl) rfl rfl (ltb rfl) ((move_step (.inr rfl) rfl).rd _) ?_
       refine AAny.take (i := 14) rfl (by kernel_rfl) (by kernel_rfl) (by kernel_rfl) rfl rfl (ltb rfl) ((move_step (.inr rfl) rfl).rd _) ?_
       refine AAny.done (by kernel_rfl) ?_
       refine run_sub_code (σ' := ⟨[(4, .bool false), (7, .optr (.loc 7) 0 0), (8, .optr (.loc 8) 0 0), (9, .int .i64 ra127)], [(8, ⟨28, 3, true, [[.int .i64 k120, .int .i64 n120, .imm q120 3 f120 (fcellss ks120)]]⟩), (7, ⟨28, 3, true, [[.int .i64 k14, .int .i64 n14, .imm q14 3 f14 (fcellss ks14)]]⟩)], [], O, tk117⟩) (Sub.trans (Sub.drop (k := 6) rfl) (Sub.env _ ⟨rfl, rfl, rfl, rfl, trivial⟩)) ?_
       refine run_sr ?_
       refine mvL rfl rfl rfl rfl (ltb rfl) ?_
       refine run_bin rfl rfl rfl rfl rfl rfl rfl (ltb rfl) ?_
       refine mvL rfl rfl rfl rfl (ltb rfl) ?_
       refine run_splitd (i := 41) rfl (fun hb132 => ?_) (fun hb132 => ?_)
       ·replace hM := ite_t hb132 hM
        refine run_rdG (on_of rfl rfl rfl rfl) (aload_rd hG rfl rfl rfl (by first | (simp [ldok]; done) | exact List.not_mem_nil | trivial)) rfl (ltb rfl) ?_
        refine run_rdG (on_of rfl rfl rfl rfl) (aload_rd hG rfl rfl rfl (by first | (simp [ldok]; done) | exact List.not_mem_nil | trivial)) rfl (ltb rfl) ?_
        obtain ⟨r133, hg134, hM⟩ := bind_t hM
        refine run_callG (on_of rfl rfl rfl rfl) rfl rfl (ltb rfl) rfl rfl rfl (fun _ h => absurd h List.not_mem_nil) (w_sameForm_ok n k14 n14 q14 f14 ks14 k120 n120 q120 f120 ks120 hg134 _ _) (callK_retX (fun v tk135 (hle136 : tk117 ≤ tk135) h137 => ?_))
        subst h137
        refine run_pu rfl (pick_step rfl rfl rfl) rfl (ltb rfl) ?_
        refine mvR rfl rfl rfl rfl (ltb rfl) ?_
        refine run_ops_nil ?_
        refine run_ret_to ?_
        replace hM := some_t hM
        subst hM
        refine fin_x hG rfl rfl rfl (v' := .bool r133) (by rfl) ⟨rfl, (show tk ≤ tk135 by omega), _, rfl, rfl⟩
       ·replace hM := ite_f hb132 hM
        refine run_off (on_of rfl rfl rfl rfl) rfl (ltb rfl) ?_
        refine run_off (on_of rfl rfl rfl rfl) rfl (ltb rfl) ?_
        refine run_off (on_of rfl rfl rfl rfl) rfl (ltb rfl) ?_
        refine run_pu rfl (pick_step rfl rfl rfl) rfl (ltb rfl) ?_
        refine mvR rfl rfl rfl rfl (ltb rfl) ?_
        refine run_ops_nil ?_
        refine run_ret_to ?_
        replace hM := some_t hM
        subst hM
        refine fin_x hG rfl rfl rfl (v' := .bool false) (by rfl) ⟨rfl, (show tk ≤ tk117 by omega), _, rfl, rfl⟩
    ·refine AOpN.alloc hG rfl rfl rfl (ltb rfl) rfl rfl rfl ?_
     obtain ⟨r140, hg141, hM⟩ := bind_t hM
     refine AAny.one (i := 1) (by kernel_rfl) (AOp.call rfl rfl rfl rfl (ltb rfl) rfl rfl rfl (fun _ h => absurd h List.not_mem_nil) (fun _ h => absurd h List.not_mem_nil) (s_FormOf_ok n q2 f2 l2 hg141 _ _) (callK_retX (fun v tk142 (hle143 : tk24 ≤ tk142) h144 => ?_)))
     obtain ⟨k145, n145, q145, f145, ks145, rfl, rfl, hf146⟩ := h144
     refine AAny.eachN (rs := [2]) (by kernel_rfl) (fun h => by cases h) (fun i hi => ?_)
     simp only [List.mem_cons, List.not_mem_nil, or_false] at hi
     subst hi
     ·refine AOpN.build hG rfl rfl rfl (ltb rfl) rfl rfl rfl rfl rfl (by rfl) (by rfl) (by rfl) (by decide) ?_
      obtain ⟨hc147, hM⟩ := chk_t hM
      try rw [show ((fers [LF.mk k145 n145 q145 f145 ks145]) ++ (fers ks10) : List F) = (fers ([LF.mk k145 n145 q145 f145 ks145] ++ ks10)) from fers_app [LF.mk k145 n145 q145 f145 ks145] ks10] at hM
      refine AAny.one (i := 4) (by kernel_rfl) (AOp.step rfl rfl rfl (ltb rfl) (appendM_step hG rfl rfl rfl rfl rfl rfl rfl rfl rfl rfl rfl (fcellss_sz ks10) (flen ([LF.mk k145 n145 q145 f145 ks145])) (flen ks10) hc147 (by decide) (fcellss_app ([LF.mk k145 n145 q145 f145 ks145]) ks10)) (by intro x hx; simp only [List.mem_cons, List.not_mem_nil, or_false] at hx; subst hx; simp) ?_)
      refine AAny.shrink (W' := [.loc 8]) (by decide) ?_
      refine AAny.sub (Sub.freeze (k := 31) rfl rfl) (by intro x hx; simp only [List.mem_cons, List.not_mem_nil, or_false] at hx; rcases hx with rfl <;> rfl) ?_
      obtain ⟨r148, hg149, hM⟩ := bind_t hM
      refine AAny.one (i := 6) (by kernel_rfl) (AOp.call rfl rfl rfl rfl (ltb rfl) rfl rfl rfl (fun _ h => absurd h List.not_mem_nil) (fun _ h => absurd h List.not_mem_nil) (i_Proves_ok n tk142 false ([LF.mk k145 n145 q145 f145 ks145] ++ ks10) k12 n12 p12 e12 fs12 q12 f12 ks12 hg149 _ _) (callK_retX (fun v tk150 (hle151 : (tk142 + 1) ≤ tk150) h152 => ?_)))
      obtain ⟨ra159, ra160, ra161, va162, va163, va164, rfl, rfl, ⟨k153, n153, q153, f153, ks153, rfl, rfl, hf154⟩, rfl, rfl⟩ := h152
      refine AAny.take (i := 7) rfl (by kernel_rfl) (by kernel_rfl) (by kernel_rfl) rfl rfl (ltb rfl) ((move_step (.inl rfl) rfl).rd _) ?_
      refine AAny.take (i := 8) rfl (by kernel_rfl) (by kernel_rfl) (by kernel_rfl) rfl rfl (ltb rfl) ((extract_step rfl rfl rfl).rd _) ?_
      refine AAny.take (i := 9) rfl (by kernel_rfl) (by kernel_rfl) (by kernel_rfl) rfl rfl (ltb rfl) ((extract_step rfl rfl rfl).rd _) ?_
      refine AAny.take (i := 10) rfl (by kernel_rfl) (by kernel_rfl) (by kernel_rfl) rfl rfl (ltb rfl) ((extract_step rfl rfl rfl).rd _) ?_
      refine AAny.one (i := 12) (by kernel_rfl) (AOp.step0 rfl rfl rfl (store_step hG rfl rfl rfl rfl rfl rfl rfl rfl) (by intro x hx; have hx : x ∈ [ID.loc 8] := hx; simp only [List.mem_cons, List.not_mem_nil, or_false] at hx; subst hx; simp) ?_)
      refine AAny.take (i := 13) rfl (by kernel_rfl) (by kernel_rfl) (by kernel_rfl) rfl rfl (ltb rfl) ((move_step (.inr rfl) rfl).rd _) ?_
      refine AAny.take (i := 14) rfl (by kernel_rfl) (by kernel_rfl) (by kernel_rfl) rfl rfl (ltb rfl) ((move_step (.inr rfl) rfl).rd _) ?_
      refine AAny.done (by kernel_rfl) ?_
      refine run_sub_code (σ' := ⟨[(4, .bool false), (7, .optr (.loc 7) 0 0), (8, .optr (.loc 8) 0 0), (9, .int .i64 ra160)], [(8, ⟨28, 3, true, [[.int .i64 k153, .int .i64 n153, .imm q153 3 f153 (fcellss ks153)]]⟩), (7, ⟨28, 3, true, [[.int .i64 k14, .int .i64 n14, .imm q14 3 f14 (fcellss ks14)]]⟩)], [], O, tk150⟩) (Sub.trans (Sub.drop (k := 6) rfl) (Sub.env _ ⟨rfl, rfl, rfl, rfl, trivial⟩)) ?_
      refine run_sr ?_
      refine mvL rfl rfl rfl rfl (ltb rfl) ?_
      refine run_bin rfl rfl rfl rfl rfl rfl rfl (ltb rfl) ?_
      refine mvL rfl rfl rfl rfl (ltb rfl) ?_
      refine run_splitd (i := 41) rfl (fun hb165 => ?_) (fun hb165 => ?_)
      ·replace hM := ite_t hb165 hM
       refine run_rdG (on_of rfl rfl rfl rfl) (aload_rd hG rfl rfl rfl (by first | (simp [ldok]; done) | exact List.not_mem_nil | trivial)) rfl (ltb rfl) ?_
       refine run_rdG (on_of rfl rfl rfl rfl) (aload_rd hG rfl rfl rfl (by first | (simp [ldok]; done) | exact List.not_mem_nil | trivial)) rfl (ltb rfl) ?_
       obtain ⟨r166, hg167, hM⟩ := bind_t hM
       refine run_callG (on_of rfl rfl rfl rfl) rfl rfl (ltb rfl) rfl rfl rfl (fun _ h => absurd h List.not_mem_nil) (w_sameForm_ok n k14 n14 q14 f14 ks14 k153 n153 q153 f153 ks153 hg167 _ _) (callK_retX (fun v tk168 (hle169 : tk150 ≤ tk168) h170 => ?_))
       subst h170
       refine run_pu rfl (pick_step rfl rfl rfl) rfl (ltb rfl) ?_
       refine mvR rfl rfl rfl rfl (ltb rfl) ?_
       refine run_ops_nil ?_
       refine run_ret_to ?_
       replace hM := some_t hM
       subst hM
       refine fin_x hG rfl rfl rfl (v' := .bool r166) (by rfl) ⟨rfl, (show tk ≤ tk168 by omega), _, rfl, rfl⟩
      ·replace hM := ite_f hb165 hM
       refine run_off (on_of rfl rfl rfl rfl) rfl (ltb rfl) ?_
       refine run_off (on_of rfl rfl rfl rfl) rfl (ltb rfl) ?_
       refine run_off (on_of rfl rfl rfl rfl) rfl (ltb rfl) ?_
       refine run_pu rfl (pick_step rfl rfl rfl) rfl (ltb rfl) ?_
       refine mvR rfl rfl rfl rfl (ltb rfl) ?_
       refine run_ops_nil ?_
       refine run_ret_to ?_
       replace hM := some_t hM
       subst hM
       refine fin_x hG rfl rfl rfl (v' := .bool false) (by rfl) ⟨rfl, (show tk ≤ tk150 by omega), _, rfl, rfl⟩

end Go.Am.Ytaedacibojpfkaa
