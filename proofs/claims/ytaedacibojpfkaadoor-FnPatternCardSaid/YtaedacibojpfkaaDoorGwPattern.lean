/- Printed by a program of ours: Lean functions that do what the Go functions do, and the contracts. -/
import Derived.Test.YtaedacibojpfkaaDoorMl0
import Derived.Test.YtaedacibojpfkaaDoorMb1
import Derived.Test.YtaedacibojpfkaaDoorTypes
import Derived.Test.YtaedacibojpfkaaDoorMi4
import Derived.Test.YtaedacibojpfkaaDoorMc1
import Derived.Test.YtaedacibojpfkaaDoorMb3
import Derived.Test.YtaedacibojpfkaaDoorGs0
import Derived.Test.YtaedacibojpfkaaDoorGsS
import Derived.Test.YtaedacibojpfkaaDoorEkLong
-- packed
namespace Go.Am.YtaedacibojpfkaaDoor
open Go Go.Am

def g_Index_X_L1 (l1 : List Int) (i2 : Int) : Nat → Int → Option Int
 | 0, _ => none
 | m + 1, i3 =>
  if i3 < ((l1).length : Int) then
   (idx l1 i3).bind fun y5 =>
   if i2 = y5 then
    some i3
   else
    g_Index_X_L1 l1 i2 m (IntKind.i64.wrap (i3 + 1))
  else
   some (-1)

def g_Index_X (n : Nat) (l1 : List Int) (i2 : Int) : Option Int :=
 g_Index_X_L1 l1 i2 n 0

set_option maxRecDepth 100000 in
theorem g_Index_X_ok (n : Nat) : ∀ (q1 : Nat) (f1 : Bool) (l1 : List Int) (i2 : Int) {r : Int}, g_Index_X n l1 i2 = some r → ∀ (O : Heap) (tk : Nat), ACalls Go.Proofs.Tryd.prog 157 [.imm q1 1 f1 ((l1 : List Int).map fun n => [AV.int .i64 n]), .int .i64 i2] O tk (RetX O tk (fun v tk' => v = .int .i64 r)) := by
 intro q1 f1 l1 i2 r hM O tk
 unfold g_Index_X at hM
 refine acalls_of_run Go.Proofs.Tryd.func157 rfl rfl [] [] (Bor.nil _) [(0, .imm q1 1 f1 ((l1 : List Int).map fun n => [AV.int .i64 n])), (1, .int .i64 i2)] (.cons (entS rfl) (.cons (entS rfl) (.nil _))) (leb rfl) (fun _ h => by cases h) (fun S0 hO htk hfz => ?_)
 refine run_sr ?_
 refine mvR rfl rfl rfl rfl (ltb rfl) ?_
 refine run_ops_nil ?_
 refine run_seq ?_
 refine run_sr ?_
 refine mvL rfl rfl rfl rfl (ltb rfl) ?_
 refine run_pu rfl (lenImm_step hG rfl rfl rfl rfl (ilen _)) rfl (ltb rfl) ?_
 refine mvL rfl rfl rfl rfl (ltb rfl) ?_
 refine run_ops_nil ?_
 refine run_block ?_
 refine run_rounds (fun m σ => ∃ (i3 : Int) (tkg_Index_X_L1 : Nat), tk ≤ tkg_Index_X_L1 ∧ g_Index_X_L1 l1 i2 m i3 = some r ∧ σ = ⟨[(0, .imm q1 1 f1 ((l1 : List Int).map fun n => [AV.int .i64 n])), (1, .int .i64 i2), (4, .int .i64 0), (7, .int .i64 ((l1).length : Int)), (8, .int .i64 i3)], [], [], O, tkg_Index_X_L1⟩) n (Sub.env [(0, .imm q1 1 f1 ((l1 : List Int).map fun n => [AV.int .i64 n])), (1, .int .i64 i2), (4, .int .i64 0), (7, .int .i64 ((l1).length : Int)), (8, .int .i64 0)] ⟨rfl, rfl, rfl, rfl, rfl, trivial⟩) ⟨0, tk, Nat.le_refl _, hM, rfl⟩ (fun m σ hI => ?_)
 clear hM
 obtain ⟨i3, tkg_Index_X_L1, hle11, hM, rfl⟩ := hI
 obtain _ | m := m
 ·exact absurd hM (by rw [g_Index_X_L1]; exact fun h => by cases h)
 rw [g_Index_X_L1] at hM
 refine run_sr ?_
 refine run_bin rfl rfl rfl rfl rfl rfl rfl (ltb rfl) ?_
 refine run_ops_nil ?_
 refine run_seq ?_
 refine run_ifd rfl rfl (fun hb4 => ?_) (fun hb4 => ?_)
 ·replace hM := ite_t hb4 hM
  refine run_skip ?_
  refine run_seq ?_
  refine run_block ?_
  refine run_sr ?_
  refine mvL rfl rfl rfl rfl (ltb rfl) ?_
  refine mvR rfl rfl rfl rfl (ltb rfl) ?_
  refine run_ops_nil ?_
  refine run_sr ?_
  refine mvL rfl rfl rfl rfl (ltb rfl) ?_
  refine mvL rfl rfl rfl rfl (ltb rfl) ?_
  refine mvL rfl rfl rfl rfl (ltb rfl) ?_
  obtain ⟨y5, hy6, hM⟩ := bind_t hM
  obtain ⟨hc8, hi9⟩ := iidx (k := .i64) hy6
  refine run_pu rfl (indexImm_step hG rfl rfl rfl hi9 rfl rfl rfl rfl hc8) rfl (ltb rfl) ?_
  refine run_ld hG rfl rfl rfl rfl rfl (ltb rfl) ?_
  refine run_bin rfl rfl rfl rfl rfl rfl rfl (ltb rfl) ?_
  refine run_ops_nil ?_
  refine run_ifd rfl rfl (fun hb10 => ?_) (fun hb10 => ?_)
  ·replace hM := ite_t hb10 hM
   refine run_sr ?_
   refine mvL rfl rfl rfl rfl (ltb rfl) ?_
   refine mvR rfl rfl rfl rfl (ltb rfl) ?_
   refine run_ops_nil ?_
   refine run_ret_to ?_
   replace hM := some_t hM
   subst hM
   refine fin_x hG rfl rfl rfl (v' := .int .i64 i3) (by rfl) ⟨rfl, (show tk ≤ tkg_Index_X_L1 by omega), _, rfl, rfl⟩
  ·replace hM := ite_f hb10 hM
   refine run_skip ?_
   refine run_blk ?_
   refine run_region ?_
   refine run_bin rfl rfl rfl rfl rfl rfl rfl (ltb rfl) ?_
   refine mvL rfl rfl rfl rfl (ltb rfl) ?_
   refine run_ops_nil ?_
   exact run_loop_end ⟨m, _, Nat.lt_succ_self _, ⟨(IntKind.i64.wrap (i3 + 1)), tkg_Index_X_L1, (show tk ≤ tkg_Index_X_L1 by omega), hM, rfl⟩, Sub.env [(0, .imm q1 1 f1 ((l1 : List Int).map fun n => [AV.int .i64 n])), (1, .int .i64 i2), (4, .int .i64 0), (7, .int .i64 ((l1).length : Int)), (8, .int .i64 (IntKind.i64.wrap (i3 + 1)))] ⟨rfl, rfl, rfl, rfl, rfl, trivial⟩⟩
 ·replace hM := ite_f hb4 hM
  refine run_exit_to rfl ?_
  refine run_sr ?_
  refine mvR rfl rfl rfl rfl (ltb rfl) ?_
  refine run_ops_nil ?_
  refine run_ret_to ?_
  replace hM := some_t hM
  subst hM
  refine fin_x hG rfl rfl rfl (v' := .int .i64 (-1)) (by rfl) ⟨rfl, (show tk ≤ tkg_Index_X_L1 by omega), _, rfl, rfl⟩

def g_Contains_X (n : Nat) (l1 : List Int) (i2 : Int) : Option Bool :=
 (g_Index_X n l1 i2).bind fun r3 =>
 some (decide (r3 ≥ 0))

set_option maxRecDepth 100000 in
theorem g_Contains_X_ok (n : Nat) : ∀ (q1 : Nat) (f1 : Bool) (l1 : List Int) (i2 : Int) {r : Bool}, g_Contains_X n l1 i2 = some r → ∀ (O : Heap) (tk : Nat), ACalls Go.Proofs.Tryd.prog 144 [.imm q1 1 f1 ((l1 : List Int).map fun n => [AV.int .i64 n]), .int .i64 i2] O tk (RetX O tk (fun v tk' => v = .bool r)) := by
 intro q1 f1 l1 i2 r hM O tk
 unfold g_Contains_X at hM
 refine acalls_of_run Go.Proofs.Tryd.func144 rfl rfl [] [] (Bor.nil _) [(0, .imm q1 1 f1 ((l1 : List Int).map fun n => [AV.int .i64 n])), (1, .int .i64 i2)] (.cons (entS rfl) (.cons (entS rfl) (.nil _))) (leb rfl) (fun _ h => by cases h) (fun S0 hO htk hfz => ?_)
 refine run_sr ?_
 refine mvR rfl rfl rfl rfl (ltb rfl) ?_
 refine run_ops_nil ?_
 refine run_sr ?_
 refine mvL rfl rfl rfl rfl (ltb rfl) ?_
 refine mvL rfl rfl rfl rfl (ltb rfl) ?_
 obtain ⟨r3, hg4, hM⟩ := bind_t hM
 refine run_call rfl rfl rfl (ltb rfl) rfl rfl rfl (fun _ h => absurd h List.not_mem_nil) (g_Index_X_ok n q1 f1 l1 i2 hg4 _ _) (callK_retX (fun v tk5 (hle6 : tk ≤ tk5) h7 => ?_))
 subst h7
 refine run_bin rfl rfl rfl rfl rfl rfl rfl (ltb rfl) ?_
 refine mvR rfl rfl rfl rfl (ltb rfl) ?_
 refine run_ops_nil ?_
 refine run_ret_to ?_
 replace hM := some_t hM
 subst hM
 refine fin_x hG rfl rfl rfl (v' := .bool (decide (r3 ≥ 0))) (by rfl) ⟨rfl, (show tk ≤ tk5 by omega), _, rfl, rfl⟩

def i_same_L1 (rec_i_same : T → T → Option Bool) (x1 : T) (x2 : T) : Nat → Int → Option Bool
 | 0, _ => none
 | m + 1, i7 =>
  if i7 < ((x1.kids).length : Int) then
   (idx x1.kids i7).bind fun y9 =>
   (idx x2.kids i7).bind fun y14 =>
   (rec_i_same y9 y14).bind fun r19 =>
   if (!r19) = true then
    some false
   else
    i_same_L1 rec_i_same x1 x2 m (IntKind.i64.wrap (i7 + 1))
  else
   some true

def i_same : Nat → T → T → Option Bool
 | 0, _, _ => none
 | n + 1, x1, x2 =>
  if (x1.kind != x2.kind) = true then
   some false
  else
   if (x1.n != x2.n) = true then
    some false
   else
    if (!(x1.name.toList == x2.name.toList)) = true then
     some false
    else
     if (((x1.kids).length : Int) != ((x2.kids).length : Int)) = true then
      some false
     else
      i_same_L1 (i_same n) x1 x2 n 0

set_option maxHeartbeats 20000000 in
set_option maxRecDepth 100000 in
theorem i_same_st (n : Nat) (ih_i_same : ∀ (k1 : Int) (n1 : Int) (s1 : ByteArray) (q1 : Nat) (f1 : Bool) (ks1 : List LT) (k2 : Int) (n2 : Int) (s2 : ByteArray) (q2 : Nat) (f2 : Bool) (ks2 : List LT) {r : Bool}, i_same n (T.mk k1 n1 s1 (ers ks1)) (T.mk k2 n2 s2 (ers ks2)) = some r → ∀ (O : Heap) (tk : Nat), ACalls Go.Proofs.Tryd.prog 131 [.agg [.int .i64 k1, .int .i64 n1, .str s1, .imm q1 4 f1 (cellss ks1)], .agg [.int .i64 k2, .int .i64 n2, .str s2, .imm q2 4 f2 (cellss ks2)]] O tk (RetX O tk (fun v tk' => v = .bool r))) : ∀ (k1 : Int) (n1 : Int) (s1 : ByteArray) (q1 : Nat) (f1 : Bool) (ks1 : List LT) (k2 : Int) (n2 : Int) (s2 : ByteArray) (q2 : Nat) (f2 : Bool) (ks2 : List LT) {r : Bool}, i_same (n + 1) (T.mk k1 n1 s1 (ers ks1)) (T.mk k2 n2 s2 (ers ks2)) = some r → ∀ (O : Heap) (tk : Nat), ACalls Go.Proofs.Tryd.prog 131 [.agg [.int .i64 k1, .int .i64 n1, .str s1, .imm q1 4 f1 (cellss ks1)], .agg [.int .i64 k2, .int .i64 n2, .str s2, .imm q2 4 f2 (cellss ks2)]] O tk (RetX O tk (fun v tk' => v = .bool r)) := by
 intro k1 n1 s1 q1 f1 ks1 k2 n2 s2 q2 f2 ks2 r hM O tk
 rw [i_same] at hM
 refine acalls_of_run Go.Proofs.Tryd.func131 rfl rfl [] [] (Bor.nil _) [(0, .agg [.int .i64 k1, .int .i64 n1, .str s1, .imm q1 4 f1 (cellss ks1)]), (1, .agg [.int .i64 k2, .int .i64 n2, .str s2, .imm q2 4 f2 (cellss ks2)])] (.cons (.agg _) (.cons (.agg _) (.nil _))) (leb rfl) (fun _ h => by cases h) (fun S0 hO htk hfz => ?_)
 refine run_sr ?_
 refine run_op rfl (box_step (d := 2) rfl rfl rfl rfl rfl) rfl (ltb rfl) ?_
 refine run_op rfl (box_step (d := 3) rfl rfl rfl rfl rfl) rfl (ltb rfl) ?_
 refine mvR rfl rfl rfl rfl (ltb rfl) ?_
 refine run_ops_nil ?_
 refine run_seq ?_
 refine run_sr ?_
 refine run_pu rfl (fieldAddr_step hG rfl rfl rfl rfl rfl) rfl (ltb rfl) ?_
 refine run_ld hG rfl rfl rfl rfl rfl (ltb rfl) ?_
 refine run_pu rfl (fieldAddr_step hG rfl rfl rfl rfl rfl) rfl (ltb rfl) ?_
 refine run_ld hG rfl rfl rfl rfl rfl (ltb rfl) ?_
 refine run_bin rfl rfl rfl rfl rfl rfl rfl (ltb rfl) ?_
 refine mvL rfl rfl rfl rfl (ltb rfl) ?_
 refine run_splitb (i := 11) rfl (fun hb3 => ?_) (fun hb3 => ?_)
 ·replace hM := ite_t hb3 hM
  refine run_off (on_of rfl rfl rfl rfl) rfl (ltb rfl) ?_
  refine run_off (on_of rfl rfl rfl rfl) rfl (ltb rfl) ?_
  refine run_off (on_of rfl rfl rfl rfl) rfl (ltb rfl) ?_
  refine run_off (on_of rfl rfl rfl rfl) rfl (ltb rfl) ?_
  refine run_off (on_of rfl rfl rfl rfl) rfl (ltb rfl) ?_
  refine run_pu rfl (pick_step rfl rfl rfl) rfl (ltb rfl) ?_
  refine mvL rfl rfl rfl rfl (ltb rfl) ?_
  refine run_off (on_of rfl rfl rfl rfl) rfl (ltb rfl) ?_
  refine run_off (on_of rfl rfl rfl rfl) rfl (ltb rfl) ?_
  refine run_off (on_of rfl rfl rfl rfl) rfl (ltb rfl) ?_
  refine run_off (on_of rfl rfl rfl rfl) rfl (ltb rfl) ?_
  refine run_off (on_of rfl rfl rfl rfl) rfl (ltb rfl) ?_
  refine run_pu rfl (pick_step rfl rfl rfl) rfl (ltb rfl) ?_
  refine mvL rfl rfl rfl rfl (ltb rfl) ?_
  refine run_off (on_of rfl rfl rfl rfl) rfl (ltb rfl) ?_
  refine run_off (on_of rfl rfl rfl rfl) rfl (ltb rfl) ?_
  refine run_off (on_of rfl rfl rfl rfl) rfl (ltb rfl) ?_
  refine run_off (on_of rfl rfl rfl rfl) rfl (ltb rfl) ?_
  refine run_off (on_of rfl rfl rfl rfl) rfl (ltb rfl) ?_
  refine run_off (on_of rfl rfl rfl rfl) rfl (ltb rfl) ?_
  refine run_off (on_of rfl rfl rfl rfl) rfl (ltb rfl) ?_
  refine run_pu rfl (pick_step rfl rfl rfl) rfl (ltb rfl) ?_
  refine run_ops_nil ?_
  refine run_sub_code (σ' := ⟨[(2, .optr (.loc 2) 0 0), (3, .optr (.loc 3) 0 0), (4, .bool false), (33, .bool true)], [(3, ⟨25, 4, true, [[.int .i64 k2, .int .i64 n2, .str s2, .imm q2 4 f2 (cellss ks2)]]⟩), (2, ⟨25, 4, true, [[.int .i64 k1, .int .i64 n1, .str s1, .imm q1 4 f1 (cellss ks1)]]⟩)], [], O, tk⟩) (Sub.env _ ⟨rfl, rfl, rfl, rfl, trivial⟩) ?_
  refine run_if rfl rfl (fun _ => ?_) (fun h => by cases h)
  refine run_sr ?_
  refine mvR rfl rfl rfl rfl (ltb rfl) ?_
  refine run_ops_nil ?_
  refine run_ret_to ?_
  replace hM := some_t hM
  subst hM
  refine fin_x hG rfl rfl rfl (v' := .bool false) (by rfl) ⟨rfl, (show tk ≤ tk by omega), _, rfl, rfl⟩
 ·replace hM := ite_f hb3 hM
  refine run_puG (on_of rfl rfl rfl rfl) (fieldAddr_step hG rfl rfl rfl rfl rfl) rfl (ltb rfl) ?_
  refine run_rdG (on_of rfl rfl rfl rfl) (aload_rd hG rfl rfl rfl (by first | (simp [ldok]; done) | exact List.not_mem_nil | trivial)) rfl (ltb rfl) ?_
  refine run_puG (on_of rfl rfl rfl rfl) (fieldAddr_step hG rfl rfl rfl rfl rfl) rfl (ltb rfl) ?_
  refine run_rdG (on_of rfl rfl rfl rfl) (aload_rd hG rfl rfl rfl (by first | (simp [ldok]; done) | exact List.not_mem_nil | trivial)) rfl (ltb rfl) ?_
  refine run_puG (on_of rfl rfl rfl rfl) (abin_step rfl rfl rfl rfl (fun _ h => by cases h)) rfl (ltb rfl) ?_
  refine run_pu rfl (pick_step rfl rfl rfl) rfl (ltb rfl) ?_
  refine mvL rfl rfl rfl rfl (ltb rfl) ?_
  refine run_splitb (i := 18) rfl (fun hb4 => ?_) (fun hb4 => ?_)
  ·replace hM := ite_t hb4 hM
   refine run_off (on_of rfl rfl rfl rfl) rfl (ltb rfl) ?_
   refine run_off (on_of rfl rfl rfl rfl) rfl (ltb rfl) ?_
   refine run_off (on_of rfl rfl rfl rfl) rfl (ltb rfl) ?_
   refine run_off (on_of rfl rfl rfl rfl) rfl (ltb rfl) ?_
   refine run_off (on_of rfl rfl rfl rfl) rfl (ltb rfl) ?_
   refine run_pu rfl (pick_step rfl rfl rfl) rfl (ltb rfl) ?_
   refine mvL rfl rfl rfl rfl (ltb rfl) ?_
   refine run_off (on_of rfl rfl rfl rfl) rfl (ltb rfl) ?_
   refine run_off (on_of rfl rfl rfl rfl) rfl (ltb rfl) ?_
   refine run_off (on_of rfl rfl rfl rfl) rfl (ltb rfl) ?_
   refine run_off (on_of rfl rfl rfl rfl) rfl (ltb rfl) ?_
   refine run_off (on_of rfl rfl rfl rfl) rfl (ltb rfl) ?_
   refine run_off (on_of rfl rfl rfl rfl) rfl (ltb rfl) ?_
   refine run_off (on_of rfl rfl rfl rfl) rfl (ltb rfl) ?_
   refine run_pu rfl (pick_step rfl rfl rfl) rfl (ltb rfl) ?_
   refine run_ops_nil ?_
   refine run_sub_code (σ' := ⟨[(2, .optr (.loc 2) 0 0), (3, .optr (.loc 3) 0 0), (4, .bool false), (33, .bool true)], [(3, ⟨25, 4, true, [[.int .i64 k2, .int .i64 n2, .str s2, .imm q2 4 f2 (cellss ks2)]]⟩), (2, ⟨25, 4, true, [[.int .i64 k1, .int .i64 n1, .str s1, .imm q1 4 f1 (cellss ks1)]]⟩)], [], O, tk⟩) (Sub.env _ ⟨rfl, rfl, rfl, rfl, trivial⟩) ?_
   refine run_if rfl rfl (fun _ => ?_) (fun h => by cases h)
   refine run_sr ?_
   refine mvR rfl rfl rfl rfl (ltb rfl) ?_
   refine run_ops_nil ?_
   refine run_ret_to ?_
   replace hM := some_t hM
   subst hM
   refine fin_x hG rfl rfl rfl (v' := .bool false) (by rfl) ⟨rfl, (show tk ≤ tk by omega), _, rfl, rfl⟩
  ·replace hM := ite_f hb4 hM
   refine run_puG (on_of rfl rfl rfl rfl) (fieldAddr_step hG rfl rfl rfl rfl rfl) rfl (ltb rfl) ?_
   refine run_rdG (on_of rfl rfl rfl rfl) (aload_rd hG rfl rfl rfl (by first | (simp [ldok]; done) | exact List.not_mem_nil | trivial)) rfl (ltb rfl) ?_
   refine run_puG (on_of rfl rfl rfl rfl) (fieldAddr_step hG rfl rfl rfl rfl rfl) rfl (ltb rfl) ?_
   refine run_rdG (on_of rfl rfl rfl rfl) (aload_rd hG rfl rfl rfl (by first | (simp [ldok]; done) | exact List.not_mem_nil | trivial)) rfl (ltb rfl) ?_
   refine run_puG (on_of rfl rfl rfl rfl) (abin_step rfl rfl rfl rfl (fun _ h => by cases h)) rfl (ltb rfl) ?_
   refine run_pu rfl (pick_step rfl rfl rfl) rfl (ltb rfl) ?_
   refine mvL rfl rfl rfl rfl (ltb rfl) ?_
   refine run_splitb (i := 25) rfl (fun hb5 => ?_) (fun hb5 => ?_)
   ·replace hM := ite_t hb5 hM
    refine run_off (on_of rfl rfl rfl rfl) rfl (ltb rfl) ?_
    refine run_off (on_of rfl rfl rfl rfl) rfl (ltb rfl) ?_
    refine run_off (on_of rfl rfl rfl rfl) rfl (ltb rfl) ?_
    refine run_off (on_of rfl rfl rfl rfl) rfl (ltb rfl) ?_
    refine run_off (on_of rfl rfl rfl rfl) rfl (ltb rfl) ?_
    refine run_off (on_of rfl rfl rfl rfl) rfl (ltb rfl) ?_
    refine run_off (on_of rfl rfl rfl rfl) rfl (ltb rfl) ?_
    refine run_pu rfl (pick_step rfl rfl rfl) rfl (ltb rfl) ?_
    refine run_ops_nil ?_
    refine run_sub_code (σ' := ⟨[(2, .optr (.loc 2) 0 0), (3, .optr (.loc 3) 0 0), (4, .bool false), (33, .bool true)], [(3, ⟨25, 4, true, [[.int .i64 k2, .int .i64 n2, .str s2, .imm q2 4 f2 (cellss ks2)]]⟩), (2, ⟨25, 4, true, [[.int .i64 k1, .int .i64 n1, .str s1, .imm q1 4 f1 (cellss ks1)]]⟩)], [], O, tk⟩) (Sub.env _ ⟨rfl, rfl, rfl, rfl, trivial⟩) ?_
    refine run_if rfl rfl (fun _ => ?_) (fun h => by cases h)
    refine run_sr ?_
    refine mvR rfl rfl rfl rfl (ltb rfl) ?_
    refine run_ops_nil ?_
    refine run_ret_to ?_
    replace hM := some_t hM
    subst hM
    refine fin_x hG rfl rfl rfl (v' := .bool false) (by rfl) ⟨rfl, (show tk ≤ tk by omega), _, rfl, rfl⟩
   ·replace hM := ite_f hb5 hM
    refine run_puG (on_of rfl rfl rfl rfl) (fieldAddr_step hG rfl rfl rfl rfl rfl) rfl (ltb rfl) ?_
    refine run_rdG (on_of rfl rfl rfl rfl) (aload_rd hG rfl rfl rfl (by first | (simp [ldok]; done) | exact List.not_mem_nil | trivial)) rfl (ltb rfl) ?_
    refine run_puG (on_of rfl rfl rfl rfl) (lenImm_step hG rfl rfl rfl rfl (tlen _)) rfl (ltb rfl) ?_
    refine run_puG (on_of rfl rfl rfl rfl) (fieldAddr_step hG rfl rfl rfl rfl rfl) rfl (ltb rfl) ?_
    refine run_rdG (on_of rfl rfl rfl rfl) (aload_rd hG rfl rfl rfl (by first | (simp [ldok]; done) | exact List.not_mem_nil | trivial)) rfl (ltb rfl) ?_
    refine run_puG (on_of rfl rfl rfl rfl) (lenImm_step hG rfl rfl rfl rfl (tlen _)) rfl (ltb rfl) ?_
    refine run_puG (on_of rfl rfl rfl rfl) (abin_step rfl rfl rfl rfl (fun _ h => by cases h)) rfl (ltb rfl) ?_
    refine run_pu rfl (pick_step rfl rfl rfl) rfl (ltb rfl) ?_
    refine run_ops_nil ?_
    refine run_sub_code (σ' := ⟨[(2, .optr (.loc 2) 0 0), (3, .optr (.loc 3) 0 0), (4, .bool false), (33, .bool ((((ers ks1)).length : Int) != (((ers ks2)).length : Int)))], [(3, ⟨25, 4, true, [[.int .i64 k2, .int .i64 n2, .str s2, .imm q2 4 f2 (cellss ks2)]]⟩), (2, ⟨25, 4, true, [[.int .i64 k1, .int .i64 n1, .str s1, .imm q1 4 f1 (cellss ks1)]]⟩)], [], O, tk⟩) (Sub.env _ ⟨rfl, rfl, rfl, rfl, trivial⟩) ?_
    refine run_ifb rfl rfl (fun hb6 => ?_) (fun hb6 => ?_)
    ·replace hM := ite_t hb6 hM
     refine run_sr ?_
     refine mvR rfl rfl rfl rfl (ltb rfl) ?_
     refine run_ops_nil ?_
     refine run_ret_to ?_
     replace hM := some_t hM
     subst hM
     refine fin_x hG rfl rfl rfl (v' := .bool false) (by rfl) ⟨rfl, (show tk ≤ tk by omega), _, rfl, rfl⟩
    ·replace hM := ite_f hb6 hM
     refine run_skip ?_
     refine run_seq ?_
     refine run_sr ?_
     refine run_pu rfl (fieldAddr_step hG rfl rfl rfl rfl rfl) rfl (ltb rfl) ?_
     refine run_ld hG rfl rfl rfl rfl rfl (ltb rfl) ?_
     refine run_pu rfl (lenImm_step hG rfl rfl rfl rfl (tlen _)) rfl (ltb rfl) ?_
     refine mvL rfl rfl rfl rfl (ltb rfl) ?_
     refine run_ops_nil ?_
     refine run_block ?_
     refine run_rounds (fun m σ => ∃ (i7 : Int) (tki_same_L1 : Nat), tk ≤ tki_same_L1 ∧ i_same_L1 (i_same n) (T.mk k1 n1 s1 (ers ks1)) (T.mk k2 n2 s2 (ers ks2)) m i7 = some r ∧ σ = ⟨[(2, .optr (.loc 2) 0 0), (3, .optr (.loc 3) 0 0), (4, .bool false), (36, .int .i64 (((ers ks1)).length : Int)), (37, .int .i64 i7)], [(3, ⟨25, 4, true, [[.int .i64 k2, .int .i64 n2, .str s2, .imm q2 4 f2 (cellss ks2)]]⟩), (2, ⟨25, 4, true, [[.int .i64 k1, .int .i64 n1, .str s1, .imm q1 4 f1 (cellss ks1)]]⟩)], [], O, tki_same_L1⟩) n (Sub.env [(2, .optr (.loc 2) 0 0), (3, .optr (.loc 3) 0 0), (4, .bool false), (36, .int .i64 (((ers ks1)).length : Int)), (37, .int .i64 0)] ⟨rfl, rfl, rfl, rfl, rfl, trivial⟩) ⟨0, tk, Nat.le_refl _, hM, rfl⟩ (fun m σ hI => ?_)
     clear hM
     obtain ⟨i7, tki_same_L1, hle27, hM, rfl⟩ := hI
     obtain _ | m := m
     ·exact absurd hM (by rw [i_same_L1]; exact fun h => by cases h)
     rw [i_same_L1] at hM
     refine run_sr ?_
     refine run_bin rfl rfl rfl rfl rfl rfl rfl (ltb rfl) ?_
     refine run_ops_nil ?_
     refine run_seq ?_
     refine run_ifd rfl rfl (fun hb8 => ?_) (fun hb8 => ?_)
     ·replace hM := ite_t hb8 hM
      refine run_skip ?_
      refine run_seq ?_
      refine run_block ?_
      refine run_sr ?_
      refine mvL rfl rfl rfl rfl (ltb rfl) ?_
      refine mvR rfl rfl rfl rfl (ltb rfl) ?_
      refine run_ops_nil ?_
      refine run_seq ?_
      refine run_draw [] (n := 12) mixed rfl (fun _ h => absurd h List.not_mem_nil) ?_
      refine AAny.take (i := 0) rfl (by kernel_rfl) (by kernel_rfl) (by kernel_rfl) rfl rfl (ltb rfl) ((fieldAddr_step hG rfl rfl rfl rfl rfl).rd _) ?_
      refine AAny.take (i := 1) rfl (by kernel_rfl) (by kernel_rfl) (by kernel_rfl) rfl rfl (ltb rfl) (aload_rd hG rfl rfl rfl (by first | (simp [ldok]; done) | exact List.not_mem_nil | trivial)) ?_
      refine AAny.take (i := 2) rfl (by kernel_rfl) (by kernel_rfl) (by kernel_rfl) rfl rfl (ltb rfl) ((move_step (.inl rfl) rfl).rd _) ?_
      obtain ⟨y9, hy10, hM⟩ := bind_t hM
      obtain ⟨k11, n11, s11, q11, f11, ks11, rfl, hc12, hi13⟩ := tidx (ks := ks1) hy10
      refine AAny.take (i := 3) rfl (by kernel_rfl) (by kernel_rfl) (by kernel_rfl) rfl rfl (ltb rfl) ((indexImm_step hG rfl rfl rfl hi13 rfl rfl rfl rfl hc12).rd _) ?_
      refine AAny.take (i := 4) rfl (by kernel_rfl) (by kernel_rfl) (by kernel_rfl) rfl rfl (ltb rfl) (aload_rd hG rfl rfl rfl (by first | (simp [ldok]; done) | exact List.not_mem_nil | trivial)) ?_
      refine AAny.take (i := 5) rfl (by kernel_rfl) (by kernel_rfl) (by kernel_rfl) rfl rfl (ltb rfl) ((fieldAddr_step hG rfl rfl rfl rfl rfl).rd _) ?_
      refine AAny.take (i := 6) rfl (by kernel_rfl) (by kernel_rfl) (by kernel_rfl) rfl rfl (ltb rfl) (aload_rd hG rfl rfl rfl (by first | (simp [ldok]; done) | exact List.not_mem_nil | trivial)) ?_
      refine AAny.take (i := 7) rfl (by kernel_rfl) (by kernel_rfl) (by kernel_rfl) rfl rfl (ltb rfl) ((move_step (.inl rfl) rfl).rd _) ?_
      obtain ⟨y14, hy15, hM⟩ := bind_t hM
      obtain ⟨k16, n16, s16, q16, f16, ks16, rfl, hc17, hi18⟩ := tidx (ks := ks2) hy15
      refine AAny.take (i := 8) rfl (by kernel_rfl) (by kernel_rfl) (by kernel_rfl) rfl rfl (ltb rfl) ((indexImm_step hG rfl rfl rfl hi18 rfl rfl rfl rfl hc17).rd _) ?_
      refine AAny.take (i := 9) rfl (by kernel_rfl) (by kernel_rfl) (by kernel_rfl) rfl rfl (ltb rfl) (aload_rd hG rfl rfl rfl (by first | (simp [ldok]; done) | exact List.not_mem_nil | trivial)) ?_
      obtain ⟨r19, hg20, hM⟩ := bind_t hM
      refine AAny.one (i := 10) (by kernel_rfl) (AOp.call rfl rfl rfl rfl (ltb rfl) rfl rfl rfl (fun _ h => absurd h List.not_mem_nil) (fun _ h => absurd h List.not_mem_nil) (ih_i_same k11 n11 s11 q11 f11 ks11 k16 n16 s16 q16 f16 ks16 hg20 _ _) (callK_retX (fun v tk21 (hle22 : tki_same_L1 ≤ tk21) h23 => ?_)))
      subst h23
      refine AAny.take (i := 11) rfl (by kernel_rfl) (by kernel_rfl) (by kernel_rfl) rfl rfl (ltb rfl) ((aun_step rfl rfl rfl).rd _) ?_
      refine AAny.done (by kernel_rfl) ?_
      refine run_sub_code (σ' := ⟨[(2, .optr (.loc 2) 0 0), (3, .optr (.loc 3) 0 0), (4, .bool false), (36, .int .i64 (((ers ks1)).length : Int)), (37, .int .i64 i7), (51, .bool (!r19))], [(3, ⟨25, 4, true, [[.int .i64 k2, .int .i64 n2, .str s2, .imm q2 4 f2 (cellss ks2)]]⟩), (2, ⟨25, 4, true, [[.int .i64 k1, .int .i64 n1, .str s1, .imm q1 4 f1 (cellss ks1)]]⟩)], [], O, tk21⟩) (Sub.env _ ⟨rfl, rfl, rfl, rfl, rfl, rfl, trivial⟩) ?_
      refine run_ifb rfl rfl (fun hb26 => ?_) (fun hb26 => ?_)
      ·replace hM := ite_t hb26 hM
       refine run_sr ?_
       refine mvR rfl rfl rfl rfl (ltb rfl) ?_
       refine run_ops_nil ?_
       refine run_ret_to ?_
       replace hM := some_t hM
       subst hM
       refine fin_x hG rfl rfl rfl (v' := .bool false) (by rfl) ⟨rfl, (show tk ≤ tk21 by omega), _, rfl, rfl⟩
      ·replace hM := ite_f hb26 hM
       refine run_skip ?_
       refine run_blk ?_
       refine run_region ?_
       refine run_bin rfl rfl rfl rfl rfl rfl rfl (ltb rfl) ?_
       refine mvL rfl rfl rfl rfl (ltb rfl) ?_
       refine run_ops_nil ?_
       exact run_loop_end ⟨m, _, Nat.lt_succ_self _, ⟨(IntKind.i64.wrap (i7 + 1)), tk21, (show tk ≤ tk21 by omega), hM, rfl⟩, Sub.env [(2, .optr (.loc 2) 0 0), (3, .optr (.loc 3) 0 0), (4, .bool false), (36, .int .i64 (((ers ks1)).length : Int)), (37, .int .i64 (IntKind.i64.wrap (i7 + 1)))] ⟨rfl, rfl, rfl, rfl, rfl, trivial⟩⟩
     ·replace hM := ite_f hb8 hM
      refine run_exit_to rfl ?_
      refine run_sr ?_
      refine mvR rfl rfl rfl rfl (ltb rfl) ?_
      refine run_ops_nil ?_
      refine run_ret_to ?_
      replace hM := some_t hM
      subst hM
      refine fin_x hG rfl rfl rfl (v' := .bool true) (by rfl) ⟨rfl, (show tk ≤ tki_same_L1 by omega), _, rfl, rfl⟩

theorem i_same_all : ∀ (n : Nat), (∀ (k1 : Int) (n1 : Int) (s1 : ByteArray) (q1 : Nat) (f1 : Bool) (ks1 : List LT) (k2 : Int) (n2 : Int) (s2 : ByteArray) (q2 : Nat) (f2 : Bool) (ks2 : List LT) {r : Bool}, i_same n (T.mk k1 n1 s1 (ers ks1)) (T.mk k2 n2 s2 (ers ks2)) = some r → ∀ (O : Heap) (tk : Nat), ACalls Go.Proofs.Tryd.prog 131 [.agg [.int .i64 k1, .int .i64 n1, .str s1, .imm q1 4 f1 (cellss ks1)], .agg [.int .i64 k2, .int .i64 n2, .str s2, .imm q2 4 f2 (cellss ks2)]] O tk (RetX O tk (fun v tk' => v = .bool r)))
 | 0 => by intro k1 n1 s1 q1 f1 ks1 k2 n2 s2 q2 f2 ks2 r hM; rw [i_same] at hM; cases hM
 | n + 1 => have ih := i_same_all n; i_same_st n (ih)

theorem i_same_ok (n : Nat) : ∀ (k1 : Int) (n1 : Int) (s1 : ByteArray) (q1 : Nat) (f1 : Bool) (ks1 : List LT) (k2 : Int) (n2 : Int) (s2 : ByteArray) (q2 : Nat) (f2 : Bool) (ks2 : List LT) {r : Bool}, i_same n (T.mk k1 n1 s1 (ers ks1)) (T.mk k2 n2 s2 (ers ks2)) = some r → ∀ (O : Heap) (tk : Nat), ACalls Go.Proofs.Tryd.prog 131 [.agg [.int .i64 k1, .int .i64 n1, .str s1, .imm q1 4 f1 (cellss ks1)], .agg [.int .i64 k2, .int .i64 n2, .str s2, .imm q2 4 f2 (cellss ks2)]] O tk (RetX O tk (fun v tk' => v = .bool r)) := i_same_all n

def i_longVariable_L1 (n : Nat) (x1 : T) (x2 : T) : Nat → Int → Int → Int → ByteArray → List T → Option (Int × Bool)
 | 0, _, _, _, _, _ => none
 | m + 1, i3, i4, i5, t6, l7 =>
  if i4 = 4 then
   (idx l7 0).bind fun y9 =>
   i_longVariable_L1 n x1 x2 m (IntKind.i64.wrap (i3 + 1)) y9.kind y9.n y9.name y9.kids
  else
   if (i4 != 5) = true then
    some (0, false)
   else
    if (IntKind.i64.wrap (i5 - i3)) < 0 then
     some (0, false)
    else
     (i_longForm__nk n (T.mk 5 (IntKind.i64.wrap (i5 - i3)) (⟨#[]⟩) []) x2).bind fun r16 =>
     (i_same n r16 x1).bind fun r23 =>
     if (!r23) = true then
      some (0, false)
     else
      some ((IntKind.i64.wrap (i5 - i3)), true)

def i_longVariable (n : Nat) (x1 : T) (x2 : T) : Option (Int × Bool) :=
 i_longVariable_L1 n x1 x2 n 0 x1.kind x1.n x1.name x1.kids

set_option maxHeartbeats 20000000 in
set_option maxRecDepth 100000 in
theorem i_longVariable_ok (n : Nat) : ∀ (k1 : Int) (n1 : Int) (s1 : ByteArray) (q1 : Nat) (f1 : Bool) (ks1 : List LT) (k2 : Int) (n2 : Int) (s2 : ByteArray) (q2 : Nat) (f2 : Bool) (ks2 : List LT) {r : (Int × Bool)}, i_longVariable n (T.mk k1 n1 s1 (ers ks1)) (T.mk k2 n2 s2 (ers ks2)) = some r → ∀ (O : Heap) (tk : Nat), ACalls Go.Proofs.Tryd.prog 143 [.agg [.int .i64 k1, .int .i64 n1, .str s1, .imm q1 4 f1 (cellss ks1)], .agg [.int .i64 k2, .int .i64 n2, .str s2, .imm q2 4 f2 (cellss ks2)]] O tk (RetX O tk (fun v tk' => ∃ r0' r1' v0' v1', r = (r0', r1') ∧ v = .tup [v0', v1'] ∧ v0' = .int .i64 r0' ∧ v1' = .bool r1')) := by
 intro k1 n1 s1 q1 f1 ks1 k2 n2 s2 q2 f2 ks2 r hM O tk
 unfold i_longVariable at hM
 refine acalls_of_run Go.Proofs.Tryd.func143 rfl rfl [] [] (Bor.nil _) [(0, .agg [.int .i64 k1, .int .i64 n1, .str s1, .imm q1 4 f1 (cellss ks1)]), (1, .agg [.int .i64 k2, .int .i64 n2, .str s2, .imm q2 4 f2 (cellss ks2)])] (.cons (.agg _) (.cons (.agg _) (.nil _))) (leb rfl) (fun _ h => by cases h) (fun S0 hO htk hfz => ?_)
 refine run_sr ?_
 refine run_op rfl (box_step (d := 2) rfl rfl rfl rfl rfl) rfl (ltb rfl) ?_
 refine run_op rfl (box_step (d := 3) rfl rfl rfl rfl rfl) rfl (ltb rfl) ?_
 refine mvR rfl rfl rfl rfl (ltb rfl) ?_
 refine mvR rfl rfl rfl rfl (ltb rfl) ?_
 refine run_ops_nil ?_
 refine run_sr ?_
 refine run_ld hG rfl rfl rfl rfl rfl (ltb rfl) ?_
 refine run_op rfl (alloc_step (d := 6) hG rfl rfl rfl) rfl (ltb rfl) ?_
 refine run_op0 rfl (store_step hG rfl rfl rfl rfl rfl rfl rfl rfl) rfl ?_
 refine mvR rfl rfl rfl rfl (ltb rfl) ?_
 refine run_ops_nil ?_
 refine run_seq ?_
 refine run_block ?_
 refine run_rounds (fun m σ => ∃ (i3 : Int) (i4 : Int) (i5 : Int) (t6 : ByteArray) (q7 : Nat) (f7 : Bool) (ks7 : List LT) (tki_longVariable_L1 : Nat), tk ≤ tki_longVariable_L1 ∧ i_longVariable_L1 n (T.mk k1 n1 s1 (ers ks1)) (T.mk k2 n2 s2 (ers ks2)) m i3 i4 i5 t6 (ers ks7) = some r ∧ σ = ⟨[(2, .optr (.loc 2) 0 0), (3, .optr (.loc 3) 0 0), (4, .int .i64 0), (5, .bool false), (6, .optr (.loc 6) 0 0), (7, .int .i64 i3)], [(6, ⟨25, 4, true, [[.int .i64 i4, .int .i64 i5, .str t6, .imm q7 4 f7 (cellss ks7)]]⟩), (3, ⟨25, 4, true, [[.int .i64 k2, .int .i64 n2, .str s2, .imm q2 4 f2 (cellss ks2)]]⟩), (2, ⟨25, 4, true, [[.int .i64 k1, .int .i64 n1, .str s1, .imm q1 4 f1 (cellss ks1)]]⟩)], [], O, tki_longVariable_L1⟩) n (Sub.env [(2, .optr (.loc 2) 0 0), (3, .optr (.loc 3) 0 0), (4, .int .i64 0), (5, .bool false), (6, .optr (.loc 6) 0 0), (7, .int .i64 0)] ⟨rfl, rfl, rfl, rfl, rfl, rfl, trivial⟩) ⟨0, k1, n1, s1, q1, f1, ks1, tk, Nat.le_refl _, hM, rfl⟩ (fun m σ hI => ?_)
 clear hM
 obtain ⟨i3, i4, i5, t6, q7, f7, ks7, tki_longVariable_L1, hle31, hM, rfl⟩ := hI
 obtain _ | m := m
 ·exact absurd hM (by rw [i_longVariable_L1]; exact fun h => by cases h)
 rw [i_longVariable_L1] at hM
 refine run_seq ?_
 refine run_sr ?_
 refine run_pu rfl (fieldAddr_step hG rfl rfl rfl rfl rfl) rfl (ltb rfl) ?_
 refine run_ld hG rfl rfl rfl rfl rfl (ltb rfl) ?_
 refine run_bin rfl rfl rfl rfl rfl rfl rfl (ltb rfl) ?_
 refine run_ops_nil ?_
 refine run_ifd rfl rfl (fun hb8 => ?_) (fun hb8 => ?_)
 ·replace hM := ite_t hb8 hM
  refine run_skip ?_
  refine run_block ?_
  refine run_region ?_
  refine run_pu rfl (fieldAddr_step hG rfl rfl rfl rfl rfl) rfl (ltb rfl) ?_
  refine run_ld hG rfl rfl rfl rfl rfl (ltb rfl) ?_
  obtain ⟨y9, hy10, hM⟩ := bind_t hM
  obtain ⟨k11, n11, s11, q11, f11, ks11, rfl, hc12, hi13⟩ := tidx (ks := ks7) hy10
  refine run_pu rfl (indexImm_step hG rfl rfl rfl hi13 rfl rfl rfl rfl hc12) rfl (ltb rfl) ?_
  refine run_ld hG rfl rfl rfl rfl rfl (ltb rfl) ?_
  refine mvL rfl rfl rfl rfl (ltb rfl) ?_
  refine run_bin rfl rfl rfl rfl rfl rfl rfl (ltb rfl) ?_
  refine run_op0 rfl (store_step hG rfl rfl rfl rfl rfl rfl rfl rfl) rfl ?_
  refine mvR rfl rfl rfl rfl (ltb rfl) ?_
  refine run_ops_nil ?_
  refine run_blk ?_
  exact run_loop_end ⟨m, _, Nat.lt_succ_self _, ⟨(IntKind.i64.wrap (i3 + 1)), k11, n11, s11, q11, f11, ks11, tki_longVariable_L1, (show tk ≤ tki_longVariable_L1 by omega), hM, rfl⟩, Sub.env [(2, .optr (.loc 2) 0 0), (3, .optr (.loc 3) 0 0), (4, .int .i64 0), (5, .bool false), (6, .optr (.loc 6) 0 0), (7, .int .i64 (IntKind.i64.wrap (i3 + 1)))] ⟨rfl, rfl, rfl, rfl, rfl, rfl, trivial⟩⟩
 ·replace hM := ite_f hb8 hM
  refine run_exit_to rfl ?_
  refine run_sr ?_
  refine run_pu rfl (fieldAddr_step hG rfl rfl rfl rfl rfl) rfl (ltb rfl) ?_
  refine run_ld hG rfl rfl rfl rfl rfl (ltb rfl) ?_
  refine mvL rfl rfl rfl rfl (ltb rfl) ?_
  refine run_bin rfl rfl rfl rfl rfl rfl rfl (ltb rfl) ?_
  refine mvR rfl rfl rfl rfl (ltb rfl) ?_
  refine run_ops_nil ?_
  refine run_seq ?_
  refine run_seq ?_
  refine run_draw [] (n := 16) mixed rfl (fun _ h => absurd h List.not_mem_nil) ?_
  refine AAny.take (i := 0) rfl (by kernel_rfl) (by kernel_rfl) (by kernel_rfl) rfl rfl (ltb rfl) ((fieldAddr_step hG rfl rfl rfl rfl rfl).rd _) ?_
  refine AAny.take (i := 1) rfl (by kernel_rfl) (by kernel_rfl) (by kernel_rfl) rfl rfl (ltb rfl) (aload_rd hG rfl rfl rfl (by first | (simp [ldok]; done) | exact List.not_mem_nil | trivial)) ?_
  refine AAny.take (i := 2) rfl (by kernel_rfl) (by kernel_rfl) (by kernel_rfl) rfl rfl (ltb rfl) ((abin_step rfl rfl rfl rfl (fun _ h => by cases h)).rd _) ?_
  refine AAny.take (i := 3) rfl (by kernel_rfl) (by kernel_rfl) (by kernel_rfl) rfl rfl (ltb rfl) ((move_step (.inl rfl) rfl).rd _) ?_
  refine AAny.split (i := 26) rfl (fun _ h => absurd h List.not_mem_nil) (fun hb14 => ?_) (fun hb14 => ?_)
  ·replace hM := ite_t hb14 hM
   refine AAny.off (i := 4) rfl (by kernel_rfl) (by kernel_rfl) (by kernel_rfl) (on_of rfl rfl rfl rfl) rfl (ltb rfl) ?_
   refine AAny.off (i := 5) rfl (by kernel_rfl) (by kernel_rfl) (by kernel_rfl) (on_of rfl rfl rfl rfl) rfl (ltb rfl) ?_
   refine AAny.take (i := 6) rfl (by kernel_rfl) (by kernel_rfl) (by kernel_rfl) rfl rfl (ltb rfl) ((pick_step rfl rfl rfl).rd _) ?_
   refine AAny.take (i := 7) rfl (by kernel_rfl) (by kernel_rfl) (by kernel_rfl) rfl rfl (ltb rfl) ((move_step (.inl rfl) rfl).rd _) ?_
   refine AAny.off (i := 8) rfl (by kernel_rfl) (by kernel_rfl) (by kernel_rfl) (on_of rfl rfl rfl rfl) rfl (ltb rfl) ?_
   refine AAny.off (i := 10) rfl (by kernel_rfl) (by kernel_rfl) (by kernel_rfl) (on_of rfl rfl rfl rfl) rfl (ltb rfl) ?_
   refine AAny.off (i := 12) rfl (by kernel_rfl) (by kernel_rfl) (by kernel_rfl) (on_of rfl rfl rfl rfl) rfl (ltb rfl) ?_
   refine AAny.off (i := 9) rfl (by kernel_rfl) (by kernel_rfl) (by kernel_rfl) (on_of rfl rfl rfl rfl) rfl (ltb rfl) ?_
   refine AAny.off (i := 11) rfl (by kernel_rfl) (by kernel_rfl) (by kernel_rfl) (on_of rfl rfl rfl rfl) rfl (ltb rfl) ?_
   refine AAny.off (i := 13) rfl (by kernel_rfl) (by kernel_rfl) (by kernel_rfl) (on_of rfl rfl rfl rfl) rfl (ltb rfl) ?_
   refine AAny.off (i := 14) rfl (by kernel_rfl) (by kernel_rfl) (by kernel_rfl) (on_of rfl rfl rfl rfl) rfl (ltb rfl) ?_
   refine AAny.take (i := 15) rfl (by kernel_rfl) (by kernel_rfl) (by kernel_rfl) rfl rfl (ltb rfl) ((pick_step rfl rfl rfl).rd _) ?_
   refine AAny.done (by kernel_rfl) ?_
   refine run_sub_code (σ' := ⟨[(4, .int .i64 0), (5, .bool false), (8, .int .i64 (IntKind.i64.wrap (i5 - i3))), (38, .bool true)], [], [], O, tki_longVariable_L1⟩) (Sub.trans (Sub.drop (k := 6) rfl) (Sub.trans (Sub.drop (k := 3) rfl) (Sub.trans (Sub.drop (k := 2) rfl) (Sub.env _ ⟨rfl, rfl, rfl, rfl, trivial⟩)))) ?_
   refine run_if rfl rfl (fun _ => ?_) (fun h => by cases h)
   refine run_sr ?_
   refine mvR rfl rfl rfl rfl (ltb rfl) ?_
   refine mvR rfl rfl rfl rfl (ltb rfl) ?_
   refine run_ops_nil ?_
   refine run_ret_to ?_
   replace hM := some_t hM
   subst hM
   refine fin_x hG rfl rfl rfl (v' := .tup [.int .i64 0, .bool false]) (by rfl) ⟨rfl, (show tk ≤ tki_longVariable_L1 by omega), _, rfl, ⟨_, _, _, _, rfl, rfl, rfl, rfl⟩⟩
  ·replace hM := ite_f (Bool.eq_false_iff.1 hb14) hM
   refine AAny.takeG (i := 4) rfl (by kernel_rfl) (by kernel_rfl) (by kernel_rfl) (on_of rfl rfl rfl rfl) rfl (ltb rfl) ((move_step (.inl rfl) rfl).rd _) ?_
   refine AAny.takeG (i := 5) rfl (by kernel_rfl) (by kernel_rfl) (by kernel_rfl) (on_of rfl rfl rfl rfl) rfl (ltb rfl) ((abin_step rfl rfl rfl rfl (fun _ h => by cases h)).rd _) ?_
   refine AAny.take (i := 6) rfl (by kernel_rfl) (by kernel_rfl) (by kernel_rfl) rfl rfl (ltb rfl) ((pick_step rfl rfl rfl).rd _) ?_
   refine AAny.take (i := 7) rfl (by kernel_rfl) (by kernel_rfl) (by kernel_rfl) rfl rfl (ltb rfl) ((move_step (.inl rfl) rfl).rd _) ?_
   refine AAny.splitd (i := 30) rfl (fun _ h => absurd h List.not_mem_nil) (fun hb15 => ?_) (fun hb15 => ?_)
   ·replace hM := ite_t hb15 hM
    refine AAny.off (i := 8) rfl (by kernel_rfl) (by kernel_rfl) (by kernel_rfl) (on_of rfl rfl rfl rfl) rfl (ltb rfl) ?_
    refine AAny.off (i := 10) rfl (by kernel_rfl) (by kernel_rfl) (by kernel_rfl) (on_of rfl rfl rfl rfl) rfl (ltb rfl) ?_
    refine AAny.off (i := 12) rfl (by kernel_rfl) (by kernel_rfl) (by kernel_rfl) (on_of rfl rfl rfl rfl) rfl (ltb rfl) ?_
    refine AAny.off (i := 9) rfl (by kernel_rfl) (by kernel_rfl) (by kernel_rfl) (on_of rfl rfl rfl rfl) rfl (ltb rfl) ?_
    refine AAny.off (i := 11) rfl (by kernel_rfl) (by kernel_rfl) (by kernel_rfl) (on_of rfl rfl rfl rfl) rfl (ltb rfl) ?_
    refine AAny.off (i := 13) rfl (by kernel_rfl) (by kernel_rfl) (by kernel_rfl) (on_of rfl rfl rfl rfl) rfl (ltb rfl) ?_
    refine AAny.off (i := 14) rfl (by kernel_rfl) (by kernel_rfl) (by kernel_rfl) (on_of rfl rfl rfl rfl) rfl (ltb rfl) ?_
    refine AAny.take (i := 15) rfl (by kernel_rfl) (by kernel_rfl) (by kernel_rfl) rfl rfl (ltb rfl) ((pick_step rfl rfl rfl).rd _) ?_
    refine AAny.done (by kernel_rfl) ?_
    refine run_sub_code (σ' := ⟨[(4, .int .i64 0), (5, .bool false), (8, .int .i64 (IntKind.i64.wrap (i5 - i3))), (38, .bool true)], [], [], O, tki_longVariable_L1⟩) (Sub.trans (Sub.drop (k := 6) rfl) (Sub.trans (Sub.drop (k := 3) rfl) (Sub.trans (Sub.drop (k := 2) rfl) (Sub.env _ ⟨rfl, rfl, rfl, rfl, trivial⟩)))) ?_
    refine run_if rfl rfl (fun _ => ?_) (fun h => by cases h)
    refine run_sr ?_
    refine mvR rfl rfl rfl rfl (ltb rfl) ?_
    refine mvR rfl rfl rfl rfl (ltb rfl) ?_
    refine run_ops_nil ?_
    refine run_ret_to ?_
    replace hM := some_t hM
    subst hM
    refine fin_x hG rfl rfl rfl (v' := .tup [.int .i64 0, .bool false]) (by rfl) ⟨rfl, (show tk ≤ tki_longVariable_L1 by omega), _, rfl, ⟨_, _, _, _, rfl, rfl, rfl, rfl⟩⟩
   ·replace hM := ite_f hb15 hM
    refine AAny.takeG (i := 8) rfl (by kernel_rfl) (by kernel_rfl) (by kernel_rfl) (on_of rfl rfl rfl rfl) rfl (ltb rfl) ((move_step (.inl rfl) rfl).rd _) ?_
    refine AAny.takeG (i := 10) rfl (by kernel_rfl) (by kernel_rfl) (by kernel_rfl) (on_of rfl rfl rfl rfl) rfl (ltb rfl) (aload_rd hG rfl rfl rfl (by first | (simp [ldok]; done) | exact List.not_mem_nil | trivial)) ?_
    refine AAny.takeG (i := 12) rfl (by kernel_rfl) (by kernel_rfl) (by kernel_rfl) (on_of rfl rfl rfl rfl) rfl (ltb rfl) (aload_rd hG rfl rfl rfl (by first | (simp [ldok]; done) | exact List.not_mem_nil | trivial)) ?_
    refine AAny.one (i := 9) (by kernel_rfl) (AOp.callG rfl (on_of rfl rfl rfl rfl) rfl rfl (ltb rfl) rfl rfl rfl (fun _ h => absurd h List.not_mem_nil) (fun _ h => absurd h List.not_mem_nil) (ACalls.args (args' := [.int .i64 (IntKind.i64.wrap (i5 - i3)), .imm 0 4 true (cellss [])]) rfl (i_variable_ex (IntKind.i64.wrap (i5 - i3)) 0 true [] _ _)) (callK_retN ?_))
    skip
    obtain ⟨r16, hg17, hM⟩ := bind_t hM
    refine AAny.one (i := 11) (by kernel_rfl) (AOp.callG rfl (on_of rfl rfl rfl rfl) rfl rfl (ltb rfl) rfl rfl rfl (fun _ h => absurd h List.not_mem_nil) (fun _ h => absurd h List.not_mem_nil) (ACalls.args (args' := [.agg [.int .i64 5, .int .i64 (IntKind.i64.wrap (i5 - i3)), .str ⟨#[]⟩, .imm 0 4 true []], .agg [.int .i64 k2, .int .i64 n2, .str s2, .imm q2 4 f2 (cellss ks2)]]) rfl (i_longForm__nk_ok n 5 (IntKind.i64.wrap (i5 - i3)) ⟨#[]⟩ k2 n2 s2 q2 f2 ks2 hg17 _ _)) (callK_retX (fun v tk18 (hle19 : tki_longVariable_L1 ≤ tk18) h20 => ?_)))
    obtain ⟨k21, n21, s21, q21, f21, ks21, rfl, rfl, hf22⟩ := h20
    obtain ⟨r23, hg24, hM⟩ := bind_t hM
    refine AAny.one (i := 13) (by kernel_rfl) (AOp.callG rfl (on_of rfl rfl rfl rfl) rfl rfl (ltb rfl) rfl rfl rfl (fun _ h => absurd h List.not_mem_nil) (fun _ h => absurd h List.not_mem_nil) (i_same_ok n k21 n21 s21 q21 f21 ks21 k1 n1 s1 q1 f1 ks1 hg24 _ _) (callK_retX (fun v tk25 (hle26 : tk18 ≤ tk25) h27 => ?_)))
    subst h27
    refine AAny.takeG (i := 14) rfl (by kernel_rfl) (by kernel_rfl) (by kernel_rfl) (on_of rfl rfl rfl rfl) rfl (ltb rfl) ((aun_step rfl rfl rfl).rd _) ?_
    refine AAny.take (i := 15) rfl (by kernel_rfl) (by kernel_rfl) (by kernel_rfl) rfl rfl (ltb rfl) ((pick_step rfl rfl rfl).rd _) ?_
    refine AAny.done (by kernel_rfl) ?_
    refine run_sub_code (σ' := ⟨[(4, .int .i64 0), (5, .bool false), (8, .int .i64 (IntKind.i64.wrap (i5 - i3))), (38, .bool (!r23))], [], [], O, tk25⟩) (Sub.trans (Sub.drop (k := 6) rfl) (Sub.trans (Sub.drop (k := 3) rfl) (Sub.trans (Sub.drop (k := 2) rfl) (Sub.env _ ⟨rfl, rfl, rfl, rfl, trivial⟩)))) ?_
    refine run_ifb rfl rfl (fun hb30 => ?_) (fun hb30 => ?_)
    ·replace hM := ite_t hb30 hM
     refine run_sr ?_
     refine mvR rfl rfl rfl rfl (ltb rfl) ?_
     refine mvR rfl rfl rfl rfl (ltb rfl) ?_
     refine run_ops_nil ?_
     refine run_ret_to ?_
     replace hM := some_t hM
     subst hM
     refine fin_x hG rfl rfl rfl (v' := .tup [.int .i64 0, .bool false]) (by rfl) ⟨rfl, (show tk ≤ tk25 by omega), _, rfl, ⟨_, _, _, _, rfl, rfl, rfl, rfl⟩⟩
    ·replace hM := ite_f hb30 hM
     refine run_skip ?_
     refine run_sr ?_
     refine mvL rfl rfl rfl rfl (ltb rfl) ?_
     refine mvR rfl rfl rfl rfl (ltb rfl) ?_
     refine mvR rfl rfl rfl rfl (ltb rfl) ?_
     refine run_ops_nil ?_
     refine run_ret_to ?_
     replace hM := some_t hM
     subst hM
     refine fin_x hG rfl rfl rfl (v' := .tup [.int .i64 (IntKind.i64.wrap (i5 - i3)), .bool true]) (by rfl) ⟨rfl, (show tk ≤ tk25 by omega), _, rfl, ⟨_, _, _, _, rfl, rfl, rfl, rfl⟩⟩

def i_pattern__c_L1 (n : Nat) (x2 : T) (r9 : (List T × T)) : Nat → Int → List Int → Option (List Int × Bool)
 | 0, _, _ => none
 | m + 1, i23, l24 =>
  if i23 < ((x2.kids).length : Int) then
   (idx x2.kids i23).bind fun y26 =>
   (idx r9.1 i23).bind fun y31 =>
   (i_longVariable n y26 y31).bind fun r36 =>
   if (!r36.2) = true then
    some ([], false)
   else
    (g_Contains_X n l24 r36.1).bind fun r50 =>
    if r50 = true then
     some ([], false)
    else
     chk ((l24).length + ([r36.1]).length ≤ 1099511627776) <|
     i_pattern__c_L1 n x2 r9 m (IntKind.i64.wrap (i23 + 1)) (l24 ++ [r36.1])
  else
   some (l24, true)

def i_pattern__c (n : Nat) (l1 : List T) (x2 : T) : Option (List Int × Bool) :=
 if x2.n ≥ ((l1).length : Int) then
  some ([], false)
 else
  (idx l1 x2.n).bind fun y4 =>
  (i_takes n y4).bind fun r9 =>
  if (((r9.1).length : Int) != ((x2.kids).length : Int)) = true then
   some ([], false)
  else
   i_pattern__c_L1 n x2 r9 n 0 ([])

set_option maxHeartbeats 20000000 in
set_option maxRecDepth 100000 in
theorem i_pattern__c_ok (n : Nat) : ∀ (q1 : Nat) (f1 : Bool) (ks1 : List LT) (k2 : Int) (n2 : Int) (s2 : ByteArray) (q2 : Nat) (f2 : Bool) (ks2 : List LT) {r : (List Int × Bool)}, i_pattern__c n (ers ks1) (T.mk k2 n2 s2 (ers ks2)) = some r → ∀ (O : Heap) (tk : Nat), ACalls Go.Proofs.Tryd.prog 114 [.imm q1 4 f1 (cellss ks1), .cptr [.int .i64 k2, .int .i64 n2, .str s2, .imm q2 4 f2 (cellss ks2)]] O tk (RetX O tk (fun v tk' => ∃ r0' r1' v0' v1', r = (r0', r1') ∧ v = .tup [v0', v1'] ∧ VIs r0' v0' ∧ v1' = .bool r1')) := by
 intro q1 f1 ks1 k2 n2 s2 q2 f2 ks2 r hM O tk
 unfold i_pattern__c at hM
 refine acalls_of_run Go.Proofs.Tryd.func114 rfl rfl [] [] (Bor.nil _) [(0, .imm q1 4 f1 (cellss ks1)), (1, .cptr [.int .i64 k2, .int .i64 n2, .str s2, .imm q2 4 f2 (cellss ks2)])] (.cons (entS rfl) (.cons (.cptr _) (.nil _))) (leb rfl) (fun _ h => by cases h) (fun S0 hO htk hfz => ?_)
 refine run_sr ?_
 refine mvR rfl rfl rfl rfl (ltb rfl) ?_
 refine mvR rfl rfl rfl rfl (ltb rfl) ?_
 refine run_ops_nil ?_
 refine run_seq ?_
 refine run_sr ?_
 refine mvL rfl rfl rfl rfl (ltb rfl) ?_
 refine run_pu rfl (nilCheck_step rfl rfl ⟨_, rfl⟩) rfl (ltb rfl) ?_
 refine run_pu rfl (fieldAddr_step hG rfl rfl rfl rfl rfl) rfl (ltb rfl) ?_
 refine run_ld hG rfl rfl rfl rfl rfl (ltb rfl) ?_
 refine mvL rfl rfl rfl rfl (ltb rfl) ?_
 refine run_pu rfl (lenImm_step hG rfl rfl rfl rfl (tlen _)) rfl (ltb rfl) ?_
 refine run_bin rfl rfl rfl rfl rfl rfl rfl (ltb rfl) ?_
 refine run_ops_nil ?_
 refine run_ifd rfl rfl (fun hb3 => ?_) (fun hb3 => ?_)
 ·replace hM := ite_t hb3 hM
  refine run_sr ?_
  refine mvR rfl rfl rfl rfl (ltb rfl) ?_
  refine mvR rfl rfl rfl rfl (ltb rfl) ?_
  refine run_ops_nil ?_
  refine run_ret_to ?_
  replace hM := some_t hM
  subst hM
  refine fin_x hG rfl rfl rfl (v' := .tup [.imm 0 1 true (([] : List Int).map fun n => [AV.int .i64 n]), .bool false]) (by rfl) ⟨rfl, (show tk ≤ tk by omega), _, rfl, ⟨_, _, _, _, rfl, rfl, ⟨0, true, rfl⟩, rfl⟩⟩
 ·replace hM := ite_f hb3 hM
  refine run_skip ?_
  refine run_sr ?_
  refine mvL rfl rfl rfl rfl (ltb rfl) ?_
  refine mvL rfl rfl rfl rfl (ltb rfl) ?_
  refine run_pu rfl (nilCheck_step rfl rfl ⟨_, rfl⟩) rfl (ltb rfl) ?_
  refine run_pu rfl (fieldAddr_step hG rfl rfl rfl rfl rfl) rfl (ltb rfl) ?_
  refine run_ld hG rfl rfl rfl rfl rfl (ltb rfl) ?_
  obtain ⟨y4, hy5, hM⟩ := bind_t hM
  obtain ⟨k6, n6, s6, q6, f6, ks6, rfl, hc7, hi8⟩ := tidx (ks := ks1) hy5
  refine run_pu rfl (indexImm_step hG rfl rfl rfl hi8 rfl rfl rfl rfl hc7) rfl (ltb rfl) ?_
  refine run_ld hG rfl rfl rfl rfl rfl (ltb rfl) ?_
  obtain ⟨r9, hg10, hM⟩ := bind_t hM
  refine run_call rfl rfl rfl (ltb rfl) rfl rfl rfl (fun _ h => absurd h List.not_mem_nil) (i_takes_ok n k6 n6 s6 q6 f6 ks6 hg10 _ _) (callK_retX (fun v tk11 (hle12 : tk ≤ tk11) h13 => ?_))
  obtain ⟨ra18, ra19, va20, va21, rfl, rfl, ⟨q14, f14, ks14, rfl, rfl, hf15⟩, ⟨k16, n16, s16, q16, f16, ks16, rfl, rfl, hf17⟩⟩ := h13
  refine mvL rfl rfl rfl rfl (ltb rfl) ?_
  refine run_pu rfl (extract_step rfl rfl rfl) rfl (ltb rfl) ?_
  refine run_pu rfl (extract_step rfl rfl rfl) rfl (ltb rfl) ?_
  refine run_op rfl (alloc_step (d := 7) hG rfl rfl rfl) rfl (ltb rfl) ?_
  refine mvR rfl rfl rfl rfl (ltb rfl) ?_
  refine run_op0 rfl (store_step hG rfl rfl rfl rfl rfl rfl rfl rfl) rfl ?_
  refine run_ops_nil ?_
  refine run_sub_code (σ' := ⟨[(1, .cptr [.int .i64 k2, .int .i64 n2, .str s2, .imm q2 4 f2 (cellss ks2)]), (4, .imm 0 0 true []), (5, .bool false), (6, .imm q14 4 f14 (cellss ks14))], [], [], O, tk11⟩) (Sub.trans (Sub.drop (k := 7) rfl) (Sub.env _ ⟨rfl, rfl, rfl, rfl, trivial⟩)) ?_
  refine run_seq ?_
  refine run_sr ?_
  refine mvL rfl rfl rfl rfl (ltb rfl) ?_
  refine run_pu rfl (lenImm_step hG rfl rfl rfl rfl (tlen _)) rfl (ltb rfl) ?_
  refine mvL rfl rfl rfl rfl (ltb rfl) ?_
  refine run_pu rfl (nilCheck_step rfl rfl ⟨_, rfl⟩) rfl (ltb rfl) ?_
  refine run_pu rfl (fieldAddr_step hG rfl rfl rfl rfl rfl) rfl (ltb rfl) ?_
  refine run_ld hG rfl rfl rfl rfl rfl (ltb rfl) ?_
  refine run_pu rfl (lenImm_step hG rfl rfl rfl rfl (tlen _)) rfl (ltb rfl) ?_
  refine run_bin rfl rfl rfl rfl rfl rfl rfl (ltb rfl) ?_
  refine run_ops_nil ?_
  refine run_ifb rfl rfl (fun hb22 => ?_) (fun hb22 => ?_)
  ·replace hM := ite_t hb22 hM
   refine run_sr ?_
   refine mvR rfl rfl rfl rfl (ltb rfl) ?_
   refine mvR rfl rfl rfl rfl (ltb rfl) ?_
   refine run_ops_nil ?_
   refine run_ret_to ?_
   replace hM := some_t hM
   subst hM
   refine fin_x hG rfl rfl rfl (v' := .tup [.imm 0 1 true (([] : List Int).map fun n => [AV.int .i64 n]), .bool false]) (by rfl) ⟨rfl, (show tk ≤ tk11 by omega), _, rfl, ⟨_, _, _, _, rfl, rfl, ⟨0, true, rfl⟩, rfl⟩⟩
  ·replace hM := ite_f hb22 hM
   refine run_skip ?_
   refine run_sr ?_
   refine run_op rfl (buildSlice_step (d := 39) hG rfl rfl rfl rfl rfl (by rfl) (by rfl) (by rfl) (by decide)) rfl (ltb rfl) ?_
   refine mvR rfl rfl rfl rfl (ltb rfl) ?_
   refine run_ops_nil ?_
   refine run_seq ?_
   refine run_sr ?_
   refine mvL rfl rfl rfl rfl (ltb rfl) ?_
   refine run_pu rfl (nilCheck_step rfl rfl ⟨_, rfl⟩) rfl (ltb rfl) ?_
   refine run_pu rfl (fieldAddr_step hG rfl rfl rfl rfl rfl) rfl (ltb rfl) ?_
   refine run_ld hG rfl rfl rfl rfl rfl (ltb rfl) ?_
   refine run_pu rfl (lenImm_step hG rfl rfl rfl rfl (tlen _)) rfl (ltb rfl) ?_
   refine mvL rfl rfl rfl rfl (ltb rfl) ?_
   refine run_ops_nil ?_
   refine run_block ?_
   refine run_sub_code (σ' := ⟨[(4, .imm 0 0 true []), (5, .bool false), (6, .imm q14 4 f14 (cellss ks14)), (8, .osl (.loc 39)), (43, .imm q2 4 f2 (cellss ks2)), (44, .int .i64 (((ers ks2)).length : Int)), (45, .int .i64 0)], [(39, ⟨3, 1, false, ([] : List Int).map fun n => [AV.int .i64 n]⟩)], [], O, tk11⟩) (Sub.env _ ⟨rfl, rfl, rfl, rfl, rfl, rfl, rfl, trivial⟩) ?_
   refine run_rounds (fun m σ => ∃ (i23 : Int) (l24 : List Int) (tki_pattern__c_L1 : Nat), tk11 ≤ tki_pattern__c_L1 ∧ i_pattern__c_L1 n (T.mk k2 n2 s2 (ers ks2)) ((ers ks14), (T.mk k16 n16 s16 (ers ks16))) m i23 l24 = some r ∧ σ = ⟨[(4, .imm 0 0 true []), (5, .bool false), (6, .imm q14 4 f14 (cellss ks14)), (8, .osl (.loc 39)), (43, .imm q2 4 f2 (cellss ks2)), (44, .int .i64 (((ers ks2)).length : Int)), (45, .int .i64 i23)], [(39, ⟨3, 1, false, (l24 : List Int).map fun n => [AV.int .i64 n]⟩)], [], O, tki_pattern__c_L1⟩) n (Sub.env [(4, .imm 0 0 true []), (5, .bool false), (6, .imm q14 4 f14 (cellss ks14)), (8, .osl (.loc 39)), (43, .imm q2 4 f2 (cellss ks2)), (44, .int .i64 (((ers ks2)).length : Int)), (45, .int .i64 0)] ⟨rfl, rfl, rfl, rfl, rfl, rfl, rfl, trivial⟩) ⟨0, [], tk11, Nat.le_refl _, hM, rfl⟩ (fun m σ hI => ?_)
   clear hM
   obtain ⟨i23, l24, tki_pattern__c_L1, hle59, hM, rfl⟩ := hI
   obtain _ | m := m
   ·exact absurd hM (by rw [i_pattern__c_L1]; exact fun h => by cases h)
   rw [i_pattern__c_L1] at hM
   refine run_sr ?_
   refine run_bin rfl rfl rfl rfl rfl rfl rfl (ltb rfl) ?_
   refine run_ops_nil ?_
   refine run_seq ?_
   refine run_ifd rfl rfl (fun hb25 => ?_) (fun hb25 => ?_)
   ·replace hM := ite_t hb25 hM
    refine run_skip ?_
    refine run_seq ?_
    refine run_block ?_
    refine run_sr ?_
    refine mvL rfl rfl rfl rfl (ltb rfl) ?_
    obtain ⟨y26, hy27, hM⟩ := bind_t hM
    obtain ⟨k28, n28, s28, q28, f28, ks28, rfl, hc29, hi30⟩ := tidx (ks := ks2) hy27
    refine run_pu rfl (indexImm_step hG rfl rfl rfl hi30 rfl rfl rfl rfl hc29) rfl (ltb rfl) ?_
    refine run_ld hG rfl rfl rfl rfl rfl (ltb rfl) ?_
    refine run_op rfl (alloc_step (d := 10) hG rfl rfl rfl) rfl (ltb rfl) ?_
    refine mvR rfl rfl rfl rfl (ltb rfl) ?_
    refine run_op0 rfl (store_step hG rfl rfl rfl rfl rfl rfl rfl rfl) rfl ?_
    refine run_ops_nil ?_
    refine run_seq ?_
    refine run_draw [] (n := 11) mixed rfl (fun _ h => absurd h List.not_mem_nil) ?_
    refine AAny.take (i := 0) rfl (by kernel_rfl) (by kernel_rfl) (by kernel_rfl) rfl rfl (ltb rfl) (aload_rd hG rfl rfl rfl (by first | (simp [ldok]; done) | exact List.not_mem_nil | trivial)) ?_
    refine AAny.take (i := 1) rfl (by kernel_rfl) (by kernel_rfl) (by kernel_rfl) rfl rfl (ltb rfl) ((move_step (.inl rfl) rfl).rd _) ?_
    refine AAny.take (i := 2) rfl (by kernel_rfl) (by kernel_rfl) (by kernel_rfl) rfl rfl (ltb rfl) ((move_step (.inl rfl) rfl).rd _) ?_
    obtain ⟨y31, hy32, hM⟩ := bind_t hM
    obtain ⟨k33, n33, s33, q33, f33, ks33, rfl, hc34, hi35⟩ := tidx (ks := ks14) hy32
    refine AAny.take (i := 3) rfl (by kernel_rfl) (by kernel_rfl) (by kernel_rfl) rfl rfl (ltb rfl) ((indexImm_step hG rfl rfl rfl hi35 rfl rfl rfl rfl hc34).rd _) ?_
    refine AAny.take (i := 4) rfl (by kernel_rfl) (by kernel_rfl) (by kernel_rfl) rfl rfl (ltb rfl) (aload_rd hG rfl rfl rfl (by first | (simp [ldok]; done) | exact List.not_mem_nil | trivial)) ?_
    obtain ⟨r36, hg37, hM⟩ := bind_t hM
    refine AAny.one (i := 5) (by kernel_rfl) (AOp.call rfl rfl rfl rfl (ltb rfl) rfl rfl rfl (fun _ h => absurd h List.not_mem_nil) (fun _ h => absurd h List.not_mem_nil) (i_longVariable_ok n k28 n28 s28 q28 f28 ks28 k33 n33 s33 q33 f33 ks33 hg37 _ _) (callK_retX (fun v tk38 (hle39 : tki_pattern__c_L1 ≤ tk38) h40 => ?_)))
    obtain ⟨ra45, ra46, va47, va48, rfl, rfl, rfl, rfl⟩ := h40
    refine AAny.take (i := 6) rfl (by kernel_rfl) (by kernel_rfl) (by kernel_rfl) rfl rfl (ltb rfl) ((move_step (.inl rfl) rfl).rd _) ?_
    refine AAny.take (i := 7) rfl (by kernel_rfl) (by kernel_rfl) (by kernel_rfl) rfl rfl (ltb rfl) ((extract_step rfl rfl rfl).rd _) ?_
    refine AAny.take (i := 8) rfl (by kernel_rfl) (by kernel_rfl) (by kernel_rfl) rfl rfl (ltb rfl) ((extract_step rfl rfl rfl).rd _) ?_
    refine AAny.take (i := 9) rfl (by kernel_rfl) (by kernel_rfl) (by kernel_rfl) rfl rfl (ltb rfl) ((move_step (.inr rfl) rfl).rd _) ?_
    refine AAny.take (i := 10) rfl (by kernel_rfl) (by kernel_rfl) (by kernel_rfl) rfl rfl (ltb rfl) ((move_step (.inr rfl) rfl).rd _) ?_
    refine AAny.done (by kernel_rfl) ?_
    refine run_sub_code (σ' := ⟨[(4, .imm 0 0 true []), (5, .bool false), (6, .imm q14 4 f14 (cellss ks14)), (8, .osl (.loc 39)), (43, .imm q2 4 f2 (cellss ks2)), (44, .int .i64 (((ers ks2)).length : Int)), (45, .int .i64 i23), (11, .int .i64 ra45), (12, .bool ra46)], [(39, ⟨3, 1, false, (l24 : List Int).map fun n => [AV.int .i64 n]⟩)], [], O, tk38⟩) (Sub.trans (Sub.drop (k := 10) rfl) (Sub.env _ ⟨rfl, rfl, rfl, rfl, rfl, rfl, rfl, rfl, rfl, trivial⟩)) ?_
    refine run_seq ?_
    refine run_sr ?_
    refine mvL rfl rfl rfl rfl (ltb rfl) ?_
    refine run_pu rfl (aun_step rfl rfl rfl) rfl (ltb rfl) ?_
    refine mvL rfl rfl rfl rfl (ltb rfl) ?_
    refine run_splitb (i := 61) rfl (fun hb49 => ?_) (fun hb49 => ?_)
    ·replace hM := ite_t hb49 hM
     refine run_off (on_of rfl rfl rfl rfl) rfl (ltb rfl) ?_
     refine run_off (on_of rfl rfl rfl rfl) rfl (ltb rfl) ?_
     refine run_off (on_of rfl rfl rfl rfl) rfl (ltb rfl) ?_
     refine run_pu rfl (pick_step rfl rfl rfl) rfl (ltb rfl) ?_
     refine run_ops_nil ?_
     refine run_if rfl rfl (fun _ => ?_) (fun h => by cases h)
     refine run_sr ?_
     refine mvR rfl rfl rfl rfl (ltb rfl) ?_
     refine mvR rfl rfl rfl rfl (ltb rfl) ?_
     refine run_ops_nil ?_
     refine run_ret_to ?_
     replace hM := some_t hM
     subst hM
     refine fin_x hG rfl rfl rfl (v' := .tup [.imm 0 1 true (([] : List Int).map fun n => [AV.int .i64 n]), .bool false]) (by rfl) ⟨rfl, (show tk ≤ tk38 by omega), _, rfl, ⟨_, _, _, _, rfl, rfl, ⟨0, true, rfl⟩, rfl⟩⟩
    ·replace hM := ite_f hb49 hM
     refine run_puG (on_of rfl rfl rfl rfl) (move_step (.inl rfl) rfl) rfl (ltb rfl) ?_
     refine run_puG (on_of rfl rfl rfl rfl) (move_step (.inl rfl) rfl) rfl (ltb rfl) ?_
     obtain ⟨r50, hg51, hM⟩ := bind_t hM
     refine run_callKeep (b := r50) (Sub.freeze (k := 39) rfl rfl) (.inl (on_of rfl rfl rfl rfl)) rfl rfl (ltb rfl) rfl rfl rfl rfl (g_Contains_X_ok n tk38 false l24 ra45 hg51 _ _) (fun _ _ _ h => by obtain ⟨_, _, _, rfl, h⟩ := h; rw [h]) ?_
     refine run_pu rfl (pick_step rfl rfl rfl) rfl (ltb rfl) ?_
     refine run_ops_nil ?_
     refine run_ifb rfl rfl (fun hb57 => ?_) (fun hb57 => ?_)
     ·replace hM := ite_t hb57 hM
      refine run_sr ?_
      refine mvR rfl rfl rfl rfl (ltb rfl) ?_
      refine mvR rfl rfl rfl rfl (ltb rfl) ?_
      refine run_ops_nil ?_
      refine run_ret_to ?_
      replace hM := some_t hM
      subst hM
      refine fin_x hG rfl rfl rfl (v' := .tup [.imm 0 1 true (([] : List Int).map fun n => [AV.int .i64 n]), .bool false]) (by rfl) ⟨rfl, (show tk ≤ tk38 by omega), _, rfl, ⟨_, _, _, _, rfl, rfl, ⟨0, true, rfl⟩, rfl⟩⟩
     ·replace hM := ite_f hb57 hM
      refine run_skip ?_
      refine run_region ?_
      refine mvL rfl rfl rfl rfl (ltb rfl) ?_
      refine mvL rfl rfl rfl rfl (ltb rfl) ?_
      refine run_op rfl (buildSlice_step (d := 68) hG rfl rfl rfl rfl rfl (by rfl) (by rfl) (by rfl) (by decide)) rfl (ltb rfl) ?_
      obtain ⟨hc58, hM⟩ := chk_t hM
      refine run_op rfl (appendM_step hG rfl rfl rfl rfl rfl rfl rfl rfl rfl rfl rfl (icells_sz _) (ilen _) (ilen _) hc58 (by decide) (icells_app _ _)) rfl (ltb rfl) ?_
      refine mvR rfl rfl rfl rfl (ltb rfl) ?_
      refine run_ops_nil ?_
      refine run_blk ?_
      refine run_region ?_
      refine run_bin rfl rfl rfl rfl rfl rfl rfl (ltb rfl) ?_
      refine mvL rfl rfl rfl rfl (ltb rfl) ?_
      refine run_ops_nil ?_
      exact run_loop_end ⟨m, _, Nat.lt_succ_self _, ⟨(IntKind.i64.wrap (i23 + 1)), (l24 ++ [ra45]), tk38, (show tk11 ≤ tk38 by omega), hM, rfl⟩, Sub.trans (Sub.drop (k := 68) rfl) (Sub.env [(4, .imm 0 0 true []), (5, .bool false), (6, .imm q14 4 f14 (cellss ks14)), (8, .osl (.loc 39)), (43, .imm q2 4 f2 (cellss ks2)), (44, .int .i64 (((ers ks2)).length : Int)), (45, .int .i64 (IntKind.i64.wrap (i23 + 1)))] ⟨rfl, rfl, rfl, rfl, rfl, rfl, rfl, trivial⟩)⟩
   ·replace hM := ite_f hb25 hM
    refine run_exit_to rfl ?_
    refine run_sr ?_
    refine mvL rfl rfl rfl rfl (ltb rfl) ?_
    refine mvR rfl rfl rfl rfl (ltb rfl) ?_
    refine mvR rfl rfl rfl rfl (ltb rfl) ?_
    refine run_ops_nil ?_
    refine run_ret_to ?_
    refine fin_sub (Sub.freeze (k := 39) rfl rfl) ?_
    replace hM := some_t hM
    subst hM
    refine fin_x hG rfl rfl rfl (v' := .tup [.imm tki_pattern__c_L1 1 false ((l24 : List Int).map fun n => [AV.int .i64 n]), .bool true]) (by rfl) ⟨rfl, (show tk ≤ (tki_pattern__c_L1 + 1) by omega), _, rfl, ⟨_, _, _, _, rfl, rfl, ⟨tki_pattern__c_L1, false, rfl⟩, rfl⟩⟩

def i_patterns_c1__c (n : Nat) (x1 : T) (i2 : Int) (l3 : List T) : Option Bool :=
 if (x1.kind != 7) = true then
  some false
 else
  (i_pattern__c n l3 x1).bind fun r5 =>
  some (!r5.2)

set_option maxRecDepth 100000 in
theorem i_patterns_c1__c_ok (n : Nat) : ∀ (k1 : Int) (n1 : Int) (s1 : ByteArray) (q1 : Nat) (f1 : Bool) (ks1 : List LT) (i2 : Int) (X0 : ID) (q3 : Nat) (f3 : Bool) (ks3 : List LT) {r : Bool}, i_patterns_c1__c n (T.mk k1 n1 s1 (ers ks1)) i2 (ers ks3) = some r → ∀ (O : Heap) (tk : Nat), O X0 = some ⟨23, 1, true, [[.imm q3 4 f3 (cellss ks3)]]⟩ → ACalls Go.Proofs.Tryd.prog 113 [.cptr [.int .i64 k1, .int .i64 n1, .str s1, .imm q1 4 f1 (cellss ks1)], .int .i64 i2, .optr X0 0 0] O tk (RetX O tk (fun v tk' => v = .bool r)) := by
 intro k1 n1 s1 q1 f1 ks1 i2 X0 q3 f3 ks3 r hM O tk hX0
 unfold i_patterns_c1__c at hM
 refine acalls_of_run Go.Proofs.Tryd.func113 rfl rfl [X0] [⟨23, 1, true, [[.imm q3 4 f3 (cellss ks3)]]⟩] (Bor.one hX0 rfl) [(0, .cptr [.int .i64 k1, .int .i64 n1, .str s1, .imm q1 4 f1 (cellss ks1)]), (1, .int .i64 i2), (2, .optr (.bor 0) 0 0)] (.cons (.cptr _) (.cons (entS rfl) (.cons (.bor 0 _ _ _ rfl) (.nil _)))) (leb rfl) (by intro y h; simp only [List.mem_cons, List.not_mem_nil, or_false] at h; rcases h with rfl <;> simp [tch, tch0]) (fun S0 hO htk hfz => ?_)
 refine run_sr ?_
 refine mvR rfl rfl rfl rfl (ltb rfl) ?_
 refine run_ops_nil ?_
 refine run_seq ?_
 refine run_sr ?_
 refine mvL rfl rfl rfl rfl (ltb rfl) ?_
 refine run_pu rfl (nilCheck_step rfl rfl ⟨_, rfl⟩) rfl (ltb rfl) ?_
 refine run_pu rfl (fieldAddr_step hG rfl rfl rfl rfl rfl) rfl (ltb rfl) ?_
 refine run_ld hG rfl rfl rfl rfl rfl (ltb rfl) ?_
 refine run_bin rfl rfl rfl rfl rfl rfl rfl (ltb rfl) ?_
 refine run_ops_nil ?_
 refine run_ifb rfl rfl (fun hb4 => ?_) (fun hb4 => ?_)
 ·replace hM := ite_t hb4 hM
  refine run_sr ?_
  refine mvR rfl rfl rfl rfl (ltb rfl) ?_
  refine run_ops_nil ?_
  refine run_ret_to ?_
  replace hM := some_t hM
  subst hM
  refine fin_x hG rfl rfl rfl (v' := .bool false) (by rfl) ⟨out_same (Bor.one hX0 rfl), (show tk ≤ tk by omega), _, rfl, rfl⟩
 ·replace hM := ite_f hb4 hM
  refine run_skip ?_
  refine run_sr ?_
  refine run_ld hG rfl rfl rfl rfl rfl (ltb rfl) ?_
  refine mvL rfl rfl rfl rfl (ltb rfl) ?_
  obtain ⟨r5, hg6, hM⟩ := bind_t hM
  refine run_call rfl rfl rfl (ltb rfl) rfl rfl rfl (fun _ h => absurd h List.not_mem_nil) (i_pattern__c_ok n q3 f3 ks3 k1 n1 s1 q1 f1 ks1 hg6 _ _) (callK_retX (fun v tk7 (hle8 : tk ≤ tk7) h9 => ?_))
  obtain ⟨ra14, ra15, va16, va17, rfl, rfl, ⟨q10, f10, rfl⟩, rfl⟩ := h9
  refine mvL rfl rfl rfl rfl (ltb rfl) ?_
  refine run_pu rfl (extract_step rfl rfl rfl) rfl (ltb rfl) ?_
  refine run_pu rfl (extract_step rfl rfl rfl) rfl (ltb rfl) ?_
  refine mvR rfl rfl rfl rfl (ltb rfl) ?_
  refine mvR rfl rfl rfl rfl (ltb rfl) ?_
  refine run_ops_nil ?_
  refine run_sub_code (σ' := ⟨[(5, .bool false), (7, .bool ra15)], [], [⟨23, 1, true, [[.imm q3 4 f3 (cellss ks3)]]⟩], O, tk7⟩) (Sub.env _ ⟨rfl, rfl, trivial⟩) ?_
  refine run_sr ?_
  refine mvL rfl rfl rfl rfl (ltb rfl) ?_
  refine run_pu rfl (aun_step rfl rfl rfl) rfl (ltb rfl) ?_
  refine mvR rfl rfl rfl rfl (ltb rfl) ?_
  refine run_ops_nil ?_
  refine run_ret_to ?_
  replace hM := some_t hM
  subst hM
  refine fin_x hG rfl rfl rfl (v' := .bool (!ra15)) (by rfl) ⟨out_same (Bor.one hX0 rfl), (show tk ≤ tk7 by omega), _, rfl, rfl⟩

def i_Tree_each__c_fn_i_patterns_c1v_L1 (rec_i_Tree_each__c_fn_i_patterns_c1v : T → Int → List T → Option Bool) (x1 : T) (i2 : Int) (l3 : List T) : Nat → Int → Option Bool
 | 0, _ => none
 | m + 1, i12 =>
  if i12 < ((x1.kids).length : Int) then
   (idx x1.kids i12).bind fun y14 =>
   (i_Tree_under__c x1 i12).bind fun r19 =>
   (rec_i_Tree_each__c_fn_i_patterns_c1v y14 (IntKind.i64.wrap (i2 + r19)) l3).bind fun r26 =>
   if r26 = true then
    some true
   else
    i_Tree_each__c_fn_i_patterns_c1v_L1 rec_i_Tree_each__c_fn_i_patterns_c1v x1 i2 l3 m (IntKind.i64.wrap (i12 + 1))
  else
   some false

def i_Tree_each__c_fn_i_patterns_c1v : Nat → T → Int → List T → Option Bool
 | 0, _, _, _ => none
 | n + 1, x1, i2, l3 =>
  (i_patterns_c1__c n x1 i2 l3).bind fun r4 =>
  if r4 = true then
   some true
  else
   i_Tree_each__c_fn_i_patterns_c1v_L1 (i_Tree_each__c_fn_i_patterns_c1v n) x1 i2 l3 n 0

set_option maxHeartbeats 20000000 in
set_option maxRecDepth 100000 in
theorem i_Tree_each__c_fn_i_patterns_c1v_st (n : Nat) (ih_i_Tree_each__c_fn_i_patterns_c1v : ∀ (k1 : Int) (n1 : Int) (s1 : ByteArray) (q1 : Nat) (f1 : Bool) (ks1 : List LT) (i2 : Int) (X0 : ID) (q3 : Nat) (f3 : Bool) (ks3 : List LT) {r : Bool}, i_Tree_each__c_fn_i_patterns_c1v n (T.mk k1 n1 s1 (ers ks1)) i2 (ers ks3) = some r → ∀ (O : Heap) (tk : Nat), O X0 = some ⟨23, 1, true, [[.imm q3 4 f3 (cellss ks3)]]⟩ → ACalls Go.Proofs.Tryd.prog 92 [.cptr [.int .i64 k1, .int .i64 n1, .str s1, .imm q1 4 f1 (cellss ks1)], .int .i64 i2, .fn (.func 113) [] [.optr X0 0 0]] O tk (RetX O tk (fun v tk' => v = .bool r))) : ∀ (k1 : Int) (n1 : Int) (s1 : ByteArray) (q1 : Nat) (f1 : Bool) (ks1 : List LT) (i2 : Int) (X0 : ID) (q3 : Nat) (f3 : Bool) (ks3 : List LT) {r : Bool}, i_Tree_each__c_fn_i_patterns_c1v (n + 1) (T.mk k1 n1 s1 (ers ks1)) i2 (ers ks3) = some r → ∀ (O : Heap) (tk : Nat), O X0 = some ⟨23, 1, true, [[.imm q3 4 f3 (cellss ks3)]]⟩ → ACalls Go.Proofs.Tryd.prog 92 [.cptr [.int .i64 k1, .int .i64 n1, .str s1, .imm q1 4 f1 (cellss ks1)], .int .i64 i2, .fn (.func 113) [] [.optr X0 0 0]] O tk (RetX O tk (fun v tk' => v = .bool r)) := by
 intro k1 n1 s1 q1 f1 ks1 i2 X0 q3 f3 ks3 r hM O tk hX0
 rw [i_Tree_each__c_fn_i_patterns_c1v] at hM
 refine acalls_of_run Go.Proofs.Tryd.func92 rfl rfl [X0] [⟨23, 1, true, [[.imm q3 4 f3 (cellss ks3)]]⟩] (Bor.one hX0 rfl) [(0, .cptr [.int .i64 k1, .int .i64 n1, .str s1, .imm q1 4 f1 (cellss ks1)]), (1, .int .i64 i2), (2, .fn (.func 113) [] [.optr (.bor 0) 0 0])] (.cons (.cptr _) (.cons (entS rfl) (.cons (ent_fn (.bor 0 _ _ _ rfl)) (.nil _)))) (leb rfl) (by intro y h; simp only [List.mem_cons, List.not_mem_nil, or_false] at h; rcases h with rfl <;> simp [tch, tch0]) (fun S0 hO htk hfz => ?_)
 refine run_sr ?_
 refine mvR rfl rfl rfl rfl (ltb rfl) ?_
 refine run_ops_nil ?_
 refine run_seq ?_
 refine run_sr ?_
 refine mvL rfl rfl rfl rfl (ltb rfl) ?_
 refine mvL rfl rfl rfl rfl (ltb rfl) ?_
 refine mvL rfl rfl rfl rfl (ltb rfl) ?_
 obtain ⟨r4, hg5, hM⟩ := bind_t hM
 refine run_call rfl rfl rfl (ltb rfl) rfl rfl rfl (fun _ h => absurd h List.not_mem_nil) (i_patterns_c1__c_ok n k1 n1 s1 q1 f1 ks1 i2 (.bor 0) q3 f3 ks3 hg5 _ _ rfl) (callK_retX (fun v tk6 (hle7 : tk ≤ tk6) h8 => ?_))
 subst h8
 refine run_ops_nil ?_
 refine run_ifb rfl rfl (fun hb11 => ?_) (fun hb11 => ?_)
 ·replace hM := ite_t hb11 hM
  refine run_sr ?_
  refine mvR rfl rfl rfl rfl (ltb rfl) ?_
  refine run_ops_nil ?_
  refine run_ret_to ?_
  replace hM := some_t hM
  subst hM
  refine fin_x hG rfl rfl rfl (v' := .bool true) (by rfl) ⟨out_same (Bor.one hX0 rfl), (show tk ≤ tk6 by omega), _, rfl, rfl⟩
 ·replace hM := ite_f hb11 hM
  refine run_skip ?_
  refine run_seq ?_
  refine run_sr ?_
  refine mvL rfl rfl rfl rfl (ltb rfl) ?_
  refine run_pu rfl (nilCheck_step rfl rfl ⟨_, rfl⟩) rfl (ltb rfl) ?_
  refine run_pu rfl (fieldAddr_step hG rfl rfl rfl rfl rfl) rfl (ltb rfl) ?_
  refine run_ld hG rfl rfl rfl rfl rfl (ltb rfl) ?_
  refine run_pu rfl (lenImm_step hG rfl rfl rfl rfl (tlen _)) rfl (ltb rfl) ?_
  refine mvL rfl rfl rfl rfl (ltb rfl) ?_
  refine run_ops_nil ?_
  refine run_block ?_
  refine run_rounds (fun m σ => ∃ (i12 : Int) (tki_Tree_each__c_fn_i_patterns_c1v_L1 : Nat), tk6 ≤ tki_Tree_each__c_fn_i_patterns_c1v_L1 ∧ i_Tree_each__c_fn_i_patterns_c1v_L1 (i_Tree_each__c_fn_i_patterns_c1v n) (T.mk k1 n1 s1 (ers ks1)) i2 (ers ks3) m i12 = some r ∧ σ = ⟨[(0, .cptr [.int .i64 k1, .int .i64 n1, .str s1, .imm q1 4 f1 (cellss ks1)]), (1, .int .i64 i2), (2, .fn (.func 113) [] [.optr (.bor 0) 0 0]), (6, .bool false), (16, .int .i64 (((ers ks1)).length : Int)), (17, .int .i64 i12)], [], [⟨23, 1, true, [[.imm q3 4 f3 (cellss ks3)]]⟩], O, tki_Tree_each__c_fn_i_patterns_c1v_L1⟩) n (Sub.env [(0, .cptr [.int .i64 k1, .int .i64 n1, .str s1, .imm q1 4 f1 (cellss ks1)]), (1, .int .i64 i2), (2, .fn (.func 113) [] [.optr (.bor 0) 0 0]), (6, .bool false), (16, .int .i64 (((ers ks1)).length : Int)), (17, .int .i64 0)] ⟨rfl, rfl, rfl, rfl, rfl, rfl, trivial⟩) ⟨0, tk6, Nat.le_refl _, hM, rfl⟩ (fun m σ hI => ?_)
  clear hM
  obtain ⟨i12, tki_Tree_each__c_fn_i_patterns_c1v_L1, hle34, hM, rfl⟩ := hI
  obtain _ | m := m
  ·exact absurd hM (by rw [i_Tree_each__c_fn_i_patterns_c1v_L1]; exact fun h => by cases h)
  rw [i_Tree_each__c_fn_i_patterns_c1v_L1] at hM
  refine run_sr ?_
  refine run_bin rfl rfl rfl rfl rfl rfl rfl (ltb rfl) ?_
  refine run_ops_nil ?_
  refine run_seq ?_
  refine run_ifd rfl rfl (fun hb13 => ?_) (fun hb13 => ?_)
  ·replace hM := ite_t hb13 hM
   refine run_skip ?_
   refine run_seq ?_
   refine run_block ?_
   refine run_sr ?_
   refine mvL rfl rfl rfl rfl (ltb rfl) ?_
   refine mvR rfl rfl rfl rfl (ltb rfl) ?_
   refine run_ops_nil ?_
   refine run_seq ?_
   refine run_draw [.bor 0] (n := 13) mixed rfl (by intro x hx; simp only [List.mem_cons, List.not_mem_nil, or_false] at hx; rcases hx with rfl <;> rfl) ?_
   refine AAny.take (i := 0) rfl (by kernel_rfl) (by kernel_rfl) (by kernel_rfl) rfl rfl (ltb rfl) ((move_step (.inl rfl) rfl).rd _) ?_
   refine AAny.take (i := 1) rfl (by kernel_rfl) (by kernel_rfl) (by kernel_rfl) rfl rfl (ltb rfl) ((nilCheck_step rfl rfl ⟨_, rfl⟩).rd _) ?_
   refine AAny.take (i := 2) rfl (by kernel_rfl) (by kernel_rfl) (by kernel_rfl) rfl rfl (ltb rfl) ((fieldAddr_step hG rfl rfl rfl rfl rfl).rd _) ?_
   refine AAny.take (i := 3) rfl (by kernel_rfl) (by kernel_rfl) (by kernel_rfl) rfl rfl (ltb rfl) (aload_rd hG rfl rfl rfl (by first | (simp [ldok]; done) | exact List.not_mem_nil | trivial)) ?_
   refine AAny.take (i := 4) rfl (by kernel_rfl) (by kernel_rfl) (by kernel_rfl) rfl rfl (ltb rfl) ((move_step (.inl rfl) rfl).rd _) ?_
   obtain ⟨y14, hy15, hM⟩ := bind_t hM
   obtain ⟨k16, n16, s16, q16, f16, ks16, rfl, hc17, hi18⟩ := tidx (ks := ks1) hy15
   refine AAny.take (i := 5) rfl (by kernel_rfl) (by kernel_rfl) (by kernel_rfl) rfl rfl (ltb rfl) ((indexImm_step hG rfl rfl rfl hi18 rfl rfl rfl rfl hc17).rd _) ?_
   refine AAny.take (i := 6) rfl (by kernel_rfl) (by kernel_rfl) (by kernel_rfl) rfl rfl (ltb rfl) ((move_step (.inl rfl) rfl).rd _) ?_
   refine AAny.take (i := 7) rfl (by kernel_rfl) (by kernel_rfl) (by kernel_rfl) rfl rfl (ltb rfl) ((move_step (.inl rfl) rfl).rd _) ?_
   refine AAny.take (i := 8) rfl (by kernel_rfl) (by kernel_rfl) (by kernel_rfl) rfl rfl (ltb rfl) ((move_step (.inl rfl) rfl).rd _) ?_
   refine AAny.take (i := 11) rfl (by kernel_rfl) (by kernel_rfl) (by kernel_rfl) rfl rfl (ltb rfl) ((move_step (.inl rfl) rfl).rd _) ?_
   obtain ⟨r19, hg20, hM⟩ := bind_t hM
   refine AAny.one (i := 9) (by kernel_rfl) (AOp.call rfl rfl rfl rfl (ltb rfl) rfl rfl rfl (fun _ h => absurd h List.not_mem_nil) (fun _ h => absurd h List.not_mem_nil) (i_Tree_under__c_ok k1 n1 s1 q1 f1 ks1 i12 hg20 _ _) (callK_retX (fun v tk21 (hle22 : tki_Tree_each__c_fn_i_patterns_c1v_L1 ≤ tk21) h23 => ?_)))
   subst h23
   refine AAny.take (i := 10) rfl (by kernel_rfl) (by kernel_rfl) (by kernel_rfl) rfl rfl (ltb rfl) ((abin_step rfl rfl rfl rfl (fun _ h => by cases h)).rd _) ?_
   obtain ⟨r26, hg27, hM⟩ := bind_t hM
   refine AAny.one (i := 12) (by kernel_rfl) (AOp.call rfl rfl rfl rfl (ltb rfl) rfl rfl rfl (fun _ h => absurd h List.not_mem_nil) (by intro x hx; have hx : x ∈ [ID.bor 0] := hx; simp only [List.mem_cons, List.not_mem_nil, or_false] at hx; subst hx; simp) (ih_i_Tree_each__c_fn_i_patterns_c1v k16 n16 s16 q16 f16 ks16 (IntKind.i64.wrap (i2 + r19)) (.bor 0) q3 f3 ks3 hg27 _ _ rfl) (callK_retX (fun v tk28 (hle29 : tk21 ≤ tk28) h30 => ?_)))
   subst h30
   refine AAny.done (by kernel_rfl) ?_
   refine run_sub_code (σ' := ⟨[(0, .cptr [.int .i64 k1, .int .i64 n1, .str s1, .imm q1 4 f1 (cellss ks1)]), (1, .int .i64 i2), (2, .fn (.func 113) [] [.optr (.bor 0) 0 0]), (6, .bool false), (16, .int .i64 (((ers ks1)).length : Int)), (17, .int .i64 i12), (32, .bool r26)], [], [⟨23, 1, true, [[.imm q3 4 f3 (cellss ks3)]]⟩], O, tk28⟩) (Sub.env _ ⟨rfl, rfl, rfl, rfl, rfl, rfl, rfl, trivial⟩) ?_
   refine run_ifb rfl rfl (fun hb33 => ?_) (fun hb33 => ?_)
   ·replace hM := ite_t hb33 hM
    refine run_sr ?_
    refine mvR rfl rfl rfl rfl (ltb rfl) ?_
    refine run_ops_nil ?_
    refine run_ret_to ?_
    replace hM := some_t hM
    subst hM
    refine fin_x hG rfl rfl rfl (v' := .bool true) (by rfl) ⟨out_same (Bor.one hX0 rfl), (show tk ≤ tk28 by omega), _, rfl, rfl⟩
   ·replace hM := ite_f hb33 hM
    refine run_skip ?_
    refine run_blk ?_
    refine run_region ?_
    refine run_bin rfl rfl rfl rfl rfl rfl rfl (ltb rfl) ?_
    refine mvL rfl rfl rfl rfl (ltb rfl) ?_
    refine run_ops_nil ?_
    exact run_loop_end ⟨m, _, Nat.lt_succ_self _, ⟨(IntKind.i64.wrap (i12 + 1)), tk28, (show tk6 ≤ tk28 by omega), hM, rfl⟩, Sub.env [(0, .cptr [.int .i64 k1, .int .i64 n1, .str s1, .imm q1 4 f1 (cellss ks1)]), (1, .int .i64 i2), (2, .fn (.func 113) [] [.optr (.bor 0) 0 0]), (6, .bool false), (16, .int .i64 (((ers ks1)).length : Int)), (17, .int .i64 (IntKind.i64.wrap (i12 + 1)))] ⟨rfl, rfl, rfl, rfl, rfl, rfl, trivial⟩⟩
  ·replace hM := ite_f hb13 hM
   refine run_exit_to rfl ?_
   refine run_sr ?_
   refine mvR rfl rfl rfl rfl (ltb rfl) ?_
   refine run_ops_nil ?_
   refine run_ret_to ?_
   replace hM := some_t hM
   subst hM
   refine fin_x hG rfl rfl rfl (v' := .bool false) (by rfl) ⟨out_same (Bor.one hX0 rfl), (show tk ≤ tki_Tree_each__c_fn_i_patterns_c1v_L1 by omega), _, rfl, rfl⟩

theorem i_Tree_each__c_fn_i_patterns_c1v_all : ∀ (n : Nat), (∀ (k1 : Int) (n1 : Int) (s1 : ByteArray) (q1 : Nat) (f1 : Bool) (ks1 : List LT) (i2 : Int) (X0 : ID) (q3 : Nat) (f3 : Bool) (ks3 : List LT) {r : Bool}, i_Tree_each__c_fn_i_patterns_c1v n (T.mk k1 n1 s1 (ers ks1)) i2 (ers ks3) = some r → ∀ (O : Heap) (tk : Nat), O X0 = some ⟨23, 1, true, [[.imm q3 4 f3 (cellss ks3)]]⟩ → ACalls Go.Proofs.Tryd.prog 92 [.cptr [.int .i64 k1, .int .i64 n1, .str s1, .imm q1 4 f1 (cellss ks1)], .int .i64 i2, .fn (.func 113) [] [.optr X0 0 0]] O tk (RetX O tk (fun v tk' => v = .bool r)))
 | 0 => by intro k1 n1 s1 q1 f1 ks1 i2 X0 q3 f3 ks3 r hM; rw [i_Tree_each__c_fn_i_patterns_c1v] at hM; cases hM
 | n + 1 => have ih := i_Tree_each__c_fn_i_patterns_c1v_all n; i_Tree_each__c_fn_i_patterns_c1v_st n (ih)

theorem i_Tree_each__c_fn_i_patterns_c1v_ok (n : Nat) : ∀ (k1 : Int) (n1 : Int) (s1 : ByteArray) (q1 : Nat) (f1 : Bool) (ks1 : List LT) (i2 : Int) (X0 : ID) (q3 : Nat) (f3 : Bool) (ks3 : List LT) {r : Bool}, i_Tree_each__c_fn_i_patterns_c1v n (T.mk k1 n1 s1 (ers ks1)) i2 (ers ks3) = some r → ∀ (O : Heap) (tk : Nat), O X0 = some ⟨23, 1, true, [[.imm q3 4 f3 (cellss ks3)]]⟩ → ACalls Go.Proofs.Tryd.prog 92 [.cptr [.int .i64 k1, .int .i64 n1, .str s1, .imm q1 4 f1 (cellss ks1)], .int .i64 i2, .fn (.func 113) [] [.optr X0 0 0]] O tk (RetX O tk (fun v tk' => v = .bool r)) := i_Tree_each__c_fn_i_patterns_c1v_all n

def i_patterns (n : Nat) (l1 : List T) (x2 : T) : Option Bool :=
 (i_Tree_each__c_fn_i_patterns_c1v n x2 0 l1).bind fun r3 =>
 some (!r3)

set_option maxRecDepth 100000 in
theorem i_patterns_ok (n : Nat) : ∀ (q1 : Nat) (f1 : Bool) (ks1 : List LT) (k2 : Int) (n2 : Int) (s2 : ByteArray) (q2 : Nat) (f2 : Bool) (ks2 : List LT) {r : Bool}, i_patterns n (ers ks1) (T.mk k2 n2 s2 (ers ks2)) = some r → ∀ (O : Heap) (tk : Nat), ACalls Go.Proofs.Tryd.prog 58 [.imm q1 4 f1 (cellss ks1), .agg [.int .i64 k2, .int .i64 n2, .str s2, .imm q2 4 f2 (cellss ks2)]] O tk (RetX O tk (fun v tk' => v = .bool r)) := by
 intro q1 f1 ks1 k2 n2 s2 q2 f2 ks2 r hM O tk
 unfold i_patterns at hM
 refine acalls_of_run Go.Proofs.Tryd.func58 rfl rfl [] [] (Bor.nil _) [(0, .imm q1 4 f1 (cellss ks1)), (1, .agg [.int .i64 k2, .int .i64 n2, .str s2, .imm q2 4 f2 (cellss ks2)])] (.cons (entS rfl) (.cons (.agg _) (.nil _))) (leb rfl) (fun _ h => by cases h) (fun S0 hO htk hfz => ?_)
 refine run_sr ?_
 refine run_op rfl (box_step (d := 2) rfl rfl rfl rfl rfl) rfl (ltb rfl) ?_
 refine run_op rfl (box_step (d := 3) rfl rfl rfl rfl rfl) rfl (ltb rfl) ?_
 refine mvR rfl rfl rfl rfl (ltb rfl) ?_
 refine run_ops_nil ?_
 refine run_sr ?_
 refine run_pu rfl (makeFunc_step (first := []) (cap := [.tmp 2]) rfl rfl rfl) rfl (ltb rfl) ?_
 refine run_sub_ops (Sub.frbox (k := 3) (env' := [(0, .imm q1 4 f1 (cellss ks1)), (1, .agg [.int .i64 k2, .int .i64 n2, .str s2, .imm q2 4 f2 (cellss ks2)]), (2, .optr (.loc 2) 0 0), (3, .cptr [.int .i64 k2, .int .i64 n2, .str s2, .imm q2 4 f2 (cellss ks2)]), (4, .bool false), (5, .fn (.func 113) [] [.optr (.loc 2) 0 0])]) rfl rfl (.keep 0 _ _ rfl (.keep 1 _ _ rfl (.keep 2 _ _ rfl (.ptr 3 0 _ rfl (.keep 4 _ _ rfl (.keep 5 _ _ rfl .nil))))))) ?_
 obtain ⟨r3, hg4, hM⟩ := bind_t hM
 refine run_call rfl rfl rfl (ltb rfl) rfl rfl rfl (fun _ h => absurd h List.not_mem_nil) (i_Tree_each__c_fn_i_patterns_c1v_ok n k2 n2 s2 q2 f2 ks2 0 (.loc 2) q1 f1 ks1 hg4 _ _ rfl) (callK_retX (fun v tk5 (hle6 : tk ≤ tk5) h7 => ?_))
 subst h7
 refine run_pu rfl (aun_step rfl rfl rfl) rfl (ltb rfl) ?_
 refine mvR rfl rfl rfl rfl (ltb rfl) ?_
 refine run_ops_nil ?_
 refine run_ret_to ?_
 replace hM := some_t hM
 subst hM
 refine fin_x hG rfl rfl rfl (v' := .bool (!r3)) (by rfl) ⟨rfl, (show tk ≤ tk5 by omega), _, rfl, rfl⟩

def g_IndexFunc_Tree__fn_i_badSimple_L1 (n : Nat) (l1 : List T) : Nat → Int → Option Int
 | 0, _ => none
 | m + 1, i2 =>
  if i2 < ((l1).length : Int) then
   (idx l1 i2).bind fun y4 =>
   (i_badSimple n y4).bind fun r9 =>
   if r9 = true then
    some i2
   else
    g_IndexFunc_Tree__fn_i_badSimple_L1 n l1 m (IntKind.i64.wrap (i2 + 1))
  else
   some (-1)

def g_IndexFunc_Tree__fn_i_badSimple (n : Nat) (l1 : List T) : Option Int :=
 g_IndexFunc_Tree__fn_i_badSimple_L1 n l1 n 0

set_option maxRecDepth 100000 in
theorem g_IndexFunc_Tree__fn_i_badSimple_ok (n : Nat) : ∀ (q1 : Nat) (f1 : Bool) (ks1 : List LT) {r : Int}, g_IndexFunc_Tree__fn_i_badSimple n (ers ks1) = some r → ∀ (O : Heap) (tk : Nat), ACalls Go.Proofs.Tryd.prog 141 [.imm q1 4 f1 (cellss ks1), .fn (.func 63) [] []] O tk (RetX O tk (fun v tk' => v = .int .i64 r)) := by
 intro q1 f1 ks1 r hM O tk
 unfold g_IndexFunc_Tree__fn_i_badSimple at hM
 refine acalls_of_run Go.Proofs.Tryd.func141 rfl rfl [] [] (Bor.nil _) [(0, .imm q1 4 f1 (cellss ks1)), (1, .fn (.func 63) [] [])] (.cons (entS rfl) (.cons (entS rfl) (.nil _))) (leb rfl) (fun _ h => by cases h) (fun S0 hO htk hfz => ?_)
 refine run_sr ?_
 refine mvR rfl rfl rfl rfl (ltb rfl) ?_
 refine run_ops_nil ?_
 refine run_seq ?_
 refine run_sr ?_
 refine mvL rfl rfl rfl rfl (ltb rfl) ?_
 refine run_pu rfl (lenImm_step hG rfl rfl rfl rfl (tlen _)) rfl (ltb rfl) ?_
 refine mvL rfl rfl rfl rfl (ltb rfl) ?_
 refine run_ops_nil ?_
 refine run_block ?_
 refine run_rounds (fun m σ => ∃ (i2 : Int) (tkg_IndexFunc_Tree__fn_i_badSimple_L1 : Nat), tk ≤ tkg_IndexFunc_Tree__fn_i_badSimple_L1 ∧ g_IndexFunc_Tree__fn_i_badSimple_L1 n (ers ks1) m i2 = some r ∧ σ = ⟨[(0, .imm q1 4 f1 (cellss ks1)), (1, .fn (.func 63) [] []), (4, .int .i64 0), (7, .int .i64 (((ers ks1)).length : Int)), (8, .int .i64 i2)], [], [], O, tkg_IndexFunc_Tree__fn_i_badSimple_L1⟩) n (Sub.env [(0, .imm q1 4 f1 (cellss ks1)), (1, .fn (.func 63) [] []), (4, .int .i64 0), (7, .int .i64 (((ers ks1)).length : Int)), (8, .int .i64 0)] ⟨rfl, rfl, rfl, rfl, rfl, trivial⟩) ⟨0, tk, Nat.le_refl _, hM, rfl⟩ (fun m σ hI => ?_)
 clear hM
 obtain ⟨i2, tkg_IndexFunc_Tree__fn_i_badSimple_L1, hle17, hM, rfl⟩ := hI
 obtain _ | m := m
 ·exact absurd hM (by rw [g_IndexFunc_Tree__fn_i_badSimple_L1]; exact fun h => by cases h)
 rw [g_IndexFunc_Tree__fn_i_badSimple_L1] at hM
 refine run_sr ?_
 refine run_bin rfl rfl rfl rfl rfl rfl rfl (ltb rfl) ?_
 refine run_ops_nil ?_
 refine run_seq ?_
 refine run_ifd rfl rfl (fun hb3 => ?_) (fun hb3 => ?_)
 ·replace hM := ite_t hb3 hM
  refine run_skip ?_
  refine run_seq ?_
  refine run_block ?_
  refine run_sr ?_
  refine mvL rfl rfl rfl rfl (ltb rfl) ?_
  refine mvR rfl rfl rfl rfl (ltb rfl) ?_
  refine run_ops_nil ?_
  refine run_sr ?_
  refine mvL rfl rfl rfl rfl (ltb rfl) ?_
  refine mvL rfl rfl rfl rfl (ltb rfl) ?_
  refine mvL rfl rfl rfl rfl (ltb rfl) ?_
  obtain ⟨y4, hy5, hM⟩ := bind_t hM
  obtain ⟨k6, n6, s6, q6, f6, ks6, rfl, hc7, hi8⟩ := tidx (ks := ks1) hy5
  refine run_pu rfl (indexImm_step hG rfl rfl rfl hi8 rfl rfl rfl rfl hc7) rfl (ltb rfl) ?_
  refine run_ld hG rfl rfl rfl rfl rfl (ltb rfl) ?_
  obtain ⟨r9, hg10, hM⟩ := bind_t hM
  refine run_call rfl rfl rfl (ltb rfl) rfl rfl rfl (fun _ h => absurd h List.not_mem_nil) (i_badSimple_ok n k6 n6 s6 q6 f6 ks6 hg10 _ _) (callK_retX (fun v tk11 (hle12 : tkg_IndexFunc_Tree__fn_i_badSimple_L1 ≤ tk11) h13 => ?_))
  subst h13
  refine run_ops_nil ?_
  refine run_ifb rfl rfl (fun hb16 => ?_) (fun hb16 => ?_)
  ·replace hM := ite_t hb16 hM
   refine run_sr ?_
   refine mvL rfl rfl rfl rfl (ltb rfl) ?_
   refine mvR rfl rfl rfl rfl (ltb rfl) ?_
   refine run_ops_nil ?_
   refine run_ret_to ?_
   replace hM := some_t hM
   subst hM
   refine fin_x hG rfl rfl rfl (v' := .int .i64 i2) (by rfl) ⟨rfl, (show tk ≤ tk11 by omega), _, rfl, rfl⟩
  ·replace hM := ite_f hb16 hM
   refine run_skip ?_
   refine run_blk ?_
   refine run_region ?_
   refine run_bin rfl rfl rfl rfl rfl rfl rfl (ltb rfl) ?_
   refine mvL rfl rfl rfl rfl (ltb rfl) ?_
   refine run_ops_nil ?_
   exact run_loop_end ⟨m, _, Nat.lt_succ_self _, ⟨(IntKind.i64.wrap (i2 + 1)), tk11, (show tk ≤ tk11 by omega), hM, rfl⟩, Sub.env [(0, .imm q1 4 f1 (cellss ks1)), (1, .fn (.func 63) [] []), (4, .int .i64 0), (7, .int .i64 (((ers ks1)).length : Int)), (8, .int .i64 (IntKind.i64.wrap (i2 + 1)))] ⟨rfl, rfl, rfl, rfl, rfl, trivial⟩⟩
 ·replace hM := ite_f hb3 hM
  refine run_exit_to rfl ?_
  refine run_sr ?_
  refine mvR rfl rfl rfl rfl (ltb rfl) ?_
  refine run_ops_nil ?_
  refine run_ret_to ?_
  replace hM := some_t hM
  subst hM
  refine fin_x hG rfl rfl rfl (v' := .int .i64 (-1)) (by rfl) ⟨rfl, (show tk ≤ tkg_IndexFunc_Tree__fn_i_badSimple_L1 by omega), _, rfl, rfl⟩

def g_ContainsFunc_Tree__fn_i_badSimple (n : Nat) (l1 : List T) : Option Bool :=
 (g_IndexFunc_Tree__fn_i_badSimple n l1).bind fun r2 =>
 some (decide (r2 ≥ 0))

set_option maxRecDepth 100000 in
theorem g_ContainsFunc_Tree__fn_i_badSimple_ok (n : Nat) : ∀ (q1 : Nat) (f1 : Bool) (ks1 : List LT) {r : Bool}, g_ContainsFunc_Tree__fn_i_badSimple n (ers ks1) = some r → ∀ (O : Heap) (tk : Nat), ACalls Go.Proofs.Tryd.prog 111 [.imm q1 4 f1 (cellss ks1), .fn (.func 63) [] []] O tk (RetX O tk (fun v tk' => v = .bool r)) := by
 intro q1 f1 ks1 r hM O tk
 unfold g_ContainsFunc_Tree__fn_i_badSimple at hM
 refine acalls_of_run Go.Proofs.Tryd.func111 rfl rfl [] [] (Bor.nil _) [(0, .imm q1 4 f1 (cellss ks1)), (1, .fn (.func 63) [] [])] (.cons (entS rfl) (.cons (entS rfl) (.nil _))) (leb rfl) (fun _ h => by cases h) (fun S0 hO htk hfz => ?_)
 refine run_sr ?_
 refine mvR rfl rfl rfl rfl (ltb rfl) ?_
 refine run_ops_nil ?_
 refine run_sr ?_
 refine mvL rfl rfl rfl rfl (ltb rfl) ?_
 refine mvL rfl rfl rfl rfl (ltb rfl) ?_
 obtain ⟨r2, hg3, hM⟩ := bind_t hM
 refine run_call rfl rfl rfl (ltb rfl) rfl rfl rfl (fun _ h => absurd h List.not_mem_nil) (g_IndexFunc_Tree__fn_i_badSimple_ok n q1 f1 ks1 hg3 _ _) (callK_retX (fun v tk4 (hle5 : tk ≤ tk4) h6 => ?_))
 subst h6
 refine run_bin rfl rfl rfl rfl rfl rfl rfl (ltb rfl) ?_
 refine mvR rfl rfl rfl rfl (ltb rfl) ?_
 refine run_ops_nil ?_
 refine run_ret_to ?_
 replace hM := some_t hM
 subst hM
 refine fin_x hG rfl rfl rfl (v' := .bool (decide (r2 ≥ 0))) (by rfl) ⟨rfl, (show tk ≤ tk4 by omega), _, rfl, rfl⟩

def i_simplesOK (n : Nat) (l1 : List T) (i2 : Int) : Option Bool :=
 if ((l1).length : Int) ≤ i2 then
  (g_ContainsFunc_Tree__fn_i_badSimple n l1).bind fun r4 =>
  some (!r4)
 else
  some false

set_option maxRecDepth 100000 in
theorem i_simplesOK_ok (n : Nat) : ∀ (q1 : Nat) (f1 : Bool) (ks1 : List LT) (i2 : Int) {r : Bool}, i_simplesOK n (ers ks1) i2 = some r → ∀ (O : Heap) (tk : Nat), ACalls Go.Proofs.Tryd.prog 56 [.imm q1 4 f1 (cellss ks1), .int .i64 i2] O tk (RetX O tk (fun v tk' => v = .bool r)) := by
 intro q1 f1 ks1 i2 r hM O tk
 unfold i_simplesOK at hM
 refine acalls_of_run Go.Proofs.Tryd.func56 rfl rfl [] [] (Bor.nil _) [(0, .imm q1 4 f1 (cellss ks1)), (1, .int .i64 i2)] (.cons (entS rfl) (.cons (entS rfl) (.nil _))) (leb rfl) (fun _ h => by cases h) (fun S0 hO htk hfz => ?_)
 refine run_sr ?_
 refine mvR rfl rfl rfl rfl (ltb rfl) ?_
 refine run_ops_nil ?_
 refine run_sr ?_
 refine mvL rfl rfl rfl rfl (ltb rfl) ?_
 refine run_pu rfl (lenImm_step hG rfl rfl rfl rfl (tlen _)) rfl (ltb rfl) ?_
 refine mvL rfl rfl rfl rfl (ltb rfl) ?_
 refine run_bin rfl rfl rfl rfl rfl rfl rfl (ltb rfl) ?_
 refine mvL rfl rfl rfl rfl (ltb rfl) ?_
 refine run_splitd (i := 9) rfl (fun hb3 => ?_) (fun hb3 => ?_)
 ·replace hM := ite_t hb3 hM
  refine run_puG (on_of rfl rfl rfl rfl) (move_step (.inl rfl) rfl) rfl (ltb rfl) ?_
  obtain ⟨r4, hg5, hM⟩ := bind_t hM
  refine run_callG (on_of rfl rfl rfl rfl) rfl rfl (ltb rfl) rfl rfl rfl (fun _ h => absurd h List.not_mem_nil) (g_ContainsFunc_Tree__fn_i_badSimple_ok n q1 f1 ks1 hg5 _ _) (callK_retX (fun v tk6 (hle7 : tk ≤ tk6) h8 => ?_))
  subst h8
  refine run_puG (on_of rfl rfl rfl rfl) (aun_step rfl rfl rfl) rfl (ltb rfl) ?_
  refine run_pu rfl (pick_step rfl rfl rfl) rfl (ltb rfl) ?_
  refine mvR rfl rfl rfl rfl (ltb rfl) ?_
  refine run_ops_nil ?_
  refine run_ret_to ?_
  replace hM := some_t hM
  subst hM
  refine fin_x hG rfl rfl rfl (v' := .bool (!r4)) (by rfl) ⟨rfl, (show tk ≤ tk6 by omega), _, rfl, rfl⟩
 ·replace hM := ite_f hb3 hM
  refine run_off (on_of rfl rfl rfl rfl) rfl (ltb rfl) ?_
  refine run_off (on_of rfl rfl rfl rfl) rfl (ltb rfl) ?_
  refine run_off (on_of rfl rfl rfl rfl) rfl (ltb rfl) ?_
  refine run_pu rfl (pick_step rfl rfl rfl) rfl (ltb rfl) ?_
  refine mvR rfl rfl rfl rfl (ltb rfl) ?_
  refine run_ops_nil ?_
  refine run_ret_to ?_
  replace hM := some_t hM
  subst hM
  refine fin_x hG rfl rfl rfl (v' := .bool false) (by rfl) ⟨rfl, (show tk ≤ tk by omega), _, rfl, rfl⟩

def i_PatternOK (n : Nat) (l1 : List T) (x2 : T) : Option Bool :=
 (i_simplesOK n l1 20).bind fun r3 =>
 if r3 = true then
  (i_TermOK n x2).bind fun r11 =>
  if r11 = true then
   (i_patterns n l1 x2).bind fun r19 =>
   some r19
  else
   some false
 else
  some false

set_option maxRecDepth 100000 in
theorem i_PatternOK_ok (n : Nat) : ∀ (q1 : Nat) (f1 : Bool) (ks1 : List LT) (k2 : Int) (n2 : Int) (s2 : ByteArray) (q2 : Nat) (f2 : Bool) (ks2 : List LT) {r : Bool}, i_PatternOK n (ers ks1) (T.mk k2 n2 s2 (ers ks2)) = some r → ∀ (O : Heap) (tk : Nat), ACalls Go.Proofs.Tryd.prog 22 [.imm q1 4 f1 (cellss ks1), .agg [.int .i64 k2, .int .i64 n2, .str s2, .imm q2 4 f2 (cellss ks2)]] O tk (RetX O tk (fun v tk' => v = .bool r)) := by
 intro q1 f1 ks1 k2 n2 s2 q2 f2 ks2 r hM O tk
 unfold i_PatternOK at hM
 refine acalls_of_run Go.Proofs.Tryd.func22 rfl rfl [] [] (Bor.nil _) [(0, .imm q1 4 f1 (cellss ks1)), (1, .agg [.int .i64 k2, .int .i64 n2, .str s2, .imm q2 4 f2 (cellss ks2)])] (.cons (entS rfl) (.cons (.agg _) (.nil _))) (leb rfl) (fun _ h => by cases h) (fun S0 hO htk hfz => ?_)
 refine run_sr ?_
 refine run_op rfl (box_step (d := 3) rfl rfl rfl rfl rfl) rfl (ltb rfl) ?_
 refine mvR rfl rfl rfl rfl (ltb rfl) ?_
 refine run_ops_nil ?_
 refine run_sr ?_
 refine mvL rfl rfl rfl rfl (ltb rfl) ?_
 obtain ⟨r3, hg4, hM⟩ := bind_t hM
 refine run_call rfl rfl rfl (ltb rfl) rfl rfl rfl (fun _ h => absurd h List.not_mem_nil) (i_simplesOK_ok n q1 f1 ks1 20 hg4 _ _) (callK_retX (fun v tk5 (hle6 : tk ≤ tk5) h7 => ?_))
 subst h7
 refine mvL rfl rfl rfl rfl (ltb rfl) ?_
 refine run_splitb (i := 7) rfl (fun hb10 => ?_) (fun hb10 => ?_)
 ·replace hM := ite_t hb10 hM
  refine run_rdG (on_of rfl rfl rfl rfl) (aload_rd hG rfl rfl rfl (by first | (simp [ldok]; done) | exact List.not_mem_nil | trivial)) rfl (ltb rfl) ?_
  obtain ⟨r11, hg12, hM⟩ := bind_t hM
  refine run_callG (on_of rfl rfl rfl rfl) rfl rfl (ltb rfl) rfl rfl rfl (fun _ h => absurd h List.not_mem_nil) (i_TermOK_ok n k2 n2 s2 q2 f2 ks2 hg12 _ _) (callK_retX (fun v tk13 (hle14 : tk5 ≤ tk13) h15 => ?_))
  subst h15
  refine run_pu rfl (pick_step rfl rfl rfl) rfl (ltb rfl) ?_
  refine mvL rfl rfl rfl rfl (ltb rfl) ?_
  refine run_splitb (i := 11) rfl (fun hb18 => ?_) (fun hb18 => ?_)
  ·replace hM := ite_t hb18 hM
   refine run_puG (on_of rfl rfl rfl rfl) (move_step (.inl rfl) rfl) rfl (ltb rfl) ?_
   refine run_rdG (on_of rfl rfl rfl rfl) (aload_rd hG rfl rfl rfl (by first | (simp [ldok]; done) | exact List.not_mem_nil | trivial)) rfl (ltb rfl) ?_
   obtain ⟨r19, hg20, hM⟩ := bind_t hM
   refine run_callG (on_of rfl rfl rfl rfl) rfl rfl (ltb rfl) rfl rfl rfl (fun _ h => absurd h List.not_mem_nil) (i_patterns_ok n q1 f1 ks1 k2 n2 s2 q2 f2 ks2 hg20 _ _) (callK_retX (fun v tk21 (hle22 : tk13 ≤ tk21) h23 => ?_))
   subst h23
   refine run_pu rfl (pick_step rfl rfl rfl) rfl (ltb rfl) ?_
   refine mvR rfl rfl rfl rfl (ltb rfl) ?_
   refine run_ops_nil ?_
   refine run_ret_to ?_
   replace hM := some_t hM
   subst hM
   refine fin_x hG rfl rfl rfl (v' := .bool r19) (by rfl) ⟨rfl, (show tk ≤ tk21 by omega), _, rfl, rfl⟩
  ·replace hM := ite_f hb18 hM
   refine run_off (on_of rfl rfl rfl rfl) rfl (ltb rfl) ?_
   refine run_off (on_of rfl rfl rfl rfl) rfl (ltb rfl) ?_
   refine run_off (on_of rfl rfl rfl rfl) rfl (ltb rfl) ?_
   refine run_pu rfl (pick_step rfl rfl rfl) rfl (ltb rfl) ?_
   refine mvR rfl rfl rfl rfl (ltb rfl) ?_
   refine run_ops_nil ?_
   refine run_ret_to ?_
   replace hM := some_t hM
   subst hM
   refine fin_x hG rfl rfl rfl (v' := .bool false) (by rfl) ⟨rfl, (show tk ≤ tk13 by omega), _, rfl, rfl⟩
 ·replace hM := ite_f hb10 hM
  refine run_off (on_of rfl rfl rfl rfl) rfl (ltb rfl) ?_
  refine run_off (on_of rfl rfl rfl rfl) rfl (ltb rfl) ?_
  refine run_pu rfl (pick_step rfl rfl rfl) rfl (ltb rfl) ?_
  refine mvL rfl rfl rfl rfl (ltb rfl) ?_
  refine run_off (on_of rfl rfl rfl rfl) rfl (ltb rfl) ?_
  refine run_off (on_of rfl rfl rfl rfl) rfl (ltb rfl) ?_
  refine run_off (on_of rfl rfl rfl rfl) rfl (ltb rfl) ?_
  refine run_pu rfl (pick_step rfl rfl rfl) rfl (ltb rfl) ?_
  refine mvR rfl rfl rfl rfl (ltb rfl) ?_
  refine run_ops_nil ?_
  refine run_ret_to ?_
  replace hM := some_t hM
  subst hM
  refine fin_x hG rfl rfl rfl (v' := .bool false) (by rfl) ⟨rfl, (show tk ≤ tk5 by omega), _, rfl, rfl⟩

def w_at (l1 : List Int) (i2 : Int) (i3 : Int) : Option Int :=
 if i3 ≤ 1 then
  some 0
 else
  if ((l1).length : Int) = 0 then
   chk (i3 ≠ 0) <|
   some (Int.tmod (IntKind.i64.wrap (i2 * 7)) i3)
  else
   chk (((l1).length : Int) ≠ 0) <|
   (idx l1 (Int.tmod i2 ((l1).length : Int))).bind fun y8 =>
   chk (((l1).length : Int) ≠ 0) <|
   (idx l1 (Int.tmod (IntKind.i64.wrap (i2 + 1)) ((l1).length : Int))).bind fun y14 =>
   chk (((l1).length : Int) ≠ 0) <|
   chk (i3 ≠ 0) <|
   some (Int.tmod (IntKind.i64.wrap ((IntKind.i64.wrap ((IntKind.i64.wrap ((IntKind.i64.wrap y8) * 31)) + (IntKind.i64.wrap y14))) + (IntKind.i64.wrap (Int.tdiv i2 ((l1).length : Int))))) i3)

set_option maxRecDepth 100000 in
theorem w_at_ok : ∀ (q1 : Nat) (f1 : Bool) (l1 : List Int) (i2 : Int) (i3 : Int) {r : Int}, w_at l1 i2 i3 = some r → ∀ (O : Heap) (tk : Nat), ACalls Go.Proofs.Tryd.prog 9 [.imm q1 1 f1 ((l1 : List Int).map fun n => [AV.int .u8 n]), .int .i64 i2, .int .i64 i3] O tk (RetX O tk (fun v tk' => v = .int .i64 r)) := by
 intro q1 f1 l1 i2 i3 r hM O tk
 unfold w_at at hM
 refine acalls_of_run Go.Proofs.Tryd.func9 rfl rfl [] [] (Bor.nil _) [(0, .imm q1 1 f1 ((l1 : List Int).map fun n => [AV.int .u8 n])), (1, .int .i64 i2), (2, .int .i64 i3)] (.cons (entS rfl) (.cons (entS rfl) (.cons (entS rfl) (.nil _)))) (leb rfl) (fun _ h => by cases h) (fun S0 hO htk hfz => ?_)
 refine run_sr ?_
 refine mvR rfl rfl rfl rfl (ltb rfl) ?_
 refine run_ops_nil ?_
 refine run_seq ?_
 refine run_sr ?_
 refine mvL rfl rfl rfl rfl (ltb rfl) ?_
 refine run_bin rfl rfl rfl rfl rfl rfl rfl (ltb rfl) ?_
 refine run_ops_nil ?_
 refine run_ifd rfl rfl (fun hb4 => ?_) (fun hb4 => ?_)
 ·replace hM := ite_t hb4 hM
  refine run_sr ?_
  refine mvR rfl rfl rfl rfl (ltb rfl) ?_
  refine run_ops_nil ?_
  refine run_ret_to ?_
  replace hM := some_t hM
  subst hM
  refine fin_x hG rfl rfl rfl (v' := .int .i64 0) (by rfl) ⟨rfl, (show tk ≤ tk by omega), _, rfl, rfl⟩
 ·replace hM := ite_f hb4 hM
  refine run_skip ?_
  refine run_seq ?_
  refine run_sr ?_
  refine mvL rfl rfl rfl rfl (ltb rfl) ?_
  refine run_pu rfl (lenImm_step hG rfl rfl rfl rfl (ilen _)) rfl (ltb rfl) ?_
  refine run_bin rfl rfl rfl rfl rfl rfl rfl (ltb rfl) ?_
  refine run_ops_nil ?_
  refine run_ifd rfl rfl (fun hb5 => ?_) (fun hb5 => ?_)
  ·replace hM := ite_t hb5 hM
   refine run_sr ?_
   refine mvL rfl rfl rfl rfl (ltb rfl) ?_
   refine run_bin rfl rfl rfl rfl rfl rfl rfl (ltb rfl) ?_
   refine mvL rfl rfl rfl rfl (ltb rfl) ?_
   obtain ⟨hc6, hM⟩ := chk_t hM
   refine run_pu rfl (abin_step rfl rfl rfl (rem_ne hc6) (fun _ h => by cases h)) rfl (ltb rfl) ?_
   refine mvR rfl rfl rfl rfl (ltb rfl) ?_
   refine run_ops_nil ?_
   refine run_ret_to ?_
   replace hM := some_t hM
   subst hM
   refine fin_x hG rfl rfl rfl (v' := .int .i64 (Int.tmod (IntKind.i64.wrap (i2 * 7)) i3)) (by rfl) ⟨rfl, (show tk ≤ tk by omega), _, rfl, rfl⟩
  ·replace hM := ite_f hb5 hM
   refine run_skip ?_
   refine run_seq ?_
   refine run_draw [] (n := 27) mixed rfl (fun _ h => absurd h List.not_mem_nil) ?_
   refine AAny.take (i := 0) rfl (by kernel_rfl) (by kernel_rfl) (by kernel_rfl) rfl rfl (ltb rfl) ((move_step (.inl rfl) rfl).rd _) ?_
   refine AAny.take (i := 1) rfl (by kernel_rfl) (by kernel_rfl) (by kernel_rfl) rfl rfl (ltb rfl) ((move_step (.inl rfl) rfl).rd _) ?_
   refine AAny.take (i := 2) rfl (by kernel_rfl) (by kernel_rfl) (by kernel_rfl) rfl rfl (ltb rfl) ((move_step (.inl rfl) rfl).rd _) ?_
   refine AAny.take (i := 3) rfl (by kernel_rfl) (by kernel_rfl) (by kernel_rfl) rfl rfl (ltb rfl) ((lenImm_step hG rfl rfl rfl rfl (ilen _)).rd _) ?_
   obtain ⟨hc7, hM⟩ := chk_t hM
   refine AAny.take (i := 4) rfl (by kernel_rfl) (by kernel_rfl) (by kernel_rfl) rfl rfl (ltb rfl) ((abin_step rfl rfl rfl (rem_ne hc7) (fun _ h => by cases h)).rd _) ?_
   obtain ⟨y8, hy9, hM⟩ := bind_t hM
   obtain ⟨hc11, hi12⟩ := iidx (k := .u8) hy9
   refine AAny.take (i := 5) rfl (by kernel_rfl) (by kernel_rfl) (by kernel_rfl) rfl rfl (ltb rfl) ((indexImm_step hG rfl rfl rfl hi12 rfl rfl rfl rfl hc11).rd _) ?_
   refine AAny.take (i := 6) rfl (by kernel_rfl) (by kernel_rfl) (by kernel_rfl) rfl rfl (ltb rfl) (aload_rd hG rfl rfl rfl (by first | (simp [ldok]; done) | exact List.not_mem_nil | trivial)) ?_
   refine AAny.take (i := 7) rfl (by kernel_rfl) (by kernel_rfl) (by kernel_rfl) rfl rfl (ltb rfl) ((convInt_step hG rfl rfl rfl rfl rfl).rd _) ?_
   refine AAny.take (i := 8) rfl (by kernel_rfl) (by kernel_rfl) (by kernel_rfl) rfl rfl (ltb rfl) ((abin_step rfl rfl rfl rfl (fun _ h => by cases h)).rd _) ?_
   refine AAny.take (i := 9) rfl (by kernel_rfl) (by kernel_rfl) (by kernel_rfl) rfl rfl (ltb rfl) ((move_step (.inl rfl) rfl).rd _) ?_
   refine AAny.take (i := 10) rfl (by kernel_rfl) (by kernel_rfl) (by kernel_rfl) rfl rfl (ltb rfl) ((move_step (.inl rfl) rfl).rd _) ?_
   refine AAny.take (i := 11) rfl (by kernel_rfl) (by kernel_rfl) (by kernel_rfl) rfl rfl (ltb rfl) ((abin_step rfl rfl rfl rfl (fun _ h => by cases h)).rd _) ?_
   refine AAny.take (i := 12) rfl (by kernel_rfl) (by kernel_rfl) (by kernel_rfl) rfl rfl (ltb rfl) ((move_step (.inl rfl) rfl).rd _) ?_
   refine AAny.take (i := 13) rfl (by kernel_rfl) (by kernel_rfl) (by kernel_rfl) rfl rfl (ltb rfl) ((lenImm_step hG rfl rfl rfl rfl (ilen _)).rd _) ?_
   obtain ⟨hc13, hM⟩ := chk_t hM
   refine AAny.take (i := 14) rfl (by kernel_rfl) (by kernel_rfl) (by kernel_rfl) rfl rfl (ltb rfl) ((abin_step rfl rfl rfl (rem_ne hc13) (fun _ h => by cases h)).rd _) ?_
   obtain ⟨y14, hy15, hM⟩ := bind_t hM
   obtain ⟨hc17, hi18⟩ := iidx (k := .u8) hy15
   refine AAny.take (i := 15) rfl (by kernel_rfl) (by kernel_rfl) (by kernel_rfl) rfl rfl (ltb rfl) ((indexImm_step hG rfl rfl rfl hi18 rfl rfl rfl rfl hc17).rd _) ?_
   refine AAny.take (i := 16) rfl (by kernel_rfl) (by kernel_rfl) (by kernel_rfl) rfl rfl (ltb rfl) (aload_rd hG rfl rfl rfl (by first | (simp [ldok]; done) | exact List.not_mem_nil | trivial)) ?_
   refine AAny.take (i := 17) rfl (by kernel_rfl) (by kernel_rfl) (by kernel_rfl) rfl rfl (ltb rfl) ((convInt_step hG rfl rfl rfl rfl rfl).rd _) ?_
   refine AAny.take (i := 18) rfl (by kernel_rfl) (by kernel_rfl) (by kernel_rfl) rfl rfl (ltb rfl) ((abin_step rfl rfl rfl rfl (fun _ h => by cases h)).rd _) ?_
   refine AAny.take (i := 19) rfl (by kernel_rfl) (by kernel_rfl) (by kernel_rfl) rfl rfl (ltb rfl) ((move_step (.inl rfl) rfl).rd _) ?_
   refine AAny.take (i := 20) rfl (by kernel_rfl) (by kernel_rfl) (by kernel_rfl) rfl rfl (ltb rfl) ((move_step (.inl rfl) rfl).rd _) ?_
   refine AAny.take (i := 21) rfl (by kernel_rfl) (by kernel_rfl) (by kernel_rfl) rfl rfl (ltb rfl) ((lenImm_step hG rfl rfl rfl rfl (ilen _)).rd _) ?_
   obtain ⟨hc19, hM⟩ := chk_t hM
   refine AAny.take (i := 22) rfl (by kernel_rfl) (by kernel_rfl) (by kernel_rfl) rfl rfl (ltb rfl) ((abin_step rfl rfl rfl (quo_ne hc19) (fun _ h => by cases h)).rd _) ?_
   refine AAny.take (i := 23) rfl (by kernel_rfl) (by kernel_rfl) (by kernel_rfl) rfl rfl (ltb rfl) ((abin_step rfl rfl rfl rfl (fun _ h => by cases h)).rd _) ?_
   refine AAny.take (i := 24) rfl (by kernel_rfl) (by kernel_rfl) (by kernel_rfl) rfl rfl (ltb rfl) ((move_step (.inl rfl) rfl).rd _) ?_
   obtain ⟨hc20, hM⟩ := chk_t hM
   refine AAny.take (i := 25) rfl (by kernel_rfl) (by kernel_rfl) (by kernel_rfl) rfl rfl (ltb rfl) ((abin_step rfl rfl rfl (rem_ne hc20) (fun _ h => by cases h)).rd _) ?_
   refine AAny.take (i := 26) rfl (by kernel_rfl) (by kernel_rfl) (by kernel_rfl) rfl rfl (ltb rfl) ((move_step (.inr rfl) rfl).rd _) ?_
   refine AAny.done (by kernel_rfl) ?_
   refine run_ret_to ?_
   replace hM := some_t hM
   subst hM
   refine fin_x hG rfl rfl rfl (v' := .int .i64 (Int.tmod (IntKind.i64.wrap ((IntKind.i64.wrap ((IntKind.i64.wrap ((IntKind.i64.wrap y8) * 31)) + (IntKind.i64.wrap y14))) + (IntKind.i64.wrap (Int.tdiv i2 ((l1).length : Int))))) i3)) (by rfl) ⟨rfl, (show tk ≤ tk by omega), _, rfl, rfl⟩

set_option maxRecDepth 100000 in
theorem w_arrow_ex (k1 : Int) (n1 : Int) (s1 : ByteArray) (q1 : Nat) (f1 : Bool) (ks1 : List LT) (k2 : Int) (n2 : Int) (s2 : ByteArray) (q2 : Nat) (f2 : Bool) (ks2 : List LT) (O : Heap) (tk : Nat) : ACalls Go.Proofs.Tryd.prog 23 [.agg [.int .i64 k1, .int .i64 n1, .str s1, .imm q1 4 f1 (cellss ks1)], .agg [.int .i64 k2, .int .i64 n2, .str s2, .imm q2 4 f2 (cellss ks2)]] O tk (RetN O (.agg [.int .i64 10, .int .i64 0, .str ⟨#[]⟩, .imm tk 4 false (cellss [LT.mk k1 n1 s1 q1 f1 ks1, LT.mk k2 n2 s2 q2 f2 ks2])]) (tk + 1)) := by
 refine acalls_of_run Go.Proofs.Tryd.func23 rfl rfl [] [] (Bor.nil _) [(0, .agg [.int .i64 k1, .int .i64 n1, .str s1, .imm q1 4 f1 (cellss ks1)]), (1, .agg [.int .i64 k2, .int .i64 n2, .str s2, .imm q2 4 f2 (cellss ks2)])] (.cons (.agg _) (.cons (.agg _) (.nil _))) (leb rfl) (fun _ h => by cases h) (fun S0 hO htk hfz => ?_)
 refine run_sr ?_
 refine run_op rfl (box_step (d := 2) rfl rfl rfl rfl rfl) rfl (ltb rfl) ?_
 refine run_op rfl (box_step (d := 3) rfl rfl rfl rfl rfl) rfl (ltb rfl) ?_
 refine run_op rfl (alloc_step (d := 4) hG rfl rfl rfl) rfl (ltb rfl) ?_
 refine run_ops_nil ?_
 refine run_sr ?_
 refine run_ld hG rfl rfl rfl rfl rfl (ltb rfl) ?_
 refine run_ld hG rfl rfl rfl rfl rfl (ltb rfl) ?_
 refine run_op rfl (buildSlice_step (d := 7) hG rfl rfl rfl rfl rfl (by rfl) (by rfl) (by rfl) (by decide)) rfl (ltb rfl) ?_
 refine run_pu rfl (build_step hG rfl (by rfl) rfl (fun h => by cases h) (by rfl)) rfl (ltb rfl) ?_
 refine run_op0 rfl (store_step hG rfl rfl rfl rfl rfl rfl rfl rfl) rfl ?_
 refine run_ops_nil ?_
 refine run_ret_to ?_
 refine fin_sub (Sub.freeze (k := 7) rfl rfl) ?_
 refine fin_x hG rfl rfl rfl (v' := .agg [.int .i64 10, .int .i64 0, .str ⟨#[]⟩, .imm tk 4 false (cellss [LT.mk k1 n1 s1 q1 f1 ks1, LT.mk k2 n2 s2 q2 f2 ks2])]) (by rfl) ⟨rfl, rfl, rfl⟩

def w_FnPattern (n : Nat) (l1 : List Int) (l2 : List Int) : Option Bool :=
 if ((l1).length : Int) > 1048576 then
  some true
 else
  if ((l2).length : Int) > 1048576 then
   some true
  else
   (s_SimpleOf n l1).bind fun r5 =>
   (w_at l2 0 3).bind fun r12 =>
   (s_Long n r12 r5).bind fun r19 =>
   if (r19.2 != 0) = true then
    some true
   else
    (i_PatternOK n ([(T.mk 10 0 ⟨#[]⟩ [r5, (T.mk 9 0 ⟨#[111]⟩ [])])]) (T.mk 7 0 ⟨#[]⟩ [r19.1])).bind fun r33 =>
    if r33 = true then
     (i_PatternOK n ([(T.mk 10 0 ⟨#[]⟩ [r5, (T.mk 10 0 ⟨#[]⟩ [r5, (T.mk 9 0 ⟨#[111]⟩ [])])])]) (T.mk 7 0 ⟨#[]⟩ [r19.1, r19.1])).bind fun r41 =>
     some (!r41)
    else
     some false

set_option maxHeartbeats 20000000 in
set_option maxRecDepth 100000 in
theorem w_FnPattern_ok (n : Nat) : ∀ (q1 : Nat) (f1 : Bool) (l1 : List Int) (q2 : Nat) (f2 : Bool) (l2 : List Int) {r : Bool}, w_FnPattern n l1 l2 = some r → ∀ (O : Heap) (tk : Nat), ACalls Go.Proofs.Tryd.prog 5 [.imm q1 1 f1 ((l1 : List Int).map fun n => [AV.int .u8 n]), .imm q2 1 f2 ((l2 : List Int).map fun n => [AV.int .u8 n])] O tk (RetX O tk (fun v tk' => v = .bool r)) := by
 intro q1 f1 l1 q2 f2 l2 r hM O tk
 unfold w_FnPattern at hM
 refine acalls_of_run Go.Proofs.Tryd.func5 rfl rfl [] [] (Bor.nil _) [(0, .imm q1 1 f1 ((l1 : List Int).map fun n => [AV.int .u8 n])), (1, .imm q2 1 f2 ((l2 : List Int).map fun n => [AV.int .u8 n]))] (.cons (entS rfl) (.cons (entS rfl) (.nil _))) (leb rfl) (fun _ h => by cases h) (fun S0 hO htk hfz => ?_)
 refine run_sr ?_
 refine mvR rfl rfl rfl rfl (ltb rfl) ?_
 refine run_ops_nil ?_
 refine run_seq ?_
 refine run_sr ?_
 refine mvL rfl rfl rfl rfl (ltb rfl) ?_
 refine run_pu rfl (lenImm_step hG rfl rfl rfl rfl (ilen _)) rfl (ltb rfl) ?_
 refine run_bin rfl rfl rfl rfl rfl rfl rfl (ltb rfl) ?_
 refine mvL rfl rfl rfl rfl (ltb rfl) ?_
 refine run_splitd (i := 14) rfl (fun hb3 => ?_) (fun hb3 => ?_)
 ·replace hM := ite_t hb3 hM
  refine run_off (on_of rfl rfl rfl rfl) rfl (ltb rfl) ?_
  refine run_off (on_of rfl rfl rfl rfl) rfl (ltb rfl) ?_
  refine run_off (on_of rfl rfl rfl rfl) rfl (ltb rfl) ?_
  refine run_pu rfl (pick_step rfl rfl rfl) rfl (ltb rfl) ?_
  refine run_ops_nil ?_
  refine run_if rfl rfl (fun _ => ?_) (fun h => by cases h)
  refine run_sr ?_
  refine mvR rfl rfl rfl rfl (ltb rfl) ?_
  refine run_ops_nil ?_
  refine run_ret_to ?_
  replace hM := some_t hM
  subst hM
  refine fin_x hG rfl rfl rfl (v' := .bool true) (by rfl) ⟨rfl, (show tk ≤ tk by omega), _, rfl, rfl⟩
 ·replace hM := ite_f hb3 hM
  refine run_puG (on_of rfl rfl rfl rfl) (move_step (.inl rfl) rfl) rfl (ltb rfl) ?_
  refine run_puG (on_of rfl rfl rfl rfl) (lenImm_step hG rfl rfl rfl rfl (ilen _)) rfl (ltb rfl) ?_
  refine run_puG (on_of rfl rfl rfl rfl) (abin_step rfl rfl rfl rfl (fun _ h => by cases h)) rfl (ltb rfl) ?_
  refine run_pu rfl (pick_step rfl rfl rfl) rfl (ltb rfl) ?_
  refine run_ops_nil ?_
  refine run_ifd rfl rfl (fun hb4 => ?_) (fun hb4 => ?_)
  ·replace hM := ite_t hb4 hM
   refine run_sr ?_
   refine mvR rfl rfl rfl rfl (ltb rfl) ?_
   refine run_ops_nil ?_
   refine run_ret_to ?_
   replace hM := some_t hM
   subst hM
   refine fin_x hG rfl rfl rfl (v' := .bool true) (by rfl) ⟨rfl, (show tk ≤ tk by omega), _, rfl, rfl⟩
  ·replace hM := ite_f hb4 hM
   refine run_skip ?_
   refine run_sr ?_
   refine mvL rfl rfl rfl rfl (ltb rfl) ?_
   obtain ⟨r5, hg6, hM⟩ := bind_t hM
   refine run_call rfl rfl rfl (ltb rfl) rfl rfl rfl (fun _ h => absurd h List.not_mem_nil) (s_SimpleOf_ok n q1 f1 l1 hg6 _ _) (callK_retX (fun v tk7 (hle8 : tk ≤ tk7) h9 => ?_))
   obtain ⟨k10, n10, s10, q10, f10, ks10, rfl, rfl, hf11⟩ := h9
   refine run_op rfl (alloc_step (d := 5) hG rfl rfl rfl) rfl (ltb rfl) ?_
   refine run_op0 rfl (store_step hG rfl rfl rfl rfl rfl rfl rfl rfl) rfl ?_
   refine run_ops_nil ?_
   refine run_seq ?_
   refine run_draw [] (n := 10) mixed rfl (fun _ h => absurd h List.not_mem_nil) ?_
   refine AAny.take (i := 0) rfl (by kernel_rfl) (by kernel_rfl) (by kernel_rfl) rfl rfl (ltb rfl) ((move_step (.inl rfl) rfl).rd _) ?_
   refine AAny.take (i := 2) rfl (by kernel_rfl) (by kernel_rfl) (by kernel_rfl) rfl rfl (ltb rfl) (aload_rd hG rfl rfl rfl (by first | (simp [ldok]; done) | exact List.not_mem_nil | trivial)) ?_
   refine AAny.eachN (rs := [1, 7]) (by kernel_rfl) (fun h => by cases h) (fun i hi => ?_)
   simp only [List.mem_cons, List.not_mem_nil, or_false] at hi
   rcases hi with rfl | rfl
   ·refine AOpN.of ?_
    obtain ⟨r12, hg13, hM⟩ := bind_t hM
    refine AOp.call rfl rfl rfl rfl (ltb rfl) rfl rfl rfl (fun _ h => absurd h List.not_mem_nil) (fun _ h => absurd h List.not_mem_nil) (w_at_ok q2 f2 l2 0 3 hg13 _ _) (callK_retX (fun v tk14 (hle15 : tk7 ≤ tk14) h16 => ?_))
    subst h16
    refine AAny.eachN (rs := [3, 7]) (by kernel_rfl) (fun h => by cases h) (fun i hi => ?_)
    simp only [List.mem_cons, List.not_mem_nil, or_false] at hi
    rcases hi with rfl | rfl
    ·refine AOpN.of ?_
     obtain ⟨r19, hg20, hM⟩ := bind_t hM
     refine AOp.call rfl rfl rfl rfl (ltb rfl) rfl rfl rfl (fun _ h => absurd h List.not_mem_nil) (fun _ h => absurd h List.not_mem_nil) (s_Long_ok n r12 k10 n10 s10 q10 f10 ks10 hg20 _ _) (callK_retX (fun v tk21 (hle22 : tk14 ≤ tk21) h23 => ?_))
     obtain ⟨ra28, ra29, va30, va31, rfl, rfl, ⟨k24, n24, s24, q24, f24, ks24, rfl, rfl, hf25⟩, rfl⟩ := h23
     refine AAny.take (i := 4) rfl (by kernel_rfl) (by kernel_rfl) (by kernel_rfl) rfl rfl (ltb rfl) ((move_step (.inl rfl) rfl).rd _) ?_
     refine AAny.take (i := 5) rfl (by kernel_rfl) (by kernel_rfl) (by kernel_rfl) rfl rfl (ltb rfl) ((extract_step rfl rfl rfl).rd _) ?_
     refine AAny.take (i := 6) rfl (by kernel_rfl) (by kernel_rfl) (by kernel_rfl) rfl rfl (ltb rfl) ((extract_step rfl rfl rfl).rd _) ?_
     refine AAny.eachN (rs := [7]) (by kernel_rfl) (fun h => by cases h) (fun i hi => ?_)
     simp only [List.mem_cons, List.not_mem_nil, or_false] at hi
     subst hi
     ·refine AOpN.alloc hG rfl rfl rfl (ltb rfl) rfl rfl rfl ?_
      refine AAny.one (i := 8) (by kernel_rfl) (AOp.step0 rfl rfl rfl (store_step hG rfl rfl rfl rfl rfl rfl rfl rfl) (by intro x hx; have hx : x ∈ [ID.loc 6] := hx; simp only [List.mem_cons, List.not_mem_nil, or_false] at hx; subst hx; simp) ?_)
      refine AAny.take (i := 9) rfl (by kernel_rfl) (by kernel_rfl) (by kernel_rfl) rfl rfl (ltb rfl) ((move_step (.inr rfl) rfl).rd _) ?_
      refine AAny.done (by kernel_rfl) ?_
      refine run_sub_code (σ' := ⟨[(4, .bool false), (5, .optr (.loc 5) 0 0), (6, .optr (.loc 6) 0 0), (7, .int .i64 ra29)], [(6, ⟨25, 4, true, [[.int .i64 k24, .int .i64 n24, .str s24, .imm q24 4 f24 (cellss ks24)]]⟩), (5, ⟨25, 4, true, [[.int .i64 k10, .int .i64 n10, .str s10, .imm q10 4 f10 (cellss ks10)]]⟩)], [], O, tk21⟩) (Sub.env _ ⟨rfl, rfl, rfl, rfl, trivial⟩) ?_
      refine run_seq ?_
      refine run_sr ?_
      refine mvL rfl rfl rfl rfl (ltb rfl) ?_
      refine run_bin rfl rfl rfl rfl rfl rfl rfl (ltb rfl) ?_
      refine run_ops_nil ?_
      refine run_ifb rfl rfl (fun hb32 => ?_) (fun hb32 => ?_)
      ·replace hM := ite_t hb32 hM
       refine run_sr ?_
       refine mvR rfl rfl rfl rfl (ltb rfl) ?_
       refine run_ops_nil ?_
       refine run_ret_to ?_
       replace hM := some_t hM
       subst hM
       refine fin_x hG rfl rfl rfl (v' := .bool true) (by rfl) ⟨rfl, (show tk ≤ tk21 by omega), _, rfl, rfl⟩
      ·replace hM := ite_f hb32 hM
       refine run_skip ?_
       refine run_sr ?_
       refine run_pu rfl (build_step hG rfl (by rfl) rfl (fun h => by cases h) (by rfl)) rfl (ltb rfl) ?_
       refine run_op rfl (alloc_step (d := 8) hG rfl rfl rfl) rfl (ltb rfl) ?_
       refine run_op0 rfl (store_step hG rfl rfl rfl rfl rfl rfl rfl rfl) rfl ?_
       refine run_ops_nil ?_
       refine run_sr ?_
       refine run_ld hG rfl rfl rfl rfl rfl (ltb rfl) ?_
       refine run_op rfl (buildSlice_step (d := 32) hG rfl rfl rfl rfl rfl (by rfl) (by rfl) (by rfl) (by decide)) rfl (ltb rfl) ?_
       refine run_pu rfl (build_step hG rfl (by rfl) rfl (fun h => by cases h) (by rfl)) rfl (ltb rfl) ?_
       refine run_op rfl (alloc_step (d := 9) hG rfl rfl rfl) rfl (ltb rfl) ?_
       refine run_op0 rfl (store_step hG rfl rfl rfl rfl rfl rfl rfl rfl) rfl ?_
       refine run_ops_nil ?_
       refine run_sr ?_
       refine run_ld hG rfl rfl rfl rfl rfl (ltb rfl) ?_
       refine run_ld hG rfl rfl rfl rfl rfl (ltb rfl) ?_
       refine run_op rfl (buildSlice_step (d := 36) hG rfl rfl rfl rfl rfl (by rfl) (by rfl) (by rfl) (by decide)) rfl (ltb rfl) ?_
       refine run_pu rfl (build_step hG rfl (by rfl) rfl (fun h => by cases h) (by rfl)) rfl (ltb rfl) ?_
       refine run_op rfl (alloc_step (d := 10) hG rfl rfl rfl) rfl (ltb rfl) ?_
       refine run_op0 rfl (store_step hG rfl rfl rfl rfl rfl rfl rfl rfl) rfl ?_
       refine run_ops_nil ?_
       refine run_sub_code (σ' := ⟨[(4, .bool false), (5, .optr (.loc 5) 0 0), (8, .optr (.loc 8) 0 0), (9, .optr (.loc 9) 0 0), (10, .optr (.loc 10) 0 0)], [(10, ⟨25, 4, true, [[.int .i64 7, .int .i64 0, .str ⟨#[]⟩, .osl (.loc 36)]]⟩), (36, ⟨25, 4, false, cellss [LT.mk k24 n24 s24 q24 f24 ks24, LT.mk k24 n24 s24 q24 f24 ks24]⟩), (9, ⟨25, 4, true, [[.int .i64 7, .int .i64 0, .str ⟨#[]⟩, .osl (.loc 32)]]⟩), (32, ⟨25, 4, false, cellss [LT.mk k24 n24 s24 q24 f24 ks24]⟩), (8, ⟨25, 4, true, [[.int .i64 9, .int .i64 0, .str ⟨#[111]⟩, .imm 0 4 true []]]⟩), (5, ⟨25, 4, true, [[.int .i64 k10, .int .i64 n10, .str s10, .imm q10 4 f10 (cellss ks10)]]⟩)], [], O, tk21⟩) (Sub.trans (Sub.drop (k := 6) rfl) (Sub.env _ ⟨rfl, rfl, rfl, rfl, rfl, trivial⟩)) ?_
       refine run_seq ?_
       refine run_draw [] (n := 18) mixed rfl (fun _ h => absurd h List.not_mem_nil) ?_
       refine AAny.take (i := 0) rfl (by kernel_rfl) (by kernel_rfl) (by kernel_rfl) rfl rfl (ltb rfl) (aload_rd hG rfl rfl rfl (by first | (simp [ldok]; done) | exact List.not_mem_nil | trivial)) ?_
       refine AAny.take (i := 1) rfl (by kernel_rfl) (by kernel_rfl) (by kernel_rfl) rfl rfl (ltb rfl) (aload_rd hG rfl rfl rfl (by first | (simp [ldok]; done) | exact List.not_mem_nil | trivial)) ?_
       refine AAny.take (i := 4) rfl (by kernel_rfl) (by kernel_rfl) (by kernel_rfl) rfl rfl (ltb rfl) (aload_rd hG rfl rfl rfl (by first | (simp [ldok]; done) | exact List.not_mem_nil | trivial)) ?_
       refine AAny.one (i := 2) (by kernel_rfl) (AOp.call rfl rfl rfl rfl (ltb rfl) rfl rfl rfl (fun _ h => absurd h List.not_mem_nil) (fun _ h => absurd h List.not_mem_nil) (ACalls.args (args' := [.agg [.int .i64 k10, .int .i64 n10, .str s10, .imm q10 4 f10 (cellss ks10)], .agg [.int .i64 9, .int .i64 0, .str ⟨#[111]⟩, .imm 0 4 true (cellss [])]]) rfl (w_arrow_ex k10 n10 s10 q10 f10 ks10 9 0 ⟨#[111]⟩ 0 true [] _ _)) (callK_retN ?_))
       skip
       refine AAny.one (i := 3) (by kernel_rfl) (AOp.step rfl rfl rfl (ltb rfl) (buildSlice_step (d := 41) hG rfl rfl rfl rfl rfl (by rfl) (by rfl) (by rfl) (by decide)) (fun _ h => absurd h List.not_mem_nil) ?_)
       refine AAny.sub (Sub.freeze (k := 41) rfl rfl) (fun _ h => absurd h List.not_mem_nil) ?_
       refine AAny.sub (Sub.freeze (k := 32) rfl rfl) (fun _ h => absurd h List.not_mem_nil) ?_
       obtain ⟨r33, hg34, hM⟩ := bind_t hM
       refine AAny.one (i := 5) (by kernel_rfl) (AOp.call rfl rfl rfl rfl (ltb rfl) rfl rfl rfl (fun _ h => absurd h List.not_mem_nil) (fun _ h => absurd h List.not_mem_nil) (i_PatternOK_ok n (tk21 + 1) false [LT.mk 10 0 ⟨#[]⟩ tk21 false [LT.mk k10 n10 s10 q10 f10 ks10, LT.mk 9 0 ⟨#[111]⟩ 0 true []]] 7 0 ⟨#[]⟩ ((tk21 + 1) + 1) false [LT.mk k24 n24 s24 q24 f24 ks24] hg34 _ _) (callK_retX (fun v tk35 (hle36 : (((tk21 + 1) + 1) + 1) ≤ tk35) h37 => ?_)))
       subst h37
       refine AAny.take (i := 6) rfl (by kernel_rfl) (by kernel_rfl) (by kernel_rfl) rfl rfl (ltb rfl) ((move_step (.inl rfl) rfl).rd _) ?_
       refine AAny.split (i := 44) rfl (fun _ h => absurd h List.not_mem_nil) (fun hb40 => ?_) (fun hb40 => ?_)
       ·replace hM := ite_t hb40 hM
        refine AAny.takeG (i := 7) rfl (by kernel_rfl) (by kernel_rfl) (by kernel_rfl) (on_of rfl rfl rfl rfl) rfl (ltb rfl) (aload_rd hG rfl rfl rfl (by first | (simp [ldok]; done) | exact List.not_mem_nil | trivial)) ?_
        refine AAny.takeG (i := 8) rfl (by kernel_rfl) (by kernel_rfl) (by kernel_rfl) (on_of rfl rfl rfl rfl) rfl (ltb rfl) (aload_rd hG rfl rfl rfl (by first | (simp [ldok]; done) | exact List.not_mem_nil | trivial)) ?_
        refine AAny.takeG (i := 9) rfl (by kernel_rfl) (by kernel_rfl) (by kernel_rfl) (on_of rfl rfl rfl rfl) rfl (ltb rfl) (aload_rd hG rfl rfl rfl (by first | (simp [ldok]; done) | exact List.not_mem_nil | trivial)) ?_
        refine AAny.takeG (i := 13) rfl (by kernel_rfl) (by kernel_rfl) (by kernel_rfl) (on_of rfl rfl rfl rfl) rfl (ltb rfl) (aload_rd hG rfl rfl rfl (by first | (simp [ldok]; done) | exact List.not_mem_nil | trivial)) ?_
        refine AAny.one (i := 10) (by kernel_rfl) (AOp.callG rfl (on_of rfl rfl rfl rfl) rfl rfl (ltb rfl) rfl rfl rfl (fun _ h => absurd h List.not_mem_nil) (fun _ h => absurd h List.not_mem_nil) (ACalls.args (args' := [.agg [.int .i64 k10, .int .i64 n10, .str s10, .imm q10 4 f10 (cellss ks10)], .agg [.int .i64 9, .int .i64 0, .str ⟨#[111]⟩, .imm 0 4 true (cellss [])]]) rfl (w_arrow_ex k10 n10 s10 q10 f10 ks10 9 0 ⟨#[111]⟩ 0 true [] _ _)) (callK_retN ?_))
        skip
        refine AAny.one (i := 11) (by kernel_rfl) (AOp.callG rfl (on_of rfl rfl rfl rfl) rfl rfl (ltb rfl) rfl rfl rfl (fun _ h => absurd h List.not_mem_nil) (fun _ h => absurd h List.not_mem_nil) (w_arrow_ex k10 n10 s10 q10 f10 ks10 10 0 ⟨#[]⟩ tk35 false [LT.mk k10 n10 s10 q10 f10 ks10, LT.mk 9 0 ⟨#[111]⟩ 0 true []] _ _) (callK_retN ?_))
        skip
        refine AAny.one (i := 12) (by kernel_rfl) (AOp.stepG rfl (on_of rfl rfl rfl rfl) rfl (ltb rfl) (buildSlice_step (d := 50) hG rfl rfl rfl rfl rfl (by rfl) (by rfl) (by rfl) (by decide)) (fun _ h => absurd h List.not_mem_nil) ?_)
        refine AAny.sub (σ' := ⟨[(4, .bool false), (5, .optr (.loc 5) 0 0), (8, .optr (.loc 8) 0 0), (9, .optr (.loc 9) 0 0), (10, .optr (.loc 10) 0 0), (38, .agg [.int .i64 k10, .int .i64 n10, .str s10, .imm q10 4 f10 (cellss ks10)]), (39, .agg [.int .i64 9, .int .i64 0, .str ⟨#[111]⟩, .imm 0 4 true []]), (42, .agg [.int .i64 7, .int .i64 0, .str ⟨#[]⟩, .imm ((tk21 + 1) + 1) 4 false (cellss [LT.mk k24 n24 s24 q24 f24 ks24])]), (40, .agg [.int .i64 10, .int .i64 0, .str ⟨#[]⟩, .imm tk21 4 false (cellss [LT.mk k10 n10 s10 q10 f10 ks10, LT.mk 9 0 ⟨#[111]⟩ 0 true []])]), (41, .imm (tk21 + 1) 4 false (cellss [LT.mk 10 0 ⟨#[]⟩ tk21 false [LT.mk k10 n10 s10 q10 f10 ks10, LT.mk 9 0 ⟨#[111]⟩ 0 true []]])), (43, .bool r33), (44, .bool true), (45, .agg [.int .i64 k10, .int .i64 n10, .str s10, .imm q10 4 f10 (cellss ks10)]), (46, .agg [.int .i64 k10, .int .i64 n10, .str s10, .imm q10 4 f10 (cellss ks10)]), (47, .agg [.int .i64 9, .int .i64 0, .str ⟨#[111]⟩, .imm 0 4 true []]), (51, .agg [.int .i64 7, .int .i64 0, .str ⟨#[]⟩, .osl (.loc 36)]), (48, .agg [.int .i64 10, .int .i64 0, .str ⟨#[]⟩, .imm tk35 4 false (cellss [LT.mk k10 n10 s10 q10 f10 ks10, LT.mk 9 0 ⟨#[111]⟩ 0 true []])]), (49, .agg [.int .i64 10, .int .i64 0, .str ⟨#[]⟩, .imm (tk35 + 1) 4 false (cellss [LT.mk k10 n10 s10 q10 f10 ks10, LT.mk 10 0 ⟨#[]⟩ tk35 false [LT.mk k10 n10 s10 q10 f10 ks10, LT.mk 9 0 ⟨#[111]⟩ 0 true []]])]), (50, .osl (.loc 50))], [(50, ⟨25, 4, false, cellss [LT.mk 10 0 ⟨#[]⟩ (tk35 + 1) false [LT.mk k10 n10 s10 q10 f10 ks10, LT.mk 10 0 ⟨#[]⟩ tk35 false [LT.mk k10 n10 s10 q10 f10 ks10, LT.mk 9 0 ⟨#[111]⟩ 0 true []]]]⟩), (10, ⟨25, 4, true, [[.int .i64 7, .int .i64 0, .str ⟨#[]⟩, .osl (.loc 36)]]⟩), (36, ⟨25, 4, false, cellss [LT.mk k24 n24 s24 q24 f24 ks24, LT.mk k24 n24 s24 q24 f24 ks24]⟩), (9, ⟨25, 4, true, [[.int .i64 7, .int .i64 0, .str ⟨#[]⟩, .imm ((tk21 + 1) + 1) 4 false (cellss [LT.mk k24 n24 s24 q24 f24 ks24])]]⟩), (8, ⟨25, 4, true, [[.int .i64 9, .int .i64 0, .str ⟨#[111]⟩, .imm 0 4 true []]]⟩), (5, ⟨25, 4, true, [[.int .i64 k10, .int .i64 n10, .str s10, .imm q10 4 f10 (cellss ks10)]]⟩)], [], O, ((tk35 + 1) + 1)⟩) (Sub.env _ ⟨rfl, rfl, rfl, rfl, rfl, rfl, rfl, rfl, rfl, rfl, rfl, rfl, rfl, rfl, rfl, rfl, rfl, rfl, rfl, trivial⟩) (fun _ h => absurd h List.not_mem_nil) ?_
        refine AAny.sub (Sub.freeze (k := 50) rfl rfl) (fun _ h => absurd h List.not_mem_nil) ?_
        refine AAny.sub (Sub.freeze (k := 36) rfl rfl) (fun _ h => absurd h List.not_mem_nil) ?_
        obtain ⟨r41, hg42, hM⟩ := bind_t hM
        refine AAny.one (i := 14) (by kernel_rfl) (AOp.callG rfl (on_of rfl rfl rfl rfl) rfl rfl (ltb rfl) rfl rfl rfl (fun _ h => absurd h List.not_mem_nil) (fun _ h => absurd h List.not_mem_nil) (i_PatternOK_ok n ((tk35 + 1) + 1) false [LT.mk 10 0 ⟨#[]⟩ (tk35 + 1) false [LT.mk k10 n10 s10 q10 f10 ks10, LT.mk 10 0 ⟨#[]⟩ tk35 false [LT.mk k10 n10 s10 q10 f10 ks10, LT.mk 9 0 ⟨#[111]⟩ 0 true []]]] 7 0 ⟨#[]⟩ (((tk35 + 1) + 1) + 1) false [LT.mk k24 n24 s24 q24 f24 ks24, LT.mk k24 n24 s24 q24 f24 ks24] hg42 _ _) (callK_retX (fun v tk43 (hle44 : ((((tk35 + 1) + 1) + 1) + 1) ≤ tk43) h45 => ?_)))
        subst h45
        refine AAny.takeG (i := 15) rfl (by kernel_rfl) (by kernel_rfl) (by kernel_rfl) (on_of rfl rfl rfl rfl) rfl (ltb rfl) ((aun_step rfl rfl rfl).rd _) ?_
        refine AAny.take (i := 16) rfl (by kernel_rfl) (by kernel_rfl) (by kernel_rfl) rfl rfl (ltb rfl) ((pick_step rfl rfl rfl).rd _) ?_
        refine AAny.take (i := 17) rfl (by kernel_rfl) (by kernel_rfl) (by kernel_rfl) rfl rfl (ltb rfl) ((move_step (.inr rfl) rfl).rd _) ?_
        refine AAny.done (by kernel_rfl) ?_
        refine run_ret_to ?_
        replace hM := some_t hM
        subst hM
        refine fin_x hG rfl rfl rfl (v' := .bool (!r41)) (by rfl) ⟨rfl, (show tk ≤ tk43 by omega), _, rfl, rfl⟩
       ·replace hM := ite_f (Bool.eq_false_iff.1 hb40) hM
        refine AAny.off (i := 7) rfl (by kernel_rfl) (by kernel_rfl) (by kernel_rfl) (on_of rfl rfl rfl rfl) rfl (ltb rfl) ?_
        refine AAny.off (i := 8) rfl (by kernel_rfl) (by kernel_rfl) (by kernel_rfl) (on_of rfl rfl rfl rfl) rfl (ltb rfl) ?_
        refine AAny.off (i := 9) rfl (by kernel_rfl) (by kernel_rfl) (by kernel_rfl) (on_of rfl rfl rfl rfl) rfl (ltb rfl) ?_
        refine AAny.off (i := 13) rfl (by kernel_rfl) (by kernel_rfl) (by kernel_rfl) (on_of rfl rfl rfl rfl) rfl (ltb rfl) ?_
        refine AAny.off (i := 10) rfl (by kernel_rfl) (by kernel_rfl) (by kernel_rfl) (on_of rfl rfl rfl rfl) rfl (ltb rfl) ?_
        refine AAny.off (i := 11) rfl (by kernel_rfl) (by kernel_rfl) (by kernel_rfl) (on_of rfl rfl rfl rfl) rfl (ltb rfl) ?_
        refine AAny.off (i := 12) rfl (by kernel_rfl) (by kernel_rfl) (by kernel_rfl) (on_of rfl rfl rfl rfl) rfl (ltb rfl) ?_
        refine AAny.off (i := 14) rfl (by kernel_rfl) (by kernel_rfl) (by kernel_rfl) (on_of rfl rfl rfl rfl) rfl (ltb rfl) ?_
        refine AAny.off (i := 15) rfl (by kernel_rfl) (by kernel_rfl) (by kernel_rfl) (on_of rfl rfl rfl rfl) rfl (ltb rfl) ?_
        refine AAny.take (i := 16) rfl (by kernel_rfl) (by kernel_rfl) (by kernel_rfl) rfl rfl (ltb rfl) ((pick_step rfl rfl rfl).rd _) ?_
        refine AAny.take (i := 17) rfl (by kernel_rfl) (by kernel_rfl) (by kernel_rfl) rfl rfl (ltb rfl) ((move_step (.inr rfl) rfl).rd _) ?_
        refine AAny.done (by kernel_rfl) ?_
        refine run_ret_to ?_
        replace hM := some_t hM
        subst hM
        refine fin_x hG rfl rfl rfl (v' := .bool false) (by rfl) ⟨rfl, (show tk ≤ tk35 by omega), _, rfl, rfl⟩
    ·refine AOpN.alloc hG rfl rfl rfl (ltb rfl) rfl rfl rfl ?_
     obtain ⟨r48, hg49, hM⟩ := bind_t hM
     refine AAny.one (i := 3) (by kernel_rfl) (AOp.call rfl rfl rfl rfl (ltb rfl) rfl rfl rfl (fun _ h => absurd h List.not_mem_nil) (fun _ h => absurd h List.not_mem_nil) (s_Long_ok n r12 k10 n10 s10 q10 f10 ks10 hg49 _ _) (callK_retX (fun v tk50 (hle51 : tk14 ≤ tk50) h52 => ?_)))
     obtain ⟨ra57, ra58, va59, va60, rfl, rfl, ⟨k53, n53, s53, q53, f53, ks53, rfl, rfl, hf54⟩, rfl⟩ := h52
     refine AAny.take (i := 4) rfl (by kernel_rfl) (by kernel_rfl) (by kernel_rfl) rfl rfl (ltb rfl) ((move_step (.inl rfl) rfl).rd _) ?_
     refine AAny.take (i := 5) rfl (by kernel_rfl) (by kernel_rfl) (by kernel_rfl) rfl rfl (ltb rfl) ((extract_step rfl rfl rfl).rd _) ?_
     refine AAny.take (i := 6) rfl (by kernel_rfl) (by kernel_rfl) (by kernel_rfl) rfl rfl (ltb rfl) ((extract_step rfl rfl rfl).rd _) ?_
     refine AAny.one (i := 8) (by kernel_rfl) (AOp.step0 rfl rfl rfl (store_step hG rfl rfl rfl rfl rfl rfl rfl rfl) (by intro x hx; have hx : x ∈ [ID.loc 6] := hx; simp only [List.mem_cons, List.not_mem_nil, or_false] at hx; subst hx; simp) ?_)
     refine AAny.take (i := 9) rfl (by kernel_rfl) (by kernel_rfl) (by kernel_rfl) rfl rfl (ltb rfl) ((move_step (.inr rfl) rfl).rd _) ?_
     refine AAny.done (by kernel_rfl) ?_
     refine run_sub_code (σ' := ⟨[(4, .bool false), (5, .optr (.loc 5) 0 0), (6, .optr (.loc 6) 0 0), (7, .int .i64 ra58)], [(6, ⟨25, 4, true, [[.int .i64 k53, .int .i64 n53, .str s53, .imm q53 4 f53 (cellss ks53)]]⟩), (5, ⟨25, 4, true, [[.int .i64 k10, .int .i64 n10, .str s10, .imm q10 4 f10 (cellss ks10)]]⟩)], [], O, tk50⟩) (Sub.env _ ⟨rfl, rfl, rfl, rfl, trivial⟩) ?_
     refine run_seq ?_
     refine run_sr ?_
     refine mvL rfl rfl rfl rfl (ltb rfl) ?_
     refine run_bin rfl rfl rfl rfl rfl rfl rfl (ltb rfl) ?_
     refine run_ops_nil ?_
     refine run_ifb rfl rfl (fun hb61 => ?_) (fun hb61 => ?_)
     ·replace hM := ite_t hb61 hM
      refine run_sr ?_
      refine mvR rfl rfl rfl rfl (ltb rfl) ?_
      refine run_ops_nil ?_
      refine run_ret_to ?_
      replace hM := some_t hM
      subst hM
      refine fin_x hG rfl rfl rfl (v' := .bool true) (by rfl) ⟨rfl, (show tk ≤ tk50 by omega), _, rfl, rfl⟩
     ·replace hM := ite_f hb61 hM
      refine run_skip ?_
      refine run_sr ?_
      refine run_pu rfl (build_step hG rfl (by rfl) rfl (fun h => by cases h) (by rfl)) rfl (ltb rfl) ?_
      refine run_op rfl (alloc_step (d := 8) hG rfl rfl rfl) rfl (ltb rfl) ?_
      refine run_op0 rfl (store_step hG rfl rfl rfl rfl rfl rfl rfl rfl) rfl ?_
      refine run_ops_nil ?_
      refine run_sr ?_
      refine run_ld hG rfl rfl rfl rfl rfl (ltb rfl) ?_
      refine run_op rfl (buildSlice_step (d := 32) hG rfl rfl rfl rfl rfl (by rfl) (by rfl) (by rfl) (by decide)) rfl (ltb rfl) ?_
      refine run_pu rfl (build_step hG rfl (by rfl) rfl (fun h => by cases h) (by rfl)) rfl (ltb rfl) ?_
      refine run_op rfl (alloc_step (d := 9) hG rfl rfl rfl) rfl (ltb rfl) ?_
      refine run_op0 rfl (store_step hG rfl rfl rfl rfl rfl rfl rfl rfl) rfl ?_
      refine run_ops_nil ?_
      refine run_sr ?_
      refine run_ld hG rfl rfl rfl rfl rfl (ltb rfl) ?_
      refine run_ld hG rfl rfl rfl rfl rfl (ltb rfl) ?_
      refine run_op rfl (buildSlice_step (d := 36) hG rfl rfl rfl rfl rfl (by rfl) (by rfl) (by rfl) (by decide)) rfl (ltb rfl) ?_
      refine run_pu rfl (build_step hG rfl (by rfl) rfl (fun h => by cases h) (by rfl)) rfl (ltb rfl) ?_
      refine run_op rfl (alloc_step (d := 10) hG rfl rfl rfl) rfl (ltb rfl) ?_
      refine run_op0 rfl (store_step hG rfl rfl rfl rfl rfl rfl rfl rfl) rfl ?_
      refine run_ops_nil ?_
      refine run_sub_code (σ' := ⟨[(4, .bool false), (5, .optr (.loc 5) 0 0), (8, .optr (.loc 8) 0 0), (9, .optr (.loc 9) 0 0), (10, .optr (.loc 10) 0 0)], [(10, ⟨25, 4, true, [[.int .i64 7, .int .i64 0, .str ⟨#[]⟩, .osl (.loc 36)]]⟩), (36, ⟨25, 4, false, cellss [LT.mk k53 n53 s53 q53 f53 ks53, LT.mk k53 n53 s53 q53 f53 ks53]⟩), (9, ⟨25, 4, true, [[.int .i64 7, .int .i64 0, .str ⟨#[]⟩, .osl (.loc 32)]]⟩), (32, ⟨25, 4, false, cellss [LT.mk k53 n53 s53 q53 f53 ks53]⟩), (8, ⟨25, 4, true, [[.int .i64 9, .int .i64 0, .str ⟨#[111]⟩, .imm 0 4 true []]]⟩), (5, ⟨25, 4, true, [[.int .i64 k10, .int .i64 n10, .str s10, .imm q10 4 f10 (cellss ks10)]]⟩)], [], O, tk50⟩) (Sub.trans (Sub.drop (k := 6) rfl) (Sub.env _ ⟨rfl, rfl, rfl, rfl, rfl, trivial⟩)) ?_
      refine run_seq ?_
      refine run_draw [] (n := 18) mixed rfl (fun _ h => absurd h List.not_mem_nil) ?_
      refine AAny.take (i := 0) rfl (by kernel_rfl) (by kernel_rfl) (by kernel_rfl) rfl rfl (ltb rfl) (aload_rd hG rfl rfl rfl (by first | (simp [ldok]; done) | exact List.not_mem_nil | trivial)) ?_
      refine AAny.take (i := 1) rfl (by kernel_rfl) (by kernel_rfl) (by kernel_rfl) rfl rfl (ltb rfl) (aload_rd hG rfl rfl rfl (by first | (simp [ldok]; done) | exact List.not_mem_nil | trivial)) ?_
      refine AAny.take (i := 4) rfl (by kernel_rfl) (by kernel_rfl) (by kernel_rfl) rfl rfl (ltb rfl) (aload_rd hG rfl rfl rfl (by first | (simp [ldok]; done) | exact List.not_mem_nil | trivial)) ?_
      refine AAny.one (i := 2) (by kernel_rfl) (AOp.call rfl rfl rfl rfl (ltb rfl) rfl rfl rfl (fun _ h => absurd h List.not_mem_nil) (fun _ h => absurd h List.not_mem_nil) (ACalls.args (args' := [.agg [.int .i64 k10, .int .i64 n10, .str s10, .imm q10 4 f10 (cellss ks10)], .agg [.int .i64 9, .int .i64 0, .str ⟨#[111]⟩, .imm 0 4 true (cellss [])]]) rfl (w_arrow_ex k10 n10 s10 q10 f10 ks10 9 0 ⟨#[111]⟩ 0 true [] _ _)) (callK_retN ?_))
      skip
      refine AAny.one (i := 3) (by kernel_rfl) (AOp.step rfl rfl rfl (ltb rfl) (buildSlice_step (d := 41) hG rfl rfl rfl rfl rfl (by rfl) (by rfl) (by rfl) (by decide)) (fun _ h => absurd h List.not_mem_nil) ?_)
      refine AAny.sub (Sub.freeze (k := 41) rfl rfl) (fun _ h => absurd h List.not_mem_nil) ?_
      refine AAny.sub (Sub.freeze (k := 32) rfl rfl) (fun _ h => absurd h List.not_mem_nil) ?_
      obtain ⟨r62, hg63, hM⟩ := bind_t hM
      refine AAny.one (i := 5) (by kernel_rfl) (AOp.call rfl rfl rfl rfl (ltb rfl) rfl rfl rfl (fun _ h => absurd h List.not_mem_nil) (fun _ h => absurd h List.not_mem_nil) (i_PatternOK_ok n (tk50 + 1) false [LT.mk 10 0 ⟨#[]⟩ tk50 false [LT.mk k10 n10 s10 q10 f10 ks10, LT.mk 9 0 ⟨#[111]⟩ 0 true []]] 7 0 ⟨#[]⟩ ((tk50 + 1) + 1) false [LT.mk k53 n53 s53 q53 f53 ks53] hg63 _ _) (callK_retX (fun v tk64 (hle65 : (((tk50 + 1) + 1) + 1) ≤ tk64) h66 => ?_)))
      subst h66
      refine AAny.take (i := 6) rfl (by kernel_rfl) (by kernel_rfl) (by kernel_rfl) rfl rfl (ltb rfl) ((move_step (.inl rfl) rfl).rd _) ?_
      refine AAny.split (i := 44) rfl (fun _ h => absurd h List.not_mem_nil) (fun hb69 => ?_) (fun hb69 => ?_)
      ·replace hM := ite_t hb69 hM
       refine AAny.takeG (i := 7) rfl (by kernel_rfl) (by kernel_rfl) (by kernel_rfl) (on_of rfl rfl rfl rfl) rfl (ltb rfl) (aload_rd hG rfl rfl rfl (by first | (simp [ldok]; done) | exact List.not_mem_nil | trivial)) ?_
       refine AAny.takeG (i := 8) rfl (by kernel_rfl) (by kernel_rfl) (by kernel_rfl) (on_of rfl rfl rfl rfl) rfl (ltb rfl) (aload_rd hG rfl rfl rfl (by first | (simp [ldok]; done) | exact List.not_mem_nil | trivial)) ?_
       refine AAny.takeG (i := 9) rfl (by kernel_rfl) (by kernel_rfl) (by kernel_rfl) (on_of rfl rfl rfl rfl) rfl (ltb rfl) (aload_rd hG rfl rfl rfl (by first | (simp [ldok]; done) | exact List.not_mem_nil | trivial)) ?_
       refine AAny.takeG (i := 13) rfl (by kernel_rfl) (by kernel_rfl) (by kernel_rfl) (on_of rfl rfl rfl rfl) rfl (ltb rfl) (aload_rd hG rfl rfl rfl (by first | (simp [ldok]; done) | exact List.not_mem_nil | trivial)) ?_
       refine AAny.one (i := 10) (by kernel_rfl) (AOp.callG rfl (on_of rfl rfl rfl rfl) rfl rfl (ltb rfl) rfl rfl rfl (fun _ h => absurd h List.not_mem_nil) (fun _ h => absurd h List.not_mem_nil) (ACalls.args (args' := [.agg [.int .i64 k10, .int .i64 n10, .str s10, .imm q10 4 f10 (cellss ks10)], .agg [.int .i64 9, .int .i64 0, .str ⟨#[111]⟩, .imm 0 4 true (cellss [])]]) rfl (w_arrow_ex k10 n10 s10 q10 f10 ks10 9 0 ⟨#[111]⟩ 0 true [] _ _)) (callK_retN ?_))
       skip
       refine AAny.one (i := 11) (by kernel_rfl) (AOp.callG rfl (on_of rfl rfl rfl rfl) rfl rfl (ltb rfl) rfl rfl rfl (fun _ h => absurd h List.not_mem_nil) (fun _ h => absurd h List.not_mem_nil) (w_arrow_ex k10 n10 s10 q10 f10 ks10 10 0 ⟨#[]⟩ tk64 false [LT.mk k10 n10 s10 q10 f10 ks10, LT.mk 9 0 ⟨#[111]⟩ 0 true []] _ _) (callK_retN ?_))
       skip
       refine AAny.one (i := 12) (by kernel_rfl) (AOp.stepG rfl (on_of rfl rfl rfl rfl) rfl (ltb rfl) (buildSlice_step (d := 50) hG rfl rfl rfl rfl rfl (by rfl) (by rfl) (by rfl) (by decide)) (fun _ h => absurd h List.not_mem_nil) ?_)
       refine AAny.sub (σ' := ⟨[(4, .bool false), (5, .optr (.loc 5) 0 0), (8, .optr (.loc 8) 0 0), (9, .optr (.loc 9) 0 0), (10, .optr (.loc 10) 0 0), (38, .agg [.int .i64 k10, .int .i64 n10, .str s10, .imm q10 4 f10 (cellss ks10)]), (39, .agg [.int .i64 9, .int .i64 0, .str ⟨#[111]⟩, .imm 0 4 true []]), (42, .agg [.int .i64 7, .int .i64 0, .str ⟨#[]⟩, .imm ((tk50 + 1) + 1) 4 false (cellss [LT.mk k53 n53 s53 q53 f53 ks53])]), (40, .agg [.int .i64 10, .int .i64 0, .str ⟨#[]⟩, .imm tk50 4 false (cellss [LT.mk k10 n10 s10 q10 f10 ks10, LT.mk 9 0 ⟨#[111]⟩ 0 true []])]), (41, .imm (tk50 + 1) 4 false (cellss [LT.mk 10 0 ⟨#[]⟩ tk50 false [LT.mk k10 n10 s10 q10 f10 ks10, LT.mk 9 0 ⟨#[111]⟩ 0 true []]])), (43, .bool r62), (44, .bool true), (45, .agg [.int .i64 k10, .int .i64 n10, .str s10, .imm q10 4 f10 (cellss ks10)]), (46, .agg [.int .i64 k10, .int .i64 n10, .str s10, .imm q10 4 f10 (cellss ks10)]), (47, .agg [.int .i64 9, .int .i64 0, .str ⟨#[111]⟩, .imm 0 4 true []]), (51, .agg [.int .i64 7, .int .i64 0, .str ⟨#[]⟩, .osl (.loc 36)]), (48, .agg [.int .i64 10, .int .i64 0, .str ⟨#[]⟩, .imm tk64 4 false (cellss [LT.mk k10 n10 s10 q10 f10 ks10, LT.mk 9 0 ⟨#[111]⟩ 0 true []])]), (49, .agg [.int .i64 10, .int .i64 0, .str ⟨#[]⟩, .imm (tk64 + 1) 4 false (cellss [LT.mk k10 n10 s10 q10 f10 ks10, LT.mk 10 0 ⟨#[]⟩ tk64 false [LT.mk k10 n10 s10 q10 f10 ks10, LT.mk 9 0 ⟨#[111]⟩ 0 true []]])]), (50, .osl (.loc 50))], [(50, ⟨25, 4, false, cellss [LT.mk 10 0 ⟨#[]⟩ (tk64 + 1) false [LT.mk k10 n10 s10 q10 f10 ks10, LT.mk 10 0 ⟨#[]⟩ tk64 false [LT.mk k10 n10 s10 q10 f10 ks10, LT.mk 9 0 ⟨#[111]⟩ 0 true []]]]⟩), (10, ⟨25, 4, true, [[.int .i64 7, .int .i64 0, .str ⟨#[]⟩, .osl (.loc 36)]]⟩), (36, ⟨25, 4, false, cellss [LT.mk k53 n53 s53 q53 f53 ks53, LT.mk k53 n53 s53 q53 f53 ks53]⟩), (9, ⟨25, 4, true, [[.int .i64 7, .int .i64 0, .str ⟨#[]⟩, .imm ((tk50 + 1) + 1) 4 false (cellss [LT.mk k53 n53 s53 q53 f53 ks53])]]⟩), (8, ⟨25, 4, true, [[.int .i64 9, .int .i64 0, .str ⟨#[111]⟩, .imm 0 4 true []]]⟩), (5, ⟨25, 4, true, [[.int .i64 k10, .int .i64 n10, .str s10, .imm q10 4 f10 (cellss ks10)]]⟩)], [], O, ((tk64 + 1) + 1)⟩) (Sub.env _ ⟨rfl, rfl, rfl, rfl, rfl, rfl, rfl, rfl, rfl, rfl, rfl, rfl, rfl, rfl, rfl, rfl, rfl, rfl, rfl, trivial⟩) (fun _ h => absurd h List.not_mem_nil) ?_
       refine AAny.sub (Sub.freeze (k := 50) rfl rfl) (fun _ h => absurd h List.not_mem_nil) ?_
       refine AAny.sub (Sub.freeze (k := 36) rfl rfl) (fun _ h => absurd h List.not_mem_nil) ?_
       obtain ⟨r70, hg71, hM⟩ := bind_t hM
       refine AAny.one (i := 14) (by kernel_rfl) (AOp.callG rfl (on_of rfl rfl rfl rfl) rfl rfl (ltb rfl) rfl rfl rfl (fun _ h => absurd h List.not_mem_nil) (fun _ h => absurd h List.not_mem_nil) (i_PatternOK_ok n ((tk64 + 1) + 1) false [LT.mk 10 0 ⟨#[]⟩ (tk64 + 1) false [LT.mk k10 n10 s10 q10 f10 ks10, LT.mk 10 0 ⟨#[]⟩ tk64 false [LT.mk k10 n10 s10 q10 f10 ks10, LT.mk 9 0 ⟨#[111]⟩ 0 true []]]] 7 0 ⟨#[]⟩ (((tk64 + 1) + 1) + 1) false [LT.mk k53 n53 s53 q53 f53 ks53, LT.mk k53 n53 s53 q53 f53 ks53] hg71 _ _) (callK_retX (fun v tk72 (hle73 : ((((tk64 + 1) + 1) + 1) + 1) ≤ tk72) h74 => ?_)))
       subst h74
       refine AAny.takeG (i := 15) rfl (by kernel_rfl) (by kernel_rfl) (by kernel_rfl) (on_of rfl rfl rfl rfl) rfl (ltb rfl) ((aun_step rfl rfl rfl).rd _) ?_
       refine AAny.take (i := 16) rfl (by kernel_rfl) (by kernel_rfl) (by kernel_rfl) rfl rfl (ltb rfl) ((pick_step rfl rfl rfl).rd _) ?_
       refine AAny.take (i := 17) rfl (by kernel_rfl) (by kernel_rfl) (by kernel_rfl) rfl rfl (ltb rfl) ((move_step (.inr rfl) rfl).rd _) ?_
       refine AAny.done (by kernel_rfl) ?_
       refine run_ret_to ?_
       replace hM := some_t hM
       subst hM
       refine fin_x hG rfl rfl rfl (v' := .bool (!r70)) (by rfl) ⟨rfl, (show tk ≤ tk72 by omega), _, rfl, rfl⟩
      ·replace hM := ite_f (Bool.eq_false_iff.1 hb69) hM
       refine AAny.off (i := 7) rfl (by kernel_rfl) (by kernel_rfl) (by kernel_rfl) (on_of rfl rfl rfl rfl) rfl (ltb rfl) ?_
       refine AAny.off (i := 8) rfl (by kernel_rfl) (by kernel_rfl) (by kernel_rfl) (on_of rfl rfl rfl rfl) rfl (ltb rfl) ?_
       refine AAny.off (i := 9) rfl (by kernel_rfl) (by kernel_rfl) (by kernel_rfl) (on_of rfl rfl rfl rfl) rfl (ltb rfl) ?_
       refine AAny.off (i := 13) rfl (by kernel_rfl) (by kernel_rfl) (by kernel_rfl) (on_of rfl rfl rfl rfl) rfl (ltb rfl) ?_
       refine AAny.off (i := 10) rfl (by kernel_rfl) (by kernel_rfl) (by kernel_rfl) (on_of rfl rfl rfl rfl) rfl (ltb rfl) ?_
       refine AAny.off (i := 11) rfl (by kernel_rfl) (by kernel_rfl) (by kernel_rfl) (on_of rfl rfl rfl rfl) rfl (ltb rfl) ?_
       refine AAny.off (i := 12) rfl (by kernel_rfl) (by kernel_rfl) (by kernel_rfl) (on_of rfl rfl rfl rfl) rfl (ltb rfl) ?_
       refine AAny.off (i := 14) rfl (by kernel_rfl) (by kernel_rfl) (by kernel_rfl) (on_of rfl rfl rfl rfl) rfl (ltb rfl) ?_
       refine AAny.off (i := 15) rfl (by kernel_rfl) (by kernel_rfl) (by kernel_rfl) (on_of rfl rfl rfl rfl) rfl (ltb rfl) ?_
       refine AAny.take (i := 16) rfl (by kernel_rfl) (by kernel_rfl) (by kernel_rfl) rfl rfl (ltb rfl) ((pick_step rfl rfl rfl).rd _) ?_
       refine AAny.take (i := 17) rfl (by kernel_rfl) (by kernel_rfl) (by kernel_rfl) rfl rfl (ltb rfl) ((move_step (.inr rfl) rfl).rd _) ?_
       refine AAny.done (by kernel_rfl) ?_
       refine run_ret_to ?_
       replace hM := some_t hM
       subst hM
       refine fin_x hG rfl rfl rfl (v' := .bool false) (by rfl) ⟨rfl, (show tk ≤ tk64 by omega), _, rfl, rfl⟩
   ·refine AOpN.alloc hG rfl rfl rfl (ltb rfl) rfl rfl rfl ?_
    obtain ⟨r77, hg78, hM⟩ := bind_t hM
    refine AAny.one (i := 1) (by kernel_rfl) (AOp.call rfl rfl rfl rfl (ltb rfl) rfl rfl rfl (fun _ h => absurd h List.not_mem_nil) (fun _ h => absurd h List.not_mem_nil) (w_at_ok q2 f2 l2 0 3 hg78 _ _) (callK_retX (fun v tk79 (hle80 : tk7 ≤ tk79) h81 => ?_)))
    subst h81
    obtain ⟨r84, hg85, hM⟩ := bind_t hM
    refine AAny.one (i := 3) (by kernel_rfl) (AOp.call rfl rfl rfl rfl (ltb rfl) rfl rfl rfl (fun _ h => absurd h List.not_mem_nil) (fun _ h => absurd h List.not_mem_nil) (s_Long_ok n r77 k10 n10 s10 q10 f10 ks10 hg85 _ _) (callK_retX (fun v tk86 (hle87 : tk79 ≤ tk86) h88 => ?_)))
    obtain ⟨ra93, ra94, va95, va96, rfl, rfl, ⟨k89, n89, s89, q89, f89, ks89, rfl, rfl, hf90⟩, rfl⟩ := h88
    refine AAny.take (i := 4) rfl (by kernel_rfl) (by kernel_rfl) (by kernel_rfl) rfl rfl (ltb rfl) ((move_step (.inl rfl) rfl).rd _) ?_
    refine AAny.take (i := 5) rfl (by kernel_rfl) (by kernel_rfl) (by kernel_rfl) rfl rfl (ltb rfl) ((extract_step rfl rfl rfl).rd _) ?_
    refine AAny.take (i := 6) rfl (by kernel_rfl) (by kernel_rfl) (by kernel_rfl) rfl rfl (ltb rfl) ((extract_step rfl rfl rfl).rd _) ?_
    refine AAny.one (i := 8) (by kernel_rfl) (AOp.step0 rfl rfl rfl (store_step hG rfl rfl rfl rfl rfl rfl rfl rfl) (by intro x hx; have hx : x ∈ [ID.loc 6] := hx; simp only [List.mem_cons, List.not_mem_nil, or_false] at hx; subst hx; simp) ?_)
    refine AAny.take (i := 9) rfl (by kernel_rfl) (by kernel_rfl) (by kernel_rfl) rfl rfl (ltb rfl) ((move_step (.inr rfl) rfl).rd _) ?_
    refine AAny.done (by kernel_rfl) ?_
    refine run_sub_code (σ' := ⟨[(4, .bool false), (5, .optr (.loc 5) 0 0), (6, .optr (.loc 6) 0 0), (7, .int .i64 ra94)], [(6, ⟨25, 4, true, [[.int .i64 k89, .int .i64 n89, .str s89, .imm q89 4 f89 (cellss ks89)]]⟩), (5, ⟨25, 4, true, [[.int .i64 k10, .int .i64 n10, .str s10, .imm q10 4 f10 (cellss ks10)]]⟩)], [], O, tk86⟩) (Sub.env _ ⟨rfl, rfl, rfl, rfl, trivial⟩) ?_
    refine run_seq ?_
    refine run_sr ?_
    refine mvL rfl rfl rfl rfl (ltb rfl) ?_
    refine run_bin rfl rfl rfl rfl rfl rfl rfl (ltb rfl) ?_
    refine run_ops_nil ?_
    refine run_ifb rfl rfl (fun hb97 => ?_) (fun hb97 => ?_)
    ·replace hM := ite_t hb97 hM
     refine run_sr ?_
     refine mvR rfl rfl rfl rfl (ltb rfl) ?_
     refine run_ops_nil ?_
     refine run_ret_to ?_
     replace hM := some_t hM
     subst hM
     refine fin_x hG rfl rfl rfl (v' := .bool true) (by rfl) ⟨rfl, (show tk ≤ tk86 by omega), _, rfl, rfl⟩
    ·replace hM := ite_f hb97 hM
     refine run_skip ?_
     refine run_sr ?_
     refine run_pu rfl (build_step hG rfl (by rfl) rfl (fun h => by cases h) (by rfl)) rfl (ltb rfl) ?_
     refine run_op rfl (alloc_step (d := 8) hG rfl rfl rfl) rfl (ltb rfl) ?_
     refine run_op0 rfl (store_step hG rfl rfl rfl rfl rfl rfl rfl rfl) rfl ?_
     refine run_ops_nil ?_
     refine run_sr ?_
     refine run_ld hG rfl rfl rfl rfl rfl (ltb rfl) ?_
     refine run_op rfl (buildSlice_step (d := 32) hG rfl rfl rfl rfl rfl (by rfl) (by rfl) (by rfl) (by decide)) rfl (ltb rfl) ?_
     refine run_pu rfl (build_step hG rfl (by rfl) rfl (fun h => by cases h) (by rfl)) rfl (ltb rfl) ?_
     refine run_op rfl (alloc_step (d := 9) hG rfl rfl rfl) rfl (ltb rfl) ?_
     refine run_op0 rfl (store_step hG rfl rfl rfl rfl rfl rfl rfl rfl) rfl ?_
     refine run_ops_nil ?_
     refine run_sr ?_
     refine run_ld hG rfl rfl rfl rfl rfl (ltb rfl) ?_
     refine run_ld hG rfl rfl rfl rfl rfl (ltb rfl) ?_
     refine run_op rfl (buildSlice_step (d := 36) hG rfl rfl rfl rfl rfl (by rfl) (by rfl) (by rfl) (by decide)) rfl (ltb rfl) ?_
     refine run_pu rfl (build_step hG rfl (by rfl) rfl (fun h => by cases h) (by rfl)) rfl (ltb rfl) ?_
     refine run_op rfl (alloc_step (d := 10) hG rfl rfl rfl) rfl (ltb rfl) ?_
     refine run_op0 rfl (store_step hG rfl rfl rfl rfl rfl rfl rfl rfl) rfl ?_
     refine run_ops_nil ?_
     refine run_sub_code (σ' := ⟨[(4, .bool false), (5, .optr (.loc 5) 0 0), (8, .optr (.loc 8) 0 0), (9, .optr (.loc 9) 0 0), (10, .optr (.loc 10) 0 0)], [(10, ⟨25, 4, true, [[.int .i64 7, .int .i64 0, .str ⟨#[]⟩, .osl (.loc 36)]]⟩), (36, ⟨25, 4, false, cellss [LT.mk k89 n89 s89 q89 f89 ks89, LT.mk k89 n89 s89 q89 f89 ks89]⟩), (9, ⟨25, 4, true, [[.int .i64 7, .int .i64 0, .str ⟨#[]⟩, .osl (.loc 32)]]⟩), (32, ⟨25, 4, false, cellss [LT.mk k89 n89 s89 q89 f89 ks89]⟩), (8, ⟨25, 4, true, [[.int .i64 9, .int .i64 0, .str ⟨#[111]⟩, .imm 0 4 true []]]⟩), (5, ⟨25, 4, true, [[.int .i64 k10, .int .i64 n10, .str s10, .imm q10 4 f10 (cellss ks10)]]⟩)], [], O, tk86⟩) (Sub.trans (Sub.drop (k := 6) rfl) (Sub.env _ ⟨rfl, rfl, rfl, rfl, rfl, trivial⟩)) ?_
     refine run_seq ?_
     refine run_draw [] (n := 18) mixed rfl (fun _ h => absurd h List.not_mem_nil) ?_
     refine AAny.take (i := 0) rfl (by kernel_rfl) (by kernel_rfl) (by kernel_rfl) rfl rfl (ltb rfl) (aload_rd hG rfl rfl rfl (by first | (simp [ldok]; done) | exact List.not_mem_nil | trivial)) ?_
     refine AAny.take (i := 1) rfl (by kernel_rfl) (by kernel_rfl) (by kernel_rfl) rfl rfl (ltb rfl) (aload_rd hG rfl rfl rfl (by first | (simp [ldok]; done) | exact List.not_mem_nil | trivial)) ?_
     refine AAny.take (i := 4) rfl (by kernel_rfl) (by kernel_rfl) (by kernel_rfl) rfl rfl (ltb rfl) (aload_rd hG rfl rfl rfl (by first | (simp [ldok]; done) | exact List.not_mem_nil | trivial)) ?_
     refine AAny.one (i := 2) (by kernel_rfl) (AOp.call rfl rfl rfl rfl (ltb rfl) rfl rfl rfl (fun _ h => absurd h List.not_mem_nil) (fun _ h => absurd h List.not_mem_nil) (ACalls.args (args' := [.agg [.int .i64 k10, .int .i64 n10, .str s10, .imm q10 4 f10 (cellss ks10)], .agg [.int .i64 9, .int .i64 0, .str ⟨#[111]⟩, .imm 0 4 true (cellss [])]]) rfl (w_arrow_ex k10 n10 s10 q10 f10 ks10 9 0 ⟨#[111]⟩ 0 true [] _ _)) (callK_retN ?_))
     skip
     refine AAny.one (i := 3) (by kernel_rfl) (AOp.step rfl rfl rfl (ltb rfl) (buildSlice_step (d := 41) hG rfl rfl rfl rfl rfl (by rfl) (by rfl) (by rfl) (by decide)) (fun _ h => absurd h List.not_mem_nil) ?_)
     refine AAny.sub (Sub.freeze (k := 41) rfl rfl) (fun _ h => absurd h List.not_mem_nil) ?_
     refine AAny.sub (Sub.freeze (k := 32) rfl rfl) (fun _ h => absurd h List.not_mem_nil) ?_
     obtain ⟨r98, hg99, hM⟩ := bind_t hM
     refine AAny.one (i := 5) (by kernel_rfl) (AOp.call rfl rfl rfl rfl (ltb rfl) rfl rfl rfl (fun _ h => absurd h List.not_mem_nil) (fun _ h => absurd h List.not_mem_nil) (i_PatternOK_ok n (tk86 + 1) false [LT.mk 10 0 ⟨#[]⟩ tk86 false [LT.mk k10 n10 s10 q10 f10 ks10, LT.mk 9 0 ⟨#[111]⟩ 0 true []]] 7 0 ⟨#[]⟩ ((tk86 + 1) + 1) false [LT.mk k89 n89 s89 q89 f89 ks89] hg99 _ _) (callK_retX (fun v tk100 (hle101 : (((tk86 + 1) + 1) + 1) ≤ tk100) h102 => ?_)))
     subst h102
     refine AAny.take (i := 6) rfl (by kernel_rfl) (by kernel_rfl) (by kernel_rfl) rfl rfl (ltb rfl) ((move_step (.inl rfl) rfl).rd _) ?_
     refine AAny.split (i := 44) rfl (fun _ h => absurd h List.not_mem_nil) (fun hb105 => ?_) (fun hb105 => ?_)
     ·replace hM := ite_t hb105 hM
      refine AAny.takeG (i := 7) rfl (by kernel_rfl) (by kernel_rfl) (by kernel_rfl) (on_of rfl rfl rfl rfl) rfl (ltb rfl) (aload_rd hG rfl rfl rfl (by first | (simp [ldok]; done) | exact List.not_mem_nil | trivial)) ?_
      refine AAny.takeG (i := 8) rfl (by kernel_rfl) (by kernel_rfl) (by kernel_rfl) (on_of rfl rfl rfl rfl) rfl (ltb rfl) (aload_rd hG rfl rfl rfl (by first | (simp [ldok]; done) | exact List.not_mem_nil | trivial)) ?_
      refine AAny.takeG (i := 9) rfl (by kernel_rfl) (by kernel_rfl) (by kernel_rfl) (on_of rfl rfl rfl rfl) rfl (ltb rfl) (aload_rd hG rfl rfl rfl (by first | (simp [ldok]; done) | exact List.not_mem_nil | trivial)) ?_
      refine AAny.takeG (i := 13) rfl (by kernel_rfl) (by kernel_rfl) (by kernel_rfl) (on_of rfl rfl rfl rfl) rfl (ltb rfl) (aload_rd hG rfl rfl rfl (by first | (simp [ldok]; done) | exact List.not_mem_nil | trivial)) ?_
      refine AAny.one (i := 10) (by kernel_rfl) (AOp.callG rfl (on_of rfl rfl rfl rfl) rfl rfl (ltb rfl) rfl rfl rfl (fun _ h => absurd h List.not_mem_nil) (fun _ h => absurd h List.not_mem_nil) (ACalls.args (args' := [.agg [.int .i64 k10, .int .i64 n10, .str s10, .imm q10 4 f10 (cellss ks10)], .agg [.int .i64 9, .int .i64 0, .str ⟨#[111]⟩, .imm 0 4 true (cellss [])]]) rfl (w_arrow_ex k10 n10 s10 q10 f10 ks10 9 0 ⟨#[111]⟩ 0 true [] _ _)) (callK_retN ?_))
      skip
      refine AAny.one (i := 11) (by kernel_rfl) (AOp.callG rfl (on_of rfl rfl rfl rfl) rfl rfl (ltb rfl) rfl rfl rfl (fun _ h => absurd h List.not_mem_nil) (fun _ h => absurd h List.not_mem_nil) (w_arrow_ex k10 n10 s10 q10 f10 ks10 10 0 ⟨#[]⟩ tk100 false [LT.mk k10 n10 s10 q10 f10 ks10, LT.mk 9 0 ⟨#[111]⟩ 0 true []] _ _) (callK_retN ?_))
      skip
      refine AAny.one (i := 12) (by kernel_rfl) (AOp.stepG rfl (on_of rfl rfl rfl rfl) rfl (ltb rfl) (buildSlice_step (d := 50) hG rfl rfl rfl rfl rfl (by rfl) (by rfl) (by rfl) (by decide)) (fun _ h => absurd h List.not_mem_nil) ?_)
      refine AAny.sub (σ' := ⟨[(4, .bool false), (5, .optr (.loc 5) 0 0), (8, .optr (.loc 8) 0 0), (9, .optr (.loc 9) 0 0), (10, .optr (.loc 10) 0 0), (38, .agg [.int .i64 k10, .int .i64 n10, .str s10, .imm q10 4 f10 (cellss ks10)]), (39, .agg [.int .i64 9, .int .i64 0, .str ⟨#[111]⟩, .imm 0 4 true []]), (42, .agg [.int .i64 7, .int .i64 0, .str ⟨#[]⟩, .imm ((tk86 + 1) + 1) 4 false (cellss [LT.mk k89 n89 s89 q89 f89 ks89])]), (40, .agg [.int .i64 10, .int .i64 0, .str ⟨#[]⟩, .imm tk86 4 false (cellss [LT.mk k10 n10 s10 q10 f10 ks10, LT.mk 9 0 ⟨#[111]⟩ 0 true []])]), (41, .imm (tk86 + 1) 4 false (cellss [LT.mk 10 0 ⟨#[]⟩ tk86 false [LT.mk k10 n10 s10 q10 f10 ks10, LT.mk 9 0 ⟨#[111]⟩ 0 true []]])), (43, .bool r98), (44, .bool true), (45, .agg [.int .i64 k10, .int .i64 n10, .str s10, .imm q10 4 f10 (cellss ks10)]), (46, .agg [.int .i64 k10, .int .i64 n10, .str s10, .imm q10 4 f10 (cellss ks10)]), (47, .agg [.int .i64 9, .int .i64 0, .str ⟨#[111]⟩, .imm 0 4 true []]), (51, .agg [.int .i64 7, .int .i64 0, .str ⟨#[]⟩, .osl (.loc 36)]), (48, .agg [.int .i64 10, .int .i64 0, .str ⟨#[]⟩, .imm tk100 4 false (cellss [LT.mk k10 n10 s10 q10 f10 ks10, LT.mk 9 0 ⟨#[111]⟩ 0 true []])]), (49, .agg [.int .i64 10, .int .i64 0, .str ⟨#[]⟩, .imm (tk100 + 1) 4 false (cellss [LT.mk k10 n10 s10 q10 f10 ks10, LT.mk 10 0 ⟨#[]⟩ tk100 false [LT.mk k10 n10 s10 q10 f10 ks10, LT.mk 9 0 ⟨#[111]⟩ 0 true []]])]), (50, .osl (.loc 50))], [(50, ⟨25, 4, false, cellss [LT.mk 10 0 ⟨#[]⟩ (tk100 + 1) false [LT.mk k10 n10 s10 q10 f10 ks10, LT.mk 10 0 ⟨#[]⟩ tk100 false [LT.mk k10 n10 s10 q10 f10 ks10, LT.mk 9 0 ⟨#[111]⟩ 0 true []]]]⟩), (10, ⟨25, 4, true, [[.int .i64 7, .int .i64 0, .str ⟨#[]⟩, .osl (.loc 36)]]⟩), (36, ⟨25, 4, false, cellss [LT.mk k89 n89 s89 q89 f89 ks89, LT.mk k89 n89 s89 q89 f89 ks89]⟩), (9, ⟨25, 4, true, [[.int .i64 7, .int .i64 0, .str ⟨#[]⟩, .imm ((tk86 + 1) + 1) 4 false (cellss [LT.mk k89 n89 s89 q89 f89 ks89])]]⟩), (8, ⟨25, 4, true, [[.int .i64 9, .int .i64 0, .str ⟨#[111]⟩, .imm 0 4 true []]]⟩), (5, ⟨25, 4, true, [[.int .i64 k10, .int .i64 n10, .str s10, .imm q10 4 f10 (cellss ks10)]]⟩)], [], O, ((tk100 + 1) + 1)⟩) (Sub.env _ ⟨rfl, rfl, rfl, rfl, rfl, rfl, rfl, rfl, rfl, rfl, rfl, rfl, rfl, rfl, rfl, rfl, rfl, rfl, rfl, trivial⟩) (fun _ h => absurd h List.not_mem_nil) ?_
      refine AAny.sub (Sub.freeze (k := 50) rfl rfl) (fun _ h => absurd h List.not_mem_nil) ?_
      refine AAny.sub (Sub.freeze (k := 36) rfl rfl) (fun _ h => absurd h List.not_mem_nil) ?_
      obtain ⟨r106, hg107, hM⟩ := bind_t hM
      refine AAny.one (i := 14) (by kernel_rfl) (AOp.callG rfl (on_of rfl rfl rfl rfl) rfl rfl (ltb rfl) rfl rfl rfl (fun _ h => absurd h List.not_mem_nil) (fun _ h => absurd h List.not_mem_nil) (i_PatternOK_ok n ((tk100 + 1) + 1) false [LT.mk 10 0 ⟨#[]⟩ (tk100 + 1) false [LT.mk k10 n10 s10 q10 f10 ks10, LT.mk 10 0 ⟨#[]⟩ tk100 false [LT.mk k10 n10 s10 q10 f10 ks10, LT.mk 9 0 ⟨#[111]⟩ 0 true []]]] 7 0 ⟨#[]⟩ (((tk100 + 1) + 1) + 1) false [LT.mk k89 n89 s89 q89 f89 ks89, LT.mk k89 n89 s89 q89 f89 ks89] hg107 _ _) (callK_retX (fun v tk108 (hle109 : ((((tk100 + 1) + 1) + 1) + 1) ≤ tk108) h110 => ?_)))
      subst h110
      refine AAny.takeG (i := 15) rfl (by kernel_rfl) (by kernel_rfl) (by kernel_rfl) (on_of rfl rfl rfl rfl) rfl (ltb rfl) ((aun_step rfl rfl rfl).rd _) ?_
      refine AAny.take (i := 16) rfl (by kernel_rfl) (by kernel_rfl) (by kernel_rfl) rfl rfl (ltb rfl) ((pick_step rfl rfl rfl).rd _) ?_
      refine AAny.take (i := 17) rfl (by kernel_rfl) (by kernel_rfl) (by kernel_rfl) rfl rfl (ltb rfl) ((move_step (.inr rfl) rfl).rd _) ?_
      refine AAny.done (by kernel_rfl) ?_
      refine run_ret_to ?_
      replace hM := some_t hM
      subst hM
      refine fin_x hG rfl rfl rfl (v' := .bool (!r106)) (by rfl) ⟨rfl, (show tk ≤ tk108 by omega), _, rfl, rfl⟩
     ·replace hM := ite_f (Bool.eq_false_iff.1 hb105) hM
      refine AAny.off (i := 7) rfl (by kernel_rfl) (by kernel_rfl) (by kernel_rfl) (on_of rfl rfl rfl rfl) rfl (ltb rfl) ?_
      refine AAny.off (i := 8) rfl (by kernel_rfl) (by kernel_rfl) (by kernel_rfl) (on_of rfl rfl rfl rfl) rfl (ltb rfl) ?_
      refine AAny.off (i := 9) rfl (by kernel_rfl) (by kernel_rfl) (by kernel_rfl) (on_of rfl rfl rfl rfl) rfl (ltb rfl) ?_
      refine AAny.off (i := 13) rfl (by kernel_rfl) (by kernel_rfl) (by kernel_rfl) (on_of rfl rfl rfl rfl) rfl (ltb rfl) ?_
      refine AAny.off (i := 10) rfl (by kernel_rfl) (by kernel_rfl) (by kernel_rfl) (on_of rfl rfl rfl rfl) rfl (ltb rfl) ?_
      refine AAny.off (i := 11) rfl (by kernel_rfl) (by kernel_rfl) (by kernel_rfl) (on_of rfl rfl rfl rfl) rfl (ltb rfl) ?_
      refine AAny.off (i := 12) rfl (by kernel_rfl) (by kernel_rfl) (by kernel_rfl) (on_of rfl rfl rfl rfl) rfl (ltb rfl) ?_
      refine AAny.off (i := 14) rfl (by kernel_rfl) (by kernel_rfl) (by kernel_rfl) (on_of rfl rfl rfl rfl) rfl (ltb rfl) ?_
      refine AAny.off (i := 15) rfl (by kernel_rfl) (by kernel_rfl) (by kernel_rfl) (on_of rfl rfl rfl rfl) rfl (ltb rfl) ?_
      refine AAny.take (i := 16) rfl (by kernel_rfl) (by kernel_rfl) (by kernel_rfl) rfl rfl (ltb rfl) ((pick_step rfl rfl rfl).rd _) ?_
      refine AAny.take (i := 17) rfl (by kernel_rfl) (by kernel_rfl) (by kernel_rfl) rfl rfl (ltb rfl) ((move_step (.inr rfl) rfl).rd _) ?_
      refine AAny.done (by kernel_rfl) ?_
      refine run_ret_to ?_
      replace hM := some_t hM
      subst hM
      refine fin_x hG rfl rfl rfl (v' := .bool false) (by rfl) ⟨rfl, (show tk ≤ tk100 by omega), _, rfl, rfl⟩

end Go.Am.YtaedacibojpfkaaDoor
