/- Printed by a program of ours: Lean functions that do what the Go functions do, and the contracts. -/
import Derived.Test.YtiobknkpdkkikabDoorMl0
import Derived.Test.YtiobknkpdkkikabDoorMb1
import Derived.Test.YtiobknkpdkkikabDoorMb3
import Derived.Test.YtiobknkpdkkikabDoorTypes
import Derived.Test.YtiobknkpdkkikabDoorMi4
import Derived.Test.YtiobknkpdkkikabDoorMc1
import Derived.Test.YtiobknkpdkkikabDoorEkPut
-- packed
namespace Go.Am.YtiobknkpdkkikabDoor
open Go Go.Am

def g_Max_X_L1 (l1 : List Int) : Nat → Int → Int → Option Int
 | 0, _, _ => none
 | m + 1, i8, i9 =>
  if i9 < ((l1).length : Int) then
   (idx l1 i9).bind fun y11 =>
   g_Max_X_L1 l1 m (imax i8 y11) (IntKind.i64.wrap (i9 + 1))
  else
   some i8

def g_Max_X (n : Nat) (l1 : List Int) : Option Int :=
 if ((l1).length : Int) < 1 then
  none
 else
  (idx l1 0).bind fun y3 =>
  g_Max_X_L1 l1 n y3 1

set_option maxRecDepth 100000 in
theorem g_Max_X_ok (n : Nat) : ∀ (q1 : Nat) (f1 : Bool) (l1 : List Int) {r : Int}, g_Max_X n l1 = some r → ∀ (O : Heap) (tk : Nat), ACalls Go.Proofs.Tryd.prog 42 [.imm q1 1 f1 ((l1 : List Int).map fun n => [AV.int .i64 n])] O tk (RetX O tk (fun v tk' => v = .int .i64 r)) := by
 intro q1 f1 l1 r hM O tk
 unfold g_Max_X at hM
 refine acalls_of_run Go.Proofs.Tryd.func42 rfl rfl [] [] (Bor.nil _) [(0, .imm q1 1 f1 ((l1 : List Int).map fun n => [AV.int .i64 n]))] (.cons (entS rfl) (.nil _)) (leb rfl) (fun _ h => by cases h) (fun S0 hO htk hfz => ?_)
 refine run_sr ?_
 refine mvR rfl rfl rfl rfl (ltb rfl) ?_
 refine run_ops_nil ?_
 refine run_seq ?_
 refine run_sr ?_
 refine mvL rfl rfl rfl rfl (ltb rfl) ?_
 refine run_pu rfl (lenImm_step hG rfl rfl rfl rfl (ilen _)) rfl (ltb rfl) ?_
 refine run_bin rfl rfl rfl rfl rfl rfl rfl (ltb rfl) ?_
 refine run_ops_nil ?_
 refine run_ifd rfl rfl (fun hb2 => ?_) (fun hb2 => ?_)
 ·replace hM := ite_t hb2 hM
  refine run_region ?_
  cases hM
 ·replace hM := ite_f hb2 hM
  refine run_skip ?_
  refine run_sr ?_
  refine mvL rfl rfl rfl rfl (ltb rfl) ?_
  obtain ⟨y3, hy4, hM⟩ := bind_t hM
  obtain ⟨hc6, hi7⟩ := iidx (k := .i64) hy4
  refine run_pu rfl (indexImm_step hG rfl rfl rfl hi7 rfl rfl rfl rfl hc6) rfl (ltb rfl) ?_
  refine run_ld hG rfl rfl rfl rfl rfl (ltb rfl) ?_
  refine mvR rfl rfl rfl rfl (ltb rfl) ?_
  refine run_ops_nil ?_
  refine run_seq ?_
  refine run_sr ?_
  refine mvR rfl rfl rfl rfl (ltb rfl) ?_
  refine run_ops_nil ?_
  refine run_block ?_
  refine run_rounds (fun m σ => ∃ (i8 : Int) (i9 : Int) (tkg_Max_X_L1 : Nat), tk ≤ tkg_Max_X_L1 ∧ g_Max_X_L1 l1 m i8 i9 = some r ∧ σ = ⟨[(0, .imm q1 1 f1 ((l1 : List Int).map fun n => [AV.int .i64 n])), (2, .int .i64 0), (3, .int .i64 i8), (4, .int .i64 i9)], [], [], O, tkg_Max_X_L1⟩) n (Sub.env [(0, .imm q1 1 f1 ((l1 : List Int).map fun n => [AV.int .i64 n])), (2, .int .i64 0), (3, .int .i64 y3), (4, .int .i64 1)] ⟨rfl, rfl, rfl, rfl, trivial⟩) ⟨y3, 1, tk, Nat.le_refl _, hM, rfl⟩ (fun m σ hI => ?_)
  clear hM
  obtain ⟨i8, i9, tkg_Max_X_L1, hle16, hM, rfl⟩ := hI
  obtain _ | m := m
  ·exact absurd hM (by rw [g_Max_X_L1]; exact fun h => by cases h)
  rw [g_Max_X_L1] at hM
  refine run_seq ?_
  refine run_sr ?_
  refine mvL rfl rfl rfl rfl (ltb rfl) ?_
  refine mvL rfl rfl rfl rfl (ltb rfl) ?_
  refine run_pu rfl (lenImm_step hG rfl rfl rfl rfl (ilen _)) rfl (ltb rfl) ?_
  refine run_bin rfl rfl rfl rfl rfl rfl rfl (ltb rfl) ?_
  refine run_ops_nil ?_
  refine run_ifd rfl rfl (fun hb10 => ?_) (fun hb10 => ?_)
  ·replace hM := ite_t hb10 hM
   refine run_skip ?_
   refine run_seq ?_
   refine run_block ?_
   refine run_region ?_
   refine mvL rfl rfl rfl rfl (ltb rfl) ?_
   refine mvL rfl rfl rfl rfl (ltb rfl) ?_
   refine mvL rfl rfl rfl rfl (ltb rfl) ?_
   obtain ⟨y11, hy12, hM⟩ := bind_t hM
   obtain ⟨hc14, hi15⟩ := iidx (k := .i64) hy12
   refine run_pu rfl (indexImm_step hG rfl rfl rfl hi15 rfl rfl rfl rfl hc14) rfl (ltb rfl) ?_
   refine run_ld hG rfl rfl rfl rfl rfl (ltb rfl) ?_
   refine run_pu rfl (max_step rfl rfl rfl) rfl (ltb rfl) ?_
   refine mvR rfl rfl rfl rfl (ltb rfl) ?_
   refine run_ops_nil ?_
   refine run_blk ?_
   refine run_region ?_
   refine mvL rfl rfl rfl rfl (ltb rfl) ?_
   refine run_bin rfl rfl rfl rfl rfl rfl rfl (ltb rfl) ?_
   refine mvR rfl rfl rfl rfl (ltb rfl) ?_
   refine run_ops_nil ?_
   exact run_loop_end ⟨m, _, Nat.lt_succ_self _, ⟨(imax i8 y11), (IntKind.i64.wrap (i9 + 1)), tkg_Max_X_L1, (show tk ≤ tkg_Max_X_L1 by omega), hM, rfl⟩, Sub.env [(0, .imm q1 1 f1 ((l1 : List Int).map fun n => [AV.int .i64 n])), (2, .int .i64 0), (3, .int .i64 (imax i8 y11)), (4, .int .i64 (IntKind.i64.wrap (i9 + 1)))] ⟨rfl, rfl, rfl, rfl, trivial⟩⟩
  ·replace hM := ite_f hb10 hM
   refine run_exit_to rfl ?_
   refine run_sr ?_
   refine mvL rfl rfl rfl rfl (ltb rfl) ?_
   refine mvR rfl rfl rfl rfl (ltb rfl) ?_
   refine run_ops_nil ?_
   refine run_ret_to ?_
   obtain rfl := some_t hM
   refine fin_x hG rfl rfl rfl (v' := .int .i64 i8) (by rfl) ⟨rfl, (show tk ≤ tkg_Max_X_L1 by omega), _, rfl, rfl⟩

def i_longLists (n : Nat) (l1 : List Int) : Option Bool :=
 (g_Max_X n l1).bind fun r2 =>
 some (decide (r2 > 4096))

set_option maxRecDepth 100000 in
theorem i_longLists_ok (n : Nat) : ∀ (q1 : Nat) (f1 : Bool) (l1 : List Int) {r : Bool}, i_longLists n l1 = some r → ∀ (O : Heap) (tk : Nat), ACalls Go.Proofs.Tryd.prog 22 [.imm q1 1 f1 ((l1 : List Int).map fun n => [AV.int .i64 n])] O tk (RetX O tk (fun v tk' => v = .bool r)) := by
 intro q1 f1 l1 r hM O tk
 unfold i_longLists at hM
 refine acalls_of_run Go.Proofs.Tryd.func22 rfl rfl [] [] (Bor.nil _) [(0, .imm q1 1 f1 ((l1 : List Int).map fun n => [AV.int .i64 n]))] (.cons (entS rfl) (.nil _)) (leb rfl) (fun _ h => by cases h) (fun S0 hO htk hfz => ?_)
 refine run_sr ?_
 refine mvR rfl rfl rfl rfl (ltb rfl) ?_
 refine run_ops_nil ?_
 refine run_sr ?_
 refine mvL rfl rfl rfl rfl (ltb rfl) ?_
 obtain ⟨r2, hg3, hM⟩ := bind_t hM
 refine run_call rfl rfl rfl (ltb rfl) rfl rfl rfl (fun _ h => absurd h List.not_mem_nil) (g_Max_X_ok n q1 f1 l1 hg3 _ _) (callK_retX (fun v tk4 (hle5 : tk ≤ tk4) h6 => ?_))
 subst h6
 refine run_bin rfl rfl rfl rfl rfl rfl rfl (ltb rfl) ?_
 refine mvR rfl rfl rfl rfl (ltb rfl) ?_
 refine run_ops_nil ?_
 refine run_ret_to ?_
 obtain rfl := some_t hM
 refine fin_x hG rfl rfl rfl (v' := .bool (decide (r2 > 4096))) (by rfl) ⟨rfl, (show tk ≤ tk4 by omega), _, rfl, rfl⟩

def i_badTerm (n : Nat) (x1 : T) : Option Bool :=
 (i_TermOK n x1).bind fun r2 =>
 some (!r2)

set_option maxRecDepth 100000 in
theorem i_badTerm_ok (n : Nat) : ∀ (k1 : Int) (n1 : Int) (s1 : ByteArray) (q1 : Nat) (f1 : Bool) (ks1 : List LT) {r : Bool}, i_badTerm n (T.mk k1 n1 s1 (ers ks1)) = some r → ∀ (O : Heap) (tk : Nat), ACalls Go.Proofs.Tryd.prog 23 [.agg [.int .i64 k1, .int .i64 n1, .str s1, .imm q1 4 f1 (cellss ks1)]] O tk (RetX O tk (fun v tk' => v = .bool r)) := by
 intro k1 n1 s1 q1 f1 ks1 r hM O tk
 unfold i_badTerm at hM
 refine acalls_of_run Go.Proofs.Tryd.func23 rfl rfl [] [] (Bor.nil _) [(0, .agg [.int .i64 k1, .int .i64 n1, .str s1, .imm q1 4 f1 (cellss ks1)])] (.cons (.agg _) (.nil _)) (leb rfl) (fun _ h => by cases h) (fun S0 hO htk hfz => ?_)
 refine run_sr ?_
 refine run_op rfl (box_step (d := 1) rfl rfl rfl rfl rfl) rfl (ltb rfl) ?_
 refine mvR rfl rfl rfl rfl (ltb rfl) ?_
 refine run_ops_nil ?_
 refine run_sr ?_
 refine run_ld hG rfl rfl rfl rfl rfl (ltb rfl) ?_
 obtain ⟨r2, hg3, hM⟩ := bind_t hM
 refine run_call rfl rfl rfl (ltb rfl) rfl rfl rfl (fun _ h => absurd h List.not_mem_nil) (i_TermOK_ok n k1 n1 s1 q1 f1 ks1 hg3 _ _) (callK_retX (fun v tk4 (hle5 : tk ≤ tk4) h6 => ?_))
 subst h6
 refine run_pu rfl (aun_step rfl rfl rfl) rfl (ltb rfl) ?_
 refine mvR rfl rfl rfl rfl (ltb rfl) ?_
 refine run_ops_nil ?_
 refine run_ret_to ?_
 obtain rfl := some_t hM
 refine fin_x hG rfl rfl rfl (v' := .bool (!r2)) (by rfl) ⟨rfl, (show tk ≤ tk4 by omega), _, rfl, rfl⟩

def i_badSimple (n : Nat) (x1 : T) : Option Bool :=
 (i_SimpleOK n x1).bind fun r2 =>
 some (!r2)

set_option maxRecDepth 100000 in
theorem i_badSimple_ok (n : Nat) : ∀ (k1 : Int) (n1 : Int) (s1 : ByteArray) (q1 : Nat) (f1 : Bool) (ks1 : List LT) {r : Bool}, i_badSimple n (T.mk k1 n1 s1 (ers ks1)) = some r → ∀ (O : Heap) (tk : Nat), ACalls Go.Proofs.Tryd.prog 24 [.agg [.int .i64 k1, .int .i64 n1, .str s1, .imm q1 4 f1 (cellss ks1)]] O tk (RetX O tk (fun v tk' => v = .bool r)) := by
 intro k1 n1 s1 q1 f1 ks1 r hM O tk
 unfold i_badSimple at hM
 refine acalls_of_run Go.Proofs.Tryd.func24 rfl rfl [] [] (Bor.nil _) [(0, .agg [.int .i64 k1, .int .i64 n1, .str s1, .imm q1 4 f1 (cellss ks1)])] (.cons (.agg _) (.nil _)) (leb rfl) (fun _ h => by cases h) (fun S0 hO htk hfz => ?_)
 refine run_sr ?_
 refine run_op rfl (box_step (d := 1) rfl rfl rfl rfl rfl) rfl (ltb rfl) ?_
 refine mvR rfl rfl rfl rfl (ltb rfl) ?_
 refine run_ops_nil ?_
 refine run_sr ?_
 refine run_ld hG rfl rfl rfl rfl rfl (ltb rfl) ?_
 obtain ⟨r2, hg3, hM⟩ := bind_t hM
 refine run_call rfl rfl rfl (ltb rfl) rfl rfl rfl (fun _ h => absurd h List.not_mem_nil) (i_SimpleOK_ok n k1 n1 s1 q1 f1 ks1 hg3 _ _) (callK_retX (fun v tk4 (hle5 : tk ≤ tk4) h6 => ?_))
 subst h6
 refine run_pu rfl (aun_step rfl rfl rfl) rfl (ltb rfl) ?_
 refine mvR rfl rfl rfl rfl (ltb rfl) ?_
 refine run_ops_nil ?_
 refine run_ret_to ?_
 obtain rfl := some_t hM
 refine fin_x hG rfl rfl rfl (v' := .bool (!r2)) (by rfl) ⟨rfl, (show tk ≤ tk4 by omega), _, rfl, rfl⟩

def g_IndexFunc_Tree__fn_i_badTerm_L1 (n : Nat) (l1 : List T) : Nat → Int → Option Int
 | 0, _ => none
 | m + 1, i2 =>
  if i2 < ((l1).length : Int) then
   (idx l1 i2).bind fun y4 =>
   (i_badTerm n y4).bind fun r9 =>
   if r9 = true then
    some i2
   else
    g_IndexFunc_Tree__fn_i_badTerm_L1 n l1 m (IntKind.i64.wrap (i2 + 1))
  else
   some (-1)

def g_IndexFunc_Tree__fn_i_badTerm (n : Nat) (l1 : List T) : Option Int :=
 g_IndexFunc_Tree__fn_i_badTerm_L1 n l1 n 0

set_option maxRecDepth 100000 in
theorem g_IndexFunc_Tree__fn_i_badTerm_ok (n : Nat) : ∀ (q1 : Nat) (f1 : Bool) (ks1 : List LT) {r : Int}, g_IndexFunc_Tree__fn_i_badTerm n (ers ks1) = some r → ∀ (O : Heap) (tk : Nat), ACalls Go.Proofs.Tryd.prog 43 [.imm q1 4 f1 (cellss ks1), .fn (.func 23) [] []] O tk (RetX O tk (fun v tk' => v = .int .i64 r)) := by
 intro q1 f1 ks1 r hM O tk
 unfold g_IndexFunc_Tree__fn_i_badTerm at hM
 refine acalls_of_run Go.Proofs.Tryd.func43 rfl rfl [] [] (Bor.nil _) [(0, .imm q1 4 f1 (cellss ks1)), (1, .fn (.func 23) [] [])] (.cons (entS rfl) (.cons (entS rfl) (.nil _))) (leb rfl) (fun _ h => by cases h) (fun S0 hO htk hfz => ?_)
 refine run_sr ?_
 refine mvR rfl rfl rfl rfl (ltb rfl) ?_
 refine run_ops_nil ?_
 refine run_seq ?_
 refine run_sr ?_
 refine mvL rfl rfl rfl rfl (ltb rfl) ?_
 refine run_pu rfl (lenImm_step hG rfl rfl rfl rfl (tlen _)) rfl (ltb rfl) ?_
 refine mvL rfl rfl rfl rfl (ltb rfl) ?_
 refine run_ops_nil ?_
 refine run_block ?_
 refine run_rounds (fun m σ => ∃ (i2 : Int) (tkg_IndexFunc_Tree__fn_i_badTerm_L1 : Nat), tk ≤ tkg_IndexFunc_Tree__fn_i_badTerm_L1 ∧ g_IndexFunc_Tree__fn_i_badTerm_L1 n (ers ks1) m i2 = some r ∧ σ = ⟨[(0, .imm q1 4 f1 (cellss ks1)), (1, .fn (.func 23) [] []), (4, .int .i64 0), (7, .int .i64 (((ers ks1)).length : Int)), (8, .int .i64 i2)], [], [], O, tkg_IndexFunc_Tree__fn_i_badTerm_L1⟩) n (Sub.env [(0, .imm q1 4 f1 (cellss ks1)), (1, .fn (.func 23) [] []), (4, .int .i64 0), (7, .int .i64 (((ers ks1)).length : Int)), (8, .int .i64 0)] ⟨rfl, rfl, rfl, rfl, rfl, trivial⟩) ⟨0, tk, Nat.le_refl _, hM, rfl⟩ (fun m σ hI => ?_)
 clear hM
 obtain ⟨i2, tkg_IndexFunc_Tree__fn_i_badTerm_L1, hle17, hM, rfl⟩ := hI
 obtain _ | m := m
 ·exact absurd hM (by rw [g_IndexFunc_Tree__fn_i_badTerm_L1]; exact fun h => by cases h)
 rw [g_IndexFunc_Tree__fn_i_badTerm_L1] at hM
 refine run_sr ?_
 refine run_bin rfl rfl rfl rfl rfl rfl rfl (ltb rfl) ?_
 refine run_ops_nil ?_
 refine run_seq ?_
 refine run_ifd rfl rfl (fun hb3 => ?_) (fun hb3 => ?_)
 ·replace hM := ite_t hb3 hM
  refine run_skip ?_
  refine run_seq ?_
  refine run_block ?_
  refine run_sr ?_
  refine mvL rfl rfl rfl rfl (ltb rfl) ?_
  refine mvR rfl rfl rfl rfl (ltb rfl) ?_
  refine run_ops_nil ?_
  refine run_sr ?_
  refine mvL rfl rfl rfl rfl (ltb rfl) ?_
  refine mvL rfl rfl rfl rfl (ltb rfl) ?_
  refine mvL rfl rfl rfl rfl (ltb rfl) ?_
  obtain ⟨y4, hy5, hM⟩ := bind_t hM
  obtain ⟨k6, n6, s6, q6, f6, ks6, rfl, hc7, hi8⟩ := tidx (ks := ks1) hy5
  refine run_pu rfl (indexImm_step hG rfl rfl rfl hi8 rfl rfl rfl rfl hc7) rfl (ltb rfl) ?_
  refine run_ld hG rfl rfl rfl rfl rfl (ltb rfl) ?_
  obtain ⟨r9, hg10, hM⟩ := bind_t hM
  refine run_call rfl rfl rfl (ltb rfl) rfl rfl rfl (fun _ h => absurd h List.not_mem_nil) (i_badTerm_ok n k6 n6 s6 q6 f6 ks6 hg10 _ _) (callK_retX (fun v tk11 (hle12 : tkg_IndexFunc_Tree__fn_i_badTerm_L1 ≤ tk11) h13 => ?_))
  subst h13
  refine run_ops_nil ?_
  refine run_ifb rfl rfl (fun hb16 => ?_) (fun hb16 => ?_)
  ·replace hM := ite_t hb16 hM
   refine run_sr ?_
   refine mvL rfl rfl rfl rfl (ltb rfl) ?_
   refine mvR rfl rfl rfl rfl (ltb rfl) ?_
   refine run_ops_nil ?_
   refine run_ret_to ?_
   obtain rfl := some_t hM
   refine fin_x hG rfl rfl rfl (v' := .int .i64 i2) (by rfl) ⟨rfl, (show tk ≤ tk11 by omega), _, rfl, rfl⟩
  ·replace hM := ite_f hb16 hM
   refine run_skip ?_
   refine run_blk ?_
   refine run_region ?_
   refine run_bin rfl rfl rfl rfl rfl rfl rfl (ltb rfl) ?_
   refine mvL rfl rfl rfl rfl (ltb rfl) ?_
   refine run_ops_nil ?_
   exact run_loop_end ⟨m, _, Nat.lt_succ_self _, ⟨(IntKind.i64.wrap (i2 + 1)), tk11, (show tk ≤ tk11 by omega), hM, rfl⟩, Sub.env [(0, .imm q1 4 f1 (cellss ks1)), (1, .fn (.func 23) [] []), (4, .int .i64 0), (7, .int .i64 (((ers ks1)).length : Int)), (8, .int .i64 (IntKind.i64.wrap (i2 + 1)))] ⟨rfl, rfl, rfl, rfl, rfl, trivial⟩⟩
 ·replace hM := ite_f hb3 hM
  refine run_exit_to rfl ?_
  refine run_sr ?_
  refine mvR rfl rfl rfl rfl (ltb rfl) ?_
  refine run_ops_nil ?_
  refine run_ret_to ?_
  obtain rfl := some_t hM
  refine fin_x hG rfl rfl rfl (v' := .int .i64 (-1)) (by rfl) ⟨rfl, (show tk ≤ tkg_IndexFunc_Tree__fn_i_badTerm_L1 by omega), _, rfl, rfl⟩

def g_ContainsFunc_Tree__fn_i_badTerm (n : Nat) (l1 : List T) : Option Bool :=
 (g_IndexFunc_Tree__fn_i_badTerm n l1).bind fun r2 =>
 some (decide (r2 ≥ 0))

set_option maxRecDepth 100000 in
theorem g_ContainsFunc_Tree__fn_i_badTerm_ok (n : Nat) : ∀ (q1 : Nat) (f1 : Bool) (ks1 : List LT) {r : Bool}, g_ContainsFunc_Tree__fn_i_badTerm n (ers ks1) = some r → ∀ (O : Heap) (tk : Nat), ACalls Go.Proofs.Tryd.prog 25 [.imm q1 4 f1 (cellss ks1), .fn (.func 23) [] []] O tk (RetX O tk (fun v tk' => v = .bool r)) := by
 intro q1 f1 ks1 r hM O tk
 unfold g_ContainsFunc_Tree__fn_i_badTerm at hM
 refine acalls_of_run Go.Proofs.Tryd.func25 rfl rfl [] [] (Bor.nil _) [(0, .imm q1 4 f1 (cellss ks1)), (1, .fn (.func 23) [] [])] (.cons (entS rfl) (.cons (entS rfl) (.nil _))) (leb rfl) (fun _ h => by cases h) (fun S0 hO htk hfz => ?_)
 refine run_sr ?_
 refine mvR rfl rfl rfl rfl (ltb rfl) ?_
 refine run_ops_nil ?_
 refine run_sr ?_
 refine mvL rfl rfl rfl rfl (ltb rfl) ?_
 refine mvL rfl rfl rfl rfl (ltb rfl) ?_
 obtain ⟨r2, hg3, hM⟩ := bind_t hM
 refine run_call rfl rfl rfl (ltb rfl) rfl rfl rfl (fun _ h => absurd h List.not_mem_nil) (g_IndexFunc_Tree__fn_i_badTerm_ok n q1 f1 ks1 hg3 _ _) (callK_retX (fun v tk4 (hle5 : tk ≤ tk4) h6 => ?_))
 subst h6
 refine run_bin rfl rfl rfl rfl rfl rfl rfl (ltb rfl) ?_
 refine mvR rfl rfl rfl rfl (ltb rfl) ?_
 refine run_ops_nil ?_
 refine run_ret_to ?_
 obtain rfl := some_t hM
 refine fin_x hG rfl rfl rfl (v' := .bool (decide (r2 ≥ 0))) (by rfl) ⟨rfl, (show tk ≤ tk4 by omega), _, rfl, rfl⟩

def i_Reduce_c1__kkk (n : Nat) (x1 : T) (x2 : T) (l3 : List T) : Option (Rz T) :=
 zb (i_work_apply n (0) x1 x2 l3) fun r4 =>
 some (.ok r4.1)

set_option maxRecDepth 100000 in
theorem i_Reduce_c1__kkk_ok (n : Nat) : ∀ (k1 : Int) (n1 : Int) (s1 : ByteArray) (q1 : Nat) (f1 : Bool) (ks1 : List LT) (k2 : Int) (n2 : Int) (s2 : ByteArray) (q2 : Nat) (f2 : Bool) (ks2 : List LT) (q3 : Nat) (f3 : Bool) (ks3 : List LT) {r : (Rz T)}, i_Reduce_c1__kkk n (T.mk k1 n1 s1 (ers ks1)) (T.mk k2 n2 s2 (ers ks2)) (ers ks3) = some r → ∀ (O : Heap) (tk : Nat), ACalls Go.Proofs.Tryd.prog 27 [.cptr [.int .i64 k1, .int .i64 n1, .str s1, .imm q1 4 f1 (cellss ks1)], .cptr [.int .i64 k2, .int .i64 n2, .str s2, .imm q2 4 f2 (cellss ks2)], .cptr [.imm q3 4 f3 (cellss ks3)]] O tk (RetZ HT O tk r (fun r v tk' => VT false tk tk' r v)) := by
 intro k1 n1 s1 q1 f1 ks1 k2 n2 s2 q2 f2 ks2 q3 f3 ks3 r hM O tk
 unfold i_Reduce_c1__kkk at hM
 refine acalls_of_run Go.Proofs.Tryd.func27 rfl rfl [] [] (Bor.nil _) [(0, .cptr [.int .i64 k1, .int .i64 n1, .str s1, .imm q1 4 f1 (cellss ks1)]), (1, .cptr [.int .i64 k2, .int .i64 n2, .str s2, .imm q2 4 f2 (cellss ks2)]), (2, .cptr [.imm q3 4 f3 (cellss ks3)])] (.cons (.cptr _) (.cons (.cptr _) (.cons (.cptr _) (.nil _)))) (leb rfl) (fun _ h => by cases h) (fun S0 hO htk hfz => ?_)
 refine run_sr ?_
 refine run_op rfl (alloc_step (d := 3) hG rfl rfl rfl) rfl (ltb rfl) ?_
 refine run_ops_nil ?_
 refine run_sr ?_
 refine run_pu rfl (build_step hG rfl (by rfl) rfl (fun h => by cases h) (by rfl)) rfl (ltb rfl) ?_
 refine run_op rfl (box_step (d := 5) rfl rfl rfl rfl rfl) rfl (ltb rfl) ?_
 refine run_ld hG rfl rfl rfl rfl rfl (ltb rfl) ?_
 refine run_ld hG rfl rfl rfl rfl rfl (ltb rfl) ?_
 refine run_ld hG rfl rfl rfl rfl rfl (ltb rfl) ?_
 obtain ⟨z9, hg5, hM⟩ := zb_t hM
 refine run_call rfl rfl rfl (ltb rfl) rfl rfl rfl (fun _ h => absurd h List.not_mem_nil) (i_work_apply_ok n (.loc 5) 0 k1 n1 s1 q1 f1 ks1 k2 n2 s2 q2 f2 ks2 q3 f3 ks3 hg5 _ _ rfl) (callK_retVZ_loc (k := 5) rfl (fun r4 v o'15 tk6 hz12 (hle7 : tk ≤ tk6) h8 => ?_) (fun c p o' tk6 hz (_ : tk ≤ tk6) _ => by subst hz; obtain rfl := bd_stop hM; exact run_pan_at (⟨rfl, (show tk ≤ tk6 by omega), rfl⟩)))
 subst hz12
 replace hM := bd_ok hM
 obtain ⟨ra14, c13, rfl, rfl, ⟨k10, n10, s10, q10, f10, ks10, rfl, rfl, hf11⟩⟩ := h8
 refine run_op0 rfl (store_step hG rfl rfl rfl rfl rfl rfl rfl rfl) rfl ?_
 refine run_ops_nil ?_
 refine run_ret_to ?_
 obtain rfl := some_t hM
 refine fin_x hG rfl rfl rfl (v' := .agg [.int .i64 k10, .int .i64 n10, .str s10, .imm q10 4 f10 (cellss ks10)]) (by rfl) ⟨rfl, (show tk ≤ tk6 by omega), _, rfl, ⟨k10, n10, s10, q10, f10, ks10, rfl, rfl, fun h => by cases h⟩⟩

def i_result_c1__of_i_Reduce_c1_kv (n : Nat) (x1 : T) (x2 : T) (l3 : List T) (x4 : T) : Option (Rz T) :=
 zb (i_Reduce_c1__kkk n x1 x2 l3) fun r5 =>
 some (.ok r5)

set_option maxRecDepth 100000 in
theorem i_result_c1__of_i_Reduce_c1_kv_ok (n : Nat) : ∀ (k1 : Int) (n1 : Int) (s1 : ByteArray) (q1 : Nat) (f1 : Bool) (ks1 : List LT) (k2 : Int) (n2 : Int) (s2 : ByteArray) (q2 : Nat) (f2 : Bool) (ks2 : List LT) (q3 : Nat) (f3 : Bool) (ks3 : List LT) (X0 : ID) (k4 : Int) (n4 : Int) (s4 : ByteArray) (q4 : Nat) (f4 : Bool) (ks4 : List LT) {r : (Rz T)}, i_result_c1__of_i_Reduce_c1_kv n (T.mk k1 n1 s1 (ers ks1)) (T.mk k2 n2 s2 (ers ks2)) (ers ks3) (T.mk k4 n4 s4 (ers ks4)) = some r → ∀ (O : Heap) (tk : Nat), O X0 = some ⟨29, 4, true, [[.int .i64 k4, .int .i64 n4, .str s4, .imm q4 4 f4 (cellss ks4)]]⟩ → ACalls Go.Proofs.Tryd.prog 45 [.cptr [.fn (.func 27) [] [.cptr [.int .i64 k1, .int .i64 n1, .str s1, .imm q1 4 f1 (cellss ks1)], .cptr [.int .i64 k2, .int .i64 n2, .str s2, .imm q2 4 f2 (cellss ks2)], .cptr [.imm q3 4 f3 (cellss ks3)]]], .optr X0 0 0] O tk (RetVZ HT O X0 tk r (fun r v o' tk' => ∃ cs, o' = ⟨29, 4, true, [cs]⟩ ∧ VT false tk tk' r (.agg cs) ∧ v = .tup []) (fun o' => o'.up = o')) := by
 intro k1 n1 s1 q1 f1 ks1 k2 n2 s2 q2 f2 ks2 q3 f3 ks3 X0 k4 n4 s4 q4 f4 ks4 r hM O tk hX0
 unfold i_result_c1__of_i_Reduce_c1_kv at hM
 refine acalls_of_run Go.Proofs.Tryd.func45 rfl rfl [X0] [⟨29, 4, true, [[.int .i64 k4, .int .i64 n4, .str s4, .imm q4 4 f4 (cellss ks4)]]⟩] (Bor.one hX0 rfl) [(0, .cptr [.fn (.func 27) [] [.cptr [.int .i64 k1, .int .i64 n1, .str s1, .imm q1 4 f1 (cellss ks1)], .cptr [.int .i64 k2, .int .i64 n2, .str s2, .imm q2 4 f2 (cellss ks2)], .cptr [.imm q3 4 f3 (cellss ks3)]]]), (1, .optr (.bor 0) 0 0)] (.cons (.cptr _) (.cons (.bor 0 _ _ _ rfl) (.nil _))) (leb rfl) (by intro y h; simp only [List.mem_cons, List.not_mem_nil, or_false] at h; rcases h with rfl <;> simp [tch, tch0]) (fun S0 hO htk hfz => ?_)
 refine run_region ?_
 refine run_ld hG rfl rfl rfl rfl rfl (ltb rfl) ?_
 obtain ⟨z10, hg6, hM⟩ := zb_t hM
 refine run_call rfl rfl rfl (ltb rfl) rfl rfl rfl (fun _ h => absurd h List.not_mem_nil) (i_Reduce_c1__kkk_ok n k1 n1 s1 q1 f1 ks1 k2 n2 s2 q2 f2 ks2 q3 f3 ks3 hg6 _ _) (callK_retZ (fun r5 v tk7 hz13 (hle8 : tk ≤ tk7) h9 => ?_) (fun c p tk7 hz (_ : tk ≤ tk7) => by subst hz; obtain rfl := bd_stop hM; exact run_pan_at (⟨⟨29, 4, true, [[.int .i64 k4, .int .i64 n4, .str s4, .imm q4 4 f4 (cellss ks4)]]⟩, rfl, (show tk ≤ tk7 by omega), rfl, rfl⟩)))
 subst hz13
 replace hM := bd_ok hM
 obtain ⟨k11, n11, s11, q11, f11, ks11, rfl, rfl, hf12⟩ := h9
 refine run_op0 rfl (store_step hG rfl rfl rfl rfl rfl rfl rfl rfl) rfl ?_
 refine run_ops_nil ?_
 show Results _ _ _ _
 obtain rfl := some_t hM
 refine fin_x hG rfl rfl rfl (v' := .tup []) (by rfl) ⟨⟨29, 4, true, [[.int .i64 k11, .int .i64 n11, .str s11, .imm q11 4 f11 (cellss ks11)]]⟩, rfl, (show tk ≤ tk7 by omega), _, rfl, ⟨_, rfl, ⟨k11, n11, s11, q11, f11, ks11, rfl, rfl, fun h => by cases h⟩, rfl⟩⟩

def i_result__fn_i_Reduce_c1kkk (n : Nat) (x1 : T) (x2 : T) (l3 : List T) : Option (T × Int) :=
 (i_result_c1__of_i_Reduce_c1_kv n x1 x2 l3 (T.mk 0 0 ⟨#[]⟩ [])).bind fun z4 =>
 z4.cs (fun r7 =>
  if (0 != 0) = true then
   some ((T.mk 0 0 ⟨#[]⟩ []), 0)
  else
   (i_clone n r7).bind fun r16 =>
   some (r16, 0)) (fun c13 p14 =>
  if (c13 != 0) = true then
   some ((T.mk 0 0 ⟨#[]⟩ []), c13)
  else
   none)

set_option maxRecDepth 100000 in
theorem i_result__fn_i_Reduce_c1kkk_ok (n : Nat) : ∀ (k1 : Int) (n1 : Int) (s1 : ByteArray) (q1 : Nat) (f1 : Bool) (ks1 : List LT) (k2 : Int) (n2 : Int) (s2 : ByteArray) (q2 : Nat) (f2 : Bool) (ks2 : List LT) (q3 : Nat) (f3 : Bool) (ks3 : List LT) {r : (T × Int)}, i_result__fn_i_Reduce_c1kkk n (T.mk k1 n1 s1 (ers ks1)) (T.mk k2 n2 s2 (ers ks2)) (ers ks3) = some r → ∀ (O : Heap) (tk : Nat), ACalls Go.Proofs.Tryd.prog 26 [.fn (.func 27) [] [.cptr [.int .i64 k1, .int .i64 n1, .str s1, .imm q1 4 f1 (cellss ks1)], .cptr [.int .i64 k2, .int .i64 n2, .str s2, .imm q2 4 f2 (cellss ks2)], .cptr [.imm q3 4 f3 (cellss ks3)]]] O tk (RetX O tk (fun v tk' => ∃ r0' r1' v0' v1', r = (r0', r1') ∧ v = .tup [v0', v1'] ∧ VT true tk tk' r0' v0' ∧ v1' = .int .i64 r1')) := by
 intro k1 n1 s1 q1 f1 ks1 k2 n2 s2 q2 f2 ks2 q3 f3 ks3 r hM O tk
 unfold i_result__fn_i_Reduce_c1kkk at hM
 refine acalls_of_run Go.Proofs.Tryd.func26 rfl rfl [] [] (Bor.nil _) [(0, .fn (.func 27) [] [.cptr [.int .i64 k1, .int .i64 n1, .str s1, .imm q1 4 f1 (cellss ks1)], .cptr [.int .i64 k2, .int .i64 n2, .str s2, .imm q2 4 f2 (cellss ks2)], .cptr [.imm q3 4 f3 (cellss ks3)]])] (.cons (ent_fnL ((.cons (.cptr _) (.cons (.cptr _) (.cons (.cptr _) .nil))))) (.nil _)) (leb rfl) (fun _ h => by cases h) (fun S0 hO htk hfz => ?_)
 refine run_sr ?_
 refine run_op rfl (box_step (d := 1) rfl rfl rfl rfl rfl) rfl (ltb rfl) ?_
 refine run_op rfl (alloc_step (d := 2) hG rfl rfl rfl) rfl (ltb rfl) ?_
 refine mvR rfl rfl rfl rfl (ltb rfl) ?_
 refine run_ops_nil ?_
 refine run_sr ?_
 refine run_pu rfl (build_step hG rfl (by rfl) rfl (fun h => by cases h) (by rfl)) rfl (ltb rfl) ?_
 refine run_op rfl (alloc_step (d := 4) hG rfl rfl rfl) rfl (ltb rfl) ?_
 refine run_op0 rfl (store_step hG rfl rfl rfl rfl rfl rfl rfl rfl) rfl ?_
 refine run_ops_nil ?_
 refine run_seq ?_
 refine run_sr ?_
 refine run_sub_ops (Sub.frbox (k := 1) (env' := [(0, .fn (.func 27) [] [.cptr [.int .i64 k1, .int .i64 n1, .str s1, .imm q1 4 f1 (cellss ks1)], .cptr [.int .i64 k2, .int .i64 n2, .str s2, .imm q2 4 f2 (cellss ks2)], .cptr [.imm q3 4 f3 (cellss ks3)]]), (1, .cptr [.fn (.func 27) [] [.cptr [.int .i64 k1, .int .i64 n1, .str s1, .imm q1 4 f1 (cellss ks1)], .cptr [.int .i64 k2, .int .i64 n2, .str s2, .imm q2 4 f2 (cellss ks2)], .cptr [.imm q3 4 f3 (cellss ks3)]]]), (2, .optr (.loc 2) 0 0), (3, .int .i64 0), (6, .agg [.int .i64 0, .int .i64 0, .str ⟨#[]⟩, .imm 0 4 true []]), (4, .optr (.loc 4) 0 0)]) rfl rfl (.keep 0 _ _ rfl (.ptr 1 0 _ rfl (.keep 2 _ _ rfl (.keep 3 _ _ rfl (.keep 6 _ _ rfl (.keep 4 _ _ rfl .nil))))))) ?_
 refine run_pu rfl (makeFunc_step (first := []) (cap := [.tmp 1, .tmp 4]) rfl rfl rfl) rfl (ltb rfl) ?_
 obtain ⟨z4, hg5, hM⟩ := bind_t hM
 refine run_call rfl rfl rfl (ltb rfl) rfl rfl rfl (fun _ h => absurd h List.not_mem_nil) (caught_vz (j := 0) rfl (K := 45) (bor := [.loc 4]) (b := [⟨29, 4, true, [[.int .i64 0, .int .i64 0, .str ⟨#[]⟩, .imm 0 4 true []]]⟩]) (caps := [.cptr [.fn (.func 27) [] [.cptr [.int .i64 k1, .int .i64 n1, .str s1, .imm q1 4 f1 (cellss ks1)], .cptr [.int .i64 k2, .int .i64 n2, .str s2, .imm q2 4 f2 (cellss ks2)], .cptr [.imm q3 4 f3 (cellss ks3)]]], .optr (.loc 4) 0 0]) (caps' := [.cptr [.fn (.func 27) [] [.cptr [.int .i64 k1, .int .i64 n1, .str s1, .imm q1 4 f1 (cellss ks1)], .cptr [.int .i64 k2, .int .i64 n2, .str s2, .imm q2 4 f2 (cellss ks2)], .cptr [.imm q3 4 f3 (cellss ks3)]]], .optr (.bor 0) 0 0]) (Bor.cons rfl rfl (by decide) (Bor.nil _)) (.cons (.cptr _) (.cons (.bor 0 _ _ _ rfl) .nil)) rfl (by intro y h; simp only [List.mem_cons, List.not_mem_nil, or_false] at h; rcases h with rfl <;> simp [tch, tch0]) rfl (i_result_c1__of_i_Reduce_c1_kv_ok n k1 n1 s1 q1 f1 ks1 k2 n2 s2 q2 f2 ks2 q3 f3 ks3 (.bor 0) 0 0 ⟨#[]⟩ 0 true [] hg5 _ _ rfl) (fun a v o' tk' h => by obtain ⟨_, rfl, ⟨_, _, _, _, _, _, ⟨⟩, rfl, _⟩, _⟩ := h; rfl)) (callK_retV_loc (k := 4) rfl (fun v o'10 tk8 (hle9 : tk ≤ tk8) h6 => ?_))
 rcases z4 with r7 | ⟨c13, p14⟩
 ·replace hM := cs_ok hM
  obtain ⟨rfl, _, ⟨_, rfl, ⟨k11, n11, s11, q11, f11, ks11, ⟨⟩, rfl, hf12⟩, rfl⟩⟩ := h6
  refine run_op rfl (alloc_step (d := 5) hG rfl rfl rfl) rfl (ltb rfl) ?_
  refine run_op0 rfl (store_step hG rfl rfl rfl rfl rfl rfl rfl rfl) rfl ?_
  refine run_ops_nil ?_
  refine run_sr ?_
  refine run_pu rfl (fieldAddr_step hG rfl rfl rfl rfl rfl) rfl (ltb rfl) ?_
  refine run_ld hG rfl rfl rfl rfl rfl (ltb rfl) ?_
  refine run_bin rfl rfl rfl rfl rfl rfl rfl (ltb rfl) ?_
  refine run_ops_nil ?_
  refine run_ifb rfl rfl (fun hb15 => ?_) (fun hb15 => ?_)
  ·replace hM := ite_t hb15 hM
   refine run_seq ?_
   refine run_draw [.loc 2] (n := 5) mixed rfl (by intro x hx; simp only [List.mem_cons, List.not_mem_nil, or_false] at hx; rcases hx with rfl <;> rfl) ?_
   refine AAny.take (i := 0) rfl (by kernel_rfl) (by kernel_rfl) (by kernel_rfl) rfl rfl (ltb rfl) ((build_step hG rfl (by rfl) rfl (fun h => by cases h) (by rfl)).rd _) ?_
   refine AAny.take (i := 1) rfl (by kernel_rfl) (by kernel_rfl) (by kernel_rfl) rfl rfl (ltb rfl) ((fieldAddr_step hG rfl rfl rfl rfl rfl).rd _) ?_
   refine AAny.take (i := 2) rfl (by kernel_rfl) (by kernel_rfl) (by kernel_rfl) rfl rfl (ltb rfl) (aload_rd hG rfl rfl rfl (by first | (simp [ldok]; done) | exact List.not_mem_nil | trivial)) ?_
   refine AAny.one (i := 3) (by kernel_rfl) (AOp.step0 rfl rfl rfl (store_step hG rfl rfl rfl rfl rfl rfl rfl rfl) (by intro x hx; exact hx) ?_)
   refine AAny.take (i := 4) rfl (by kernel_rfl) (by kernel_rfl) (by kernel_rfl) rfl rfl (ltb rfl) ((move_step (.inr rfl) rfl).rd _) ?_
   refine AAny.done (by kernel_rfl) ?_
   refine run_ret_to ?_
   obtain rfl := some_t hM
   refine fin_x hG rfl rfl rfl (v' := .tup [.agg [.int .i64 0, .int .i64 0, .str ⟨#[]⟩, .imm 0 4 true (cellss [])], .int .i64 0]) (by rfl) ⟨rfl, (show tk ≤ tk8 by omega), _, rfl, ⟨_, _, _, _, rfl, rfl, ⟨0, 0, ⟨#[]⟩, 0, true, [], rfl, rfl, fun _ => Fr.nil _ _⟩, rfl⟩⟩
  ·replace hM := ite_f hb15 hM
   refine run_skip ?_
   refine run_sr ?_
   refine run_ld hG rfl rfl rfl rfl rfl (ltb rfl) ?_
   obtain ⟨r16, hg17, hM⟩ := bind_t hM
   refine run_call rfl rfl rfl (ltb rfl) rfl rfl rfl (fun _ h => absurd h List.not_mem_nil) (i_clone_ok n k11 n11 s11 q11 f11 ks11 hg17 _ _) (callK_retX (fun v tk18 (hle19 : tk8 ≤ tk18) h20 => ?_))
   obtain ⟨k21, n21, s21, q21, f21, ks21, rfl, rfl, hf22⟩ := h20
   refine run_op0 rfl (store_step hG rfl rfl rfl rfl rfl rfl rfl rfl) rfl ?_
   refine mvR rfl rfl rfl rfl (ltb rfl) ?_
   refine run_ops_nil ?_
   refine run_ret_to ?_
   obtain rfl := some_t hM
   refine fin_x hG rfl rfl rfl (v' := .tup [.agg [.int .i64 k21, .int .i64 n21, .str s21, .imm q21 4 f21 (cellss ks21)], .int .i64 0]) (by rfl) ⟨rfl, (show tk ≤ tk18 by omega), _, rfl, ⟨_, _, _, _, rfl, rfl, ⟨k21, n21, s21, q21, f21, ks21, rfl, rfl, fun _ => (show Fr tk tk18 _ from ((show Fr tk8 tk18 _ from hf22 rfl)).mono (by omega) (by omega))⟩, rfl⟩⟩
 ·replace hM := cs_stop hM
  obtain ⟨rfl, _⟩ := h6
  refine run_op rfl (alloc_step (d := 5) hG rfl rfl rfl) rfl (ltb rfl) ?_
  refine run_op0 rfl (store_step hG rfl rfl rfl rfl rfl rfl rfl rfl) rfl ?_
  refine run_ops_nil ?_
  refine run_sr ?_
  refine run_pu rfl (fieldAddr_step hG rfl rfl rfl rfl rfl) rfl (ltb rfl) ?_
  refine run_ld hG rfl rfl rfl rfl rfl (ltb rfl) ?_
  refine run_bin rfl rfl rfl rfl rfl rfl rfl (ltb rfl) ?_
  refine run_ops_nil ?_
  refine run_ifb rfl rfl (fun hb23 => ?_) (fun hb23 => ?_)
  ·replace hM := ite_t hb23 hM
   refine run_seq ?_
   refine run_draw [.loc 2] (n := 5) mixed rfl (by intro x hx; simp only [List.mem_cons, List.not_mem_nil, or_false] at hx; rcases hx with rfl <;> rfl) ?_
   refine AAny.take (i := 0) rfl (by kernel_rfl) (by kernel_rfl) (by kernel_rfl) rfl rfl (ltb rfl) ((build_step hG rfl (by rfl) rfl (fun h => by cases h) (by rfl)).rd _) ?_
   refine AAny.take (i := 1) rfl (by kernel_rfl) (by kernel_rfl) (by kernel_rfl) rfl rfl (ltb rfl) ((fieldAddr_step hG rfl rfl rfl rfl rfl).rd _) ?_
   refine AAny.take (i := 2) rfl (by kernel_rfl) (by kernel_rfl) (by kernel_rfl) rfl rfl (ltb rfl) (aload_rd hG rfl rfl rfl (by first | (simp [ldok]; done) | exact List.not_mem_nil | trivial)) ?_
   refine AAny.one (i := 3) (by kernel_rfl) (AOp.step0 rfl rfl rfl (store_step hG rfl rfl rfl rfl rfl rfl rfl rfl) (by intro x hx; exact hx) ?_)
   refine AAny.take (i := 4) rfl (by kernel_rfl) (by kernel_rfl) (by kernel_rfl) rfl rfl (ltb rfl) ((move_step (.inr rfl) rfl).rd _) ?_
   refine AAny.done (by kernel_rfl) ?_
   refine run_ret_to ?_
   obtain rfl := some_t hM
   refine fin_x hG rfl rfl rfl (v' := .tup [.agg [.int .i64 0, .int .i64 0, .str ⟨#[]⟩, .imm 0 4 true (cellss [])], .int .i64 c13]) (by rfl) ⟨rfl, (show tk ≤ tk8 by omega), _, rfl, ⟨_, _, _, _, rfl, rfl, ⟨0, 0, ⟨#[]⟩, 0, true, [], rfl, rfl, fun _ => Fr.nil _ _⟩, rfl⟩⟩
  ·replace hM := ite_f hb23 hM
   refine run_skip ?_
   refine run_sr ?_
   cases hM

def i_Reduce (n : Nat) (x1 : T) (x2 : T) (l3 : List T) : Option (T × Int) :=
 (i_longLists n ([((l3).length : Int)])).bind fun r4 =>
 if r4 = true then
  some ((T.mk 0 0 ⟨#[]⟩ []), 2)
 else
  (i_badTerm n x1).bind fun r12 =>
  if r12 = true then
   some ((T.mk 0 0 ⟨#[]⟩ []), 1)
  else
   (i_badSimple n x2).bind fun r20 =>
   if r20 = true then
    some ((T.mk 0 0 ⟨#[]⟩ []), 1)
   else
    (g_ContainsFunc_Tree__fn_i_badTerm n l3).bind fun r28 =>
    if r28 = true then
     some ((T.mk 0 0 ⟨#[]⟩ []), 1)
    else
     (i_result__fn_i_Reduce_c1kkk n x1 x2 l3).bind fun r36 =>
     some (r36.1, r36.2)

set_option maxHeartbeats 2000000 in
set_option maxRecDepth 100000 in
theorem i_Reduce_ok (n : Nat) : ∀ (k1 : Int) (n1 : Int) (s1 : ByteArray) (q1 : Nat) (f1 : Bool) (ks1 : List LT) (k2 : Int) (n2 : Int) (s2 : ByteArray) (q2 : Nat) (f2 : Bool) (ks2 : List LT) (q3 : Nat) (f3 : Bool) (ks3 : List LT) {r : (T × Int)}, i_Reduce n (T.mk k1 n1 s1 (ers ks1)) (T.mk k2 n2 s2 (ers ks2)) (ers ks3) = some r → ∀ (O : Heap) (tk : Nat), ACalls Go.Proofs.Tryd.prog 10 [.agg [.int .i64 k1, .int .i64 n1, .str s1, .imm q1 4 f1 (cellss ks1)], .agg [.int .i64 k2, .int .i64 n2, .str s2, .imm q2 4 f2 (cellss ks2)], .imm q3 4 f3 (cellss ks3)] O tk (RetX O tk (fun v tk' => ∃ r0' r1' v0' v1', r = (r0', r1') ∧ v = .tup [v0', v1'] ∧ VT true tk tk' r0' v0' ∧ v1' = .int .i64 r1')) := by
 intro k1 n1 s1 q1 f1 ks1 k2 n2 s2 q2 f2 ks2 q3 f3 ks3 r hM O tk
 unfold i_Reduce at hM
 refine acalls_of_run Go.Proofs.Tryd.func10 rfl rfl [] [] (Bor.nil _) [(0, .agg [.int .i64 k1, .int .i64 n1, .str s1, .imm q1 4 f1 (cellss ks1)]), (1, .agg [.int .i64 k2, .int .i64 n2, .str s2, .imm q2 4 f2 (cellss ks2)]), (2, .imm q3 4 f3 (cellss ks3))] (.cons (.agg _) (.cons (.agg _) (.cons (entS rfl) (.nil _)))) (leb rfl) (fun _ h => by cases h) (fun S0 hO htk hfz => ?_)
 refine run_sr ?_
 refine run_op rfl (box_step (d := 3) rfl rfl rfl rfl rfl) rfl (ltb rfl) ?_
 refine run_op rfl (box_step (d := 4) rfl rfl rfl rfl rfl) rfl (ltb rfl) ?_
 refine run_op rfl (box_step (d := 5) rfl rfl rfl rfl rfl) rfl (ltb rfl) ?_
 refine run_op rfl (alloc_step (d := 6) hG rfl rfl rfl) rfl (ltb rfl) ?_
 refine mvR rfl rfl rfl rfl (ltb rfl) ?_
 refine run_ops_nil ?_
 refine run_seq ?_
 refine run_block ?_
 refine run_sr ?_
 refine run_ld hG rfl rfl rfl rfl rfl (ltb rfl) ?_
 refine run_pu rfl (lenImm_step hG rfl rfl rfl rfl (tlen _)) rfl (ltb rfl) ?_
 refine run_op rfl (buildSlice_step (d := 11) hG rfl rfl rfl rfl rfl (by rfl) (by rfl) (by rfl) (by decide)) rfl (ltb rfl) ?_
 refine run_sub_ops (Sub.freeze (k := 11) rfl rfl) ?_
 obtain ⟨r4, hg5, hM⟩ := bind_t hM
 refine run_call rfl rfl rfl (ltb rfl) rfl rfl rfl (fun _ h => absurd h List.not_mem_nil) (i_longLists_ok n tk false [(((ers ks3)).length : Int)] hg5 _ _) (callK_retX (fun v tk6 (hle7 : (tk + 1) ≤ tk6) h8 => ?_))
 subst h8
 refine mvR rfl rfl rfl rfl (ltb rfl) ?_
 refine run_ops_nil ?_
 refine run_ifb rfl rfl (fun hb11 => ?_) (fun hb11 => ?_)
 ·replace hM := ite_t hb11 hM
  refine run_sr ?_
  refine run_pu rfl (build_step hG rfl (by rfl) rfl (fun h => by cases h) (by rfl)) rfl (ltb rfl) ?_
  refine run_op0 rfl (store_step hG rfl rfl rfl rfl rfl rfl rfl rfl) rfl ?_
  refine mvR rfl rfl rfl rfl (ltb rfl) ?_
  refine run_ops_nil ?_
  refine run_ret_to ?_
  obtain rfl := some_t hM
  refine fin_x hG rfl rfl rfl (v' := .tup [.agg [.int .i64 0, .int .i64 0, .str ⟨#[]⟩, .imm 0 4 true (cellss [])], .int .i64 2]) (by rfl) ⟨rfl, (show tk ≤ tk6 by omega), _, rfl, ⟨_, _, _, _, rfl, rfl, ⟨0, 0, ⟨#[]⟩, 0, true, [], rfl, rfl, fun _ => Fr.nil _ _⟩, rfl⟩⟩
 ·replace hM := ite_f hb11 hM
  refine run_sr ?_
  refine run_ld hG rfl rfl rfl rfl rfl (ltb rfl) ?_
  obtain ⟨r12, hg13, hM⟩ := bind_t hM
  refine run_call rfl rfl rfl (ltb rfl) rfl rfl rfl (fun _ h => absurd h List.not_mem_nil) (i_badTerm_ok n k1 n1 s1 q1 f1 ks1 hg13 _ _) (callK_retX (fun v tk14 (hle15 : tk6 ≤ tk14) h16 => ?_))
  subst h16
  refine mvL rfl rfl rfl rfl (ltb rfl) ?_
  refine run_splitb (i := 17) rfl (fun hb19 => ?_) (fun hb19 => ?_)
  ·replace hM := ite_t hb19 hM
   refine run_off (on_of rfl rfl rfl rfl) rfl (ltb rfl) ?_
   refine run_off (on_of rfl rfl rfl rfl) rfl (ltb rfl) ?_
   refine run_pu rfl (pick_step rfl rfl rfl) rfl (ltb rfl) ?_
   refine mvL rfl rfl rfl rfl (ltb rfl) ?_
   refine run_off (on_of rfl rfl rfl rfl) rfl (ltb rfl) ?_
   refine run_off (on_of rfl rfl rfl rfl) rfl (ltb rfl) ?_
   refine run_pu rfl (pick_step rfl rfl rfl) rfl (ltb rfl) ?_
   refine mvR rfl rfl rfl rfl (ltb rfl) ?_
   refine run_ops_nil ?_
   refine run_sub_code (σ' := ⟨[(3, .optr (.loc 3) 0 0), (4, .optr (.loc 4) 0 0), (5, .optr (.loc 5) 0 0), (6, .optr (.loc 6) 0 0), (7, .int .i64 0), (14, .bool true)], [(6, ⟨29, 4, true, [[.int .i64 0, .int .i64 0, .str ⟨#[]⟩, .imm 0 4 true []]]⟩), (5, ⟨27, 1, true, [[.imm q3 4 f3 (cellss ks3)]]⟩), (4, ⟨29, 4, true, [[.int .i64 k2, .int .i64 n2, .str s2, .imm q2 4 f2 (cellss ks2)]]⟩), (3, ⟨29, 4, true, [[.int .i64 k1, .int .i64 n1, .str s1, .imm q1 4 f1 (cellss ks1)]]⟩)], [], O, tk14⟩) (Sub.env _ ⟨rfl, rfl, rfl, rfl, rfl, rfl, trivial⟩) ?_
   refine run_if rfl rfl (fun _ => ?_) (fun h => by cases h)
   refine run_sr ?_
   refine run_pu rfl (build_step hG rfl (by rfl) rfl (fun h => by cases h) (by rfl)) rfl (ltb rfl) ?_
   refine run_op0 rfl (store_step hG rfl rfl rfl rfl rfl rfl rfl rfl) rfl ?_
   refine mvR rfl rfl rfl rfl (ltb rfl) ?_
   refine run_ops_nil ?_
   refine run_ret_to ?_
   obtain rfl := some_t hM
   refine fin_x hG rfl rfl rfl (v' := .tup [.agg [.int .i64 0, .int .i64 0, .str ⟨#[]⟩, .imm 0 4 true (cellss [])], .int .i64 1]) (by rfl) ⟨rfl, (show tk ≤ tk14 by omega), _, rfl, ⟨_, _, _, _, rfl, rfl, ⟨0, 0, ⟨#[]⟩, 0, true, [], rfl, rfl, fun _ => Fr.nil _ _⟩, rfl⟩⟩
  ·replace hM := ite_f hb19 hM
   refine run_rdG (on_of rfl rfl rfl rfl) (aload_rd hG rfl rfl rfl (by first | (simp [ldok]; done) | exact List.not_mem_nil | trivial)) rfl (ltb rfl) ?_
   obtain ⟨r20, hg21, hM⟩ := bind_t hM
   refine run_callG (on_of rfl rfl rfl rfl) rfl rfl (ltb rfl) rfl rfl rfl (fun _ h => absurd h List.not_mem_nil) (i_badSimple_ok n k2 n2 s2 q2 f2 ks2 hg21 _ _) (callK_retX (fun v tk22 (hle23 : tk14 ≤ tk22) h24 => ?_))
   subst h24
   refine run_pu rfl (pick_step rfl rfl rfl) rfl (ltb rfl) ?_
   refine mvL rfl rfl rfl rfl (ltb rfl) ?_
   refine run_splitb (i := 21) rfl (fun hb27 => ?_) (fun hb27 => ?_)
   ·replace hM := ite_t hb27 hM
    refine run_off (on_of rfl rfl rfl rfl) rfl (ltb rfl) ?_
    refine run_off (on_of rfl rfl rfl rfl) rfl (ltb rfl) ?_
    refine run_pu rfl (pick_step rfl rfl rfl) rfl (ltb rfl) ?_
    refine mvR rfl rfl rfl rfl (ltb rfl) ?_
    refine run_ops_nil ?_
    refine run_sub_code (σ' := ⟨[(3, .optr (.loc 3) 0 0), (4, .optr (.loc 4) 0 0), (5, .optr (.loc 5) 0 0), (6, .optr (.loc 6) 0 0), (7, .int .i64 0), (14, .bool true)], [(6, ⟨29, 4, true, [[.int .i64 0, .int .i64 0, .str ⟨#[]⟩, .imm 0 4 true []]]⟩), (5, ⟨27, 1, true, [[.imm q3 4 f3 (cellss ks3)]]⟩), (4, ⟨29, 4, true, [[.int .i64 k2, .int .i64 n2, .str s2, .imm q2 4 f2 (cellss ks2)]]⟩), (3, ⟨29, 4, true, [[.int .i64 k1, .int .i64 n1, .str s1, .imm q1 4 f1 (cellss ks1)]]⟩)], [], O, tk22⟩) (Sub.env _ ⟨rfl, rfl, rfl, rfl, rfl, rfl, trivial⟩) ?_
    refine run_if rfl rfl (fun _ => ?_) (fun h => by cases h)
    refine run_sr ?_
    refine run_pu rfl (build_step hG rfl (by rfl) rfl (fun h => by cases h) (by rfl)) rfl (ltb rfl) ?_
    refine run_op0 rfl (store_step hG rfl rfl rfl rfl rfl rfl rfl rfl) rfl ?_
    refine mvR rfl rfl rfl rfl (ltb rfl) ?_
    refine run_ops_nil ?_
    refine run_ret_to ?_
    obtain rfl := some_t hM
    refine fin_x hG rfl rfl rfl (v' := .tup [.agg [.int .i64 0, .int .i64 0, .str ⟨#[]⟩, .imm 0 4 true (cellss [])], .int .i64 1]) (by rfl) ⟨rfl, (show tk ≤ tk22 by omega), _, rfl, ⟨_, _, _, _, rfl, rfl, ⟨0, 0, ⟨#[]⟩, 0, true, [], rfl, rfl, fun _ => Fr.nil _ _⟩, rfl⟩⟩
   ·replace hM := ite_f hb27 hM
    refine run_rdG (on_of rfl rfl rfl rfl) (aload_rd hG rfl rfl rfl (by first | (simp [ldok]; done) | exact List.not_mem_nil | trivial)) rfl (ltb rfl) ?_
    obtain ⟨r28, hg29, hM⟩ := bind_t hM
    refine run_callG (on_of rfl rfl rfl rfl) rfl rfl (ltb rfl) rfl rfl rfl (fun _ h => absurd h List.not_mem_nil) (g_ContainsFunc_Tree__fn_i_badTerm_ok n q3 f3 ks3 hg29 _ _) (callK_retX (fun v tk30 (hle31 : tk22 ≤ tk30) h32 => ?_))
    subst h32
    refine run_pu rfl (pick_step rfl rfl rfl) rfl (ltb rfl) ?_
    refine mvR rfl rfl rfl rfl (ltb rfl) ?_
    refine run_ops_nil ?_
    refine run_sub_code (σ' := ⟨[(3, .optr (.loc 3) 0 0), (4, .optr (.loc 4) 0 0), (5, .optr (.loc 5) 0 0), (6, .optr (.loc 6) 0 0), (7, .int .i64 0), (14, .bool r28)], [(6, ⟨29, 4, true, [[.int .i64 0, .int .i64 0, .str ⟨#[]⟩, .imm 0 4 true []]]⟩), (5, ⟨27, 1, true, [[.imm q3 4 f3 (cellss ks3)]]⟩), (4, ⟨29, 4, true, [[.int .i64 k2, .int .i64 n2, .str s2, .imm q2 4 f2 (cellss ks2)]]⟩), (3, ⟨29, 4, true, [[.int .i64 k1, .int .i64 n1, .str s1, .imm q1 4 f1 (cellss ks1)]]⟩)], [], O, tk30⟩) (Sub.env _ ⟨rfl, rfl, rfl, rfl, rfl, rfl, trivial⟩) ?_
    refine run_ifb rfl rfl (fun hb35 => ?_) (fun hb35 => ?_)
    ·replace hM := ite_t hb35 hM
     refine run_sr ?_
     refine run_pu rfl (build_step hG rfl (by rfl) rfl (fun h => by cases h) (by rfl)) rfl (ltb rfl) ?_
     refine run_op0 rfl (store_step hG rfl rfl rfl rfl rfl rfl rfl rfl) rfl ?_
     refine mvR rfl rfl rfl rfl (ltb rfl) ?_
     refine run_ops_nil ?_
     refine run_ret_to ?_
     obtain rfl := some_t hM
     refine fin_x hG rfl rfl rfl (v' := .tup [.agg [.int .i64 0, .int .i64 0, .str ⟨#[]⟩, .imm 0 4 true (cellss [])], .int .i64 1]) (by rfl) ⟨rfl, (show tk ≤ tk30 by omega), _, rfl, ⟨_, _, _, _, rfl, rfl, ⟨0, 0, ⟨#[]⟩, 0, true, [], rfl, rfl, fun _ => Fr.nil _ _⟩, rfl⟩⟩
    ·replace hM := ite_f hb35 hM
     refine run_skip ?_
     refine run_blk ?_
     refine run_sr ?_
     refine run_sub_ops (Sub.frbox (k := 3) (env' := [(3, .cptr [.int .i64 k1, .int .i64 n1, .str s1, .imm q1 4 f1 (cellss ks1)]), (4, .optr (.loc 4) 0 0), (5, .optr (.loc 5) 0 0), (6, .optr (.loc 6) 0 0), (7, .int .i64 0), (14, .bool r28)]) rfl rfl (.ptr 3 0 _ rfl (.keep 4 _ _ rfl (.keep 5 _ _ rfl (.keep 6 _ _ rfl (.keep 7 _ _ rfl (.keep 14 _ _ rfl .nil))))))) ?_
     refine run_sub_ops (Sub.frbox (k := 4) (env' := [(3, .cptr [.int .i64 k1, .int .i64 n1, .str s1, .imm q1 4 f1 (cellss ks1)]), (4, .cptr [.int .i64 k2, .int .i64 n2, .str s2, .imm q2 4 f2 (cellss ks2)]), (5, .optr (.loc 5) 0 0), (6, .optr (.loc 6) 0 0), (7, .int .i64 0), (14, .bool r28)]) rfl rfl (.keep 3 _ _ rfl (.ptr 4 0 _ rfl (.keep 5 _ _ rfl (.keep 6 _ _ rfl (.keep 7 _ _ rfl (.keep 14 _ _ rfl .nil))))))) ?_
     refine run_sub_ops (Sub.frbox (k := 5) (env' := [(3, .cptr [.int .i64 k1, .int .i64 n1, .str s1, .imm q1 4 f1 (cellss ks1)]), (4, .cptr [.int .i64 k2, .int .i64 n2, .str s2, .imm q2 4 f2 (cellss ks2)]), (5, .cptr [.imm q3 4 f3 (cellss ks3)]), (6, .optr (.loc 6) 0 0), (7, .int .i64 0), (14, .bool r28)]) rfl rfl (.keep 3 _ _ rfl (.keep 4 _ _ rfl (.ptr 5 0 _ rfl (.keep 6 _ _ rfl (.keep 7 _ _ rfl (.keep 14 _ _ rfl .nil))))))) ?_
     refine run_pu rfl (makeFunc_step (first := []) (cap := [.tmp 3, .tmp 4, .tmp 5]) rfl rfl rfl) rfl (ltb rfl) ?_
     obtain ⟨r36, hg37, hM⟩ := bind_t hM
     refine run_call rfl rfl rfl (ltb rfl) rfl rfl rfl (fun _ h => absurd h List.not_mem_nil) (i_result__fn_i_Reduce_c1kkk_ok n k1 n1 s1 q1 f1 ks1 k2 n2 s2 q2 f2 ks2 q3 f3 ks3 hg37 _ _) (callK_retX (fun v tk38 (hle39 : tk30 ≤ tk38) h40 => ?_))
     obtain ⟨ra45, ra46, va47, va48, rfl, rfl, ⟨k41, n41, s41, q41, f41, ks41, rfl, rfl, hf42⟩, rfl⟩ := h40
     refine run_pu rfl (extract_step rfl rfl rfl) rfl (ltb rfl) ?_
     refine run_pu rfl (extract_step rfl rfl rfl) rfl (ltb rfl) ?_
     refine run_op0 rfl (store_step hG rfl rfl rfl rfl rfl rfl rfl rfl) rfl ?_
     refine mvR rfl rfl rfl rfl (ltb rfl) ?_
     refine run_ops_nil ?_
     refine run_ret_to ?_
     obtain rfl := some_t hM
     refine fin_x hG rfl rfl rfl (v' := .tup [.agg [.int .i64 k41, .int .i64 n41, .str s41, .imm q41 4 f41 (cellss ks41)], .int .i64 ra46]) (by rfl) ⟨rfl, (show tk ≤ tk38 by omega), _, rfl, ⟨_, _, _, _, rfl, rfl, ⟨k41, n41, s41, q41, f41, ks41, rfl, rfl, fun _ => (show Fr tk tk38 _ from ((show Fr tk30 tk38 _ from hf42 rfl)).mono (by omega) (by omega))⟩, rfl⟩⟩

def s_l03Spine_L1 (n : Nat) (l1 : List T) : Nat → Int → Option Bool
 | 0, _ => none
 | m + 1, i2 =>
  if i2 < ((l1).length : Int) then
   (idx l1 i2).bind fun y4 =>
   (s_TermOK n y4).bind fun r9 =>
   if (!r9) = true then
    some false
   else
    s_l03Spine_L1 n l1 m (IntKind.i64.wrap (i2 + 1))
  else
   some true

def s_l03Spine (n : Nat) (l1 : List T) : Option Bool :=
 s_l03Spine_L1 n l1 n 0

set_option maxRecDepth 100000 in
theorem s_l03Spine_ok (n : Nat) : ∀ (q1 : Nat) (f1 : Bool) (ks1 : List LT) {r : Bool}, s_l03Spine n (ers ks1) = some r → ∀ (O : Heap) (tk : Nat), ACalls Go.Proofs.Tryd.prog 20 [.imm q1 4 f1 (cellss ks1)] O tk (RetX O tk (fun v tk' => v = .bool r)) := by
 intro q1 f1 ks1 r hM O tk
 unfold s_l03Spine at hM
 refine acalls_of_run Go.Proofs.Tryd.func20 rfl rfl [] [] (Bor.nil _) [(0, .imm q1 4 f1 (cellss ks1))] (.cons (entS rfl) (.nil _)) (leb rfl) (fun _ h => by cases h) (fun S0 hO htk hfz => ?_)
 refine run_sr ?_
 refine mvR rfl rfl rfl rfl (ltb rfl) ?_
 refine run_ops_nil ?_
 refine run_seq ?_
 refine run_sr ?_
 refine mvR rfl rfl rfl rfl (ltb rfl) ?_
 refine run_ops_nil ?_
 refine run_block ?_
 refine run_rounds (fun m σ => ∃ (i2 : Int) (tks_l03Spine_L1 : Nat), tk ≤ tks_l03Spine_L1 ∧ s_l03Spine_L1 n (ers ks1) m i2 = some r ∧ σ = ⟨[(0, .imm q1 4 f1 (cellss ks1)), (2, .bool false), (3, .int .i64 i2)], [], [], O, tks_l03Spine_L1⟩) n (Sub.env [(0, .imm q1 4 f1 (cellss ks1)), (2, .bool false), (3, .int .i64 0)] ⟨rfl, rfl, rfl, trivial⟩) ⟨0, tk, Nat.le_refl _, hM, rfl⟩ (fun m σ hI => ?_)
 clear hM
 obtain ⟨i2, tks_l03Spine_L1, hle17, hM, rfl⟩ := hI
 obtain _ | m := m
 ·exact absurd hM (by rw [s_l03Spine_L1]; exact fun h => by cases h)
 rw [s_l03Spine_L1] at hM
 refine run_seq ?_
 refine run_sr ?_
 refine mvL rfl rfl rfl rfl (ltb rfl) ?_
 refine mvL rfl rfl rfl rfl (ltb rfl) ?_
 refine run_pu rfl (lenImm_step hG rfl rfl rfl rfl (tlen _)) rfl (ltb rfl) ?_
 refine run_bin rfl rfl rfl rfl rfl rfl rfl (ltb rfl) ?_
 refine run_ops_nil ?_
 refine run_ifd rfl rfl (fun hb3 => ?_) (fun hb3 => ?_)
 ·replace hM := ite_t hb3 hM
  refine run_skip ?_
  refine run_seq ?_
  refine run_block ?_
  refine run_sr ?_
  refine mvL rfl rfl rfl rfl (ltb rfl) ?_
  refine mvL rfl rfl rfl rfl (ltb rfl) ?_
  obtain ⟨y4, hy5, hM⟩ := bind_t hM
  obtain ⟨k6, n6, s6, q6, f6, ks6, rfl, hc7, hi8⟩ := tidx (ks := ks1) hy5
  refine run_pu rfl (indexImm_step hG rfl rfl rfl hi8 rfl rfl rfl rfl hc7) rfl (ltb rfl) ?_
  refine run_ld hG rfl rfl rfl rfl rfl (ltb rfl) ?_
  obtain ⟨r9, hg10, hM⟩ := bind_t hM
  refine run_call rfl rfl rfl (ltb rfl) rfl rfl rfl (fun _ h => absurd h List.not_mem_nil) (s_TermOK_ok n k6 n6 s6 q6 f6 ks6 hg10 _ _) (callK_retX (fun v tk11 (hle12 : tks_l03Spine_L1 ≤ tk11) h13 => ?_))
  subst h13
  refine run_pu rfl (aun_step rfl rfl rfl) rfl (ltb rfl) ?_
  refine run_ops_nil ?_
  refine run_ifb rfl rfl (fun hb16 => ?_) (fun hb16 => ?_)
  ·replace hM := ite_t hb16 hM
   refine run_sr ?_
   refine mvR rfl rfl rfl rfl (ltb rfl) ?_
   refine run_ops_nil ?_
   refine run_ret_to ?_
   obtain rfl := some_t hM
   refine fin_x hG rfl rfl rfl (v' := .bool false) (by rfl) ⟨rfl, (show tk ≤ tk11 by omega), _, rfl, rfl⟩
  ·replace hM := ite_f hb16 hM
   refine run_skip ?_
   refine run_blk ?_
   refine run_region ?_
   refine mvL rfl rfl rfl rfl (ltb rfl) ?_
   refine run_bin rfl rfl rfl rfl rfl rfl rfl (ltb rfl) ?_
   refine mvR rfl rfl rfl rfl (ltb rfl) ?_
   refine run_ops_nil ?_
   exact run_loop_end ⟨m, _, Nat.lt_succ_self _, ⟨(IntKind.i64.wrap (i2 + 1)), tk11, (show tk ≤ tk11 by omega), hM, rfl⟩, Sub.env [(0, .imm q1 4 f1 (cellss ks1)), (2, .bool false), (3, .int .i64 (IntKind.i64.wrap (i2 + 1)))] ⟨rfl, rfl, rfl, trivial⟩⟩
 ·replace hM := ite_f hb3 hM
  refine run_exit_to rfl ?_
  refine run_sr ?_
  refine mvR rfl rfl rfl rfl (ltb rfl) ?_
  refine run_ops_nil ?_
  refine run_ret_to ?_
  obtain rfl := some_t hM
  refine fin_x hG rfl rfl rfl (v' := .bool true) (by rfl) ⟨rfl, (show tk ≤ tks_l03Spine_L1 by omega), _, rfl, rfl⟩

def s_Reduce (n : Nat) (x1 : T) (x2 : T) (l3 : List T) : Option (T × Int) :=
 if ((l3).length : Int) > 4096 then
  some ((T.mk 0 0 ⟨#[]⟩ []), 2)
 else
  (s_TermOK n x1).bind fun r5 =>
  if (!r5) = true then
   some ((T.mk 0 0 ⟨#[]⟩ []), 1)
  else
   (s_SimpleOK n x2).bind fun r13 =>
   if (!r13) = true then
    some ((T.mk 0 0 ⟨#[]⟩ []), 1)
   else
    (s_l03Spine n l3).bind fun r21 =>
    if (!r21) = true then
     some ((T.mk 0 0 ⟨#[]⟩ []), 1)
    else
     (s_l03Run_reduce n (0) x1 x2 l3).bind fun r29 =>
     some (r29.1, r29.2.1)

set_option maxRecDepth 100000 in
theorem s_Reduce_ok (n : Nat) : ∀ (k1 : Int) (n1 : Int) (s1 : ByteArray) (q1 : Nat) (f1 : Bool) (ks1 : List LT) (k2 : Int) (n2 : Int) (s2 : ByteArray) (q2 : Nat) (f2 : Bool) (ks2 : List LT) (q3 : Nat) (f3 : Bool) (ks3 : List LT) {r : (T × Int)}, s_Reduce n (T.mk k1 n1 s1 (ers ks1)) (T.mk k2 n2 s2 (ers ks2)) (ers ks3) = some r → ∀ (O : Heap) (tk : Nat), ACalls Go.Proofs.Tryd.prog 7 [.agg [.int .i64 k1, .int .i64 n1, .str s1, .imm q1 4 f1 (cellss ks1)], .agg [.int .i64 k2, .int .i64 n2, .str s2, .imm q2 4 f2 (cellss ks2)], .imm q3 4 f3 (cellss ks3)] O tk (RetX O tk (fun v tk' => ∃ r0' r1' v0' v1', r = (r0', r1') ∧ v = .tup [v0', v1'] ∧ VT true tk tk' r0' v0' ∧ v1' = .int .i64 r1')) := by
 intro k1 n1 s1 q1 f1 ks1 k2 n2 s2 q2 f2 ks2 q3 f3 ks3 r hM O tk
 unfold s_Reduce at hM
 refine acalls_of_run Go.Proofs.Tryd.func7 rfl rfl [] [] (Bor.nil _) [(0, .agg [.int .i64 k1, .int .i64 n1, .str s1, .imm q1 4 f1 (cellss ks1)]), (1, .agg [.int .i64 k2, .int .i64 n2, .str s2, .imm q2 4 f2 (cellss ks2)]), (2, .imm q3 4 f3 (cellss ks3))] (.cons (.agg _) (.cons (.agg _) (.cons (entS rfl) (.nil _)))) (leb rfl) (fun _ h => by cases h) (fun S0 hO htk hfz => ?_)
 refine run_sr ?_
 refine run_op rfl (box_step (d := 3) rfl rfl rfl rfl rfl) rfl (ltb rfl) ?_
 refine run_op rfl (box_step (d := 4) rfl rfl rfl rfl rfl) rfl (ltb rfl) ?_
 refine run_op rfl (alloc_step (d := 6) hG rfl rfl rfl) rfl (ltb rfl) ?_
 refine mvR rfl rfl rfl rfl (ltb rfl) ?_
 refine run_ops_nil ?_
 refine run_seq ?_
 refine run_sr ?_
 refine mvL rfl rfl rfl rfl (ltb rfl) ?_
 refine run_pu rfl (lenImm_step hG rfl rfl rfl rfl (tlen _)) rfl (ltb rfl) ?_
 refine run_bin rfl rfl rfl rfl rfl rfl rfl (ltb rfl) ?_
 refine run_ops_nil ?_
 refine run_ifd rfl rfl (fun hb4 => ?_) (fun hb4 => ?_)
 ·replace hM := ite_t hb4 hM
  refine run_sr ?_
  refine run_pu rfl (build_step hG rfl (by rfl) rfl (fun h => by cases h) (by rfl)) rfl (ltb rfl) ?_
  refine run_op0 rfl (store_step hG rfl rfl rfl rfl rfl rfl rfl rfl) rfl ?_
  refine mvR rfl rfl rfl rfl (ltb rfl) ?_
  refine run_ops_nil ?_
  refine run_ret_to ?_
  obtain rfl := some_t hM
  refine fin_x hG rfl rfl rfl (v' := .tup [.agg [.int .i64 0, .int .i64 0, .str ⟨#[]⟩, .imm 0 4 true (cellss [])], .int .i64 2]) (by rfl) ⟨rfl, (show tk ≤ tk by omega), _, rfl, ⟨_, _, _, _, rfl, rfl, ⟨0, 0, ⟨#[]⟩, 0, true, [], rfl, rfl, fun _ => Fr.nil _ _⟩, rfl⟩⟩
 ·replace hM := ite_f hb4 hM
  refine run_skip ?_
  refine run_seq ?_
  refine run_sr ?_
  refine run_ld hG rfl rfl rfl rfl rfl (ltb rfl) ?_
  obtain ⟨r5, hg6, hM⟩ := bind_t hM
  refine run_call rfl rfl rfl (ltb rfl) rfl rfl rfl (fun _ h => absurd h List.not_mem_nil) (s_TermOK_ok n k1 n1 s1 q1 f1 ks1 hg6 _ _) (callK_retX (fun v tk7 (hle8 : tk ≤ tk7) h9 => ?_))
  subst h9
  refine run_pu rfl (aun_step rfl rfl rfl) rfl (ltb rfl) ?_
  refine mvL rfl rfl rfl rfl (ltb rfl) ?_
  refine run_splitb (i := 16) rfl (fun hb12 => ?_) (fun hb12 => ?_)
  ·replace hM := ite_t hb12 hM
   refine run_off (on_of rfl rfl rfl rfl) rfl (ltb rfl) ?_
   refine run_off (on_of rfl rfl rfl rfl) rfl (ltb rfl) ?_
   refine run_off (on_of rfl rfl rfl rfl) rfl (ltb rfl) ?_
   refine run_pu rfl (pick_step rfl rfl rfl) rfl (ltb rfl) ?_
   refine mvL rfl rfl rfl rfl (ltb rfl) ?_
   refine run_off (on_of rfl rfl rfl rfl) rfl (ltb rfl) ?_
   refine run_off (on_of rfl rfl rfl rfl) rfl (ltb rfl) ?_
   refine run_off (on_of rfl rfl rfl rfl) rfl (ltb rfl) ?_
   refine run_pu rfl (pick_step rfl rfl rfl) rfl (ltb rfl) ?_
   refine run_ops_nil ?_
   refine run_sub_code (σ' := ⟨[(2, .imm q3 4 f3 (cellss ks3)), (3, .optr (.loc 3) 0 0), (4, .optr (.loc 4) 0 0), (6, .optr (.loc 6) 0 0), (7, .int .i64 0), (25, .bool true)], [(6, ⟨29, 4, true, [[.int .i64 0, .int .i64 0, .str ⟨#[]⟩, .imm 0 4 true []]]⟩), (4, ⟨29, 4, true, [[.int .i64 k2, .int .i64 n2, .str s2, .imm q2 4 f2 (cellss ks2)]]⟩), (3, ⟨29, 4, true, [[.int .i64 k1, .int .i64 n1, .str s1, .imm q1 4 f1 (cellss ks1)]]⟩)], [], O, tk7⟩) (Sub.env _ ⟨rfl, rfl, rfl, rfl, rfl, rfl, trivial⟩) ?_
   refine run_if rfl rfl (fun _ => ?_) (fun h => by cases h)
   refine run_sr ?_
   refine run_pu rfl (build_step hG rfl (by rfl) rfl (fun h => by cases h) (by rfl)) rfl (ltb rfl) ?_
   refine run_op0 rfl (store_step hG rfl rfl rfl rfl rfl rfl rfl rfl) rfl ?_
   refine mvR rfl rfl rfl rfl (ltb rfl) ?_
   refine run_ops_nil ?_
   refine run_ret_to ?_
   obtain rfl := some_t hM
   refine fin_x hG rfl rfl rfl (v' := .tup [.agg [.int .i64 0, .int .i64 0, .str ⟨#[]⟩, .imm 0 4 true (cellss [])], .int .i64 1]) (by rfl) ⟨rfl, (show tk ≤ tk7 by omega), _, rfl, ⟨_, _, _, _, rfl, rfl, ⟨0, 0, ⟨#[]⟩, 0, true, [], rfl, rfl, fun _ => Fr.nil _ _⟩, rfl⟩⟩
  ·replace hM := ite_f hb12 hM
   refine run_rdG (on_of rfl rfl rfl rfl) (aload_rd hG rfl rfl rfl (by first | (simp [ldok]; done) | exact List.not_mem_nil | trivial)) rfl (ltb rfl) ?_
   obtain ⟨r13, hg14, hM⟩ := bind_t hM
   refine run_callG (on_of rfl rfl rfl rfl) rfl rfl (ltb rfl) rfl rfl rfl (fun _ h => absurd h List.not_mem_nil) (s_SimpleOK_ok n k2 n2 s2 q2 f2 ks2 hg14 _ _) (callK_retX (fun v tk15 (hle16 : tk7 ≤ tk15) h17 => ?_))
   subst h17
   refine run_puG (on_of rfl rfl rfl rfl) (aun_step rfl rfl rfl) rfl (ltb rfl) ?_
   refine run_pu rfl (pick_step rfl rfl rfl) rfl (ltb rfl) ?_
   refine mvL rfl rfl rfl rfl (ltb rfl) ?_
   refine run_splitb (i := 21) rfl (fun hb20 => ?_) (fun hb20 => ?_)
   ·replace hM := ite_t hb20 hM
    refine run_off (on_of rfl rfl rfl rfl) rfl (ltb rfl) ?_
    refine run_off (on_of rfl rfl rfl rfl) rfl (ltb rfl) ?_
    refine run_off (on_of rfl rfl rfl rfl) rfl (ltb rfl) ?_
    refine run_pu rfl (pick_step rfl rfl rfl) rfl (ltb rfl) ?_
    refine run_ops_nil ?_
    refine run_sub_code (σ' := ⟨[(2, .imm q3 4 f3 (cellss ks3)), (3, .optr (.loc 3) 0 0), (4, .optr (.loc 4) 0 0), (6, .optr (.loc 6) 0 0), (7, .int .i64 0), (25, .bool true)], [(6, ⟨29, 4, true, [[.int .i64 0, .int .i64 0, .str ⟨#[]⟩, .imm 0 4 true []]]⟩), (4, ⟨29, 4, true, [[.int .i64 k2, .int .i64 n2, .str s2, .imm q2 4 f2 (cellss ks2)]]⟩), (3, ⟨29, 4, true, [[.int .i64 k1, .int .i64 n1, .str s1, .imm q1 4 f1 (cellss ks1)]]⟩)], [], O, tk15⟩) (Sub.env _ ⟨rfl, rfl, rfl, rfl, rfl, rfl, trivial⟩) ?_
    refine run_if rfl rfl (fun _ => ?_) (fun h => by cases h)
    refine run_sr ?_
    refine run_pu rfl (build_step hG rfl (by rfl) rfl (fun h => by cases h) (by rfl)) rfl (ltb rfl) ?_
    refine run_op0 rfl (store_step hG rfl rfl rfl rfl rfl rfl rfl rfl) rfl ?_
    refine mvR rfl rfl rfl rfl (ltb rfl) ?_
    refine run_ops_nil ?_
    refine run_ret_to ?_
    obtain rfl := some_t hM
    refine fin_x hG rfl rfl rfl (v' := .tup [.agg [.int .i64 0, .int .i64 0, .str ⟨#[]⟩, .imm 0 4 true (cellss [])], .int .i64 1]) (by rfl) ⟨rfl, (show tk ≤ tk15 by omega), _, rfl, ⟨_, _, _, _, rfl, rfl, ⟨0, 0, ⟨#[]⟩, 0, true, [], rfl, rfl, fun _ => Fr.nil _ _⟩, rfl⟩⟩
   ·replace hM := ite_f hb20 hM
    refine run_puG (on_of rfl rfl rfl rfl) (move_step (.inl rfl) rfl) rfl (ltb rfl) ?_
    obtain ⟨r21, hg22, hM⟩ := bind_t hM
    refine run_callG (on_of rfl rfl rfl rfl) rfl rfl (ltb rfl) rfl rfl rfl (fun _ h => absurd h List.not_mem_nil) (s_l03Spine_ok n q3 f3 ks3 hg22 _ _) (callK_retX (fun v tk23 (hle24 : tk15 ≤ tk23) h25 => ?_))
    subst h25
    refine run_puG (on_of rfl rfl rfl rfl) (aun_step rfl rfl rfl) rfl (ltb rfl) ?_
    refine run_pu rfl (pick_step rfl rfl rfl) rfl (ltb rfl) ?_
    refine run_ops_nil ?_
    refine run_sub_code (σ' := ⟨[(2, .imm q3 4 f3 (cellss ks3)), (3, .optr (.loc 3) 0 0), (4, .optr (.loc 4) 0 0), (6, .optr (.loc 6) 0 0), (7, .int .i64 0), (25, .bool (!r21))], [(6, ⟨29, 4, true, [[.int .i64 0, .int .i64 0, .str ⟨#[]⟩, .imm 0 4 true []]]⟩), (4, ⟨29, 4, true, [[.int .i64 k2, .int .i64 n2, .str s2, .imm q2 4 f2 (cellss ks2)]]⟩), (3, ⟨29, 4, true, [[.int .i64 k1, .int .i64 n1, .str s1, .imm q1 4 f1 (cellss ks1)]]⟩)], [], O, tk23⟩) (Sub.env _ ⟨rfl, rfl, rfl, rfl, rfl, rfl, trivial⟩) ?_
    refine run_ifb rfl rfl (fun hb28 => ?_) (fun hb28 => ?_)
    ·replace hM := ite_t hb28 hM
     refine run_sr ?_
     refine run_pu rfl (build_step hG rfl (by rfl) rfl (fun h => by cases h) (by rfl)) rfl (ltb rfl) ?_
     refine run_op0 rfl (store_step hG rfl rfl rfl rfl rfl rfl rfl rfl) rfl ?_
     refine mvR rfl rfl rfl rfl (ltb rfl) ?_
     refine run_ops_nil ?_
     refine run_ret_to ?_
     obtain rfl := some_t hM
     refine fin_x hG rfl rfl rfl (v' := .tup [.agg [.int .i64 0, .int .i64 0, .str ⟨#[]⟩, .imm 0 4 true (cellss [])], .int .i64 1]) (by rfl) ⟨rfl, (show tk ≤ tk23 by omega), _, rfl, ⟨_, _, _, _, rfl, rfl, ⟨0, 0, ⟨#[]⟩, 0, true, [], rfl, rfl, fun _ => Fr.nil _ _⟩, rfl⟩⟩
    ·replace hM := ite_f hb28 hM
     refine run_skip ?_
     refine run_sr ?_
     refine run_pu rfl (build_step hG rfl (by rfl) rfl (fun h => by cases h) (by rfl)) rfl (ltb rfl) ?_
     refine run_op rfl (box_step (d := 28) rfl rfl rfl rfl rfl) rfl (ltb rfl) ?_
     refine mvR rfl rfl rfl rfl (ltb rfl) ?_
     refine run_ops_nil ?_
     refine run_sr ?_
     refine mvL rfl rfl rfl rfl (ltb rfl) ?_
     refine run_ld hG rfl rfl rfl rfl rfl (ltb rfl) ?_
     refine run_ld hG rfl rfl rfl rfl rfl (ltb rfl) ?_
     refine mvL rfl rfl rfl rfl (ltb rfl) ?_
     obtain ⟨r29, hg30, hM⟩ := bind_t hM
     refine run_call rfl rfl rfl (ltb rfl) rfl rfl rfl (fun _ h => absurd h List.not_mem_nil) (s_l03Run_reduce_ok n (.loc 28) 0 k1 n1 s1 q1 f1 ks1 k2 n2 s2 q2 f2 ks2 q3 f3 ks3 hg30 _ _ rfl) (callK_retV_loc (k := 28) rfl (fun v o'44 tk31 (hle32 : tk23 ≤ tk31) h33 => ?_))
     obtain ⟨ra40, ra41, va42, va43, c38, rfl, rfl, rfl, ⟨k34, n34, s34, q34, f34, ks34, rfl, rfl, hf35⟩, rfl⟩ := h33
     refine run_pu rfl (extract_step rfl rfl rfl) rfl (ltb rfl) ?_
     refine run_pu rfl (extract_step rfl rfl rfl) rfl (ltb rfl) ?_
     refine run_op0 rfl (store_step hG rfl rfl rfl rfl rfl rfl rfl rfl) rfl ?_
     refine mvR rfl rfl rfl rfl (ltb rfl) ?_
     refine run_ops_nil ?_
     refine run_ret_to ?_
     obtain rfl := some_t hM
     refine fin_x hG rfl rfl rfl (v' := .tup [.agg [.int .i64 k34, .int .i64 n34, .str s34, .imm q34 4 f34 (cellss ks34)], .int .i64 ra41]) (by rfl) ⟨rfl, (show tk ≤ tk31 by omega), _, rfl, ⟨_, _, _, _, rfl, rfl, ⟨k34, n34, s34, q34, f34, ks34, rfl, rfl, fun _ => (show Fr tk tk31 _ from ((show Fr tk23 tk31 _ from hf35 rfl)).mono (by omega) (by omega))⟩, rfl⟩⟩

end Go.Am.YtiobknkpdkkikabDoor
