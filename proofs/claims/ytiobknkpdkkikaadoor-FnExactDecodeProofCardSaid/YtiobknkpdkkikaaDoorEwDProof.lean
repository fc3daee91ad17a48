/- Printed by a program of ours: Lean functions that do what the Go functions do, and the contracts. -/
import Derived.Test.YtiobknkpdkkikaaDoorMl0
import Derived.Test.YtiobknkpdkkikaaDoorTypes
import Derived.Test.YtiobknkpdkkikaaDoorMsTree
import Derived.Test.YtiobknkpdkkikaaDoorMsProof
import Derived.Test.YtiobknkpdkkikaaDoorEkDProof
import Derived.Test.YtiobknkpdkkikaaDoorDlTree
import Derived.Test.YtiobknkpdkkikaaDoorMhTree
-- packed
namespace Go.Am.YtiobknkpdkkikaaDoor
open Go Go.Am

def w_eqFormS_L1 (rec_w_eqForm : F → F → Option Bool) (l1 : List F) (l2 : List F) : Nat → Int → Option Bool
 | 0, _ => none
 | m + 1, i4 =>
  if i4 < ((l1).length : Int) then
   (idx l1 i4).bind fun y6 =>
   (idx l2 i4).bind fun y11 =>
   (rec_w_eqForm y6 y11).bind fun r16 =>
   if (!r16) = true then
    some false
   else
    w_eqFormS_L1 rec_w_eqForm l1 l2 m (IntKind.i64.wrap (i4 + 1))
  else
   some true

mutual

def w_eqForm : Nat → F → F → Option Bool
 | 0, _, _ => none
 | n + 1, x1, x2 =>
  if (x1.kind != x2.kind) = true then
   some false
  else
   if (x1.n != x2.n) = true then
    some false
   else
    (w_eqFormS n x1.kids x2.kids).bind fun r5 =>
    if (!r5) = true then
     some false
    else
     some true

def w_eqFormS : Nat → List F → List F → Option Bool
 | 0, _, _ => none
 | n + 1, l1, l2 =>
  if (((l1).length : Int) != ((l2).length : Int)) = true then
   some false
  else
   w_eqFormS_L1 (w_eqForm n) l1 l2 n 0

end

set_option maxRecDepth 100000 in
theorem w_eqForm_st (n : Nat) (ih_w_eqFormS : ∀ (q1 : Nat) (f1 : Bool) (ks1 : List LF) (q2 : Nat) (f2 : Bool) (ks2 : List LF) {r : Bool}, w_eqFormS n (fers ks1) (fers ks2) = some r → ∀ (O : Heap) (tk : Nat), ACalls Go.Proofs.Tryd.prog 47 [.imm q1 3 f1 (fcellss ks1), .imm q2 3 f2 (fcellss ks2)] O tk (RetX O tk (fun v tk' => v = .bool r))) : ∀ (k1 : Int) (n1 : Int) (q1 : Nat) (f1 : Bool) (ks1 : List LF) (k2 : Int) (n2 : Int) (q2 : Nat) (f2 : Bool) (ks2 : List LF) {r : Bool}, w_eqForm (n + 1) (F.mk k1 n1 (fers ks1)) (F.mk k2 n2 (fers ks2)) = some r → ∀ (O : Heap) (tk : Nat), ACalls Go.Proofs.Tryd.prog 25 [.agg [.int .i64 k1, .int .i64 n1, .imm q1 3 f1 (fcellss ks1)], .agg [.int .i64 k2, .int .i64 n2, .imm q2 3 f2 (fcellss ks2)]] O tk (RetX O tk (fun v tk' => v = .bool r)) := by
 intro k1 n1 q1 f1 ks1 k2 n2 q2 f2 ks2 r hM O tk
 rw [w_eqForm] at hM
 refine acalls_of_run Go.Proofs.Tryd.func25 rfl rfl [] [] (Bor.nil _) [(0, .agg [.int .i64 k1, .int .i64 n1, .imm q1 3 f1 (fcellss ks1)]), (1, .agg [.int .i64 k2, .int .i64 n2, .imm q2 3 f2 (fcellss ks2)])] (.cons (.agg _) (.cons (.agg _) (.nil _))) (leb rfl) (fun _ h => by cases h) (fun S0 hO htk hfz => ?_)
 refine run_sr ?_
 refine run_op rfl (box_step (d := 2) rfl rfl rfl rfl rfl) rfl (ltb rfl) ?_
 refine run_op rfl (box_step (d := 3) rfl rfl rfl rfl rfl) rfl (ltb rfl) ?_
 refine mvR rfl rfl rfl rfl (ltb rfl) ?_
 refine run_ops_nil ?_
 refine run_seq ?_
 refine run_sr ?_
 refine run_pu rfl (fieldAddr_step hG rfl rfl rfl rfl rfl) rfl (ltb rfl) ?_
 refine run_ld hG rfl rfl rfl rfl rfl (ltb rfl) ?_
 refine run_pu rfl (fieldAddr_step hG rfl rfl rfl rfl rfl) rfl (ltb rfl) ?_
 refine run_ld hG rfl rfl rfl rfl rfl (ltb rfl) ?_
 refine run_bin rfl rfl rfl rfl rfl rfl rfl (ltb rfl) ?_
 refine run_ops_nil ?_
 refine run_ifb rfl rfl (fun hb3 => ?_) (fun hb3 => ?_)
 ·replace hM := ite_t hb3 hM
  refine run_sr ?_
  refine mvR rfl rfl rfl rfl (ltb rfl) ?_
  refine run_ops_nil ?_
  refine run_ret_to ?_
  obtain rfl := some_t hM
  refine fin_x hG rfl rfl rfl (v' := .bool false) (by rfl) ⟨rfl, (show tk ≤ tk by omega), _, rfl, rfl⟩
 ·replace hM := ite_f hb3 hM
  refine run_skip ?_
  refine run_seq ?_
  refine run_sr ?_
  refine run_pu rfl (fieldAddr_step hG rfl rfl rfl rfl rfl) rfl (ltb rfl) ?_
  refine run_ld hG rfl rfl rfl rfl rfl (ltb rfl) ?_
  refine run_pu rfl (fieldAddr_step hG rfl rfl rfl rfl rfl) rfl (ltb rfl) ?_
  refine run_ld hG rfl rfl rfl rfl rfl (ltb rfl) ?_
  refine run_bin rfl rfl rfl rfl rfl rfl rfl (ltb rfl) ?_
  refine run_ops_nil ?_
  refine run_ifb rfl rfl (fun hb4 => ?_) (fun hb4 => ?_)
  ·replace hM := ite_t hb4 hM
   refine run_sr ?_
   refine mvR rfl rfl rfl rfl (ltb rfl) ?_
   refine run_ops_nil ?_
   refine run_ret_to ?_
   obtain rfl := some_t hM
   refine fin_x hG rfl rfl rfl (v' := .bool false) (by rfl) ⟨rfl, (show tk ≤ tk by omega), _, rfl, rfl⟩
  ·replace hM := ite_f hb4 hM
   refine run_skip ?_
   refine run_seq ?_
   refine run_sr ?_
   refine run_pu rfl (fieldAddr_step hG rfl rfl rfl rfl rfl) rfl (ltb rfl) ?_
   refine run_ld hG rfl rfl rfl rfl rfl (ltb rfl) ?_
   refine run_pu rfl (fieldAddr_step hG rfl rfl rfl rfl rfl) rfl (ltb rfl) ?_
   refine run_ld hG rfl rfl rfl rfl rfl (ltb rfl) ?_
   obtain ⟨r5, hg6, hM⟩ := bind_t hM
   refine run_call rfl rfl rfl (ltb rfl) rfl rfl rfl (fun _ h => absurd h List.not_mem_nil) (ih_w_eqFormS q1 f1 ks1 q2 f2 ks2 hg6 _ _) (callK_retX (fun v tk7 (hle8 : tk ≤ tk7) h9 => ?_))
   subst h9
   refine run_pu rfl (aun_step rfl rfl rfl) rfl (ltb rfl) ?_
   refine run_ops_nil ?_
   refine run_sub_code (σ' := ⟨[(4, .bool false), (20, .bool (!r5))], [], [], O, tk7⟩) (Sub.trans (Sub.drop (k := 3) rfl) (Sub.trans (Sub.drop (k := 2) rfl) (Sub.env _ ⟨rfl, rfl, trivial⟩))) ?_
   refine run_ifb rfl rfl (fun hb12 => ?_) (fun hb12 => ?_)
   ·replace hM := ite_t hb12 hM
    refine run_sr ?_
    refine mvR rfl rfl rfl rfl (ltb rfl) ?_
    refine run_ops_nil ?_
    refine run_ret_to ?_
    obtain rfl := some_t hM
    refine fin_x hG rfl rfl rfl (v' := .bool false) (by rfl) ⟨rfl, (show tk ≤ tk7 by omega), _, rfl, rfl⟩
   ·replace hM := ite_f hb12 hM
    refine run_skip ?_
    refine run_sr ?_
    refine mvR rfl rfl rfl rfl (ltb rfl) ?_
    refine run_ops_nil ?_
    refine run_ret_to ?_
    obtain rfl := some_t hM
    refine fin_x hG rfl rfl rfl (v' := .bool true) (by rfl) ⟨rfl, (show tk ≤ tk7 by omega), _, rfl, rfl⟩

set_option maxRecDepth 100000 in
theorem w_eqFormS_st (n : Nat) (ih_w_eqForm : ∀ (k1 : Int) (n1 : Int) (q1 : Nat) (f1 : Bool) (ks1 : List LF) (k2 : Int) (n2 : Int) (q2 : Nat) (f2 : Bool) (ks2 : List LF) {r : Bool}, w_eqForm n (F.mk k1 n1 (fers ks1)) (F.mk k2 n2 (fers ks2)) = some r → ∀ (O : Heap) (tk : Nat), ACalls Go.Proofs.Tryd.prog 25 [.agg [.int .i64 k1, .int .i64 n1, .imm q1 3 f1 (fcellss ks1)], .agg [.int .i64 k2, .int .i64 n2, .imm q2 3 f2 (fcellss ks2)]] O tk (RetX O tk (fun v tk' => v = .bool r))) : ∀ (q1 : Nat) (f1 : Bool) (ks1 : List LF) (q2 : Nat) (f2 : Bool) (ks2 : List LF) {r : Bool}, w_eqFormS (n + 1) (fers ks1) (fers ks2) = some r → ∀ (O : Heap) (tk : Nat), ACalls Go.Proofs.Tryd.prog 47 [.imm q1 3 f1 (fcellss ks1), .imm q2 3 f2 (fcellss ks2)] O tk (RetX O tk (fun v tk' => v = .bool r)) := by
 intro q1 f1 ks1 q2 f2 ks2 r hM O tk
 rw [w_eqFormS] at hM
 refine acalls_of_run Go.Proofs.Tryd.func47 rfl rfl [] [] (Bor.nil _) [(0, .imm q1 3 f1 (fcellss ks1)), (1, .imm q2 3 f2 (fcellss ks2))] (.cons (entS rfl) (.cons (entS rfl) (.nil _))) (leb rfl) (fun _ h => by cases h) (fun S0 hO htk hfz => ?_)
 refine run_sr ?_
 refine mvR rfl rfl rfl rfl (ltb rfl) ?_
 refine run_ops_nil ?_
 refine run_seq ?_
 refine run_sr ?_
 refine mvL rfl rfl rfl rfl (ltb rfl) ?_
 refine run_pu rfl (lenImm_step hG rfl rfl rfl rfl (flen _)) rfl (ltb rfl) ?_
 refine mvL rfl rfl rfl rfl (ltb rfl) ?_
 refine run_pu rfl (lenImm_step hG rfl rfl rfl rfl (flen _)) rfl (ltb rfl) ?_
 refine run_bin rfl rfl rfl rfl rfl rfl rfl (ltb rfl) ?_
 refine run_ops_nil ?_
 refine run_ifb rfl rfl (fun hb3 => ?_) (fun hb3 => ?_)
 ·replace hM := ite_t hb3 hM
  refine run_sr ?_
  refine mvR rfl rfl rfl rfl (ltb rfl) ?_
  refine run_ops_nil ?_
  refine run_ret_to ?_
  obtain rfl := some_t hM
  refine fin_x hG rfl rfl rfl (v' := .bool false) (by rfl) ⟨rfl, (show tk ≤ tk by omega), _, rfl, rfl⟩
 ·replace hM := ite_f hb3 hM
  refine run_skip ?_
  refine run_seq ?_
  refine run_sr ?_
  refine mvR rfl rfl rfl rfl (ltb rfl) ?_
  refine run_ops_nil ?_
  refine run_block ?_
  refine run_rounds (fun m σ => ∃ (i4 : Int) (tkw_eqFormS_L1 : Nat), tk ≤ tkw_eqFormS_L1 ∧ w_eqFormS_L1 (w_eqForm n) (fers ks1) (fers ks2) m i4 = some r ∧ σ = ⟨[(0, .imm q1 3 f1 (fcellss ks1)), (1, .imm q2 3 f2 (fcellss ks2)), (4, .bool false), (5, .int .i64 i4)], [], [], O, tkw_eqFormS_L1⟩) n (Sub.env [(0, .imm q1 3 f1 (fcellss ks1)), (1, .imm q2 3 f2 (fcellss ks2)), (4, .bool false), (5, .int .i64 0)] ⟨rfl, rfl, rfl, rfl, trivial⟩) ⟨0, tk, Nat.le_refl _, hM, rfl⟩ (fun m σ hI => ?_)
  clear hM
  obtain ⟨i4, tkw_eqFormS_L1, hle24, hM, rfl⟩ := hI
  obtain _ | m := m
  ·exact absurd hM (by rw [w_eqFormS_L1]; exact fun h => by cases h)
  rw [w_eqFormS_L1] at hM
  refine run_seq ?_
  refine run_sr ?_
  refine mvL rfl rfl rfl rfl (ltb rfl) ?_
  refine mvL rfl rfl rfl rfl (ltb rfl) ?_
  refine run_pu rfl (lenImm_step hG rfl rfl rfl rfl (flen _)) rfl (ltb rfl) ?_
  refine run_bin rfl rfl rfl rfl rfl rfl rfl (ltb rfl) ?_
  refine run_ops_nil ?_
  refine run_ifd rfl rfl (fun hb5 => ?_) (fun hb5 => ?_)
  ·replace hM := ite_t hb5 hM
   refine run_skip ?_
   refine run_seq ?_
   refine run_block ?_
   refine run_seq ?_
   refine run_draw [] (n := 10) mixed rfl (fun _ h => absurd h List.not_mem_nil) ?_
   refine AAny.take (i := 0) rfl (by kernel_rfl) (by kernel_rfl) (by kernel_rfl) rfl rfl (ltb rfl) ((move_step (.inl rfl) rfl).rd _) ?_
   refine AAny.take (i := 1) rfl (by kernel_rfl) (by kernel_rfl) (by kernel_rfl) rfl rfl (ltb rfl) ((move_step (.inl rfl) rfl).rd _) ?_
   obtain ⟨y6, hy7, hM⟩ := bind_t hM
   obtain ⟨k8, n8, q8, f8, ks8, rfl, hc9, hi10⟩ := fidx (ks := ks1) hy7
   refine AAny.take (i := 2) rfl (by kernel_rfl) (by kernel_rfl) (by kernel_rfl) rfl rfl (ltb rfl) ((indexImm_step hG rfl rfl rfl hi10 rfl rfl rfl rfl hc9).rd _) ?_
   refine AAny.take (i := 3) rfl (by kernel_rfl) (by kernel_rfl) (by kernel_rfl) rfl rfl (ltb rfl) (aload_rd hG rfl rfl rfl (by first | (simp [ldok]; done) | exact List.not_mem_nil | trivial)) ?_
   refine AAny.take (i := 4) rfl (by kernel_rfl) (by kernel_rfl) (by kernel_rfl) rfl rfl (ltb rfl) ((move_step (.inl rfl) rfl).rd _) ?_
   refine AAny.take (i := 5) rfl (by kernel_rfl) (by kernel_rfl) (by kernel_rfl) rfl rfl (ltb rfl) ((move_step (.inl rfl) rfl).rd _) ?_
   obtain ⟨y11, hy12, hM⟩ := bind_t hM
   obtain ⟨k13, n13, q13, f13, ks13, rfl, hc14, hi15⟩ := fidx (ks := ks2) hy12
   refine AAny.take (i := 6) rfl (by kernel_rfl) (by kernel_rfl) (by kernel_rfl) rfl rfl (ltb rfl) ((indexImm_step hG rfl rfl rfl hi15 rfl rfl rfl rfl hc14).rd _) ?_
   refine AAny.take (i := 7) rfl (by kernel_rfl) (by kernel_rfl) (by kernel_rfl) rfl rfl (ltb rfl) (aload_rd hG rfl rfl rfl (by first | (simp [ldok]; done) | exact List.not_mem_nil | trivial)) ?_
   obtain ⟨r16, hg17, hM⟩ := bind_t hM
   refine AAny.one (i := 8) (by kernel_rfl) (AOp.call rfl rfl rfl rfl (ltb rfl) rfl rfl rfl (fun _ h => absurd h List.not_mem_nil) (fun _ h => absurd h List.not_mem_nil) (ih_w_eqForm k8 n8 q8 f8 ks8 k13 n13 q13 f13 ks13 hg17 _ _) (callK_retX (fun v tk18 (hle19 : tkw_eqFormS_L1 ≤ tk18) h20 => ?_)))
   subst h20
   refine AAny.take (i := 9) rfl (by kernel_rfl) (by kernel_rfl) (by kernel_rfl) rfl rfl (ltb rfl) ((aun_step rfl rfl rfl).rd _) ?_
   refine AAny.done (by kernel_rfl) ?_
   refine run_sub_code (σ' := ⟨[(0, .imm q1 3 f1 (fcellss ks1)), (1, .imm q2 3 f2 (fcellss ks2)), (4, .bool false), (5, .int .i64 i4), (26, .bool (!r16))], [], [], O, tk18⟩) (Sub.env _ ⟨rfl, rfl, rfl, rfl, rfl, trivial⟩) ?_
   refine run_ifb rfl rfl (fun hb23 => ?_) (fun hb23 => ?_)
   ·replace hM := ite_t hb23 hM
    refine run_sr ?_
    refine mvR rfl rfl rfl rfl (ltb rfl) ?_
    refine run_ops_nil ?_
    refine run_ret_to ?_
    obtain rfl := some_t hM
    refine fin_x hG rfl rfl rfl (v' := .bool false) (by rfl) ⟨rfl, (show tk ≤ tk18 by omega), _, rfl, rfl⟩
   ·replace hM := ite_f hb23 hM
    refine run_skip ?_
    refine run_blk ?_
    refine run_region ?_
    refine mvL rfl rfl rfl rfl (ltb rfl) ?_
    refine run_bin rfl rfl rfl rfl rfl rfl rfl (ltb rfl) ?_
    refine mvR rfl rfl rfl rfl (ltb rfl) ?_
    refine run_ops_nil ?_
    exact run_loop_end ⟨m, _, Nat.lt_succ_self _, ⟨(IntKind.i64.wrap (i4 + 1)), tk18, (show tk ≤ tk18 by omega), hM, rfl⟩, Sub.env [(0, .imm q1 3 f1 (fcellss ks1)), (1, .imm q2 3 f2 (fcellss ks2)), (4, .bool false), (5, .int .i64 (IntKind.i64.wrap (i4 + 1)))] ⟨rfl, rfl, rfl, rfl, trivial⟩⟩
  ·replace hM := ite_f hb5 hM
   refine run_exit_to rfl ?_
   refine run_sr ?_
   refine mvR rfl rfl rfl rfl (ltb rfl) ?_
   refine run_ops_nil ?_
   refine run_ret_to ?_
   obtain rfl := some_t hM
   refine fin_x hG rfl rfl rfl (v' := .bool true) (by rfl) ⟨rfl, (show tk ≤ tkw_eqFormS_L1 by omega), _, rfl, rfl⟩

theorem w_eqForm_all : ∀ (n : Nat), (∀ (k1 : Int) (n1 : Int) (q1 : Nat) (f1 : Bool) (ks1 : List LF) (k2 : Int) (n2 : Int) (q2 : Nat) (f2 : Bool) (ks2 : List LF) {r : Bool}, w_eqForm n (F.mk k1 n1 (fers ks1)) (F.mk k2 n2 (fers ks2)) = some r → ∀ (O : Heap) (tk : Nat), ACalls Go.Proofs.Tryd.prog 25 [.agg [.int .i64 k1, .int .i64 n1, .imm q1 3 f1 (fcellss ks1)], .agg [.int .i64 k2, .int .i64 n2, .imm q2 3 f2 (fcellss ks2)]] O tk (RetX O tk (fun v tk' => v = .bool r))) ∧ (∀ (q1 : Nat) (f1 : Bool) (ks1 : List LF) (q2 : Nat) (f2 : Bool) (ks2 : List LF) {r : Bool}, w_eqFormS n (fers ks1) (fers ks2) = some r → ∀ (O : Heap) (tk : Nat), ACalls Go.Proofs.Tryd.prog 47 [.imm q1 3 f1 (fcellss ks1), .imm q2 3 f2 (fcellss ks2)] O tk (RetX O tk (fun v tk' => v = .bool r)))
 | 0 => ⟨(by intro k1 n1 q1 f1 ks1 k2 n2 q2 f2 ks2 r hM; rw [w_eqForm] at hM; cases hM), (by intro q1 f1 ks1 q2 f2 ks2 r hM; rw [w_eqFormS] at hM; cases hM)⟩
 | n + 1 => have ih := w_eqForm_all n; ⟨w_eqForm_st n (ih.2), w_eqFormS_st n (ih.1)⟩

theorem w_eqFormS_ok (n : Nat) : ∀ (q1 : Nat) (f1 : Bool) (ks1 : List LF) (q2 : Nat) (f2 : Bool) (ks2 : List LF) {r : Bool}, w_eqFormS n (fers ks1) (fers ks2) = some r → ∀ (O : Heap) (tk : Nat), ACalls Go.Proofs.Tryd.prog 47 [.imm q1 3 f1 (fcellss ks1), .imm q2 3 f2 (fcellss ks2)] O tk (RetX O tk (fun v tk' => v = .bool r)) := (w_eqForm_all n).2

def w_eqProofS_L1 (rec_w_eqProof : Pf → Pf → Option Bool) (l1 : List Pf) (l2 : List Pf) : Nat → Int → Option Bool
 | 0, _ => none
 | m + 1, i4 =>
  if i4 < ((l1).length : Int) then
   (idx l1 i4).bind fun y6 =>
   (idx l2 i4).bind fun y11 =>
   (rec_w_eqProof y6 y11).bind fun r16 =>
   if (!r16) = true then
    some false
   else
    w_eqProofS_L1 rec_w_eqProof l1 l2 m (IntKind.i64.wrap (i4 + 1))
  else
   some true

mutual

def w_eqProof : Nat → Pf → Pf → Option Bool
 | 0, _, _ => none
 | n + 1, x1, x2 =>
  if (x1.kind != x2.kind) = true then
   some false
  else
   if (x1.n != x2.n) = true then
    some false
   else
    (w_eqFormS n x1.forms x2.forms).bind fun r5 =>
    if (!r5) = true then
     some false
    else
     (w_eqProofS n x1.kids x2.kids).bind fun r13 =>
     if (!r13) = true then
      some false
     else
      some true

def w_eqProofS : Nat → List Pf → List Pf → Option Bool
 | 0, _, _ => none
 | n + 1, l1, l2 =>
  if (((l1).length : Int) != ((l2).length : Int)) = true then
   some false
  else
   w_eqProofS_L1 (w_eqProof n) l1 l2 n 0

end

set_option maxRecDepth 100000 in
theorem w_eqProof_st (n : Nat) (ih_w_eqProofS : ∀ (q1 : Nat) (f1 : Bool) (ks1 : List LP) (q2 : Nat) (f2 : Bool) (ks2 : List LP) {r : Bool}, w_eqProofS n (pers ks1) (pers ks2) = some r → ∀ (O : Heap) (tk : Nat), ACalls Go.Proofs.Tryd.prog 48 [.imm q1 4 f1 (pcellss ks1), .imm q2 4 f2 (pcellss ks2)] O tk (RetX O tk (fun v tk' => v = .bool r))) : ∀ (k1 : Int) (n1 : Int) (p1 : Nat) (e1 : Bool) (fs1 : List LF) (q1 : Nat) (f1 : Bool) (ks1 : List LP) (k2 : Int) (n2 : Int) (p2 : Nat) (e2 : Bool) (fs2 : List LF) (q2 : Nat) (f2 : Bool) (ks2 : List LP) {r : Bool}, w_eqProof (n + 1) (Pf.mk k1 n1 (fers fs1) (pers ks1)) (Pf.mk k2 n2 (fers fs2) (pers ks2)) = some r → ∀ (O : Heap) (tk : Nat), ACalls Go.Proofs.Tryd.prog 13 [.agg [.int .i64 k1, .int .i64 n1, .imm p1 3 e1 (fcellss fs1), .imm q1 4 f1 (pcellss ks1)], .agg [.int .i64 k2, .int .i64 n2, .imm p2 3 e2 (fcellss fs2), .imm q2 4 f2 (pcellss ks2)]] O tk (RetX O tk (fun v tk' => v = .bool r)) := by
 intro k1 n1 p1 e1 fs1 q1 f1 ks1 k2 n2 p2 e2 fs2 q2 f2 ks2 r hM O tk
 rw [w_eqProof] at hM
 refine acalls_of_run Go.Proofs.Tryd.func13 rfl rfl [] [] (Bor.nil _) [(0, .agg [.int .i64 k1, .int .i64 n1, .imm p1 3 e1 (fcellss fs1), .imm q1 4 f1 (pcellss ks1)]), (1, .agg [.int .i64 k2, .int .i64 n2, .imm p2 3 e2 (fcellss fs2), .imm q2 4 f2 (pcellss ks2)])] (.cons (.agg _) (.cons (.agg _) (.nil _))) (leb rfl) (fun _ h => by cases h) (fun S0 hO htk hfz => ?_)
 refine run_sr ?_
 refine run_op rfl (box_step (d := 2) rfl rfl rfl rfl rfl) rfl (ltb rfl) ?_
 refine run_op rfl (box_step (d := 3) rfl rfl rfl rfl rfl) rfl (ltb rfl) ?_
 refine mvR rfl rfl rfl rfl (ltb rfl) ?_
 refine run_ops_nil ?_
 refine run_seq ?_
 refine run_sr ?_
 refine run_pu rfl (fieldAddr_step hG rfl rfl rfl rfl rfl) rfl (ltb rfl) ?_
 refine run_ld hG rfl rfl rfl rfl rfl (ltb rfl) ?_
 refine run_pu rfl (fieldAddr_step hG rfl rfl rfl rfl rfl) rfl (ltb rfl) ?_
 refine run_ld hG rfl rfl rfl rfl rfl (ltb rfl) ?_
 refine run_bin rfl rfl rfl rfl rfl rfl rfl (ltb rfl) ?_
 refine run_ops_nil ?_
 refine run_ifb rfl rfl (fun hb3 => ?_) (fun hb3 => ?_)
 ·replace hM := ite_t hb3 hM
  refine run_sr ?_
  refine mvR rfl rfl rfl rfl (ltb rfl) ?_
  refine run_ops_nil ?_
  refine run_ret_to ?_
  obtain rfl := some_t hM
  refine fin_x hG rfl rfl rfl (v' := .bool false) (by rfl) ⟨rfl, (show tk ≤ tk by omega), _, rfl, rfl⟩
 ·replace hM := ite_f hb3 hM
  refine run_skip ?_
  refine run_seq ?_
  refine run_sr ?_
  refine run_pu rfl (fieldAddr_step hG rfl rfl rfl rfl rfl) rfl (ltb rfl) ?_
  refine run_ld hG rfl rfl rfl rfl rfl (ltb rfl) ?_
  refine run_pu rfl (fieldAddr_step hG rfl rfl rfl rfl rfl) rfl (ltb rfl) ?_
  refine run_ld hG rfl rfl rfl rfl rfl (ltb rfl) ?_
  refine run_bin rfl rfl rfl rfl rfl rfl rfl (ltb rfl) ?_
  refine run_ops_nil ?_
  refine run_ifb rfl rfl (fun hb4 => ?_) (fun hb4 => ?_)
  ·replace hM := ite_t hb4 hM
   refine run_sr ?_
   refine mvR rfl rfl rfl rfl (ltb rfl) ?_
   refine run_ops_nil ?_
   refine run_ret_to ?_
   obtain rfl := some_t hM
   refine fin_x hG rfl rfl rfl (v' := .bool false) (by rfl) ⟨rfl, (show tk ≤ tk by omega), _, rfl, rfl⟩
  ·replace hM := ite_f hb4 hM
   refine run_skip ?_
   refine run_seq ?_
   refine run_sr ?_
   refine run_pu rfl (fieldAddr_step hG rfl rfl rfl rfl rfl) rfl (ltb rfl) ?_
   refine run_ld hG rfl rfl rfl rfl rfl (ltb rfl) ?_
   refine run_pu rfl (fieldAddr_step hG rfl rfl rfl rfl rfl) rfl (ltb rfl) ?_
   refine run_ld hG rfl rfl rfl rfl rfl (ltb rfl) ?_
   obtain ⟨r5, hg6, hM⟩ := bind_t hM
   refine run_call rfl rfl rfl (ltb rfl) rfl rfl rfl (fun _ h => absurd h List.not_mem_nil) (w_eqFormS_ok n p1 e1 fs1 p2 e2 fs2 hg6 _ _) (callK_retX (fun v tk7 (hle8 : tk ≤ tk7) h9 => ?_))
   subst h9
   refine run_pu rfl (aun_step rfl rfl rfl) rfl (ltb rfl) ?_
   refine run_ops_nil ?_
   refine run_sub_code (σ' := ⟨[(2, .optr (.loc 2) 0 0), (3, .optr (.loc 3) 0 0), (4, .bool false), (20, .bool (!r5))], [(3, ⟨29, 4, true, [[.int .i64 k2, .int .i64 n2, .imm p2 3 e2 (fcellss fs2), .imm q2 4 f2 (pcellss ks2)]]⟩), (2, ⟨29, 4, true, [[.int .i64 k1, .int .i64 n1, .imm p1 3 e1 (fcellss fs1), .imm q1 4 f1 (pcellss ks1)]]⟩)], [], O, tk7⟩) (Sub.env _ ⟨rfl, rfl, rfl, rfl, trivial⟩) ?_
   refine run_ifb rfl rfl (fun hb12 => ?_) (fun hb12 => ?_)
   ·replace hM := ite_t hb12 hM
    refine run_sr ?_
    refine mvR rfl rfl rfl rfl (ltb rfl) ?_
    refine run_ops_nil ?_
    refine run_ret_to ?_
    obtain rfl := some_t hM
    refine fin_x hG rfl rfl rfl (v' := .bool false) (by rfl) ⟨rfl, (show tk ≤ tk7 by omega), _, rfl, rfl⟩
   ·replace hM := ite_f hb12 hM
    refine run_skip ?_
    refine run_seq ?_
    refine run_sr ?_
    refine run_pu rfl (fieldAddr_step hG rfl rfl rfl rfl rfl) rfl (ltb rfl) ?_
    refine run_ld hG rfl rfl rfl rfl rfl (ltb rfl) ?_
    refine run_pu rfl (fieldAddr_step hG rfl rfl rfl rfl rfl) rfl (ltb rfl) ?_
    refine run_ld hG rfl rfl rfl rfl rfl (ltb rfl) ?_
    obtain ⟨r13, hg14, hM⟩ := bind_t hM
    refine run_call rfl rfl rfl (ltb rfl) rfl rfl rfl (fun _ h => absurd h List.not_mem_nil) (ih_w_eqProofS q1 f1 ks1 q2 f2 ks2 hg14 _ _) (callK_retX (fun v tk15 (hle16 : tk7 ≤ tk15) h17 => ?_))
    subst h17
    refine run_pu rfl (aun_step rfl rfl rfl) rfl (ltb rfl) ?_
    refine run_ops_nil ?_
    refine run_ifb rfl rfl (fun hb20 => ?_) (fun hb20 => ?_)
    ·replace hM := ite_t hb20 hM
     refine run_sr ?_
     refine mvR rfl rfl rfl rfl (ltb rfl) ?_
     refine run_ops_nil ?_
     refine run_ret_to ?_
     obtain rfl := some_t hM
     refine fin_x hG rfl rfl rfl (v' := .bool false) (by rfl) ⟨rfl, (show tk ≤ tk15 by omega), _, rfl, rfl⟩
    ·replace hM := ite_f hb20 hM
     refine run_skip ?_
     refine run_sr ?_
     refine mvR rfl rfl rfl rfl (ltb rfl) ?_
     refine run_ops_nil ?_
     refine run_ret_to ?_
     obtain rfl := some_t hM
     refine fin_x hG rfl rfl rfl (v' := .bool true) (by rfl) ⟨rfl, (show tk ≤ tk15 by omega), _, rfl, rfl⟩

set_option maxRecDepth 100000 in
theorem w_eqProofS_st (n : Nat) (ih_w_eqProof : ∀ (k1 : Int) (n1 : Int) (p1 : Nat) (e1 : Bool) (fs1 : List LF) (q1 : Nat) (f1 : Bool) (ks1 : List LP) (k2 : Int) (n2 : Int) (p2 : Nat) (e2 : Bool) (fs2 : List LF) (q2 : Nat) (f2 : Bool) (ks2 : List LP) {r : Bool}, w_eqProof n (Pf.mk k1 n1 (fers fs1) (pers ks1)) (Pf.mk k2 n2 (fers fs2) (pers ks2)) = some r → ∀ (O : Heap) (tk : Nat), ACalls Go.Proofs.Tryd.prog 13 [.agg [.int .i64 k1, .int .i64 n1, .imm p1 3 e1 (fcellss fs1), .imm q1 4 f1 (pcellss ks1)], .agg [.int .i64 k2, .int .i64 n2, .imm p2 3 e2 (fcellss fs2), .imm q2 4 f2 (pcellss ks2)]] O tk (RetX O tk (fun v tk' => v = .bool r))) : ∀ (q1 : Nat) (f1 : Bool) (ks1 : List LP) (q2 : Nat) (f2 : Bool) (ks2 : List LP) {r : Bool}, w_eqProofS (n + 1) (pers ks1) (pers ks2) = some r → ∀ (O : Heap) (tk : Nat), ACalls Go.Proofs.Tryd.prog 48 [.imm q1 4 f1 (pcellss ks1), .imm q2 4 f2 (pcellss ks2)] O tk (RetX O tk (fun v tk' => v = .bool r)) := by
 intro q1 f1 ks1 q2 f2 ks2 r hM O tk
 rw [w_eqProofS] at hM
 refine acalls_of_run Go.Proofs.Tryd.func48 rfl rfl [] [] (Bor.nil _) [(0, .imm q1 4 f1 (pcellss ks1)), (1, .imm q2 4 f2 (pcellss ks2))] (.cons (entS rfl) (.cons (entS rfl) (.nil _))) (leb rfl) (fun _ h => by cases h) (fun S0 hO htk hfz => ?_)
 refine run_sr ?_
 refine mvR rfl rfl rfl rfl (ltb rfl) ?_
 refine run_ops_nil ?_
 refine run_seq ?_
 refine run_sr ?_
 refine mvL rfl rfl rfl rfl (ltb rfl) ?_
 refine run_pu rfl (lenImm_step hG rfl rfl rfl rfl (plen _)) rfl (ltb rfl) ?_
 refine mvL rfl rfl rfl rfl (ltb rfl) ?_
 refine run_pu rfl (lenImm_step hG rfl rfl rfl rfl (plen _)) rfl (ltb rfl) ?_
 refine run_bin rfl rfl rfl rfl rfl rfl rfl (ltb rfl) ?_
 refine run_ops_nil ?_
 refine run_ifb rfl rfl (fun hb3 => ?_) (fun hb3 => ?_)
 ·replace hM := ite_t hb3 hM
  refine run_sr ?_
  refine mvR rfl rfl rfl rfl (ltb rfl) ?_
  refine run_ops_nil ?_
  refine run_ret_to ?_
  obtain rfl := some_t hM
  refine fin_x hG rfl rfl rfl (v' := .bool false) (by rfl) ⟨rfl, (show tk ≤ tk by omega), _, rfl, rfl⟩
 ·replace hM := ite_f hb3 hM
  refine run_skip ?_
  refine run_seq ?_
  refine run_sr ?_
  refine mvR rfl rfl rfl rfl (ltb rfl) ?_
  refine run_ops_nil ?_
  refine run_block ?_
  refine run_rounds (fun m σ => ∃ (i4 : Int) (tkw_eqProofS_L1 : Nat), tk ≤ tkw_eqProofS_L1 ∧ w_eqProofS_L1 (w_eqProof n) (pers ks1) (pers ks2) m i4 = some r ∧ σ = ⟨[(0, .imm q1 4 f1 (pcellss ks1)), (1, .imm q2 4 f2 (pcellss ks2)), (4, .bool false), (5, .int .i64 i4)], [], [], O, tkw_eqProofS_L1⟩) n (Sub.env [(0, .imm q1 4 f1 (pcellss ks1)), (1, .imm q2 4 f2 (pcellss ks2)), (4, .bool false), (5, .int .i64 0)] ⟨rfl, rfl, rfl, rfl, trivial⟩) ⟨0, tk, Nat.le_refl _, hM, rfl⟩ (fun m σ hI => ?_)
  clear hM
  obtain ⟨i4, tkw_eqProofS_L1, hle24, hM, rfl⟩ := hI
  obtain _ | m := m
  ·exact absurd hM (by rw [w_eqProofS_L1]; exact fun h => by cases h)
  rw [w_eqProofS_L1] at hM
  refine run_seq ?_
  refine run_sr ?_
  refine mvL rfl rfl rfl rfl (ltb rfl) ?_
  refine mvL rfl rfl rfl rfl (ltb rfl) ?_
  refine run_pu rfl (lenImm_step hG rfl rfl rfl rfl (plen _)) rfl (ltb rfl) ?_
  refine run_bin rfl rfl rfl rfl rfl rfl rfl (ltb rfl) ?_
  refine run_ops_nil ?_
  refine run_ifd rfl rfl (fun hb5 => ?_) (fun hb5 => ?_)
  ·replace hM := ite_t hb5 hM
   refine run_skip ?_
   refine run_seq ?_
   refine run_block ?_
   refine run_seq ?_
   refine run_draw [] (n := 10) mixed rfl (fun _ h => absurd h List.not_mem_nil) ?_
   refine AAny.take (i := 0) rfl (by kernel_rfl) (by kernel_rfl) (by kernel_rfl) rfl rfl (ltb rfl) ((move_step (.inl rfl) rfl).rd _) ?_
   refine AAny.take (i := 1) rfl (by kernel_rfl) (by kernel_rfl) (by kernel_rfl) rfl rfl (ltb rfl) ((move_step (.inl rfl) rfl).rd _) ?_
   obtain ⟨y6, hy7, hM⟩ := bind_t hM
   obtain ⟨k8, n8, p8, e8, fs8, q8, f8, ks8, rfl, hc9, hi10⟩ := pidx (ks := ks1) hy7
   refine AAny.take (i := 2) rfl (by kernel_rfl) (by kernel_rfl) (by kernel_rfl) rfl rfl (ltb rfl) ((indexImm_step hG rfl rfl rfl hi10 rfl rfl rfl rfl hc9).rd _) ?_
   refine AAny.take (i := 3) rfl (by kernel_rfl) (by kernel_rfl) (by kernel_rfl) rfl rfl (ltb rfl) (aload_rd hG rfl rfl rfl (by first | (simp [ldok]; done) | exact List.not_mem_nil | trivial)) ?_
   refine AAny.take (i := 4) rfl (by kernel_rfl) (by kernel_rfl) (by kernel_rfl) rfl rfl (ltb rfl) ((move_step (.inl rfl) rfl).rd _) ?_
   refine AAny.take (i := 5) rfl (by kernel_rfl) (by kernel_rfl) (by kernel_rfl) rfl rfl (ltb rfl) ((move_step (.inl rfl) rfl).rd _) ?_
   obtain ⟨y11, hy12, hM⟩ := bind_t hM
   obtain ⟨k13, n13, p13, e13, fs13, q13, f13, ks13, rfl, hc14, hi15⟩ := pidx (ks := ks2) hy12
   refine AAny.take (i := 6) rfl (by kernel_rfl) (by kernel_rfl) (by kernel_rfl) rfl rfl (ltb rfl) ((indexImm_step hG rfl rfl rfl hi15 rfl rfl rfl rfl hc14).rd _) ?_
   refine AAny.take (i := 7) rfl (by kernel_rfl) (by kernel_rfl) (by kernel_rfl) rfl rfl (ltb rfl) (aload_rd hG rfl rfl rfl (by first | (simp [ldok]; done) | exact List.not_mem_nil | trivial)) ?_
   obtain ⟨r16, hg17, hM⟩ := bind_t hM
   refine AAny.one (i := 8) (by kernel_rfl) (AOp.call rfl rfl rfl rfl (ltb rfl) rfl rfl rfl (fun _ h => absurd h List.not_mem_nil) (fun _ h => absurd h List.not_mem_nil) (ih_w_eqProof k8 n8 p8 e8 fs8 q8 f8 ks8 k13 n13 p13 e13 fs13 q13 f13 ks13 hg17 _ _) (callK_retX (fun v tk18 (hle19 : tkw_eqProofS_L1 ≤ tk18) h20 => ?_)))
   subst h20
   refine AAny.take (i := 9) rfl (by kernel_rfl) (by kernel_rfl) (by kernel_rfl) rfl rfl (ltb rfl) ((aun_step rfl rfl rfl).rd _) ?_
   refine AAny.done (by kernel_rfl) ?_
   refine run_sub_code (σ' := ⟨[(0, .imm q1 4 f1 (pcellss ks1)), (1, .imm q2 4 f2 (pcellss ks2)), (4, .bool false), (5, .int .i64 i4), (26, .bool (!r16))], [], [], O, tk18⟩) (Sub.env _ ⟨rfl, rfl, rfl, rfl, rfl, trivial⟩) ?_
   refine run_ifb rfl rfl (fun hb23 => ?_) (fun hb23 => ?_)
   ·replace hM := ite_t hb23 hM
    refine run_sr ?_
    refine mvR rfl rfl rfl rfl (ltb rfl) ?_
    refine run_ops_nil ?_
    refine run_ret_to ?_
    obtain rfl := some_t hM
    refine fin_x hG rfl rfl rfl (v' := .bool false) (by rfl) ⟨rfl, (show tk ≤ tk18 by omega), _, rfl, rfl⟩
   ·replace hM := ite_f hb23 hM
    refine run_skip ?_
    refine run_blk ?_
    refine run_region ?_
    refine mvL rfl rfl rfl rfl (ltb rfl) ?_
    refine run_bin rfl rfl rfl rfl rfl rfl rfl (ltb rfl) ?_
    refine mvR rfl rfl rfl rfl (ltb rfl) ?_
    refine run_ops_nil ?_
    exact run_loop_end ⟨m, _, Nat.lt_succ_self _, ⟨(IntKind.i64.wrap (i4 + 1)), tk18, (show tk ≤ tk18 by omega), hM, rfl⟩, Sub.env [(0, .imm q1 4 f1 (pcellss ks1)), (1, .imm q2 4 f2 (pcellss ks2)), (4, .bool false), (5, .int .i64 (IntKind.i64.wrap (i4 + 1)))] ⟨rfl, rfl, rfl, rfl, trivial⟩⟩
  ·replace hM := ite_f hb5 hM
   refine run_exit_to rfl ?_
   refine run_sr ?_
   refine mvR rfl rfl rfl rfl (ltb rfl) ?_
   refine run_ops_nil ?_
   refine run_ret_to ?_
   obtain rfl := some_t hM
   refine fin_x hG rfl rfl rfl (v' := .bool true) (by rfl) ⟨rfl, (show tk ≤ tkw_eqProofS_L1 by omega), _, rfl, rfl⟩

theorem w_eqProof_all : ∀ (n : Nat), (∀ (k1 : Int) (n1 : Int) (p1 : Nat) (e1 : Bool) (fs1 : List LF) (q1 : Nat) (f1 : Bool) (ks1 : List LP) (k2 : Int) (n2 : Int) (p2 : Nat) (e2 : Bool) (fs2 : List LF) (q2 : Nat) (f2 : Bool) (ks2 : List LP) {r : Bool}, w_eqProof n (Pf.mk k1 n1 (fers fs1) (pers ks1)) (Pf.mk k2 n2 (fers fs2) (pers ks2)) = some r → ∀ (O : Heap) (tk : Nat), ACalls Go.Proofs.Tryd.prog 13 [.agg [.int .i64 k1, .int .i64 n1, .imm p1 3 e1 (fcellss fs1), .imm q1 4 f1 (pcellss ks1)], .agg [.int .i64 k2, .int .i64 n2, .imm p2 3 e2 (fcellss fs2), .imm q2 4 f2 (pcellss ks2)]] O tk (RetX O tk (fun v tk' => v = .bool r))) ∧ (∀ (q1 : Nat) (f1 : Bool) (ks1 : List LP) (q2 : Nat) (f2 : Bool) (ks2 : List LP) {r : Bool}, w_eqProofS n (pers ks1) (pers ks2) = some r → ∀ (O : Heap) (tk : Nat), ACalls Go.Proofs.Tryd.prog 48 [.imm q1 4 f1 (pcellss ks1), .imm q2 4 f2 (pcellss ks2)] O tk (RetX O tk (fun v tk' => v = .bool r)))
 | 0 => ⟨(by intro k1 n1 p1 e1 fs1 q1 f1 ks1 k2 n2 p2 e2 fs2 q2 f2 ks2 r hM; rw [w_eqProof] at hM; cases hM), (by intro q1 f1 ks1 q2 f2 ks2 r hM; rw [w_eqProofS] at hM; cases hM)⟩
 | n + 1 => have ih := w_eqProof_all n; ⟨w_eqProof_st n (ih.2), w_eqProofS_st n (ih.1)⟩

theorem w_eqProof_ok (n : Nat) : ∀ (k1 : Int) (n1 : Int) (p1 : Nat) (e1 : Bool) (fs1 : List LF) (q1 : Nat) (f1 : Bool) (ks1 : List LP) (k2 : Int) (n2 : Int) (p2 : Nat) (e2 : Bool) (fs2 : List LF) (q2 : Nat) (f2 : Bool) (ks2 : List LP) {r : Bool}, w_eqProof n (Pf.mk k1 n1 (fers fs1) (pers ks1)) (Pf.mk k2 n2 (fers fs2) (pers ks2)) = some r → ∀ (O : Heap) (tk : Nat), ACalls Go.Proofs.Tryd.prog 13 [.agg [.int .i64 k1, .int .i64 n1, .imm p1 3 e1 (fcellss fs1), .imm q1 4 f1 (pcellss ks1)], .agg [.int .i64 k2, .int .i64 n2, .imm p2 3 e2 (fcellss fs2), .imm q2 4 f2 (pcellss ks2)]] O tk (RetX O tk (fun v tk' => v = .bool r)) := (w_eqProof_all n).1

def w_heldFormS_L1 (rec_w_heldFormS : List F → Int → Option Int) (l1 : List F) : Nat → Int → Int → Option Int
 | 0, _, _ => none
 | m + 1, i3, i4 =>
  if i4 < ((l1).length : Int) then
   (idx l1 i4).bind fun y6 =>
   if (y6.kind != i3) = true then
    some (-1)
   else
    (idx l1 i4).bind fun y12 =>
    if (y12.n != (IntKind.i64.wrap (i3 + 1))) = true then
     some (-1)
    else
     (idx l1 i4).bind fun y18 =>
     (rec_w_heldFormS y18.kids (IntKind.i64.wrap ((IntKind.i64.wrap (i3 + 1)) + 1))).bind fun r23 =>
     if r23 < 0 then
      some (-1)
     else
      w_heldFormS_L1 rec_w_heldFormS l1 m r23 (IntKind.i64.wrap (i4 + 1))
  else
   some i3

def w_heldFormS : Nat → List F → Int → Option Int
 | 0, _, _ => none
 | n + 1, l1, i2 =>
  w_heldFormS_L1 (w_heldFormS n) l1 n i2 0

set_option maxRecDepth 100000 in
theorem w_heldFormS_st (n : Nat) (ih_w_heldFormS : ∀ (q1 : Nat) (f1 : Bool) (ks1 : List LF) (i2 : Int) {r : Int}, w_heldFormS n (fers ks1) i2 = some r → ∀ (O : Heap) (tk : Nat), ACalls Go.Proofs.Tryd.prog 53 [.imm q1 3 f1 (fcellss ks1), .int .i64 i2] O tk (RetX O tk (fun v tk' => v = .int .i64 r))) : ∀ (q1 : Nat) (f1 : Bool) (ks1 : List LF) (i2 : Int) {r : Int}, w_heldFormS (n + 1) (fers ks1) i2 = some r → ∀ (O : Heap) (tk : Nat), ACalls Go.Proofs.Tryd.prog 53 [.imm q1 3 f1 (fcellss ks1), .int .i64 i2] O tk (RetX O tk (fun v tk' => v = .int .i64 r)) := by
 intro q1 f1 ks1 i2 r hM O tk
 rw [w_heldFormS] at hM
 refine acalls_of_run Go.Proofs.Tryd.func53 rfl rfl [] [] (Bor.nil _) [(0, .imm q1 3 f1 (fcellss ks1)), (1, .int .i64 i2)] (.cons (entS rfl) (.cons (entS rfl) (.nil _))) (leb rfl) (fun _ h => by cases h) (fun S0 hO htk hfz => ?_)
 refine run_sr ?_
 refine mvR rfl rfl rfl rfl (ltb rfl) ?_
 refine run_ops_nil ?_
 refine run_seq ?_
 refine run_sr ?_
 refine mvR rfl rfl rfl rfl (ltb rfl) ?_
 refine run_ops_nil ?_
 refine run_block ?_
 refine run_rounds (fun m σ => ∃ (i3 : Int) (i4 : Int) (tkw_heldFormS_L1 : Nat), tk ≤ tkw_heldFormS_L1 ∧ w_heldFormS_L1 (w_heldFormS n) (fers ks1) m i3 i4 = some r ∧ σ = ⟨[(0, .imm q1 3 f1 (fcellss ks1)), (1, .int .i64 i3), (4, .int .i64 0), (5, .int .i64 i4)], [], [], O, tkw_heldFormS_L1⟩) n (Sub.env [(0, .imm q1 3 f1 (fcellss ks1)), (1, .int .i64 i2), (4, .int .i64 0), (5, .int .i64 0)] ⟨rfl, rfl, rfl, rfl, trivial⟩) ⟨i2, 0, tk, Nat.le_refl _, hM, rfl⟩ (fun m σ hI => ?_)
 clear hM
 obtain ⟨i3, i4, tkw_heldFormS_L1, hle31, hM, rfl⟩ := hI
 obtain _ | m := m
 ·exact absurd hM (by rw [w_heldFormS_L1]; exact fun h => by cases h)
 rw [w_heldFormS_L1] at hM
 refine run_seq ?_
 refine run_sr ?_
 refine mvL rfl rfl rfl rfl (ltb rfl) ?_
 refine mvL rfl rfl rfl rfl (ltb rfl) ?_
 refine run_pu rfl (lenImm_step hG rfl rfl rfl rfl (flen _)) rfl (ltb rfl) ?_
 refine run_bin rfl rfl rfl rfl rfl rfl rfl (ltb rfl) ?_
 refine run_ops_nil ?_
 refine run_ifd rfl rfl (fun hb5 => ?_) (fun hb5 => ?_)
 ·replace hM := ite_t hb5 hM
  refine run_skip ?_
  refine run_seq ?_
  refine run_block ?_
  refine run_seq ?_
  refine run_sr ?_
  refine mvL rfl rfl rfl rfl (ltb rfl) ?_
  refine mvL rfl rfl rfl rfl (ltb rfl) ?_
  obtain ⟨y6, hy7, hM⟩ := bind_t hM
  obtain ⟨k8, n8, q8, f8, ks8, rfl, hc9, hi10⟩ := fidx (ks := ks1) hy7
  refine run_pu rfl (indexImm_step hG rfl rfl rfl hi10 rfl rfl rfl rfl hc9) rfl (ltb rfl) ?_
  refine run_pu rfl (fieldAddr_step hG rfl rfl rfl rfl rfl) rfl (ltb rfl) ?_
  refine run_ld hG rfl rfl rfl rfl rfl (ltb rfl) ?_
  refine mvL rfl rfl rfl rfl (ltb rfl) ?_
  refine run_bin rfl rfl rfl rfl rfl rfl rfl (ltb rfl) ?_
  refine run_ops_nil ?_
  refine run_ifb rfl rfl (fun hb11 => ?_) (fun hb11 => ?_)
  ·replace hM := ite_t hb11 hM
   refine run_sr ?_
   refine mvR rfl rfl rfl rfl (ltb rfl) ?_
   refine run_ops_nil ?_
   refine run_ret_to ?_
   obtain rfl := some_t hM
   refine fin_x hG rfl rfl rfl (v' := .int .i64 (-1)) (by rfl) ⟨rfl, (show tk ≤ tkw_heldFormS_L1 by omega), _, rfl, rfl⟩
  ·replace hM := ite_f hb11 hM
   refine run_skip ?_
   refine run_sr ?_
   refine mvL rfl rfl rfl rfl (ltb rfl) ?_
   refine run_bin rfl rfl rfl rfl rfl rfl rfl (ltb rfl) ?_
   refine mvR rfl rfl rfl rfl (ltb rfl) ?_
   refine run_ops_nil ?_
   refine run_sub_code (σ' := ⟨[(0, .imm q1 3 f1 (fcellss ks1)), (1, .int .i64 (IntKind.i64.wrap (i3 + 1))), (4, .int .i64 0), (5, .int .i64 i4)], [], [], O, tkw_heldFormS_L1⟩) (Sub.env _ ⟨rfl, rfl, rfl, rfl, trivial⟩) ?_
   refine run_seq ?_
   refine run_sr ?_
   refine mvL rfl rfl rfl rfl (ltb rfl) ?_
   refine mvL rfl rfl rfl rfl (ltb rfl) ?_
   obtain ⟨y12, hy13, hM⟩ := bind_t hM
   obtain ⟨k14, n14, q14, f14, ks14, rfl, hc15, hi16⟩ := fidx (ks := ks1) hy13
   refine run_pu rfl (indexImm_step hG rfl rfl rfl hi16 rfl rfl rfl rfl hc15) rfl (ltb rfl) ?_
   refine run_pu rfl (fieldAddr_step hG rfl rfl rfl rfl rfl) rfl (ltb rfl) ?_
   refine run_ld hG rfl rfl rfl rfl rfl (ltb rfl) ?_
   refine mvL rfl rfl rfl rfl (ltb rfl) ?_
   refine run_bin rfl rfl rfl rfl rfl rfl rfl (ltb rfl) ?_
   refine run_ops_nil ?_
   refine run_ifb rfl rfl (fun hb17 => ?_) (fun hb17 => ?_)
   ·replace hM := ite_t hb17 hM
    refine run_sr ?_
    refine mvR rfl rfl rfl rfl (ltb rfl) ?_
    refine run_ops_nil ?_
    refine run_ret_to ?_
    obtain rfl := some_t hM
    refine fin_x hG rfl rfl rfl (v' := .int .i64 (-1)) (by rfl) ⟨rfl, (show tk ≤ tkw_heldFormS_L1 by omega), _, rfl, rfl⟩
   ·replace hM := ite_f hb17 hM
    refine run_skip ?_
    refine run_sr ?_
    refine mvL rfl rfl rfl rfl (ltb rfl) ?_
    refine run_bin rfl rfl rfl rfl rfl rfl rfl (ltb rfl) ?_
    refine mvR rfl rfl rfl rfl (ltb rfl) ?_
    refine run_ops_nil ?_
    refine run_sr ?_
    refine mvL rfl rfl rfl rfl (ltb rfl) ?_
    refine mvL rfl rfl rfl rfl (ltb rfl) ?_
    obtain ⟨y18, hy19, hM⟩ := bind_t hM
    obtain ⟨k20, n20, q20, f20, ks20, rfl, hc21, hi22⟩ := fidx (ks := ks1) hy19
    refine run_pu rfl (indexImm_step hG rfl rfl rfl hi22 rfl rfl rfl rfl hc21) rfl (ltb rfl) ?_
    refine run_pu rfl (fieldAddr_step hG rfl rfl rfl rfl rfl) rfl (ltb rfl) ?_
    refine run_ld hG rfl rfl rfl rfl rfl (ltb rfl) ?_
    refine mvL rfl rfl rfl rfl (ltb rfl) ?_
    obtain ⟨r23, hg24, hM⟩ := bind_t hM
    refine run_call rfl rfl rfl (ltb rfl) rfl rfl rfl (fun _ h => absurd h List.not_mem_nil) (ih_w_heldFormS q20 f20 ks20 (IntKind.i64.wrap ((IntKind.i64.wrap (i3 + 1)) + 1)) hg24 _ _) (callK_retX (fun v tk25 (hle26 : tkw_heldFormS_L1 ≤ tk25) h27 => ?_))
    subst h27
    refine mvR rfl rfl rfl rfl (ltb rfl) ?_
    refine run_ops_nil ?_
    refine run_sub_code (σ' := ⟨[(0, .imm q1 3 f1 (fcellss ks1)), (1, .int .i64 r23), (4, .int .i64 0), (5, .int .i64 i4)], [], [], O, tk25⟩) (Sub.env _ ⟨rfl, rfl, rfl, rfl, trivial⟩) ?_
    refine run_sr ?_
    refine mvL rfl rfl rfl rfl (ltb rfl) ?_
    refine run_bin rfl rfl rfl rfl rfl rfl rfl (ltb rfl) ?_
    refine run_ops_nil ?_
    refine run_ifd rfl rfl (fun hb30 => ?_) (fun hb30 => ?_)
    ·replace hM := ite_t hb30 hM
     refine run_sr ?_
     refine mvR rfl rfl rfl rfl (ltb rfl) ?_
     refine run_ops_nil ?_
     refine run_ret_to ?_
     obtain rfl := some_t hM
     refine fin_x hG rfl rfl rfl (v' := .int .i64 (-1)) (by rfl) ⟨rfl, (show tk ≤ tk25 by omega), _, rfl, rfl⟩
    ·replace hM := ite_f hb30 hM
     refine run_skip ?_
     refine run_blk ?_
     refine run_region ?_
     refine mvL rfl rfl rfl rfl (ltb rfl) ?_
     refine run_bin rfl rfl rfl rfl rfl rfl rfl (ltb rfl) ?_
     refine mvR rfl rfl rfl rfl (ltb rfl) ?_
     refine run_ops_nil ?_
     exact run_loop_end ⟨m, _, Nat.lt_succ_self _, ⟨r23, (IntKind.i64.wrap (i4 + 1)), tk25, (show tk ≤ tk25 by omega), hM, rfl⟩, Sub.env [(0, .imm q1 3 f1 (fcellss ks1)), (1, .int .i64 r23), (4, .int .i64 0), (5, .int .i64 (IntKind.i64.wrap (i4 + 1)))] ⟨rfl, rfl, rfl, rfl, trivial⟩⟩
 ·replace hM := ite_f hb5 hM
  refine run_exit_to rfl ?_
  refine run_sr ?_
  refine mvL rfl rfl rfl rfl (ltb rfl) ?_
  refine mvR rfl rfl rfl rfl (ltb rfl) ?_
  refine run_ops_nil ?_
  refine run_ret_to ?_
  obtain rfl := some_t hM
  refine fin_x hG rfl rfl rfl (v' := .int .i64 i3) (by rfl) ⟨rfl, (show tk ≤ tkw_heldFormS_L1 by omega), _, rfl, rfl⟩

theorem w_heldFormS_all : ∀ (n : Nat), (∀ (q1 : Nat) (f1 : Bool) (ks1 : List LF) (i2 : Int) {r : Int}, w_heldFormS n (fers ks1) i2 = some r → ∀ (O : Heap) (tk : Nat), ACalls Go.Proofs.Tryd.prog 53 [.imm q1 3 f1 (fcellss ks1), .int .i64 i2] O tk (RetX O tk (fun v tk' => v = .int .i64 r)))
 | 0 => by intro q1 f1 ks1 i2 r hM; rw [w_heldFormS] at hM; cases hM
 | n + 1 => have ih := w_heldFormS_all n; w_heldFormS_st n (ih)

theorem w_heldFormS_ok (n : Nat) : ∀ (q1 : Nat) (f1 : Bool) (ks1 : List LF) (i2 : Int) {r : Int}, w_heldFormS n (fers ks1) i2 = some r → ∀ (O : Heap) (tk : Nat), ACalls Go.Proofs.Tryd.prog 53 [.imm q1 3 f1 (fcellss ks1), .int .i64 i2] O tk (RetX O tk (fun v tk' => v = .int .i64 r)) := w_heldFormS_all n

def w_heldProofS_L1 (rec_w_heldProofS : List Pf → Int → Option Int) (n : Nat) (l1 : List Pf) : Nat → Int → Int → Option Int
 | 0, _, _ => none
 | m + 1, i3, i4 =>
  if i4 < ((l1).length : Int) then
   (idx l1 i4).bind fun y6 =>
   if (y6.kind != i3) = true then
    some (-1)
   else
    (idx l1 i4).bind fun y12 =>
    if (y12.n != (IntKind.i64.wrap (i3 + 1))) = true then
     some (-1)
    else
     (idx l1 i4).bind fun y18 =>
     (w_heldFormS n y18.forms (IntKind.i64.wrap ((IntKind.i64.wrap (i3 + 1)) + 1))).bind fun r23 =>
     if r23 < 0 then
      some (-1)
     else
      (idx l1 i4).bind fun y31 =>
      (rec_w_heldProofS y31.kids r23).bind fun r36 =>
      if r36 < 0 then
       some (-1)
      else
       w_heldProofS_L1 rec_w_heldProofS n l1 m r36 (IntKind.i64.wrap (i4 + 1))
  else
   some i3

def w_heldProofS : Nat → List Pf → Int → Option Int
 | 0, _, _ => none
 | n + 1, l1, i2 =>
  w_heldProofS_L1 (w_heldProofS n) n l1 n i2 0

set_option maxHeartbeats 2000000 in
set_option maxRecDepth 100000 in
theorem w_heldProofS_st (n : Nat) (ih_w_heldProofS : ∀ (q1 : Nat) (f1 : Bool) (ks1 : List LP) (i2 : Int) {r : Int}, w_heldProofS n (pers ks1) i2 = some r → ∀ (O : Heap) (tk : Nat), ACalls Go.Proofs.Tryd.prog 54 [.imm q1 4 f1 (pcellss ks1), .int .i64 i2] O tk (RetX O tk (fun v tk' => v = .int .i64 r))) : ∀ (q1 : Nat) (f1 : Bool) (ks1 : List LP) (i2 : Int) {r : Int}, w_heldProofS (n + 1) (pers ks1) i2 = some r → ∀ (O : Heap) (tk : Nat), ACalls Go.Proofs.Tryd.prog 54 [.imm q1 4 f1 (pcellss ks1), .int .i64 i2] O tk (RetX O tk (fun v tk' => v = .int .i64 r)) := by
 intro q1 f1 ks1 i2 r hM O tk
 rw [w_heldProofS] at hM
 refine acalls_of_run Go.Proofs.Tryd.func54 rfl rfl [] [] (Bor.nil _) [(0, .imm q1 4 f1 (pcellss ks1)), (1, .int .i64 i2)] (.cons (entS rfl) (.cons (entS rfl) (.nil _))) (leb rfl) (fun _ h => by cases h) (fun S0 hO htk hfz => ?_)
 refine run_sr ?_
 refine mvR rfl rfl rfl rfl (ltb rfl) ?_
 refine run_ops_nil ?_
 refine run_seq ?_
 refine run_sr ?_
 refine mvR rfl rfl rfl rfl (ltb rfl) ?_
 refine run_ops_nil ?_
 refine run_block ?_
 refine run_rounds (fun m σ => ∃ (i3 : Int) (i4 : Int) (tkw_heldProofS_L1 : Nat), tk ≤ tkw_heldProofS_L1 ∧ w_heldProofS_L1 (w_heldProofS n) n (pers ks1) m i3 i4 = some r ∧ σ = ⟨[(0, .imm q1 4 f1 (pcellss ks1)), (1, .int .i64 i3), (4, .int .i64 0), (5, .int .i64 i4)], [], [], O, tkw_heldProofS_L1⟩) n (Sub.env [(0, .imm q1 4 f1 (pcellss ks1)), (1, .int .i64 i2), (4, .int .i64 0), (5, .int .i64 0)] ⟨rfl, rfl, rfl, rfl, trivial⟩) ⟨i2, 0, tk, Nat.le_refl _, hM, rfl⟩ (fun m σ hI => ?_)
 clear hM
 obtain ⟨i3, i4, tkw_heldProofS_L1, hle44, hM, rfl⟩ := hI
 obtain _ | m := m
 ·exact absurd hM (by rw [w_heldProofS_L1]; exact fun h => by cases h)
 rw [w_heldProofS_L1] at hM
 refine run_seq ?_
 refine run_sr ?_
 refine mvL rfl rfl rfl rfl (ltb rfl) ?_
 refine mvL rfl rfl rfl rfl (ltb rfl) ?_
 refine run_pu rfl (lenImm_step hG rfl rfl rfl rfl (plen _)) rfl (ltb rfl) ?_
 refine run_bin rfl rfl rfl rfl rfl rfl rfl (ltb rfl) ?_
 refine run_ops_nil ?_
 refine run_ifd rfl rfl (fun hb5 => ?_) (fun hb5 => ?_)
 ·replace hM := ite_t hb5 hM
  refine run_skip ?_
  refine run_seq ?_
  refine run_block ?_
  refine run_seq ?_
  refine run_sr ?_
  refine mvL rfl rfl rfl rfl (ltb rfl) ?_
  refine mvL rfl rfl rfl rfl (ltb rfl) ?_
  obtain ⟨y6, hy7, hM⟩ := bind_t hM
  obtain ⟨k8, n8, p8, e8, fs8, q8, f8, ks8, rfl, hc9, hi10⟩ := pidx (ks := ks1) hy7
  refine run_pu rfl (indexImm_step hG rfl rfl rfl hi10 rfl rfl rfl rfl hc9) rfl (ltb rfl) ?_
  refine run_pu rfl (fieldAddr_step hG rfl rfl rfl rfl rfl) rfl (ltb rfl) ?_
  refine run_ld hG rfl rfl rfl rfl rfl (ltb rfl) ?_
  refine mvL rfl rfl rfl rfl (ltb rfl) ?_
  refine run_bin rfl rfl rfl rfl rfl rfl rfl (ltb rfl) ?_
  refine run_ops_nil ?_
  refine run_ifb rfl rfl (fun hb11 => ?_) (fun hb11 => ?_)
  ·replace hM := ite_t hb11 hM
   refine run_sr ?_
   refine mvR rfl rfl rfl rfl (ltb rfl) ?_
   refine run_ops_nil ?_
   refine run_ret_to ?_
   obtain rfl := some_t hM
   refine fin_x hG rfl rfl rfl (v' := .int .i64 (-1)) (by rfl) ⟨rfl, (show tk ≤ tkw_heldProofS_L1 by omega), _, rfl, rfl⟩
  ·replace hM := ite_f hb11 hM
   refine run_skip ?_
   refine run_sr ?_
   refine mvL rfl rfl rfl rfl (ltb rfl) ?_
   refine run_bin rfl rfl rfl rfl rfl rfl rfl (ltb rfl) ?_
   refine mvR rfl rfl rfl rfl (ltb rfl) ?_
   refine run_ops_nil ?_
   refine run_sub_code (σ' := ⟨[(0, .imm q1 4 f1 (pcellss ks1)), (1, .int .i64 (IntKind.i64.wrap (i3 + 1))), (4, .int .i64 0), (5, .int .i64 i4)], [], [], O, tkw_heldProofS_L1⟩) (Sub.env _ ⟨rfl, rfl, rfl, rfl, trivial⟩) ?_
   refine run_seq ?_
   refine run_sr ?_
   refine mvL rfl rfl rfl rfl (ltb rfl) ?_
   refine mvL rfl rfl rfl rfl (ltb rfl) ?_
   obtain ⟨y12, hy13, hM⟩ := bind_t hM
   obtain ⟨k14, n14, p14, e14, fs14, q14, f14, ks14, rfl, hc15, hi16⟩ := pidx (ks := ks1) hy13
   refine run_pu rfl (indexImm_step hG rfl rfl rfl hi16 rfl rfl rfl rfl hc15) rfl (ltb rfl) ?_
   refine run_pu rfl (fieldAddr_step hG rfl rfl rfl rfl rfl) rfl (ltb rfl) ?_
   refine run_ld hG rfl rfl rfl rfl rfl (ltb rfl) ?_
   refine mvL rfl rfl rfl rfl (ltb rfl) ?_
   refine run_bin rfl rfl rfl rfl rfl rfl rfl (ltb rfl) ?_
   refine run_ops_nil ?_
   refine run_ifb rfl rfl (fun hb17 => ?_) (fun hb17 => ?_)
   ·replace hM := ite_t hb17 hM
    refine run_sr ?_
    refine mvR rfl rfl rfl rfl (ltb rfl) ?_
    refine run_ops_nil ?_
    refine run_ret_to ?_
    obtain rfl := some_t hM
    refine fin_x hG rfl rfl rfl (v' := .int .i64 (-1)) (by rfl) ⟨rfl, (show tk ≤ tkw_heldProofS_L1 by omega), _, rfl, rfl⟩
   ·replace hM := ite_f hb17 hM
    refine run_skip ?_
    refine run_sr ?_
    refine mvL rfl rfl rfl rfl (ltb rfl) ?_
    refine run_bin rfl rfl rfl rfl rfl rfl rfl (ltb rfl) ?_
    refine mvR rfl rfl rfl rfl (ltb rfl) ?_
    refine run_ops_nil ?_
    refine run_sr ?_
    refine mvL rfl rfl rfl rfl (ltb rfl) ?_
    refine mvL rfl rfl rfl rfl (ltb rfl) ?_
    obtain ⟨y18, hy19, hM⟩ := bind_t hM
    obtain ⟨k20, n20, p20, e20, fs20, q20, f20, ks20, rfl, hc21, hi22⟩ := pidx (ks := ks1) hy19
    refine run_pu rfl (indexImm_step hG rfl rfl rfl hi22 rfl rfl rfl rfl hc21) rfl (ltb rfl) ?_
    refine run_pu rfl (fieldAddr_step hG rfl rfl rfl rfl rfl) rfl (ltb rfl) ?_
    refine run_ld hG rfl rfl rfl rfl rfl (ltb rfl) ?_
    refine mvL rfl rfl rfl rfl (ltb rfl) ?_
    obtain ⟨r23, hg24, hM⟩ := bind_t hM
    refine run_call rfl rfl rfl (ltb rfl) rfl rfl rfl (fun _ h => absurd h List.not_mem_nil) (w_heldFormS_ok n p20 e20 fs20 (IntKind.i64.wrap ((IntKind.i64.wrap (i3 + 1)) + 1)) hg24 _ _) (callK_retX (fun v tk25 (hle26 : tkw_heldProofS_L1 ≤ tk25) h27 => ?_))
    subst h27
    refine mvR rfl rfl rfl rfl (ltb rfl) ?_
    refine run_ops_nil ?_
    refine run_sub_code (σ' := ⟨[(0, .imm q1 4 f1 (pcellss ks1)), (1, .int .i64 r23), (4, .int .i64 0), (5, .int .i64 i4)], [], [], O, tk25⟩) (Sub.env _ ⟨rfl, rfl, rfl, rfl, trivial⟩) ?_
    refine run_seq ?_
    refine run_sr ?_
    refine mvL rfl rfl rfl rfl (ltb rfl) ?_
    refine run_bin rfl rfl rfl rfl rfl rfl rfl (ltb rfl) ?_
    refine run_ops_nil ?_
    refine run_ifd rfl rfl (fun hb30 => ?_) (fun hb30 => ?_)
    ·replace hM := ite_t hb30 hM
     refine run_sr ?_
     refine mvR rfl rfl rfl rfl (ltb rfl) ?_
     refine run_ops_nil ?_
     refine run_ret_to ?_
     obtain rfl := some_t hM
     refine fin_x hG rfl rfl rfl (v' := .int .i64 (-1)) (by rfl) ⟨rfl, (show tk ≤ tk25 by omega), _, rfl, rfl⟩
    ·replace hM := ite_f hb30 hM
     refine run_skip ?_
     refine run_sr ?_
     refine mvL rfl rfl rfl rfl (ltb rfl) ?_
     refine mvL rfl rfl rfl rfl (ltb rfl) ?_
     obtain ⟨y31, hy32, hM⟩ := bind_t hM
     obtain ⟨k33, n33, p33, e33, fs33, q33, f33, ks33, rfl, hc34, hi35⟩ := pidx (ks := ks1) hy32
     refine run_pu rfl (indexImm_step hG rfl rfl rfl hi35 rfl rfl rfl rfl hc34) rfl (ltb rfl) ?_
     refine run_pu rfl (fieldAddr_step hG rfl rfl rfl rfl rfl) rfl (ltb rfl) ?_
     refine run_ld hG rfl rfl rfl rfl rfl (ltb rfl) ?_
     refine mvL rfl rfl rfl rfl (ltb rfl) ?_
     obtain ⟨r36, hg37, hM⟩ := bind_t hM
     refine run_call rfl rfl rfl (ltb rfl) rfl rfl rfl (fun _ h => absurd h List.not_mem_nil) (ih_w_heldProofS q33 f33 ks33 r23 hg37 _ _) (callK_retX (fun v tk38 (hle39 : tk25 ≤ tk38) h40 => ?_))
     subst h40
     refine mvR rfl rfl rfl rfl (ltb rfl) ?_
     refine run_ops_nil ?_
     refine run_sr ?_
     refine mvL rfl rfl rfl rfl (ltb rfl) ?_
     refine run_bin rfl rfl rfl rfl rfl rfl rfl (ltb rfl) ?_
     refine run_ops_nil ?_
     refine run_ifd rfl rfl (fun hb43 => ?_) (fun hb43 => ?_)
     ·replace hM := ite_t hb43 hM
      refine run_sr ?_
      refine mvR rfl rfl rfl rfl (ltb rfl) ?_
      refine run_ops_nil ?_
      refine run_ret_to ?_
      obtain rfl := some_t hM
      refine fin_x hG rfl rfl rfl (v' := .int .i64 (-1)) (by rfl) ⟨rfl, (show tk ≤ tk38 by omega), _, rfl, rfl⟩
     ·replace hM := ite_f hb43 hM
      refine run_skip ?_
      refine run_blk ?_
      refine run_region ?_
      refine mvL rfl rfl rfl rfl (ltb rfl) ?_
      refine run_bin rfl rfl rfl rfl rfl rfl rfl (ltb rfl) ?_
      refine mvR rfl rfl rfl rfl (ltb rfl) ?_
      refine run_ops_nil ?_
      exact run_loop_end ⟨m, _, Nat.lt_succ_self _, ⟨r36, (IntKind.i64.wrap (i4 + 1)), tk38, (show tk ≤ tk38 by omega), hM, rfl⟩, Sub.env [(0, .imm q1 4 f1 (pcellss ks1)), (1, .int .i64 r36), (4, .int .i64 0), (5, .int .i64 (IntKind.i64.wrap (i4 + 1)))] ⟨rfl, rfl, rfl, rfl, trivial⟩⟩
 ·replace hM := ite_f hb5 hM
  refine run_exit_to rfl ?_
  refine run_sr ?_
  refine mvL rfl rfl rfl rfl (ltb rfl) ?_
  refine mvR rfl rfl rfl rfl (ltb rfl) ?_
  refine run_ops_nil ?_
  refine run_ret_to ?_
  obtain rfl := some_t hM
  refine fin_x hG rfl rfl rfl (v' := .int .i64 i3) (by rfl) ⟨rfl, (show tk ≤ tkw_heldProofS_L1 by omega), _, rfl, rfl⟩

theorem w_heldProofS_all : ∀ (n : Nat), (∀ (q1 : Nat) (f1 : Bool) (ks1 : List LP) (i2 : Int) {r : Int}, w_heldProofS n (pers ks1) i2 = some r → ∀ (O : Heap) (tk : Nat), ACalls Go.Proofs.Tryd.prog 54 [.imm q1 4 f1 (pcellss ks1), .int .i64 i2] O tk (RetX O tk (fun v tk' => v = .int .i64 r)))
 | 0 => by intro q1 f1 ks1 i2 r hM; rw [w_heldProofS] at hM; cases hM
 | n + 1 => have ih := w_heldProofS_all n; w_heldProofS_st n (ih)

theorem w_heldProofS_ok (n : Nat) : ∀ (q1 : Nat) (f1 : Bool) (ks1 : List LP) (i2 : Int) {r : Int}, w_heldProofS n (pers ks1) i2 = some r → ∀ (O : Heap) (tk : Nat), ACalls Go.Proofs.Tryd.prog 54 [.imm q1 4 f1 (pcellss ks1), .int .i64 i2] O tk (RetX O tk (fun v tk' => v = .int .i64 r)) := w_heldProofS_all n

def w_heldProof (n : Nat) (x1 : Pf) (i2 : Int) : Option Int :=
 (w_heldFormS n x1.forms i2).bind fun r3 =>
 if r3 < 0 then
  some (-1)
 else
  (w_heldProofS n x1.kids r3).bind fun r11 =>
  if r11 < 0 then
   some (-1)
  else
   some r11

set_option maxRecDepth 100000 in
theorem w_heldProof_ok (n : Nat) : ∀ (k1 : Int) (n1 : Int) (p1 : Nat) (e1 : Bool) (fs1 : List LF) (q1 : Nat) (f1 : Bool) (ks1 : List LP) (i2 : Int) {r : Int}, w_heldProof n (Pf.mk k1 n1 (fers fs1) (pers ks1)) i2 = some r → ∀ (O : Heap) (tk : Nat), ACalls Go.Proofs.Tryd.prog 17 [.agg [.int .i64 k1, .int .i64 n1, .imm p1 3 e1 (fcellss fs1), .imm q1 4 f1 (pcellss ks1)], .int .i64 i2] O tk (RetX O tk (fun v tk' => v = .int .i64 r)) := by
 intro k1 n1 p1 e1 fs1 q1 f1 ks1 i2 r hM O tk
 unfold w_heldProof at hM
 refine acalls_of_run Go.Proofs.Tryd.func17 rfl rfl [] [] (Bor.nil _) [(0, .agg [.int .i64 k1, .int .i64 n1, .imm p1 3 e1 (fcellss fs1), .imm q1 4 f1 (pcellss ks1)]), (1, .int .i64 i2)] (.cons (.agg _) (.cons (entS rfl) (.nil _))) (leb rfl) (fun _ h => by cases h) (fun S0 hO htk hfz => ?_)
 refine run_sr ?_
 refine run_op rfl (box_step (d := 2) rfl rfl rfl rfl rfl) rfl (ltb rfl) ?_
 refine mvR rfl rfl rfl rfl (ltb rfl) ?_
 refine run_ops_nil ?_
 refine run_sr ?_
 refine run_pu rfl (fieldAddr_step hG rfl rfl rfl rfl rfl) rfl (ltb rfl) ?_
 refine run_ld hG rfl rfl rfl rfl rfl (ltb rfl) ?_
 refine mvL rfl rfl rfl rfl (ltb rfl) ?_
 obtain ⟨r3, hg4, hM⟩ := bind_t hM
 refine run_call rfl rfl rfl (ltb rfl) rfl rfl rfl (fun _ h => absurd h List.not_mem_nil) (w_heldFormS_ok n p1 e1 fs1 i2 hg4 _ _) (callK_retX (fun v tk5 (hle6 : tk ≤ tk5) h7 => ?_))
 subst h7
 refine mvR rfl rfl rfl rfl (ltb rfl) ?_
 refine run_ops_nil ?_
 refine run_seq ?_
 refine run_sr ?_
 refine mvL rfl rfl rfl rfl (ltb rfl) ?_
 refine run_bin rfl rfl rfl rfl rfl rfl rfl (ltb rfl) ?_
 refine run_ops_nil ?_
 refine run_ifd rfl rfl (fun hb10 => ?_) (fun hb10 => ?_)
 ·replace hM := ite_t hb10 hM
  refine run_sr ?_
  refine mvR rfl rfl rfl rfl (ltb rfl) ?_
  refine run_ops_nil ?_
  refine run_ret_to ?_
  obtain rfl := some_t hM
  refine fin_x hG rfl rfl rfl (v' := .int .i64 (-1)) (by rfl) ⟨rfl, (show tk ≤ tk5 by omega), _, rfl, rfl⟩
 ·replace hM := ite_f hb10 hM
  refine run_skip ?_
  refine run_sr ?_
  refine run_pu rfl (fieldAddr_step hG rfl rfl rfl rfl rfl) rfl (ltb rfl) ?_
  refine run_ld hG rfl rfl rfl rfl rfl (ltb rfl) ?_
  refine mvL rfl rfl rfl rfl (ltb rfl) ?_
  obtain ⟨r11, hg12, hM⟩ := bind_t hM
  refine run_call rfl rfl rfl (ltb rfl) rfl rfl rfl (fun _ h => absurd h List.not_mem_nil) (w_heldProofS_ok n q1 f1 ks1 r3 hg12 _ _) (callK_retX (fun v tk13 (hle14 : tk5 ≤ tk13) h15 => ?_))
  subst h15
  refine mvR rfl rfl rfl rfl (ltb rfl) ?_
  refine run_ops_nil ?_
  refine run_sub_code (σ' := ⟨[(1, .int .i64 r11), (4, .int .i64 0)], [], [], O, tk13⟩) (Sub.trans (Sub.drop (k := 2) rfl) (Sub.env _ ⟨rfl, rfl, trivial⟩)) ?_
  refine run_seq ?_
  refine run_sr ?_
  refine mvL rfl rfl rfl rfl (ltb rfl) ?_
  refine run_bin rfl rfl rfl rfl rfl rfl rfl (ltb rfl) ?_
  refine run_ops_nil ?_
  refine run_ifd rfl rfl (fun hb18 => ?_) (fun hb18 => ?_)
  ·replace hM := ite_t hb18 hM
   refine run_sr ?_
   refine mvR rfl rfl rfl rfl (ltb rfl) ?_
   refine run_ops_nil ?_
   refine run_ret_to ?_
   obtain rfl := some_t hM
   refine fin_x hG rfl rfl rfl (v' := .int .i64 (-1)) (by rfl) ⟨rfl, (show tk ≤ tk13 by omega), _, rfl, rfl⟩
  ·replace hM := ite_f hb18 hM
   refine run_skip ?_
   refine run_sr ?_
   refine mvL rfl rfl rfl rfl (ltb rfl) ?_
   refine mvR rfl rfl rfl rfl (ltb rfl) ?_
   refine run_ops_nil ?_
   refine run_ret_to ?_
   obtain rfl := some_t hM
   refine fin_x hG rfl rfl rfl (v' := .int .i64 r11) (by rfl) ⟨rfl, (show tk ≤ tk13 by omega), _, rfl, rfl⟩

def w_FnExactDecodeProof (n : Nat) (x1 : T) (i2 : Int) : Option Bool :=
 (w_szTree n x1 1048576).bind fun r3 =>
 if r3 < 0 then
  some true
 else
  (w_toTree n x1).bind fun r11 =>
  (s_DecodeProof n r11 i2).bind fun r18 =>
  (w_toTree n x1).bind fun r31 =>
  (i_DecodeProof n r31 i2).bind fun r38 =>
  (w_eqProof n r38.1 r18.1).bind fun r51 =>
  if (!r51) = true then
   some false
  else
   if (r38.2 != r18.2) = true then
    some false
   else
    (w_toTree n x1).bind fun r60 =>
    (w_eqTree n r31 r60).bind fun r67 =>
    if (!r67) = true then
     some false
    else
     (w_markTree r31 1).bind fun r75 =>
     if r75.2 < 0 then
      some false
     else
      (w_eqProof n r38.1 r18.1).bind fun r85 =>
      if (!r85) = true then
       some false
      else
       if (r38.2 != r18.2) = true then
        some false
       else
        (w_markProof r38.1 1).bind fun r94 =>
        (w_heldProof n (Pf.mk r38.1.kind r38.1.n r94.1.1 r94.1.2) 1).bind fun r107 =>
        if r107 < 0 then
         some false
        else
         if (r107 != r94.2) = true then
          some false
         else
          (w_toTree n x1).bind fun r116 =>
          (i_DecodeProof n r116 i2).bind fun r123 =>
          (w_eqProof n r123.1 r18.1).bind fun r136 =>
          if (!r136) = true then
           some false
          else
           if (r123.2 != r18.2) = true then
            some false
           else
            (w_heldProof n (Pf.mk r38.1.kind r38.1.n r94.1.1 r94.1.2) 1).bind fun r145 =>
            if r145 < 0 then
             some false
            else
             if (r145 != r94.2) = true then
              some false
             else
              some true

set_option maxHeartbeats 2000000 in
set_option maxRecDepth 100000 in
theorem w_FnExactDecodeProof_ok (n : Nat) : ∀ (k1 : Int) (n1 : Int) (s1 : ByteArray) (q1 : Nat) (f1 : Bool) (ks1 : List LT) (i2 : Int) {r : Bool}, w_FnExactDecodeProof n (T.mk k1 n1 s1 (ers ks1)) i2 = some r → (∀ x ∈ tstoks q1 ks1, x = 0) → ∀ (O : Heap) (tk : Nat), O = (fun _ => none) → 2 ≤ tk → ACalls Go.Proofs.Tryd.prog 3 [.agg [.int .i64 k1, .int .i64 n1, .str s1, .imm q1 4 f1 (cellss ks1)], .int .i64 i2] O tk (RetX O tk (fun v tk' => v = .bool r)) := by
 intro k1 n1 s1 q1 f1 ks1 i2 r hM ho0 O tk hOn h2tk
 unfold w_FnExactDecodeProof at hM
 refine acalls_of_run Go.Proofs.Tryd.func3 rfl rfl [] [] (Bor.nil _) [(0, .agg [.int .i64 k1, .int .i64 n1, .str s1, .imm q1 4 f1 (cellss ks1)]), (1, .int .i64 i2)] (.cons (.agg _) (.cons (entS rfl) (.nil _))) (leb rfl) (fun _ h => by cases h) (fun S0 hO htk hfz => ?_)
 refine run_sr ?_
 refine run_op rfl (box_step (d := 2) rfl rfl rfl rfl rfl) rfl (ltb rfl) ?_
 refine mvR rfl rfl rfl rfl (ltb rfl) ?_
 refine run_ops_nil ?_
 refine run_sr ?_
 refine mvR rfl rfl rfl rfl (ltb rfl) ?_
 refine run_ops_nil ?_
 refine run_sr ?_
 refine run_ld hG rfl rfl rfl rfl rfl (ltb rfl) ?_
 refine mvL rfl rfl rfl rfl (ltb rfl) ?_
 obtain ⟨r3, hg4, hM⟩ := bind_t hM
 refine run_call rfl rfl rfl (ltb rfl) rfl rfl rfl (fun _ h => absurd h List.not_mem_nil) (w_szTree_ok n k1 n1 s1 q1 f1 ks1 1048576 hg4 _ _) (callK_retX (fun v tk5 (hle6 : tk ≤ tk5) h7 => ?_))
 subst h7
 refine mvR rfl rfl rfl rfl (ltb rfl) ?_
 refine run_ops_nil ?_
 refine run_seq ?_
 refine run_sr ?_
 refine mvL rfl rfl rfl rfl (ltb rfl) ?_
 refine run_bin rfl rfl rfl rfl rfl rfl rfl (ltb rfl) ?_
 refine run_ops_nil ?_
 refine run_ifd rfl rfl (fun hb10 => ?_) (fun hb10 => ?_)
 ·replace hM := ite_t hb10 hM
  refine run_sr ?_
  refine mvR rfl rfl rfl rfl (ltb rfl) ?_
  refine run_ops_nil ?_
  refine run_ret_to ?_
  obtain rfl := some_t hM
  refine fin_x hG rfl rfl rfl (v' := .bool true) (by rfl) ⟨rfl, (show tk ≤ tk5 by omega), _, rfl, rfl⟩
 ·replace hM := ite_f hb10 hM
  refine run_skip ?_
  refine run_sr ?_
  refine run_ld hG rfl rfl rfl rfl rfl (ltb rfl) ?_
  obtain ⟨r11, hg12, hM⟩ := bind_t hM
  refine run_call rfl rfl rfl (ltb rfl) rfl rfl rfl (fun _ h => absurd h List.not_mem_nil) (w_toTree_ok n k1 n1 s1 q1 f1 ks1 hg12 _ _) (callK_retX (fun v tk13 (hle14 : tk5 ≤ tk13) h15 => ?_))
  obtain ⟨k16, n16, s16, q16, f16, ks16, rfl, rfl, hf17⟩ := h15
  refine mvL rfl rfl rfl rfl (ltb rfl) ?_
  obtain ⟨r18, hg19, hM⟩ := bind_t hM
  refine run_call rfl rfl rfl (ltb rfl) rfl rfl rfl (fun _ h => absurd h List.not_mem_nil) (s_DecodeProof_ok n k16 n16 s16 q16 f16 ks16 i2 hg19 _ _) (callK_retX (fun v tk20 (hle21 : tk13 ≤ tk20) h22 => ?_))
  obtain ⟨ra27, ra28, va29, va30, rfl, rfl, ⟨k23, n23, p23, e23, fs23, q23, f23, ks23, rfl, rfl, hf24⟩, rfl⟩ := h22
  refine mvL rfl rfl rfl rfl (ltb rfl) ?_
  refine run_pu rfl (extract_step rfl rfl rfl) rfl (ltb rfl) ?_
  refine run_pu rfl (extract_step rfl rfl rfl) rfl (ltb rfl) ?_
  refine run_op rfl (alloc_step (d := 6) hG rfl rfl rfl) rfl (ltb rfl) ?_
  refine run_op0 rfl (store_step hG rfl rfl rfl rfl rfl rfl rfl rfl) rfl ?_
  refine mvR rfl rfl rfl rfl (ltb rfl) ?_
  refine run_ops_nil ?_
  refine run_sub_code (σ' := ⟨[(1, .int .i64 i2), (2, .optr (.loc 2) 0 0), (4, .bool false), (6, .optr (.loc 6) 0 0), (7, .int .i64 ra28)], [(6, ⟨29, 4, true, [[.int .i64 k23, .int .i64 n23, .imm p23 3 e23 (fcellss fs23), .imm q23 4 f23 (pcellss ks23)]]⟩), (2, ⟨24, 4, true, [[.int .i64 k1, .int .i64 n1, .str s1, .imm q1 4 f1 (cellss ks1)]]⟩)], [], O, tk20⟩) (Sub.env _ ⟨rfl, rfl, rfl, rfl, rfl, trivial⟩) ?_
  refine run_sr ?_
  refine run_ld hG rfl rfl rfl rfl rfl (ltb rfl) ?_
  obtain ⟨r31, hg32, hM⟩ := bind_t hM
  refine run_call rfl rfl rfl (ltb rfl) rfl rfl rfl (fun _ h => absurd h List.not_mem_nil) (w_toTree_ok n k1 n1 s1 q1 f1 ks1 hg32 _ _) (callK_retX (fun v tk33 (hle34 : tk20 ≤ tk33) h35 => ?_))
  obtain ⟨k36, n36, s36, q36, f36, ks36, rfl, rfl, hf37⟩ := h35
  refine run_op rfl (alloc_step (d := 8) hG rfl rfl rfl) rfl (ltb rfl) ?_
  refine run_op0 rfl (store_step hG rfl rfl rfl rfl rfl rfl rfl rfl) rfl ?_
  refine run_ops_nil ?_
  refine run_sr ?_
  refine run_ld hG rfl rfl rfl rfl rfl (ltb rfl) ?_
  refine mvL rfl rfl rfl rfl (ltb rfl) ?_
  obtain ⟨r38, hg39, hM⟩ := bind_t hM
  refine run_call rfl rfl rfl (ltb rfl) rfl rfl rfl (fun _ h => absurd h List.not_mem_nil) (i_DecodeProof_ok n k36 n36 s36 q36 f36 ks36 i2 hg39 _ _) (callK_retX (fun v tk40 (hle41 : tk33 ≤ tk40) h42 => ?_))
  obtain ⟨ra47, ra48, va49, va50, rfl, rfl, ⟨k43, n43, p43, e43, fs43, q43, f43, ks43, rfl, rfl, hf44⟩, rfl⟩ := h42
  refine mvL rfl rfl rfl rfl (ltb rfl) ?_
  refine run_pu rfl (extract_step rfl rfl rfl) rfl (ltb rfl) ?_
  refine run_pu rfl (extract_step rfl rfl rfl) rfl (ltb rfl) ?_
  refine run_op rfl (alloc_step (d := 9) hG rfl rfl rfl) rfl (ltb rfl) ?_
  refine run_op0 rfl (store_step hG rfl rfl rfl rfl rfl rfl rfl rfl) rfl ?_
  refine mvR rfl rfl rfl rfl (ltb rfl) ?_
  refine run_ops_nil ?_
  refine run_seq ?_
  refine run_sr ?_
  refine run_ld hG rfl rfl rfl rfl rfl (ltb rfl) ?_
  refine run_ld hG rfl rfl rfl rfl rfl (ltb rfl) ?_
  obtain ⟨r51, hg52, hM⟩ := bind_t hM
  refine run_call rfl rfl rfl (ltb rfl) rfl rfl rfl (fun _ h => absurd h List.not_mem_nil) (w_eqProof_ok n k43 n43 p43 e43 fs43 q43 f43 ks43 k23 n23 p23 e23 fs23 q23 f23 ks23 hg52 _ _) (callK_retX (fun v tk53 (hle54 : tk40 ≤ tk53) h55 => ?_))
  subst h55
  refine run_pu rfl (aun_step rfl rfl rfl) rfl (ltb rfl) ?_
  refine mvL rfl rfl rfl rfl (ltb rfl) ?_
  refine run_splitb (i := 40) rfl (fun hb58 => ?_) (fun hb58 => ?_)
  ·replace hM := ite_t hb58 hM
   refine run_off (on_of rfl rfl rfl rfl) rfl (ltb rfl) ?_
   refine run_off (on_of rfl rfl rfl rfl) rfl (ltb rfl) ?_
   refine run_off (on_of rfl rfl rfl rfl) rfl (ltb rfl) ?_
   refine run_pu rfl (pick_step rfl rfl rfl) rfl (ltb rfl) ?_
   refine run_ops_nil ?_
   refine run_sub_code (σ' := ⟨[(1, .int .i64 i2), (2, .optr (.loc 2) 0 0), (4, .bool false), (6, .optr (.loc 6) 0 0), (7, .int .i64 ra28), (8, .optr (.loc 8) 0 0), (9, .optr (.loc 9) 0 0), (10, .int .i64 ra48), (44, .bool true)], [(9, ⟨29, 4, true, [[.int .i64 k43, .int .i64 n43, .imm p43 3 e43 (fcellss fs43), .imm q43 4 f43 (pcellss ks43)]]⟩), (8, ⟨34, 4, true, [[.int .i64 k36, .int .i64 n36, .str s36, .imm q36 4 f36 (cellss ks36)]]⟩), (6, ⟨29, 4, true, [[.int .i64 k23, .int .i64 n23, .imm p23 3 e23 (fcellss fs23), .imm q23 4 f23 (pcellss ks23)]]⟩), (2, ⟨24, 4, true, [[.int .i64 k1, .int .i64 n1, .str s1, .imm q1 4 f1 (cellss ks1)]]⟩)], [], O, tk53⟩) (Sub.env _ ⟨rfl, rfl, rfl, rfl, rfl, rfl, rfl, rfl, rfl, trivial⟩) ?_
   refine run_if rfl rfl (fun _ => ?_) (fun h => by cases h)
   refine run_sr ?_
   refine mvR rfl rfl rfl rfl (ltb rfl) ?_
   refine run_ops_nil ?_
   refine run_ret_to ?_
   obtain rfl := some_t hM
   refine fin_x hG rfl rfl rfl (v' := .bool false) (by rfl) ⟨rfl, (show tk ≤ tk53 by omega), _, rfl, rfl⟩
  ·replace hM := ite_f hb58 hM
   refine run_puG (on_of rfl rfl rfl rfl) (move_step (.inl rfl) rfl) rfl (ltb rfl) ?_
   refine run_puG (on_of rfl rfl rfl rfl) (move_step (.inl rfl) rfl) rfl (ltb rfl) ?_
   refine run_puG (on_of rfl rfl rfl rfl) (abin_step rfl rfl rfl rfl (fun _ h => by cases h)) rfl (ltb rfl) ?_
   refine run_pu rfl (pick_step rfl rfl rfl) rfl (ltb rfl) ?_
   refine run_ops_nil ?_
   refine run_sub_code (σ' := ⟨[(1, .int .i64 i2), (2, .optr (.loc 2) 0 0), (4, .bool false), (6, .optr (.loc 6) 0 0), (7, .int .i64 ra28), (8, .optr (.loc 8) 0 0), (9, .optr (.loc 9) 0 0), (10, .int .i64 ra48), (44, .bool (ra48 != ra28))], [(9, ⟨29, 4, true, [[.int .i64 k43, .int .i64 n43, .imm p43 3 e43 (fcellss fs43), .imm q43 4 f43 (pcellss ks43)]]⟩), (8, ⟨34, 4, true, [[.int .i64 k36, .int .i64 n36, .str s36, .imm q36 4 f36 (cellss ks36)]]⟩), (6, ⟨29, 4, true, [[.int .i64 k23, .int .i64 n23, .imm p23 3 e23 (fcellss fs23), .imm q23 4 f23 (pcellss ks23)]]⟩), (2, ⟨24, 4, true, [[.int .i64 k1, .int .i64 n1, .str s1, .imm q1 4 f1 (cellss ks1)]]⟩)], [], O, tk53⟩) (Sub.env _ ⟨rfl, rfl, rfl, rfl, rfl, rfl, rfl, rfl, rfl, trivial⟩) ?_
   refine run_ifb rfl rfl (fun hb59 => ?_) (fun hb59 => ?_)
   ·replace hM := ite_t hb59 hM
    refine run_sr ?_
    refine mvR rfl rfl rfl rfl (ltb rfl) ?_
    refine run_ops_nil ?_
    refine run_ret_to ?_
    obtain rfl := some_t hM
    refine fin_x hG rfl rfl rfl (v' := .bool false) (by rfl) ⟨rfl, (show tk ≤ tk53 by omega), _, rfl, rfl⟩
   ·replace hM := ite_f hb59 hM
    refine run_skip ?_
    refine run_seq ?_
    refine run_seq ?_
    refine run_draw [] (n := 5) mixed rfl (fun _ h => absurd h List.not_mem_nil) ?_
    refine AAny.take (i := 0) rfl (by kernel_rfl) (by kernel_rfl) (by kernel_rfl) rfl rfl (ltb rfl) (aload_rd hG rfl rfl rfl (by first | (simp [ldok]; done) | exact List.not_mem_nil | trivial)) ?_
    refine AAny.take (i := 1) rfl (by kernel_rfl) (by kernel_rfl) (by kernel_rfl) rfl rfl (ltb rfl) (aload_rd hG rfl rfl rfl (by first | (simp [ldok]; done) | exact List.not_mem_nil | trivial)) ?_
    obtain ⟨r60, hg61, hM⟩ := bind_t hM
    refine AAny.one (i := 2) (by kernel_rfl) (AOp.call rfl rfl rfl rfl (ltb rfl) rfl rfl rfl (fun _ h => absurd h List.not_mem_nil) (fun _ h => absurd h List.not_mem_nil) (w_toTree_ok n k1 n1 s1 q1 f1 ks1 hg61 _ _) (callK_retX (fun v tk62 (hle63 : tk53 ≤ tk62) h64 => ?_)))
    obtain ⟨k65, n65, s65, q65, f65, ks65, rfl, rfl, hf66⟩ := h64
    obtain ⟨r67, hg68, hM⟩ := bind_t hM
    refine AAny.one (i := 3) (by kernel_rfl) (AOp.call rfl rfl rfl rfl (ltb rfl) rfl rfl rfl (fun _ h => absurd h List.not_mem_nil) (fun _ h => absurd h List.not_mem_nil) (w_eqTree_ok n k36 n36 s36 q36 f36 ks36 k65 n65 s65 q65 f65 ks65 hg68 _ _) (callK_retX (fun v tk69 (hle70 : tk62 ≤ tk69) h71 => ?_)))
    subst h71
    refine AAny.take (i := 4) rfl (by kernel_rfl) (by kernel_rfl) (by kernel_rfl) rfl rfl (ltb rfl) ((aun_step rfl rfl rfl).rd _) ?_
    refine AAny.done (by kernel_rfl) ?_
    refine run_ifb rfl rfl (fun hb74 => ?_) (fun hb74 => ?_)
    ·replace hM := ite_t hb74 hM
     refine run_sr ?_
     refine mvR rfl rfl rfl rfl (ltb rfl) ?_
     refine run_ops_nil ?_
     refine run_ret_to ?_
     obtain rfl := some_t hM
     refine fin_x hG rfl rfl rfl (v' := .bool false) (by rfl) ⟨rfl, (show tk ≤ tk69 by omega), _, rfl, rfl⟩
    ·replace hM := ite_f hb74 hM
     refine run_skip ?_
     refine run_sr ?_
     refine mvR rfl rfl rfl rfl (ltb rfl) ?_
     refine run_ops_nil ?_
     refine run_sr ?_
     refine run_ld hG rfl rfl rfl rfl rfl (ltb rfl) ?_
     refine mvL rfl rfl rfl rfl (ltb rfl) ?_
     obtain ⟨r75, hg76, hM⟩ := bind_t hM
     refine run_callT rfl rfl rfl (ltb rfl) rfl rfl rfl rfl rfl hOn (fun x hx => by have := ((show Fr tk20 tk33 _ from (show Fr tk20 tk33 _ from hf37 rfl))).2 x hx; show S0.tk ≤ x; omega) (w_markTree_m k36 n36 s36 q36 f36 ks36 1 _ (Fr.ge (show Fr tk20 tk33 _ from (show Fr tk20 tk33 _ from hf37 rfl)) (by omega)) ((show Fr tk20 tk33 _ from (show Fr tk20 tk33 _ from hf37 rfl))).1 hg76) (fun out S' hR (hle78 : tk69 ≤ S'.tk) => ?_)
     obtain ⟨ks79, k80, rfl, rfl, _, hst81, hln82, hu83⟩ := hR
     generalize S'.tk = tk77 at hle78 ⊢
     refine ⟨_, rfl, rfl, GT q36 f36 ks36 ks79, GT.turned (Fr.ge (show Fr tk20 tk33 _ from (show Fr tk20 tk33 _ from hf37 rfl)) (by omega)) hst81 hln82 hu83, [(1, .int .i64 i2), (2, .optr (.loc 2) 0 0), (4, .bool false), (6, .optr (.loc 6) 0 0), (7, .int .i64 ra28), (8, .optr (.loc 8) 0 0), (9, .optr (.loc 9) 0 0), (10, .int .i64 ra48), (44, .bool (ra48 != ra28)), (45, .agg [.int .i64 k36, .int .i64 n36, .str s36, .imm q36 4 f36 (cellss ks79)]), (46, .agg [.int .i64 k1, .int .i64 n1, .str s1, .imm q1 4 f1 (cellss ks1)]), (47, .agg [.int .i64 k65, .int .i64 n65, .str s65, .imm q65 4 f65 (cellss ks65)]), (48, .bool r67), (49, .bool (!r67)), (11, .int .i64 1), (50, .agg [.int .i64 k36, .int .i64 n36, .str s36, .imm q36 4 f36 (cellss ks79)]), (51, .int .i64 1)], [(9, ⟨29, 4, true, [[.int .i64 k43, .int .i64 n43, .imm p43 3 e43 (fcellss fs43), .imm q43 4 f43 (pcellss ks43)]]⟩), (8, ⟨34, 4, true, [[.int .i64 k36, .int .i64 n36, .str s36, .imm q36 4 f36 (cellss ks79)]]⟩), (6, ⟨29, 4, true, [[.int .i64 k23, .int .i64 n23, .imm p23 3 e23 (fcellss fs23), .imm q23 4 f23 (pcellss ks23)]]⟩), (2, ⟨24, 4, true, [[.int .i64 k1, .int .i64 n1, .str s1, .imm q1 4 f1 (cellss ks1)]]⟩)], (.cons _ _ _ _ rfl (Tn.av (.int _ _)) (.cons _ _ _ _ rfl (.optr _ _ _) (.cons _ _ _ _ rfl (Tn.av (.bool _)) (.cons _ _ _ _ rfl (.optr _ _ _) (.cons _ _ _ _ rfl (Tn.av (.int _ _)) (.cons _ _ _ _ rfl (.optr _ _ _) (.cons _ _ _ _ rfl (.optr _ _ _) (.cons _ _ _ _ rfl (Tn.av (.int _ _)) (.cons _ _ _ _ rfl (Tn.av (.bool _)) (.cons _ _ _ _ rfl (TnCs.agg (.cons _ _ _ _ (Tn.av (.int _ _)) (.cons _ _ _ _ (Tn.av (.int _ _)) (.cons _ _ _ _ (Tn.av (.str _)) (.cons _ _ _ _ (GT.tn hln82) .nil)))) rfl) (.cons _ _ _ _ rfl (TnCs.agg (.cons _ _ _ _ (Tn.av (.int _ _)) (.cons _ _ _ _ (Tn.av (.int _ _)) (.cons _ _ _ _ (Tn.av (.str _)) (.cons _ _ _ _ (Tn.av (ts_av (old_av ho0))) .nil)))) rfl) (.cons _ _ _ _ rfl (TnCs.agg (.cons _ _ _ _ (Tn.av (.int _ _)) (.cons _ _ _ _ (Tn.av (.int _ _)) (.cons _ _ _ _ (Tn.av (.str _)) (.cons _ _ _ _ (Tn.av (ts_av (fr_av (show Fr tk53 tk62 _ from (show Fr tk53 tk62 _ from hf66 rfl)) (show Fr tk20 tk33 _ from (show Fr tk20 tk33 _ from hf37 rfl)) (by omega) (by omega)))) .nil)))) rfl) (.cons _ _ _ _ rfl (Tn.av (.bool _)) (.cons _ _ _ _ rfl (Tn.av (.bool _)) (.cons _ _ _ _ rfl (Tn.av (.int _ _)) (.cons _ _ _ _ rfl (TnCs.agg (.cons _ _ _ _ (Tn.av (.int _ _)) (.cons _ _ _ _ (Tn.av (.int _ _)) (.cons _ _ _ _ (Tn.av (.str _)) (.cons _ _ _ _ (GT.tn hln82) .nil)))) rfl) (.cons _ _ _ _ rfl (Tn.av (.int _ _)) .nil))))))))))))))))), (.cons _ _ _ _ _ (TnCs.box (.cons _ _ _ _ (Tn.av (.int _ _)) (.cons _ _ _ _ (Tn.av (.int _ _)) (.cons _ _ _ _ (Tn.av (fs_av (fun x hx => fr_av (show Fr tk33 tk40 _ from (show Fr tk33 tk40 _ from hf44 rfl)) (show Fr tk20 tk33 _ from (show Fr tk20 tk33 _ from hf37 rfl)) (by omega) (by omega) x (List.mem_append.2 (.inl hx))))) (.cons _ _ _ _ (Tn.av (ps_av (fun x hx => fr_av (show Fr tk33 tk40 _ from (show Fr tk33 tk40 _ from hf44 rfl)) (show Fr tk20 tk33 _ from (show Fr tk20 tk33 _ from hf37 rfl)) (by omega) (by omega) x (List.mem_append.2 (.inr hx))))) .nil)))) rfl) (.cons _ _ _ _ _ (TnCs.box (.cons _ _ _ _ (Tn.av (.int _ _)) (.cons _ _ _ _ (Tn.av (.int _ _)) (.cons _ _ _ _ (Tn.av (.str _)) (.cons _ _ _ _ (GT.tn hln82) .nil)))) rfl) (.cons _ _ _ _ _ (TnCs.box (.cons _ _ _ _ (Tn.av (.int _ _)) (.cons _ _ _ _ (Tn.av (.int _ _)) (.cons _ _ _ _ (Tn.av (fs_av (fun x hx => fr_av (show Fr tk13 tk20 _ from (show Fr tk13 tk20 _ from hf24 rfl)) (show Fr tk20 tk33 _ from (show Fr tk20 tk33 _ from hf37 rfl)) (by omega) (by omega) x (List.mem_append.2 (.inl hx))))) (.cons _ _ _ _ (Tn.av (ps_av (fun x hx => fr_av (show Fr tk13 tk20 _ from (show Fr tk13 tk20 _ from hf24 rfl)) (show Fr tk20 tk33 _ from (show Fr tk20 tk33 _ from hf37 rfl)) (by omega) (by omega) x (List.mem_append.2 (.inr hx))))) .nil)))) rfl) (.cons _ _ _ _ _ (TnCs.box (.cons _ _ _ _ (Tn.av (.int _ _)) (.cons _ _ _ _ (Tn.av (.int _ _)) (.cons _ _ _ _ (Tn.av (.str _)) (.cons _ _ _ _ (Tn.av (ts_av (old_av ho0))) .nil)))) rfl) .nil)))), ?_⟩
     refine mvR rfl rfl rfl rfl (ltb rfl) ?_
     refine run_ops_nil ?_
     refine run_seq ?_
     refine run_sr ?_
     refine mvL rfl rfl rfl rfl (ltb rfl) ?_
     refine run_bin rfl rfl rfl rfl rfl rfl rfl (ltb rfl) ?_
     refine mvL rfl rfl rfl rfl (ltb rfl) ?_
     refine run_splitd (i := 55) rfl (fun hb84 => ?_) (fun hb84 => ?_)
     ·replace hM := ite_t hb84 hM
      refine run_off (on_of rfl rfl rfl rfl) rfl (ltb rfl) ?_
      refine run_off (on_of rfl rfl rfl rfl) rfl (ltb rfl) ?_
      refine run_off (on_of rfl rfl rfl rfl) rfl (ltb rfl) ?_
      refine run_off (on_of rfl rfl rfl rfl) rfl (ltb rfl) ?_
      refine run_pu rfl (pick_step rfl rfl rfl) rfl (ltb rfl) ?_
      refine mvL rfl rfl rfl rfl (ltb rfl) ?_
      refine run_off (on_of rfl rfl rfl rfl) rfl (ltb rfl) ?_
      refine run_off (on_of rfl rfl rfl rfl) rfl (ltb rfl) ?_
      refine run_off (on_of rfl rfl rfl rfl) rfl (ltb rfl) ?_
      refine run_pu rfl (pick_step rfl rfl rfl) rfl (ltb rfl) ?_
      refine run_ops_nil ?_
      refine run_sub_code (σ' := ⟨[(1, .int .i64 i2), (2, .optr (.loc 2) 0 0), (4, .bool false), (6, .optr (.loc 6) 0 0), (7, .int .i64 ra28), (9, .optr (.loc 9) 0 0), (65, .bool true)], [(9, ⟨29, 4, true, [[.int .i64 k43, .int .i64 n43, .imm p43 3 e43 (fcellss fs43), .imm q43 4 f43 (pcellss ks43)]]⟩), (6, ⟨29, 4, true, [[.int .i64 k23, .int .i64 n23, .imm p23 3 e23 (fcellss fs23), .imm q23 4 f23 (pcellss ks23)]]⟩), (2, ⟨24, 4, true, [[.int .i64 k1, .int .i64 n1, .str s1, .imm q1 4 f1 (cellss ks1)]]⟩)], [], O, tk77⟩) (Sub.trans (Sub.drop (k := 8) rfl) (Sub.env _ ⟨rfl, rfl, rfl, rfl, rfl, rfl, rfl, trivial⟩)) ?_
      refine run_if rfl rfl (fun _ => ?_) (fun h => by cases h)
      refine run_sr ?_
      refine mvR rfl rfl rfl rfl (ltb rfl) ?_
      refine run_ops_nil ?_
      refine run_ret_to ?_
      obtain rfl := some_t hM
      refine fin_x hG rfl rfl rfl (v' := .bool false) (by rfl) ⟨rfl, (show tk ≤ tk77 by omega), _, rfl, rfl⟩
     ·replace hM := ite_f hb84 hM
      refine run_rdG (on_of rfl rfl rfl rfl) (aload_rd hG rfl rfl rfl (by first | (simp [ldok]; done) | exact List.not_mem_nil | trivial)) rfl (ltb rfl) ?_
      refine run_rdG (on_of rfl rfl rfl rfl) (aload_rd hG rfl rfl rfl (by first | (simp [ldok]; done) | exact List.not_mem_nil | trivial)) rfl (ltb rfl) ?_
      obtain ⟨r85, hg86, hM⟩ := bind_t hM
      refine run_callG (on_of rfl rfl rfl rfl) rfl rfl (ltb rfl) rfl rfl rfl (fun _ h => absurd h List.not_mem_nil) (w_eqProof_ok n k43 n43 p43 e43 fs43 q43 f43 ks43 k23 n23 p23 e23 fs23 q23 f23 ks23 hg86 _ _) (callK_retX (fun v tk87 (hle88 : tk77 ≤ tk87) h89 => ?_))
      subst h89
      refine run_puG (on_of rfl rfl rfl rfl) (aun_step rfl rfl rfl) rfl (ltb rfl) ?_
      refine run_pu rfl (pick_step rfl rfl rfl) rfl (ltb rfl) ?_
      refine mvL rfl rfl rfl rfl (ltb rfl) ?_
      refine run_splitb (i := 61) rfl (fun hb92 => ?_) (fun hb92 => ?_)
      ·replace hM := ite_t hb92 hM
       refine run_off (on_of rfl rfl rfl rfl) rfl (ltb rfl) ?_
       refine run_off (on_of rfl rfl rfl rfl) rfl (ltb rfl) ?_
       refine run_off (on_of rfl rfl rfl rfl) rfl (ltb rfl) ?_
       refine run_pu rfl (pick_step rfl rfl rfl) rfl (ltb rfl) ?_
       refine run_ops_nil ?_
       refine run_sub_code (σ' := ⟨[(1, .int .i64 i2), (2, .optr (.loc 2) 0 0), (4, .bool false), (6, .optr (.loc 6) 0 0), (7, .int .i64 ra28), (9, .optr (.loc 9) 0 0), (65, .bool true)], [(9, ⟨29, 4, true, [[.int .i64 k43, .int .i64 n43, .imm p43 3 e43 (fcellss fs43), .imm q43 4 f43 (pcellss ks43)]]⟩), (6, ⟨29, 4, true, [[.int .i64 k23, .int .i64 n23, .imm p23 3 e23 (fcellss fs23), .imm q23 4 f23 (pcellss ks23)]]⟩), (2, ⟨24, 4, true, [[.int .i64 k1, .int .i64 n1, .str s1, .imm q1 4 f1 (cellss ks1)]]⟩)], [], O, tk87⟩) (Sub.trans (Sub.drop (k := 8) rfl) (Sub.env _ ⟨rfl, rfl, rfl, rfl, rfl, rfl, rfl, trivial⟩)) ?_
       refine run_if rfl rfl (fun _ => ?_) (fun h => by cases h)
       refine run_sr ?_
       refine mvR rfl rfl rfl rfl (ltb rfl) ?_
       refine run_ops_nil ?_
       refine run_ret_to ?_
       obtain rfl := some_t hM
       refine fin_x hG rfl rfl rfl (v' := .bool false) (by rfl) ⟨rfl, (show tk ≤ tk87 by omega), _, rfl, rfl⟩
      ·replace hM := ite_f hb92 hM
       refine run_puG (on_of rfl rfl rfl rfl) (move_step (.inl rfl) rfl) rfl (ltb rfl) ?_
       refine run_puG (on_of rfl rfl rfl rfl) (move_step (.inl rfl) rfl) rfl (ltb rfl) ?_
       refine run_puG (on_of rfl rfl rfl rfl) (abin_step rfl rfl rfl rfl (fun _ h => by cases h)) rfl (ltb rfl) ?_
       refine run_pu rfl (pick_step rfl rfl rfl) rfl (ltb rfl) ?_
       refine run_ops_nil ?_
       refine run_sub_code (σ' := ⟨[(1, .int .i64 i2), (2, .optr (.loc 2) 0 0), (4, .bool false), (6, .optr (.loc 6) 0 0), (7, .int .i64 ra28), (9, .optr (.loc 9) 0 0), (65, .bool (ra48 != ra28))], [(9, ⟨29, 4, true, [[.int .i64 k43, .int .i64 n43, .imm p43 3 e43 (fcellss fs43), .imm q43 4 f43 (pcellss ks43)]]⟩), (6, ⟨29, 4, true, [[.int .i64 k23, .int .i64 n23, .imm p23 3 e23 (fcellss fs23), .imm q23 4 f23 (pcellss ks23)]]⟩), (2, ⟨24, 4, true, [[.int .i64 k1, .int .i64 n1, .str s1, .imm q1 4 f1 (cellss ks1)]]⟩)], [], O, tk87⟩) (Sub.trans (Sub.drop (k := 8) rfl) (Sub.env _ ⟨rfl, rfl, rfl, rfl, rfl, rfl, rfl, trivial⟩)) ?_
       refine run_ifb rfl rfl (fun hb93 => ?_) (fun hb93 => ?_)
       ·replace hM := ite_t hb93 hM
        refine run_sr ?_
        refine mvR rfl rfl rfl rfl (ltb rfl) ?_
        refine run_ops_nil ?_
        refine run_ret_to ?_
        obtain rfl := some_t hM
        refine fin_x hG rfl rfl rfl (v' := .bool false) (by rfl) ⟨rfl, (show tk ≤ tk87 by omega), _, rfl, rfl⟩
       ·replace hM := ite_f hb93 hM
        refine run_skip ?_
        refine run_sr ?_
        refine mvR rfl rfl rfl rfl (ltb rfl) ?_
        refine run_ops_nil ?_
        refine run_sr ?_
        refine run_ld hG rfl rfl rfl rfl rfl (ltb rfl) ?_
        refine mvL rfl rfl rfl rfl (ltb rfl) ?_
        obtain ⟨r94, hg95, hM⟩ := bind_t hM
        refine run_callT rfl rfl rfl (ltb rfl) rfl rfl rfl rfl rfl hOn (fun x hx => by have := ((show Fr tk33 tk40 _ from (show Fr tk33 tk40 _ from hf44 rfl))).2 x hx; show S0.tk ≤ x; omega) (w_markProof_m k43 n43 p43 e43 fs43 q43 f43 ks43 1 _ (Fr.ge (show Fr tk33 tk40 _ from (show Fr tk33 tk40 _ from hf44 rfl)) (by omega)) ((show Fr tk33 tk40 _ from (show Fr tk33 tk40 _ from hf44 rfl))).1 hg95) (fun out S' hR (hle97 : tk87 ≤ S'.tk) => ?_)
        obtain ⟨fs103, ks98, k99, rfl, rfl, _, hst100, hln101, hst104, hln105, hu102, hu106⟩ := hR
        generalize S'.tk = tk96 at hle97 ⊢
        refine ⟨_, rfl, rfl, GQ p43 e43 fs43 fs103 q43 f43 ks43 ks98, GQ.turned (Fr.ge (show Fr tk33 tk40 _ from (show Fr tk33 tk40 _ from hf44 rfl)) (by omega)) hst100 hln101 hst104 hln105 hu102 hu106, [(1, .int .i64 i2), (2, .optr (.loc 2) 0 0), (4, .bool false), (6, .optr (.loc 6) 0 0), (7, .int .i64 ra28), (9, .optr (.loc 9) 0 0), (65, .bool (ra48 != ra28)), (12, .int .i64 1), (66, .agg [.int .i64 k43, .int .i64 n43, .imm p43 3 e43 (fcellss fs103), .imm q43 4 f43 (pcellss ks98)]), (67, .int .i64 1)], [(9, ⟨29, 4, true, [[.int .i64 k43, .int .i64 n43, .imm p43 3 e43 (fcellss fs103), .imm q43 4 f43 (pcellss ks98)]]⟩), (6, ⟨29, 4, true, [[.int .i64 k23, .int .i64 n23, .imm p23 3 e23 (fcellss fs23), .imm q23 4 f23 (pcellss ks23)]]⟩), (2, ⟨24, 4, true, [[.int .i64 k1, .int .i64 n1, .str s1, .imm q1 4 f1 (cellss ks1)]]⟩)], (.cons _ _ _ _ rfl (Tn.av (.int _ _)) (.cons _ _ _ _ rfl (.optr _ _ _) (.cons _ _ _ _ rfl (Tn.av (.bool _)) (.cons _ _ _ _ rfl (.optr _ _ _) (.cons _ _ _ _ rfl (Tn.av (.int _ _)) (.cons _ _ _ _ rfl (.optr _ _ _) (.cons _ _ _ _ rfl (Tn.av (.bool _)) (.cons _ _ _ _ rfl (Tn.av (.int _ _)) (.cons _ _ _ _ rfl (TnCs.agg (.cons _ _ _ _ (Tn.av (.int _ _)) (.cons _ _ _ _ (Tn.av (.int _ _)) (.cons _ _ _ _ (GQ.tnf hln101) (.cons _ _ _ _ (GQ.tnp hln105) .nil)))) rfl) (.cons _ _ _ _ rfl (Tn.av (.int _ _)) .nil)))))))))), (.cons _ _ _ _ _ (TnCs.box (.cons _ _ _ _ (Tn.av (.int _ _)) (.cons _ _ _ _ (Tn.av (.int _ _)) (.cons _ _ _ _ (GQ.tnf hln101) (.cons _ _ _ _ (GQ.tnp hln105) .nil)))) rfl) (.cons _ _ _ _ _ (TnCs.box (.cons _ _ _ _ (Tn.av (.int _ _)) (.cons _ _ _ _ (Tn.av (.int _ _)) (.cons _ _ _ _ (Tn.av (fs_av (fun x hx => fr_av (show Fr tk13 tk20 _ from (show Fr tk13 tk20 _ from hf24 rfl)) (show Fr tk33 tk40 _ from (show Fr tk33 tk40 _ from hf44 rfl)) (by omega) (by omega) x (List.mem_append.2 (.inl hx))))) (.cons _ _ _ _ (Tn.av (ps_av (fun x hx => fr_av (show Fr tk13 tk20 _ from (show Fr tk13 tk20 _ from hf24 rfl)) (show Fr tk33 tk40 _ from (show Fr tk33 tk40 _ from hf44 rfl)) (by omega) (by omega) x (List.mem_append.2 (.inr hx))))) .nil)))) rfl) (.cons _ _ _ _ _ (TnCs.box (.cons _ _ _ _ (Tn.av (.int _ _)) (.cons _ _ _ _ (Tn.av (.int _ _)) (.cons _ _ _ _ (Tn.av (.str _)) (.cons _ _ _ _ (Tn.av (ts_av (old_av ho0))) .nil)))) rfl) .nil))), ?_⟩
        refine mvR rfl rfl rfl rfl (ltb rfl) ?_
        refine run_ops_nil ?_
        refine run_sr ?_
        refine mvR rfl rfl rfl rfl (ltb rfl) ?_
        refine run_ops_nil ?_
        refine run_sr ?_
        refine run_ld hG rfl rfl rfl rfl rfl (ltb rfl) ?_
        refine mvL rfl rfl rfl rfl (ltb rfl) ?_
        obtain ⟨r107, hg108, hM⟩ := bind_t hM
        refine run_call rfl rfl rfl (ltb rfl) rfl rfl rfl (fun _ h => absurd h List.not_mem_nil) (w_heldProof_ok n k43 n43 p43 e43 fs103 q43 f43 ks98 1 hg108 _ _) (callK_retX (fun v tk109 (hle110 : tk96 ≤ tk109) h111 => ?_))
        subst h111
        refine mvR rfl rfl rfl rfl (ltb rfl) ?_
        refine run_ops_nil ?_
        refine run_seq ?_
        refine run_sr ?_
        refine mvL rfl rfl rfl rfl (ltb rfl) ?_
        refine run_bin rfl rfl rfl rfl rfl rfl rfl (ltb rfl) ?_
        refine run_ops_nil ?_
        refine run_ifd rfl rfl (fun hb114 => ?_) (fun hb114 => ?_)
        ·replace hM := ite_t hb114 hM
         refine run_sr ?_
         refine mvR rfl rfl rfl rfl (ltb rfl) ?_
         refine run_ops_nil ?_
         refine run_ret_to ?_
         obtain rfl := some_t hM
         refine fin_x hG rfl rfl rfl (v' := .bool false) (by rfl) ⟨rfl, (show tk ≤ tk109 by omega), _, rfl, rfl⟩
        ·replace hM := ite_f hb114 hM
         refine run_skip ?_
         refine run_seq ?_
         refine run_sr ?_
         refine mvL rfl rfl rfl rfl (ltb rfl) ?_
         refine mvL rfl rfl rfl rfl (ltb rfl) ?_
         refine run_bin rfl rfl rfl rfl rfl rfl rfl (ltb rfl) ?_
         refine run_ops_nil ?_
         refine run_sub_code (σ' := ⟨[(1, .int .i64 i2), (2, .optr (.loc 2) 0 0), (4, .bool false), (6, .optr (.loc 6) 0 0), (7, .int .i64 ra28), (9, .optr (.loc 9) 0 0), (12, .int .i64 k99), (13, .int .i64 r107), (76, .bool (r107 != k99))], [(9, ⟨29, 4, true, [[.int .i64 k43, .int .i64 n43, .imm p43 3 e43 (fcellss fs103), .imm q43 4 f43 (pcellss ks98)]]⟩), (6, ⟨29, 4, true, [[.int .i64 k23, .int .i64 n23, .imm p23 3 e23 (fcellss fs23), .imm q23 4 f23 (pcellss ks23)]]⟩), (2, ⟨24, 4, true, [[.int .i64 k1, .int .i64 n1, .str s1, .imm q1 4 f1 (cellss ks1)]]⟩)], [], O, tk109⟩) (Sub.env _ ⟨rfl, rfl, rfl, rfl, rfl, rfl, rfl, rfl, rfl, trivial⟩) ?_
         refine run_ifb rfl rfl (fun hb115 => ?_) (fun hb115 => ?_)
         ·replace hM := ite_t hb115 hM
          refine run_sr ?_
          refine mvR rfl rfl rfl rfl (ltb rfl) ?_
          refine run_ops_nil ?_
          refine run_ret_to ?_
          obtain rfl := some_t hM
          refine fin_x hG rfl rfl rfl (v' := .bool false) (by rfl) ⟨rfl, (show tk ≤ tk109 by omega), _, rfl, rfl⟩
         ·replace hM := ite_f hb115 hM
          refine run_skip ?_
          refine run_sr ?_
          refine run_ld hG rfl rfl rfl rfl rfl (ltb rfl) ?_
          obtain ⟨r116, hg117, hM⟩ := bind_t hM
          refine run_call rfl rfl rfl (ltb rfl) rfl rfl rfl (fun _ h => absurd h List.not_mem_nil) (w_toTree_ok n k1 n1 s1 q1 f1 ks1 hg117 _ _) (callK_retX (fun v tk118 (hle119 : tk109 ≤ tk118) h120 => ?_))
          obtain ⟨k121, n121, s121, q121, f121, ks121, rfl, rfl, hf122⟩ := h120
          refine mvL rfl rfl rfl rfl (ltb rfl) ?_
          obtain ⟨r123, hg124, hM⟩ := bind_t hM
          refine run_call rfl rfl rfl (ltb rfl) rfl rfl rfl (fun _ h => absurd h List.not_mem_nil) (i_DecodeProof_ok n k121 n121 s121 q121 f121 ks121 i2 hg124 _ _) (callK_retX (fun v tk125 (hle126 : tk118 ≤ tk125) h127 => ?_))
          obtain ⟨ra132, ra133, va134, va135, rfl, rfl, ⟨k128, n128, p128, e128, fs128, q128, f128, ks128, rfl, rfl, hf129⟩, rfl⟩ := h127
          refine mvL rfl rfl rfl rfl (ltb rfl) ?_
          refine run_pu rfl (extract_step rfl rfl rfl) rfl (ltb rfl) ?_
          refine run_pu rfl (extract_step rfl rfl rfl) rfl (ltb rfl) ?_
          refine run_op rfl (alloc_step (d := 14) hG rfl rfl rfl) rfl (ltb rfl) ?_
          refine run_op0 rfl (store_step hG rfl rfl rfl rfl rfl rfl rfl rfl) rfl ?_
          refine mvR rfl rfl rfl rfl (ltb rfl) ?_
          refine run_ops_nil ?_
          refine run_seq ?_
          refine run_sr ?_
          refine run_ld hG rfl rfl rfl rfl rfl (ltb rfl) ?_
          refine run_ld hG rfl rfl rfl rfl rfl (ltb rfl) ?_
          obtain ⟨r136, hg137, hM⟩ := bind_t hM
          refine run_call rfl rfl rfl (ltb rfl) rfl rfl rfl (fun _ h => absurd h List.not_mem_nil) (w_eqProof_ok n k128 n128 p128 e128 fs128 q128 f128 ks128 k23 n23 p23 e23 fs23 q23 f23 ks23 hg137 _ _) (callK_retX (fun v tk138 (hle139 : tk125 ≤ tk138) h140 => ?_))
          subst h140
          refine run_pu rfl (aun_step rfl rfl rfl) rfl (ltb rfl) ?_
          refine mvL rfl rfl rfl rfl (ltb rfl) ?_
          refine run_splitb (i := 88) rfl (fun hb143 => ?_) (fun hb143 => ?_)
          ·replace hM := ite_t hb143 hM
           refine run_off (on_of rfl rfl rfl rfl) rfl (ltb rfl) ?_
           refine run_off (on_of rfl rfl rfl rfl) rfl (ltb rfl) ?_
           refine run_off (on_of rfl rfl rfl rfl) rfl (ltb rfl) ?_
           refine run_pu rfl (pick_step rfl rfl rfl) rfl (ltb rfl) ?_
           refine run_ops_nil ?_
           refine run_sub_code (σ' := ⟨[(4, .bool false), (9, .optr (.loc 9) 0 0), (12, .int .i64 k99), (13, .int .i64 r107), (92, .bool true)], [(9, ⟨29, 4, true, [[.int .i64 k43, .int .i64 n43, .imm p43 3 e43 (fcellss fs103), .imm q43 4 f43 (pcellss ks98)]]⟩)], [], O, tk138⟩) (Sub.trans (Sub.drop (k := 14) rfl) (Sub.trans (Sub.drop (k := 6) rfl) (Sub.trans (Sub.drop (k := 2) rfl) (Sub.env _ ⟨rfl, rfl, rfl, rfl, rfl, trivial⟩)))) ?_
           refine run_if rfl rfl (fun _ => ?_) (fun h => by cases h)
           refine run_sr ?_
           refine mvR rfl rfl rfl rfl (ltb rfl) ?_
           refine run_ops_nil ?_
           refine run_ret_to ?_
           obtain rfl := some_t hM
           refine fin_x hG rfl rfl rfl (v' := .bool false) (by rfl) ⟨rfl, (show tk ≤ tk138 by omega), _, rfl, rfl⟩
          ·replace hM := ite_f hb143 hM
           refine run_puG (on_of rfl rfl rfl rfl) (move_step (.inl rfl) rfl) rfl (ltb rfl) ?_
           refine run_puG (on_of rfl rfl rfl rfl) (move_step (.inl rfl) rfl) rfl (ltb rfl) ?_
           refine run_puG (on_of rfl rfl rfl rfl) (abin_step rfl rfl rfl rfl (fun _ h => by cases h)) rfl (ltb rfl) ?_
           refine run_pu rfl (pick_step rfl rfl rfl) rfl (ltb rfl) ?_
           refine run_ops_nil ?_
           refine run_sub_code (σ' := ⟨[(4, .bool false), (9, .optr (.loc 9) 0 0), (12, .int .i64 k99), (13, .int .i64 r107), (92, .bool (ra133 != ra28))], [(9, ⟨29, 4, true, [[.int .i64 k43, .int .i64 n43, .imm p43 3 e43 (fcellss fs103), .imm q43 4 f43 (pcellss ks98)]]⟩)], [], O, tk138⟩) (Sub.trans (Sub.drop (k := 14) rfl) (Sub.trans (Sub.drop (k := 6) rfl) (Sub.trans (Sub.drop (k := 2) rfl) (Sub.env _ ⟨rfl, rfl, rfl, rfl, rfl, trivial⟩)))) ?_
           refine run_ifb rfl rfl (fun hb144 => ?_) (fun hb144 => ?_)
           ·replace hM := ite_t hb144 hM
            refine run_sr ?_
            refine mvR rfl rfl rfl rfl (ltb rfl) ?_
            refine run_ops_nil ?_
            refine run_ret_to ?_
            obtain rfl := some_t hM
            refine fin_x hG rfl rfl rfl (v' := .bool false) (by rfl) ⟨rfl, (show tk ≤ tk138 by omega), _, rfl, rfl⟩
           ·replace hM := ite_f hb144 hM
            refine run_skip ?_
            refine run_sr ?_
            refine mvR rfl rfl rfl rfl (ltb rfl) ?_
            refine run_ops_nil ?_
            refine run_sr ?_
            refine run_ld hG rfl rfl rfl rfl rfl (ltb rfl) ?_
            refine mvL rfl rfl rfl rfl (ltb rfl) ?_
            obtain ⟨r145, hg146, hM⟩ := bind_t hM
            refine run_call rfl rfl rfl (ltb rfl) rfl rfl rfl (fun _ h => absurd h List.not_mem_nil) (w_heldProof_ok n k43 n43 p43 e43 fs103 q43 f43 ks98 1 hg146 _ _) (callK_retX (fun v tk147 (hle148 : tk138 ≤ tk147) h149 => ?_))
            subst h149
            refine mvR rfl rfl rfl rfl (ltb rfl) ?_
            refine run_ops_nil ?_
            refine run_seq ?_
            refine run_sr ?_
            refine mvL rfl rfl rfl rfl (ltb rfl) ?_
            refine run_bin rfl rfl rfl rfl rfl rfl rfl (ltb rfl) ?_
            refine run_ops_nil ?_
            refine run_ifd rfl rfl (fun hb152 => ?_) (fun hb152 => ?_)
            ·replace hM := ite_t hb152 hM
             refine run_sr ?_
             refine mvR rfl rfl rfl rfl (ltb rfl) ?_
             refine run_ops_nil ?_
             refine run_ret_to ?_
             obtain rfl := some_t hM
             refine fin_x hG rfl rfl rfl (v' := .bool false) (by rfl) ⟨rfl, (show tk ≤ tk147 by omega), _, rfl, rfl⟩
            ·replace hM := ite_f hb152 hM
             refine run_skip ?_
             refine run_seq ?_
             refine run_sr ?_
             refine mvL rfl rfl rfl rfl (ltb rfl) ?_
             refine mvL rfl rfl rfl rfl (ltb rfl) ?_
             refine run_bin rfl rfl rfl rfl rfl rfl rfl (ltb rfl) ?_
             refine run_ops_nil ?_
             refine run_ifb rfl rfl (fun hb153 => ?_) (fun hb153 => ?_)
             ·replace hM := ite_t hb153 hM
              refine run_sr ?_
              refine mvR rfl rfl rfl rfl (ltb rfl) ?_
              refine run_ops_nil ?_
              refine run_ret_to ?_
              obtain rfl := some_t hM
              refine fin_x hG rfl rfl rfl (v' := .bool false) (by rfl) ⟨rfl, (show tk ≤ tk147 by omega), _, rfl, rfl⟩
             ·replace hM := ite_f hb153 hM
              refine run_skip ?_
              refine run_sr ?_
              refine mvR rfl rfl rfl rfl (ltb rfl) ?_
              refine run_ops_nil ?_
              refine run_ret_to ?_
              obtain rfl := some_t hM
              refine fin_x hG rfl rfl rfl (v' := .bool true) (by rfl) ⟨rfl, (show tk ≤ tk147 by omega), _, rfl, rfl⟩

end Go.Am.YtiobknkpdkkikaaDoor
