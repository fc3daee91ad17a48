/- Printed by a program of ours: Lean functions that do what the Go functions do, and the contracts. -/
import Derived.Test.YtiobknkpdkkikaaDoorMl0
import Derived.Test.YtiobknkpdkkikaaDoorTypes
import Derived.Test.YtiobknkpdkkikaaDoorMsTree
import Derived.Test.YtiobknkpdkkikaaDoorMsForm
import Derived.Test.YtiobknkpdkkikaaDoorEkDForm
import Derived.Test.YtiobknkpdkkikaaDoorDlTree
import Derived.Test.YtiobknkpdkkikaaDoorMhTree
-- packed
namespace Go.Am.YtiobknkpdkkikaaDoor
open Go Go.Am

def w_eqFormS_L1 (rec_w_eqForm : F → F → Option Bool) (l1 : List F) (l2 : List F) : Nat → Int → Option Bool
 | 0, _ => none
 | m + 1, i4 =>
  if i4 < ((l1).length : Int) then
   (idx l1 i4).bind fun y6 =>
   (idx l2 i4).bind fun y11 =>
   (rec_w_eqForm y6 y11).bind fun r16 =>
   if (!r16) = true then
    some false
   else
    w_eqFormS_L1 rec_w_eqForm l1 l2 m (IntKind.i64.wrap (i4 + 1))
  else
   some true

mutual

def w_eqForm : Nat → F → F → Option Bool
 | 0, _, _ => none
 | n + 1, x1, x2 =>
  if (x1.kind != x2.kind) = true then
   some false
  else
   if (x1.n != x2.n) = true then
    some false
   else
    (w_eqFormS n x1.kids x2.kids).bind fun r5 =>
    if (!r5) = true then
     some false
    else
     some true

def w_eqFormS : Nat → List F → List F → Option Bool
 | 0, _, _ => none
 | n + 1, l1, l2 =>
  if (((l1).length : Int) != ((l2).length : Int)) = true then
   some false
  else
   w_eqFormS_L1 (w_eqForm n) l1 l2 n 0

end

set_option maxRecDepth 100000 in
theorem w_eqForm_st (n : Nat) (ih_w_eqFormS : ∀ (q1 : Nat) (f1 : Bool) (ks1 : List LF) (q2 : Nat) (f2 : Bool) (ks2 : List LF) {r : Bool}, w_eqFormS n (fers ks1) (fers ks2) = some r → ∀ (O : Heap) (tk : Nat), ACalls Go.Proofs.Tryd.prog 47 [.imm q1 3 f1 (fcellss ks1), .imm q2 3 f2 (fcellss ks2)] O tk (RetX O tk (fun v tk' => v = .bool r))) : ∀ (k1 : Int) (n1 : Int) (q1 : Nat) (f1 : Bool) (ks1 : List LF) (k2 : Int) (n2 : Int) (q2 : Nat) (f2 : Bool) (ks2 : List LF) {r : Bool}, w_eqForm (n + 1) (F.mk k1 n1 (fers ks1)) (F.mk k2 n2 (fers ks2)) = some r → ∀ (O : Heap) (tk : Nat), ACalls Go.Proofs.Tryd.prog 25 [.agg [.int .i64 k1, .int .i64 n1, .imm q1 3 f1 (fcellss ks1)], .agg [.int .i64 k2, .int .i64 n2, .imm q2 3 f2 (fcellss ks2)]] O tk (RetX O tk (fun v tk' => v = .bool r)) := by
 intro k1 n1 q1 f1 ks1 k2 n2 q2 f2 ks2 r hM O tk
 rw [w_eqForm] at hM
 refine acalls_of_run Go.Proofs.Tryd.func25 rfl rfl [] [] (Bor.nil _) [(0, .agg [.int .i64 k1, .int .i64 n1, .imm q1 3 f1 (fcellss ks1)]), (1, .agg [.int .i64 k2, .int .i64 n2, .imm q2 3 f2 (fcellss ks2)])] (.cons (.agg _) (.cons (.agg _) (.nil _))) (leb rfl) (fun _ h => by cases h) (fun S0 hO htk hfz => ?_)
 refine run_sr ?_
 refine run_op rfl (box_step (d := 2) rfl rfl rfl rfl rfl) rfl (ltb rfl) ?_
 refine run_op rfl (box_step (d := 3) rfl rfl rfl rfl rfl) rfl (ltb rfl) ?_
 refine mvR rfl rfl rfl rfl (ltb rfl) ?_
 refine run_ops_nil ?_
 refine run_seq ?_
 refine run_sr ?_
 refine run_pu rfl (fieldAddr_step hG rfl rfl rfl rfl rfl) rfl (ltb rfl) ?_
 refine run_ld hG rfl rfl rfl rfl rfl (ltb rfl) ?_
 refine run_pu rfl (fieldAddr_step hG rfl rfl rfl rfl rfl) rfl (ltb rfl) ?_
 refine run_ld hG rfl rfl rfl rfl rfl (ltb rfl) ?_
 refine run_bin rfl rfl rfl rfl rfl rfl rfl (ltb rfl) ?_
 refine run_ops_nil ?_
 refine run_ifb rfl rfl (fun hb3 => ?_) (fun hb3 => ?_)
 ·replace hM := ite_t hb3 hM
  refine run_sr ?_
  refine mvR rfl rfl rfl rfl (ltb rfl) ?_
  refine run_ops_nil ?_
  refine run_ret_to ?_
  obtain rfl := some_t hM
  refine fin_x hG rfl rfl rfl (v' := .bool false) (by rfl) ⟨rfl, (show tk ≤ tk by omega), _, rfl, rfl⟩
 ·replace hM := ite_f hb3 hM
  refine run_skip ?_
  refine run_seq ?_
  refine run_sr ?_
  refine run_pu rfl (fieldAddr_step hG rfl rfl rfl rfl rfl) rfl (ltb rfl) ?_
  refine run_ld hG rfl rfl rfl rfl rfl (ltb rfl) ?_
  refine run_pu rfl (fieldAddr_step hG rfl rfl rfl rfl rfl) rfl (ltb rfl) ?_
  refine run_ld hG rfl rfl rfl rfl rfl (ltb rfl) ?_
  refine run_bin rfl rfl rfl rfl rfl rfl rfl (ltb rfl) ?_
  refine run_ops_nil ?_
  refine run_ifb rfl rfl (fun hb4 => ?_) (fun hb4 => ?_)
  ·replace hM := ite_t hb4 hM
   refine run_sr ?_
   refine mvR rfl rfl rfl rfl (ltb rfl) ?_
   refine run_ops_nil ?_
   refine run_ret_to ?_
   obtain rfl := some_t hM
   refine fin_x hG rfl rfl rfl (v' := .bool false) (by rfl) ⟨rfl, (show tk ≤ tk by omega), _, rfl, rfl⟩
  ·replace hM := ite_f hb4 hM
   refine run_skip ?_
   refine run_seq ?_
   refine run_sr ?_
   refine run_pu rfl (fieldAddr_step hG rfl rfl rfl rfl rfl) rfl (ltb rfl) ?_
   refine run_ld hG rfl rfl rfl rfl rfl (ltb rfl) ?_
   refine run_pu rfl (fieldAddr_step hG rfl rfl rfl rfl rfl) rfl (ltb rfl) ?_
   refine run_ld hG rfl rfl rfl rfl rfl (ltb rfl) ?_
   obtain ⟨r5, hg6, hM⟩ := bind_t hM
   refine run_call rfl rfl rfl (ltb rfl) rfl rfl rfl (fun _ h => absurd h List.not_mem_nil) (ih_w_eqFormS q1 f1 ks1 q2 f2 ks2 hg6 _ _) (callK_retX (fun v tk7 (hle8 : tk ≤ tk7) h9 => ?_))
   subst h9
   refine run_pu rfl (aun_step rfl rfl rfl) rfl (ltb rfl) ?_
   refine run_ops_nil ?_
   refine run_sub_code (σ' := ⟨[(4, .bool false), (20, .bool (!r5))], [], [], O, tk7⟩) (Sub.trans (Sub.drop (k := 3) rfl) (Sub.trans (Sub.drop (k := 2) rfl) (Sub.env _ ⟨rfl, rfl, trivial⟩))) ?_
   refine run_ifb rfl rfl (fun hb12 => ?_) (fun hb12 => ?_)
   ·replace hM := ite_t hb12 hM
    refine run_sr ?_
    refine mvR rfl rfl rfl rfl (ltb rfl) ?_
    refine run_ops_nil ?_
    refine run_ret_to ?_
    obtain rfl := some_t hM
    refine fin_x hG rfl rfl rfl (v' := .bool false) (by rfl) ⟨rfl, (show tk ≤ tk7 by omega), _, rfl, rfl⟩
   ·replace hM := ite_f hb12 hM
    refine run_skip ?_
    refine run_sr ?_
    refine mvR rfl rfl rfl rfl (ltb rfl) ?_
    refine run_ops_nil ?_
    refine run_ret_to ?_
    obtain rfl := some_t hM
    refine fin_x hG rfl rfl rfl (v' := .bool true) (by rfl) ⟨rfl, (show tk ≤ tk7 by omega), _, rfl, rfl⟩

set_option maxRecDepth 100000 in
theorem w_eqFormS_st (n : Nat) (ih_w_eqForm : ∀ (k1 : Int) (n1 : Int) (q1 : Nat) (f1 : Bool) (ks1 : List LF) (k2 : Int) (n2 : Int) (q2 : Nat) (f2 : Bool) (ks2 : List LF) {r : Bool}, w_eqForm n (F.mk k1 n1 (fers ks1)) (F.mk k2 n2 (fers ks2)) = some r → ∀ (O : Heap) (tk : Nat), ACalls Go.Proofs.Tryd.prog 25 [.agg [.int .i64 k1, .int .i64 n1, .imm q1 3 f1 (fcellss ks1)], .agg [.int .i64 k2, .int .i64 n2, .imm q2 3 f2 (fcellss ks2)]] O tk (RetX O tk (fun v tk' => v = .bool r))) : ∀ (q1 : Nat) (f1 : Bool) (ks1 : List LF) (q2 : Nat) (f2 : Bool) (ks2 : List LF) {r : Bool}, w_eqFormS (n + 1) (fers ks1) (fers ks2) = some r → ∀ (O : Heap) (tk : Nat), ACalls Go.Proofs.Tryd.prog 47 [.imm q1 3 f1 (fcellss ks1), .imm q2 3 f2 (fcellss ks2)] O tk (RetX O tk (fun v tk' => v = .bool r)) := by
 intro q1 f1 ks1 q2 f2 ks2 r hM O tk
 rw [w_eqFormS] at hM
 refine acalls_of_run Go.Proofs.Tryd.func47 rfl rfl [] [] (Bor.nil _) [(0, .imm q1 3 f1 (fcellss ks1)), (1, .imm q2 3 f2 (fcellss ks2))] (.cons (entS rfl) (.cons (entS rfl) (.nil _))) (leb rfl) (fun _ h => by cases h) (fun S0 hO htk hfz => ?_)
 refine run_sr ?_
 refine mvR rfl rfl rfl rfl (ltb rfl) ?_
 refine run_ops_nil ?_
 refine run_seq ?_
 refine run_sr ?_
 refine mvL rfl rfl rfl rfl (ltb rfl) ?_
 refine run_pu rfl (lenImm_step hG rfl rfl rfl rfl (flen _)) rfl (ltb rfl) ?_
 refine mvL rfl rfl rfl rfl (ltb rfl) ?_
 refine run_pu rfl (lenImm_step hG rfl rfl rfl rfl (flen _)) rfl (ltb rfl) ?_
 refine run_bin rfl rfl rfl rfl rfl rfl rfl (ltb rfl) ?_
 refine run_ops_nil ?_
 refine run_ifb rfl rfl (fun hb3 => ?_) (fun hb3 => ?_)
 ·replace hM := ite_t hb3 hM
  refine run_sr ?_
  refine mvR rfl rfl rfl rfl (ltb rfl) ?_
  refine run_ops_nil ?_
  refine run_ret_to ?_
  obtain rfl := some_t hM
  refine fin_x hG rfl rfl rfl (v' := .bool false) (by rfl) ⟨rfl, (show tk ≤ tk by omega), _, rfl, rfl⟩
 ·replace hM := ite_f hb3 hM
  refine run_skip ?_
  refine run_seq ?_
  refine run_sr ?_
  refine mvR rfl rfl rfl rfl (ltb rfl) ?_
  refine run_ops_nil ?_
  refine run_block ?_
  refine run_rounds (fun m σ => ∃ (i4 : Int) (tkw_eqFormS_L1 : Nat), tk ≤ tkw_eqFormS_L1 ∧ w_eqFormS_L1 (w_eqForm n) (fers ks1) (fers ks2) m i4 = some r ∧ σ = ⟨[(0, .imm q1 3 f1 (fcellss ks1)), (1, .imm q2 3 f2 (fcellss ks2)), (4, .bool false), (5, .int .i64 i4)], [], [], O, tkw_eqFormS_L1⟩) n (Sub.env [(0, .imm q1 3 f1 (fcellss ks1)), (1, .imm q2 3 f2 (fcellss ks2)), (4, .bool false), (5, .int .i64 0)] ⟨rfl, rfl, rfl, rfl, trivial⟩) ⟨0, tk, Nat.le_refl _, hM, rfl⟩ (fun m σ hI => ?_)
  clear hM
  obtain ⟨i4, tkw_eqFormS_L1, hle24, hM, rfl⟩ := hI
  obtain _ | m := m
  ·exact absurd hM (by rw [w_eqFormS_L1]; exact fun h => by cases h)
  rw [w_eqFormS_L1] at hM
  refine run_seq ?_
  refine run_sr ?_
  refine mvL rfl rfl rfl rfl (ltb rfl) ?_
  refine mvL rfl rfl rfl rfl (ltb rfl) ?_
  refine run_pu rfl (lenImm_step hG rfl rfl rfl rfl (flen _)) rfl (ltb rfl) ?_
  refine run_bin rfl rfl rfl rfl rfl rfl rfl (ltb rfl) ?_
  refine run_ops_nil ?_
  refine run_ifd rfl rfl (fun hb5 => ?_) (fun hb5 => ?_)
  ·replace hM := ite_t hb5 hM
   refine run_skip ?_
   refine run_seq ?_
   refine run_block ?_
   refine run_seq ?_
   refine run_draw [] (n := 10) mixed rfl (fun _ h => absurd h List.not_mem_nil) ?_
   refine AAny.take (i := 0) rfl (by kernel_rfl) (by kernel_rfl) (by kernel_rfl) rfl rfl (ltb rfl) ((move_step (.inl rfl) rfl).rd _) ?_
   refine AAny.take (i := 1) rfl (by kernel_rfl) (by kernel_rfl) (by kernel_rfl) rfl rfl (ltb rfl) ((move_step (.inl rfl) rfl).rd _) ?_
   obtain ⟨y6, hy7, hM⟩ := bind_t hM
   obtain ⟨k8, n8, q8, f8, ks8, rfl, hc9, hi10⟩ := fidx (ks := ks1) hy7
   refine AAny.take (i := 2) rfl (by kernel_rfl) (by kernel_rfl) (by kernel_rfl) rfl rfl (ltb rfl) ((indexImm_step hG rfl rfl rfl hi10 rfl rfl rfl rfl hc9).rd _) ?_
   refine AAny.take (i := 3) rfl (by kernel_rfl) (by kernel_rfl) (by kernel_rfl) rfl rfl (ltb rfl) (aload_rd hG rfl rfl rfl (by first | (simp [ldok]; done) | exact List.not_mem_nil | trivial)) ?_
   refine AAny.take (i := 4) rfl (by kernel_rfl) (by kernel_rfl) (by kernel_rfl) rfl rfl (ltb rfl) ((move_step (.inl rfl) rfl).rd _) ?_
   refine AAny.take (i := 5) rfl (by kernel_rfl) (by kernel_rfl) (by kernel_rfl) rfl rfl (ltb rfl) ((move_step (.inl rfl) rfl).rd _) ?_
   obtain ⟨y11, hy12, hM⟩ := bind_t hM
   obtain ⟨k13, n13, q13, f13, ks13, rfl, hc14, hi15⟩ := fidx (ks := ks2) hy12
   refine AAny.take (i := 6) rfl (by kernel_rfl) (by kernel_rfl) (by kernel_rfl) rfl rfl (ltb rfl) ((indexImm_step hG rfl rfl rfl hi15 rfl rfl rfl rfl hc14).rd _) ?_
   refine AAny.take (i := 7) rfl (by kernel_rfl) (by kernel_rfl) (by kernel_rfl) rfl rfl (ltb rfl) (aload_rd hG rfl rfl rfl (by first | (simp [ldok]; done) | exact List.not_mem_nil | trivial)) ?_
   obtain ⟨r16, hg17, hM⟩ := bind_t hM
   refine AAny.one (i := 8) (by kernel_rfl) (AOp.call rfl rfl rfl rfl (ltb rfl) rfl rfl rfl (fun _ h => absurd h List.not_mem_nil) (fun _ h => absurd h List.not_mem_nil) (ih_w_eqForm k8 n8 q8 f8 ks8 k13 n13 q13 f13 ks13 hg17 _ _) (callK_retX (fun v tk18 (hle19 : tkw_eqFormS_L1 ≤ tk18) h20 => ?_)))
   subst h20
   refine AAny.take (i := 9) rfl (by kernel_rfl) (by kernel_rfl) (by kernel_rfl) rfl rfl (ltb rfl) ((aun_step rfl rfl rfl).rd _) ?_
   refine AAny.done (by kernel_rfl) ?_
   refine run_sub_code (σ' := ⟨[(0, .imm q1 3 f1 (fcellss ks1)), (1, .imm q2 3 f2 (fcellss ks2)), (4, .bool false), (5, .int .i64 i4), (26, .bool (!r16))], [], [], O, tk18⟩) (Sub.env _ ⟨rfl, rfl, rfl, rfl, rfl, trivial⟩) ?_
   refine run_ifb rfl rfl (fun hb23 => ?_) (fun hb23 => ?_)
   ·replace hM := ite_t hb23 hM
    refine run_sr ?_
    refine mvR rfl rfl rfl rfl (ltb rfl) ?_
    refine run_ops_nil ?_
    refine run_ret_to ?_
    obtain rfl := some_t hM
    refine fin_x hG rfl rfl rfl (v' := .bool false) (by rfl) ⟨rfl, (show tk ≤ tk18 by omega), _, rfl, rfl⟩
   ·replace hM := ite_f hb23 hM
    refine run_skip ?_
    refine run_blk ?_
    refine run_region ?_
    refine mvL rfl rfl rfl rfl (ltb rfl) ?_
    refine run_bin rfl rfl rfl rfl rfl rfl rfl (ltb rfl) ?_
    refine mvR rfl rfl rfl rfl (ltb rfl) ?_
    refine run_ops_nil ?_
    exact run_loop_end ⟨m, _, Nat.lt_succ_self _, ⟨(IntKind.i64.wrap (i4 + 1)), tk18, (show tk ≤ tk18 by omega), hM, rfl⟩, Sub.env [(0, .imm q1 3 f1 (fcellss ks1)), (1, .imm q2 3 f2 (fcellss ks2)), (4, .bool false), (5, .int .i64 (IntKind.i64.wrap (i4 + 1)))] ⟨rfl, rfl, rfl, rfl, trivial⟩⟩
  ·replace hM := ite_f hb5 hM
   refine run_exit_to rfl ?_
   refine run_sr ?_
   refine mvR rfl rfl rfl rfl (ltb rfl) ?_
   refine run_ops_nil ?_
   refine run_ret_to ?_
   obtain rfl := some_t hM
   refine fin_x hG rfl rfl rfl (v' := .bool true) (by rfl) ⟨rfl, (show tk ≤ tkw_eqFormS_L1 by omega), _, rfl, rfl⟩

theorem w_eqForm_all : ∀ (n : Nat), (∀ (k1 : Int) (n1 : Int) (q1 : Nat) (f1 : Bool) (ks1 : List LF) (k2 : Int) (n2 : Int) (q2 : Nat) (f2 : Bool) (ks2 : List LF) {r : Bool}, w_eqForm n (F.mk k1 n1 (fers ks1)) (F.mk k2 n2 (fers ks2)) = some r → ∀ (O : Heap) (tk : Nat), ACalls Go.Proofs.Tryd.prog 25 [.agg [.int .i64 k1, .int .i64 n1, .imm q1 3 f1 (fcellss ks1)], .agg [.int .i64 k2, .int .i64 n2, .imm q2 3 f2 (fcellss ks2)]] O tk (RetX O tk (fun v tk' => v = .bool r))) ∧ (∀ (q1 : Nat) (f1 : Bool) (ks1 : List LF) (q2 : Nat) (f2 : Bool) (ks2 : List LF) {r : Bool}, w_eqFormS n (fers ks1) (fers ks2) = some r → ∀ (O : Heap) (tk : Nat), ACalls Go.Proofs.Tryd.prog 47 [.imm q1 3 f1 (fcellss ks1), .imm q2 3 f2 (fcellss ks2)] O tk (RetX O tk (fun v tk' => v = .bool r)))
 | 0 => ⟨(by intro k1 n1 q1 f1 ks1 k2 n2 q2 f2 ks2 r hM; rw [w_eqForm] at hM; cases hM), (by intro q1 f1 ks1 q2 f2 ks2 r hM; rw [w_eqFormS] at hM; cases hM)⟩
 | n + 1 => have ih := w_eqForm_all n; ⟨w_eqForm_st n (ih.2), w_eqFormS_st n (ih.1)⟩

theorem w_eqForm_ok (n : Nat) : ∀ (k1 : Int) (n1 : Int) (q1 : Nat) (f1 : Bool) (ks1 : List LF) (k2 : Int) (n2 : Int) (q2 : Nat) (f2 : Bool) (ks2 : List LF) {r : Bool}, w_eqForm n (F.mk k1 n1 (fers ks1)) (F.mk k2 n2 (fers ks2)) = some r → ∀ (O : Heap) (tk : Nat), ACalls Go.Proofs.Tryd.prog 25 [.agg [.int .i64 k1, .int .i64 n1, .imm q1 3 f1 (fcellss ks1)], .agg [.int .i64 k2, .int .i64 n2, .imm q2 3 f2 (fcellss ks2)]] O tk (RetX O tk (fun v tk' => v = .bool r)) := (w_eqForm_all n).1

theorem w_eqFormS_ok (n : Nat) : ∀ (q1 : Nat) (f1 : Bool) (ks1 : List LF) (q2 : Nat) (f2 : Bool) (ks2 : List LF) {r : Bool}, w_eqFormS n (fers ks1) (fers ks2) = some r → ∀ (O : Heap) (tk : Nat), ACalls Go.Proofs.Tryd.prog 47 [.imm q1 3 f1 (fcellss ks1), .imm q2 3 f2 (fcellss ks2)] O tk (RetX O tk (fun v tk' => v = .bool r)) := (w_eqForm_all n).2

def w_heldFormS_L1 (rec_w_heldFormS : List F → Int → Option Int) (l1 : List F) : Nat → Int → Int → Option Int
 | 0, _, _ => none
 | m + 1, i3, i4 =>
  if i4 < ((l1).length : Int) then
   (idx l1 i4).bind fun y6 =>
   if (y6.kind != i3) = true then
    some (-1)
   else
    (idx l1 i4).bind fun y12 =>
    if (y12.n != (IntKind.i64.wrap (i3 + 1))) = true then
     some (-1)
    else
     (idx l1 i4).bind fun y18 =>
     (rec_w_heldFormS y18.kids (IntKind.i64.wrap ((IntKind.i64.wrap (i3 + 1)) + 1))).bind fun r23 =>
     if r23 < 0 then
      some (-1)
     else
      w_heldFormS_L1 rec_w_heldFormS l1 m r23 (IntKind.i64.wrap (i4 + 1))
  else
   some i3

def w_heldFormS : Nat → List F → Int → Option Int
 | 0, _, _ => none
 | n + 1, l1, i2 =>
  w_heldFormS_L1 (w_heldFormS n) l1 n i2 0

set_option maxRecDepth 100000 in
theorem w_heldFormS_st (n : Nat) (ih_w_heldFormS : ∀ (q1 : Nat) (f1 : Bool) (ks1 : List LF) (i2 : Int) {r : Int}, w_heldFormS n (fers ks1) i2 = some r → ∀ (O : Heap) (tk : Nat), ACalls Go.Proofs.Tryd.prog 53 [.imm q1 3 f1 (fcellss ks1), .int .i64 i2] O tk (RetX O tk (fun v tk' => v = .int .i64 r))) : ∀ (q1 : Nat) (f1 : Bool) (ks1 : List LF) (i2 : Int) {r : Int}, w_heldFormS (n + 1) (fers ks1) i2 = some r → ∀ (O : Heap) (tk : Nat), ACalls Go.Proofs.Tryd.prog 53 [.imm q1 3 f1 (fcellss ks1), .int .i64 i2] O tk (RetX O tk (fun v tk' => v = .int .i64 r)) := by
 intro q1 f1 ks1 i2 r hM O tk
 rw [w_heldFormS] at hM
 refine acalls_of_run Go.Proofs.Tryd.func53 rfl rfl [] [] (Bor.nil _) [(0, .imm q1 3 f1 (fcellss ks1)), (1, .int .i64 i2)] (.cons (entS rfl) (.cons (entS rfl) (.nil _))) (leb rfl) (fun _ h => by cases h) (fun S0 hO htk hfz => ?_)
 refine run_sr ?_
 refine mvR rfl rfl rfl rfl (ltb rfl) ?_
 refine run_ops_nil ?_
 refine run_seq ?_
 refine run_sr ?_
 refine mvR rfl rfl rfl rfl (ltb rfl) ?_
 refine run_ops_nil ?_
 refine run_block ?_
 refine run_rounds (fun m σ => ∃ (i3 : Int) (i4 : Int) (tkw_heldFormS_L1 : Nat), tk ≤ tkw_heldFormS_L1 ∧ w_heldFormS_L1 (w_heldFormS n) (fers ks1) m i3 i4 = some r ∧ σ = ⟨[(0, .imm q1 3 f1 (fcellss ks1)), (1, .int .i64 i3), (4, .int .i64 0), (5, .int .i64 i4)], [], [], O, tkw_heldFormS_L1⟩) n (Sub.env [(0, .imm q1 3 f1 (fcellss ks1)), (1, .int .i64 i2), (4, .int .i64 0), (5, .int .i64 0)] ⟨rfl, rfl, rfl, rfl, trivial⟩) ⟨i2, 0, tk, Nat.le_refl _, hM, rfl⟩ (fun m σ hI => ?_)
 clear hM
 obtain ⟨i3, i4, tkw_heldFormS_L1, hle31, hM, rfl⟩ := hI
 obtain _ | m := m
 ·exact absurd hM (by rw [w_heldFormS_L1]; exact fun h => by cases h)
 rw [w_heldFormS_L1] at hM
 refine run_seq ?_
 refine run_sr ?_
 refine mvL rfl rfl rfl rfl (ltb rfl) ?_
 refine mvL rfl rfl rfl rfl (ltb rfl) ?_
 refine run_pu rfl (lenImm_step hG rfl rfl rfl rfl (flen _)) rfl (ltb rfl) ?_
 refine run_bin rfl rfl rfl rfl rfl rfl rfl (ltb rfl) ?_
 refine run_ops_nil ?_
 refine run_ifd rfl rfl (fun hb5 => ?_) (fun hb5 => ?_)
 ·replace hM := ite_t hb5 hM
  refine run_skip ?_
  refine run_seq ?_
  refine run_block ?_
  refine run_seq ?_
  refine run_sr ?_
  refine mvL rfl rfl rfl rfl (ltb rfl) ?_
  refine mvL rfl rfl rfl rfl (ltb rfl) ?_
  obtain ⟨y6, hy7, hM⟩ := bind_t hM
  obtain ⟨k8, n8, q8, f8, ks8, rfl, hc9, hi10⟩ := fidx (ks := ks1) hy7
  refine run_pu rfl (indexImm_step hG rfl rfl rfl hi10 rfl rfl rfl rfl hc9) rfl (ltb rfl) ?_
  refine run_pu rfl (fieldAddr_step hG rfl rfl rfl rfl rfl) rfl (ltb rfl) ?_
  refine run_ld hG rfl rfl rfl rfl rfl (ltb rfl) ?_
  refine mvL rfl rfl rfl rfl (ltb rfl) ?_
  refine run_bin rfl rfl rfl rfl rfl rfl rfl (ltb rfl) ?_
  refine run_ops_nil ?_
  refine run_ifb rfl rfl (fun hb11 => ?_) (fun hb11 => ?_)
  ·replace hM := ite_t hb11 hM
   refine run_sr ?_
   refine mvR rfl rfl rfl rfl (ltb rfl) ?_
   refine run_ops_nil ?_
   refine run_ret_to ?_
   obtain rfl := some_t hM
   refine fin_x hG rfl rfl rfl (v' := .int .i64 (-1)) (by rfl) ⟨rfl, (show tk ≤ tkw_heldFormS_L1 by omega), _, rfl, rfl⟩
  ·replace hM := ite_f hb11 hM
   refine run_skip ?_
   refine run_sr ?_
   refine mvL rfl rfl rfl rfl (ltb rfl) ?_
   refine run_bin rfl rfl rfl rfl rfl rfl rfl (ltb rfl) ?_
   refine mvR rfl rfl rfl rfl (ltb rfl) ?_
   refine run_ops_nil ?_
   refine run_sub_code (σ' := ⟨[(0, .imm q1 3 f1 (fcellss ks1)), (1, .int .i64 (IntKind.i64.wrap (i3 + 1))), (4, .int .i64 0), (5, .int .i64 i4)], [], [], O, tkw_heldFormS_L1⟩) (Sub.env _ ⟨rfl, rfl, rfl, rfl, trivial⟩) ?_
   refine run_seq ?_
   refine run_sr ?_
   refine mvL rfl rfl rfl rfl (ltb rfl) ?_
   refine mvL rfl rfl rfl rfl (ltb rfl) ?_
   obtain ⟨y12, hy13, hM⟩ := bind_t hM
   obtain ⟨k14, n14, q14, f14, ks14, rfl, hc15, hi16⟩ := fidx (ks := ks1) hy13
   refine run_pu rfl (indexImm_step hG rfl rfl rfl hi16 rfl rfl rfl rfl hc15) rfl (ltb rfl) ?_
   refine run_pu rfl (fieldAddr_step hG rfl rfl rfl rfl rfl) rfl (ltb rfl) ?_
   refine run_ld hG rfl rfl rfl rfl rfl (ltb rfl) ?_
   refine mvL rfl rfl rfl rfl (ltb rfl) ?_
   refine run_bin rfl rfl rfl rfl rfl rfl rfl (ltb rfl) ?_
   refine run_ops_nil ?_
   refine run_ifb rfl rfl (fun hb17 => ?_) (fun hb17 => ?_)
   ·replace hM := ite_t hb17 hM
    refine run_sr ?_
    refine mvR rfl rfl rfl rfl (ltb rfl) ?_
    refine run_ops_nil ?_
    refine run_ret_to ?_
    obtain rfl := some_t hM
    refine fin_x hG rfl rfl rfl (v' := .int .i64 (-1)) (by rfl) ⟨rfl, (show tk ≤ tkw_heldFormS_L1 by omega), _, rfl, rfl⟩
   ·replace hM := ite_f hb17 hM
    refine run_skip ?_
    refine run_sr ?_
    refine mvL rfl rfl rfl rfl (ltb rfl) ?_
    refine run_bin rfl rfl rfl rfl rfl rfl rfl (ltb rfl) ?_
    refine mvR rfl rfl rfl rfl (ltb rfl) ?_
    refine run_ops_nil ?_
    refine run_sr ?_
    refine mvL rfl rfl rfl rfl (ltb rfl) ?_
    refine mvL rfl rfl rfl rfl (ltb rfl) ?_
    obtain ⟨y18, hy19, hM⟩ := bind_t hM
    obtain ⟨k20, n20, q20, f20, ks20, rfl, hc21, hi22⟩ := fidx (ks := ks1) hy19
    refine run_pu rfl (indexImm_step hG rfl rfl rfl hi22 rfl rfl rfl rfl hc21) rfl (ltb rfl) ?_
    refine run_pu rfl (fieldAddr_step hG rfl rfl rfl rfl rfl) rfl (ltb rfl) ?_
    refine run_ld hG rfl rfl rfl rfl rfl (ltb rfl) ?_
    refine mvL rfl rfl rfl rfl (ltb rfl) ?_
    obtain ⟨r23, hg24, hM⟩ := bind_t hM
    refine run_call rfl rfl rfl (ltb rfl) rfl rfl rfl (fun _ h => absurd h List.not_mem_nil) (ih_w_heldFormS q20 f20 ks20 (IntKind.i64.wrap ((IntKind.i64.wrap (i3 + 1)) + 1)) hg24 _ _) (callK_retX (fun v tk25 (hle26 : tkw_heldFormS_L1 ≤ tk25) h27 => ?_))
    subst h27
    refine mvR rfl rfl rfl rfl (ltb rfl) ?_
    refine run_ops_nil ?_
    refine run_sub_code (σ' := ⟨[(0, .imm q1 3 f1 (fcellss ks1)), (1, .int .i64 r23), (4, .int .i64 0), (5, .int .i64 i4)], [], [], O, tk25⟩) (Sub.env _ ⟨rfl, rfl, rfl, rfl, trivial⟩) ?_
    refine run_sr ?_
    refine mvL rfl rfl rfl rfl (ltb rfl) ?_
    refine run_bin rfl rfl rfl rfl rfl rfl rfl (ltb rfl) ?_
    refine run_ops_nil ?_
    refine run_ifd rfl rfl (fun hb30 => ?_) (fun hb30 => ?_)
    ·replace hM := ite_t hb30 hM
     refine run_sr ?_
     refine mvR rfl rfl rfl rfl (ltb rfl) ?_
     refine run_ops_nil ?_
     refine run_ret_to ?_
     obtain rfl := some_t hM
     refine fin_x hG rfl rfl rfl (v' := .int .i64 (-1)) (by rfl) ⟨rfl, (show tk ≤ tk25 by omega), _, rfl, rfl⟩
    ·replace hM := ite_f hb30 hM
     refine run_skip ?_
     refine run_blk ?_
     refine run_region ?_
     refine mvL rfl rfl rfl rfl (ltb rfl) ?_
     refine run_bin rfl rfl rfl rfl rfl rfl rfl (ltb rfl) ?_
     refine mvR rfl rfl rfl rfl (ltb rfl) ?_
     refine run_ops_nil ?_
     exact run_loop_end ⟨m, _, Nat.lt_succ_self _, ⟨r23, (IntKind.i64.wrap (i4 + 1)), tk25, (show tk ≤ tk25 by omega), hM, rfl⟩, Sub.env [(0, .imm q1 3 f1 (fcellss ks1)), (1, .int .i64 r23), (4, .int .i64 0), (5, .int .i64 (IntKind.i64.wrap (i4 + 1)))] ⟨rfl, rfl, rfl, rfl, trivial⟩⟩
 ·replace hM := ite_f hb5 hM
  refine run_exit_to rfl ?_
  refine run_sr ?_
  refine mvL rfl rfl rfl rfl (ltb rfl) ?_
  refine mvR rfl rfl rfl rfl (ltb rfl) ?_
  refine run_ops_nil ?_
  refine run_ret_to ?_
  obtain rfl := some_t hM
  refine fin_x hG rfl rfl rfl (v' := .int .i64 i3) (by rfl) ⟨rfl, (show tk ≤ tkw_heldFormS_L1 by omega), _, rfl, rfl⟩

theorem w_heldFormS_all : ∀ (n : Nat), (∀ (q1 : Nat) (f1 : Bool) (ks1 : List LF) (i2 : Int) {r : Int}, w_heldFormS n (fers ks1) i2 = some r → ∀ (O : Heap) (tk : Nat), ACalls Go.Proofs.Tryd.prog 53 [.imm q1 3 f1 (fcellss ks1), .int .i64 i2] O tk (RetX O tk (fun v tk' => v = .int .i64 r)))
 | 0 => by intro q1 f1 ks1 i2 r hM; rw [w_heldFormS] at hM; cases hM
 | n + 1 => have ih := w_heldFormS_all n; w_heldFormS_st n (ih)

theorem w_heldFormS_ok (n : Nat) : ∀ (q1 : Nat) (f1 : Bool) (ks1 : List LF) (i2 : Int) {r : Int}, w_heldFormS n (fers ks1) i2 = some r → ∀ (O : Heap) (tk : Nat), ACalls Go.Proofs.Tryd.prog 53 [.imm q1 3 f1 (fcellss ks1), .int .i64 i2] O tk (RetX O tk (fun v tk' => v = .int .i64 r)) := w_heldFormS_all n

def w_heldForm (n : Nat) (x1 : F) (i2 : Int) : Option Int :=
 (w_heldFormS n x1.kids i2).bind fun r3 =>
 if r3 < 0 then
  some (-1)
 else
  some r3

set_option maxRecDepth 100000 in
theorem w_heldForm_ok (n : Nat) : ∀ (k1 : Int) (n1 : Int) (q1 : Nat) (f1 : Bool) (ks1 : List LF) (i2 : Int) {r : Int}, w_heldForm n (F.mk k1 n1 (fers ks1)) i2 = some r → ∀ (O : Heap) (tk : Nat), ACalls Go.Proofs.Tryd.prog 27 [.agg [.int .i64 k1, .int .i64 n1, .imm q1 3 f1 (fcellss ks1)], .int .i64 i2] O tk (RetX O tk (fun v tk' => v = .int .i64 r)) := by
 intro k1 n1 q1 f1 ks1 i2 r hM O tk
 unfold w_heldForm at hM
 refine acalls_of_run Go.Proofs.Tryd.func27 rfl rfl [] [] (Bor.nil _) [(0, .agg [.int .i64 k1, .int .i64 n1, .imm q1 3 f1 (fcellss ks1)]), (1, .int .i64 i2)] (.cons (.agg _) (.cons (entS rfl) (.nil _))) (leb rfl) (fun _ h => by cases h) (fun S0 hO htk hfz => ?_)
 refine run_sr ?_
 refine run_op rfl (box_step (d := 2) rfl rfl rfl rfl rfl) rfl (ltb rfl) ?_
 refine mvR rfl rfl rfl rfl (ltb rfl) ?_
 refine run_ops_nil ?_
 refine run_sr ?_
 refine run_pu rfl (fieldAddr_step hG rfl rfl rfl rfl rfl) rfl (ltb rfl) ?_
 refine run_ld hG rfl rfl rfl rfl rfl (ltb rfl) ?_
 refine mvL rfl rfl rfl rfl (ltb rfl) ?_
 obtain ⟨r3, hg4, hM⟩ := bind_t hM
 refine run_call rfl rfl rfl (ltb rfl) rfl rfl rfl (fun _ h => absurd h List.not_mem_nil) (w_heldFormS_ok n q1 f1 ks1 i2 hg4 _ _) (callK_retX (fun v tk5 (hle6 : tk ≤ tk5) h7 => ?_))
 subst h7
 refine mvR rfl rfl rfl rfl (ltb rfl) ?_
 refine run_ops_nil ?_
 refine run_seq ?_
 refine run_sr ?_
 refine mvL rfl rfl rfl rfl (ltb rfl) ?_
 refine run_bin rfl rfl rfl rfl rfl rfl rfl (ltb rfl) ?_
 refine run_ops_nil ?_
 refine run_ifd rfl rfl (fun hb10 => ?_) (fun hb10 => ?_)
 ·replace hM := ite_t hb10 hM
  refine run_sr ?_
  refine mvR rfl rfl rfl rfl (ltb rfl) ?_
  refine run_ops_nil ?_
  refine run_ret_to ?_
  obtain rfl := some_t hM
  refine fin_x hG rfl rfl rfl (v' := .int .i64 (-1)) (by rfl) ⟨rfl, (show tk ≤ tk5 by omega), _, rfl, rfl⟩
 ·replace hM := ite_f hb10 hM
  refine run_skip ?_
  refine run_sr ?_
  refine mvL rfl rfl rfl rfl (ltb rfl) ?_
  refine mvR rfl rfl rfl rfl (ltb rfl) ?_
  refine run_ops_nil ?_
  refine run_ret_to ?_
  obtain rfl := some_t hM
  refine fin_x hG rfl rfl rfl (v' := .int .i64 r3) (by rfl) ⟨rfl, (show tk ≤ tk5 by omega), _, rfl, rfl⟩

def w_FnExactDecodeForm (n : Nat) (x1 : T) : Option Bool :=
 (w_szTree n x1 1048576).bind fun r2 =>
 if r2 < 0 then
  some true
 else
  (w_toTree n x1).bind fun r10 =>
  (s_DecodeForm n r10).bind fun r17 =>
  (w_toTree n x1).bind fun r30 =>
  (i_DecodeForm n r30).bind fun r37 =>
  (w_eqForm n r37.1 r17.1).bind fun r50 =>
  if (!r50) = true then
   some false
  else
   if (r37.2 != r17.2) = true then
    some false
   else
    (w_toTree n x1).bind fun r59 =>
    (w_eqTree n r30 r59).bind fun r66 =>
    if (!r66) = true then
     some false
    else
     (w_markTree r30 1).bind fun r74 =>
     if r74.2 < 0 then
      some false
     else
      (w_eqForm n r37.1 r17.1).bind fun r84 =>
      if (!r84) = true then
       some false
      else
       if (r37.2 != r17.2) = true then
        some false
       else
        (w_markForm r37.1 1).bind fun r93 =>
        (w_heldForm n (F.mk r37.1.kind r37.1.n r93.1) 1).bind fun r102 =>
        if r102 < 0 then
         some false
        else
         if (r102 != r93.2) = true then
          some false
         else
          (w_toTree n x1).bind fun r111 =>
          (i_DecodeForm n r111).bind fun r118 =>
          (w_eqForm n r118.1 r17.1).bind fun r131 =>
          if (!r131) = true then
           some false
          else
           if (r118.2 != r17.2) = true then
            some false
           else
            (w_heldForm n (F.mk r37.1.kind r37.1.n r93.1) 1).bind fun r140 =>
            if r140 < 0 then
             some false
            else
             if (r140 != r93.2) = true then
              some false
             else
              some true

set_option maxHeartbeats 2000000 in
set_option maxRecDepth 100000 in
theorem w_FnExactDecodeForm_ok (n : Nat) : ∀ (k1 : Int) (n1 : Int) (s1 : ByteArray) (q1 : Nat) (f1 : Bool) (ks1 : List LT) {r : Bool}, w_FnExactDecodeForm n (T.mk k1 n1 s1 (ers ks1)) = some r → (∀ x ∈ tstoks q1 ks1, x = 0) → ∀ (O : Heap) (tk : Nat), O = (fun _ => none) → 2 ≤ tk → ACalls Go.Proofs.Tryd.prog 5 [.agg [.int .i64 k1, .int .i64 n1, .str s1, .imm q1 4 f1 (cellss ks1)]] O tk (RetX O tk (fun v tk' => v = .bool r)) := by
 intro k1 n1 s1 q1 f1 ks1 r hM ho0 O tk hOn h2tk
 unfold w_FnExactDecodeForm at hM
 refine acalls_of_run Go.Proofs.Tryd.func5 rfl rfl [] [] (Bor.nil _) [(0, .agg [.int .i64 k1, .int .i64 n1, .str s1, .imm q1 4 f1 (cellss ks1)])] (.cons (.agg _) (.nil _)) (leb rfl) (fun _ h => by cases h) (fun S0 hO htk hfz => ?_)
 refine run_sr ?_
 refine run_op rfl (box_step (d := 1) rfl rfl rfl rfl rfl) rfl (ltb rfl) ?_
 refine mvR rfl rfl rfl rfl (ltb rfl) ?_
 refine run_ops_nil ?_
 refine run_sr ?_
 refine mvR rfl rfl rfl rfl (ltb rfl) ?_
 refine run_ops_nil ?_
 refine run_sr ?_
 refine run_ld hG rfl rfl rfl rfl rfl (ltb rfl) ?_
 refine mvL rfl rfl rfl rfl (ltb rfl) ?_
 obtain ⟨r2, hg3, hM⟩ := bind_t hM
 refine run_call rfl rfl rfl (ltb rfl) rfl rfl rfl (fun _ h => absurd h List.not_mem_nil) (w_szTree_ok n k1 n1 s1 q1 f1 ks1 1048576 hg3 _ _) (callK_retX (fun v tk4 (hle5 : tk ≤ tk4) h6 => ?_))
 subst h6
 refine mvR rfl rfl rfl rfl (ltb rfl) ?_
 refine run_ops_nil ?_
 refine run_seq ?_
 refine run_sr ?_
 refine mvL rfl rfl rfl rfl (ltb rfl) ?_
 refine run_bin rfl rfl rfl rfl rfl rfl rfl (ltb rfl) ?_
 refine run_ops_nil ?_
 refine run_ifd rfl rfl (fun hb9 => ?_) (fun hb9 => ?_)
 ·replace hM := ite_t hb9 hM
  refine run_sr ?_
  refine mvR rfl rfl rfl rfl (ltb rfl) ?_
  refine run_ops_nil ?_
  refine run_ret_to ?_
  obtain rfl := some_t hM
  refine fin_x hG rfl rfl rfl (v' := .bool true) (by rfl) ⟨rfl, (show tk ≤ tk4 by omega), _, rfl, rfl⟩
 ·replace hM := ite_f hb9 hM
  refine run_skip ?_
  refine run_sr ?_
  refine run_ld hG rfl rfl rfl rfl rfl (ltb rfl) ?_
  obtain ⟨r10, hg11, hM⟩ := bind_t hM
  refine run_call rfl rfl rfl (ltb rfl) rfl rfl rfl (fun _ h => absurd h List.not_mem_nil) (w_toTree_ok n k1 n1 s1 q1 f1 ks1 hg11 _ _) (callK_retX (fun v tk12 (hle13 : tk4 ≤ tk12) h14 => ?_))
  obtain ⟨k15, n15, s15, q15, f15, ks15, rfl, rfl, hf16⟩ := h14
  obtain ⟨r17, hg18, hM⟩ := bind_t hM
  refine run_call rfl rfl rfl (ltb rfl) rfl rfl rfl (fun _ h => absurd h List.not_mem_nil) (s_DecodeForm_ok n k15 n15 s15 q15 f15 ks15 hg18 _ _) (callK_retX (fun v tk19 (hle20 : tk12 ≤ tk19) h21 => ?_))
  obtain ⟨ra26, ra27, va28, va29, rfl, rfl, ⟨k22, n22, q22, f22, ks22, rfl, rfl, hf23⟩, rfl⟩ := h21
  refine mvL rfl rfl rfl rfl (ltb rfl) ?_
  refine run_pu rfl (extract_step rfl rfl rfl) rfl (ltb rfl) ?_
  refine run_pu rfl (extract_step rfl rfl rfl) rfl (ltb rfl) ?_
  refine run_op rfl (alloc_step (d := 4) hG rfl rfl rfl) rfl (ltb rfl) ?_
  refine run_op0 rfl (store_step hG rfl rfl rfl rfl rfl rfl rfl rfl) rfl ?_
  refine mvR rfl rfl rfl rfl (ltb rfl) ?_
  refine run_ops_nil ?_
  refine run_sub_code (σ' := ⟨[(1, .optr (.loc 1) 0 0), (2, .bool false), (4, .optr (.loc 4) 0 0), (5, .int .i64 ra27)], [(4, ⟨50, 3, true, [[.int .i64 k22, .int .i64 n22, .imm q22 3 f22 (fcellss ks22)]]⟩), (1, ⟨24, 4, true, [[.int .i64 k1, .int .i64 n1, .str s1, .imm q1 4 f1 (cellss ks1)]]⟩)], [], O, tk19⟩) (Sub.env _ ⟨rfl, rfl, rfl, rfl, trivial⟩) ?_
  refine run_sr ?_
  refine run_ld hG rfl rfl rfl rfl rfl (ltb rfl) ?_
  obtain ⟨r30, hg31, hM⟩ := bind_t hM
  refine run_call rfl rfl rfl (ltb rfl) rfl rfl rfl (fun _ h => absurd h List.not_mem_nil) (w_toTree_ok n k1 n1 s1 q1 f1 ks1 hg31 _ _) (callK_retX (fun v tk32 (hle33 : tk19 ≤ tk32) h34 => ?_))
  obtain ⟨k35, n35, s35, q35, f35, ks35, rfl, rfl, hf36⟩ := h34
  refine run_op rfl (alloc_step (d := 6) hG rfl rfl rfl) rfl (ltb rfl) ?_
  refine run_op0 rfl (store_step hG rfl rfl rfl rfl rfl rfl rfl rfl) rfl ?_
  refine run_ops_nil ?_
  refine run_sr ?_
  refine run_ld hG rfl rfl rfl rfl rfl (ltb rfl) ?_
  obtain ⟨r37, hg38, hM⟩ := bind_t hM
  refine run_call rfl rfl rfl (ltb rfl) rfl rfl rfl (fun _ h => absurd h List.not_mem_nil) (i_DecodeForm_ok n k35 n35 s35 q35 f35 ks35 hg38 _ _) (callK_retX (fun v tk39 (hle40 : tk32 ≤ tk39) h41 => ?_))
  obtain ⟨ra46, ra47, va48, va49, rfl, rfl, ⟨k42, n42, q42, f42, ks42, rfl, rfl, hf43⟩, rfl⟩ := h41
  refine mvL rfl rfl rfl rfl (ltb rfl) ?_
  refine run_pu rfl (extract_step rfl rfl rfl) rfl (ltb rfl) ?_
  refine run_pu rfl (extract_step rfl rfl rfl) rfl (ltb rfl) ?_
  refine run_op rfl (alloc_step (d := 7) hG rfl rfl rfl) rfl (ltb rfl) ?_
  refine run_op0 rfl (store_step hG rfl rfl rfl rfl rfl rfl rfl rfl) rfl ?_
  refine mvR rfl rfl rfl rfl (ltb rfl) ?_
  refine run_ops_nil ?_
  refine run_seq ?_
  refine run_sr ?_
  refine run_ld hG rfl rfl rfl rfl rfl (ltb rfl) ?_
  refine run_ld hG rfl rfl rfl rfl rfl (ltb rfl) ?_
  obtain ⟨r50, hg51, hM⟩ := bind_t hM
  refine run_call rfl rfl rfl (ltb rfl) rfl rfl rfl (fun _ h => absurd h List.not_mem_nil) (w_eqForm_ok n k42 n42 q42 f42 ks42 k22 n22 q22 f22 ks22 hg51 _ _) (callK_retX (fun v tk52 (hle53 : tk39 ≤ tk52) h54 => ?_))
  subst h54
  refine run_pu rfl (aun_step rfl rfl rfl) rfl (ltb rfl) ?_
  refine mvL rfl rfl rfl rfl (ltb rfl) ?_
  refine run_splitb (i := 36) rfl (fun hb57 => ?_) (fun hb57 => ?_)
  ·replace hM := ite_t hb57 hM
   refine run_off (on_of rfl rfl rfl rfl) rfl (ltb rfl) ?_
   refine run_off (on_of rfl rfl rfl rfl) rfl (ltb rfl) ?_
   refine run_off (on_of rfl rfl rfl rfl) rfl (ltb rfl) ?_
   refine run_pu rfl (pick_step rfl rfl rfl) rfl (ltb rfl) ?_
   refine run_ops_nil ?_
   refine run_sub_code (σ' := ⟨[(1, .optr (.loc 1) 0 0), (2, .bool false), (4, .optr (.loc 4) 0 0), (5, .int .i64 ra27), (6, .optr (.loc 6) 0 0), (7, .optr (.loc 7) 0 0), (8, .int .i64 ra47), (40, .bool true)], [(7, ⟨50, 3, true, [[.int .i64 k42, .int .i64 n42, .imm q42 3 f42 (fcellss ks42)]]⟩), (6, ⟨34, 4, true, [[.int .i64 k35, .int .i64 n35, .str s35, .imm q35 4 f35 (cellss ks35)]]⟩), (4, ⟨50, 3, true, [[.int .i64 k22, .int .i64 n22, .imm q22 3 f22 (fcellss ks22)]]⟩), (1, ⟨24, 4, true, [[.int .i64 k1, .int .i64 n1, .str s1, .imm q1 4 f1 (cellss ks1)]]⟩)], [], O, tk52⟩) (Sub.env _ ⟨rfl, rfl, rfl, rfl, rfl, rfl, rfl, rfl, trivial⟩) ?_
   refine run_if rfl rfl (fun _ => ?_) (fun h => by cases h)
   refine run_sr ?_
   refine mvR rfl rfl rfl rfl (ltb rfl) ?_
   refine run_ops_nil ?_
   refine run_ret_to ?_
   obtain rfl := some_t hM
   refine fin_x hG rfl rfl rfl (v' := .bool false) (by rfl) ⟨rfl, (show tk ≤ tk52 by omega), _, rfl, rfl⟩
  ·replace hM := ite_f hb57 hM
   refine run_puG (on_of rfl rfl rfl rfl) (move_step (.inl rfl) rfl) rfl (ltb rfl) ?_
   refine run_puG (on_of rfl rfl rfl rfl) (move_step (.inl rfl) rfl) rfl (ltb rfl) ?_
   refine run_puG (on_of rfl rfl rfl rfl) (abin_step rfl rfl rfl rfl (fun _ h => by cases h)) rfl (ltb rfl) ?_
   refine run_pu rfl (pick_step rfl rfl rfl) rfl (ltb rfl) ?_
   refine run_ops_nil ?_
   refine run_sub_code (σ' := ⟨[(1, .optr (.loc 1) 0 0), (2, .bool false), (4, .optr (.loc 4) 0 0), (5, .int .i64 ra27), (6, .optr (.loc 6) 0 0), (7, .optr (.loc 7) 0 0), (8, .int .i64 ra47), (40, .bool (ra47 != ra27))], [(7, ⟨50, 3, true, [[.int .i64 k42, .int .i64 n42, .imm q42 3 f42 (fcellss ks42)]]⟩), (6, ⟨34, 4, true, [[.int .i64 k35, .int .i64 n35, .str s35, .imm q35 4 f35 (cellss ks35)]]⟩), (4, ⟨50, 3, true, [[.int .i64 k22, .int .i64 n22, .imm q22 3 f22 (fcellss ks22)]]⟩), (1, ⟨24, 4, true, [[.int .i64 k1, .int .i64 n1, .str s1, .imm q1 4 f1 (cellss ks1)]]⟩)], [], O, tk52⟩) (Sub.env _ ⟨rfl, rfl, rfl, rfl, rfl, rfl, rfl, rfl, trivial⟩) ?_
   refine run_ifb rfl rfl (fun hb58 => ?_) (fun hb58 => ?_)
   ·replace hM := ite_t hb58 hM
    refine run_sr ?_
    refine mvR rfl rfl rfl rfl (ltb rfl) ?_
    refine run_ops_nil ?_
    refine run_ret_to ?_
    obtain rfl := some_t hM
    refine fin_x hG rfl rfl rfl (v' := .bool false) (by rfl) ⟨rfl, (show tk ≤ tk52 by omega), _, rfl, rfl⟩
   ·replace hM := ite_f hb58 hM
    refine run_skip ?_
    refine run_seq ?_
    refine run_seq ?_
    refine run_draw [] (n := 5) mixed rfl (fun _ h => absurd h List.not_mem_nil) ?_
    refine AAny.take (i := 0) rfl (by kernel_rfl) (by kernel_rfl) (by kernel_rfl) rfl rfl (ltb rfl) (aload_rd hG rfl rfl rfl (by first | (simp [ldok]; done) | exact List.not_mem_nil | trivial)) ?_
    refine AAny.take (i := 1) rfl (by kernel_rfl) (by kernel_rfl) (by kernel_rfl) rfl rfl (ltb rfl) (aload_rd hG rfl rfl rfl (by first | (simp [ldok]; done) | exact List.not_mem_nil | trivial)) ?_
    obtain ⟨r59, hg60, hM⟩ := bind_t hM
    refine AAny.one (i := 2) (by kernel_rfl) (AOp.call rfl rfl rfl rfl (ltb rfl) rfl rfl rfl (fun _ h => absurd h List.not_mem_nil) (fun _ h => absurd h List.not_mem_nil) (w_toTree_ok n k1 n1 s1 q1 f1 ks1 hg60 _ _) (callK_retX (fun v tk61 (hle62 : tk52 ≤ tk61) h63 => ?_)))
    obtain ⟨k64, n64, s64, q64, f64, ks64, rfl, rfl, hf65⟩ := h63
    obtain ⟨r66, hg67, hM⟩ := bind_t hM
    refine AAny.one (i := 3) (by kernel_rfl) (AOp.call rfl rfl rfl rfl (ltb rfl) rfl rfl rfl (fun _ h => absurd h List.not_mem_nil) (fun _ h => absurd h List.not_mem_nil) (w_eqTree_ok n k35 n35 s35 q35 f35 ks35 k64 n64 s64 q64 f64 ks64 hg67 _ _) (callK_retX (fun v tk68 (hle69 : tk61 ≤ tk68) h70 => ?_)))
    subst h70
    refine AAny.take (i := 4) rfl (by kernel_rfl) (by kernel_rfl) (by kernel_rfl) rfl rfl (ltb rfl) ((aun_step rfl rfl rfl).rd _) ?_
    refine AAny.done (by kernel_rfl) ?_
    refine run_ifb rfl rfl (fun hb73 => ?_) (fun hb73 => ?_)
    ·replace hM := ite_t hb73 hM
     refine run_sr ?_
     refine mvR rfl rfl rfl rfl (ltb rfl) ?_
     refine run_ops_nil ?_
     refine run_ret_to ?_
     obtain rfl := some_t hM
     refine fin_x hG rfl rfl rfl (v' := .bool false) (by rfl) ⟨rfl, (show tk ≤ tk68 by omega), _, rfl, rfl⟩
    ·replace hM := ite_f hb73 hM
     refine run_skip ?_
     refine run_sr ?_
     refine mvR rfl rfl rfl rfl (ltb rfl) ?_
     refine run_ops_nil ?_
     refine run_sr ?_
     refine run_ld hG rfl rfl rfl rfl rfl (ltb rfl) ?_
     refine mvL rfl rfl rfl rfl (ltb rfl) ?_
     obtain ⟨r74, hg75, hM⟩ := bind_t hM
     refine run_callT rfl rfl rfl (ltb rfl) rfl rfl rfl rfl rfl hOn (fun x hx => by have := ((show Fr tk19 tk32 _ from (show Fr tk19 tk32 _ from hf36 rfl))).2 x hx; show S0.tk ≤ x; omega) (w_markTree_m k35 n35 s35 q35 f35 ks35 1 _ (Fr.ge (show Fr tk19 tk32 _ from (show Fr tk19 tk32 _ from hf36 rfl)) (by omega)) ((show Fr tk19 tk32 _ from (show Fr tk19 tk32 _ from hf36 rfl))).1 hg75) (fun out S' hR (hle77 : tk68 ≤ S'.tk) => ?_)
     obtain ⟨ks78, k79, rfl, rfl, _, hst80, hln81, hu82⟩ := hR
     generalize S'.tk = tk76 at hle77 ⊢
     refine ⟨_, rfl, rfl, GT q35 f35 ks35 ks78, GT.turned (Fr.ge (show Fr tk19 tk32 _ from (show Fr tk19 tk32 _ from hf36 rfl)) (by omega)) hst80 hln81 hu82, [(1, .optr (.loc 1) 0 0), (2, .bool false), (4, .optr (.loc 4) 0 0), (5, .int .i64 ra27), (6, .optr (.loc 6) 0 0), (7, .optr (.loc 7) 0 0), (8, .int .i64 ra47), (40, .bool (ra47 != ra27)), (41, .agg [.int .i64 k35, .int .i64 n35, .str s35, .imm q35 4 f35 (cellss ks78)]), (42, .agg [.int .i64 k1, .int .i64 n1, .str s1, .imm q1 4 f1 (cellss ks1)]), (43, .agg [.int .i64 k64, .int .i64 n64, .str s64, .imm q64 4 f64 (cellss ks64)]), (44, .bool r66), (45, .bool (!r66)), (9, .int .i64 1), (46, .agg [.int .i64 k35, .int .i64 n35, .str s35, .imm q35 4 f35 (cellss ks78)]), (47, .int .i64 1)], [(7, ⟨50, 3, true, [[.int .i64 k42, .int .i64 n42, .imm q42 3 f42 (fcellss ks42)]]⟩), (6, ⟨34, 4, true, [[.int .i64 k35, .int .i64 n35, .str s35, .imm q35 4 f35 (cellss ks78)]]⟩), (4, ⟨50, 3, true, [[.int .i64 k22, .int .i64 n22, .imm q22 3 f22 (fcellss ks22)]]⟩), (1, ⟨24, 4, true, [[.int .i64 k1, .int .i64 n1, .str s1, .imm q1 4 f1 (cellss ks1)]]⟩)], (.cons _ _ _ _ rfl (.optr _ _ _) (.cons _ _ _ _ rfl (Tn.av (.bool _)) (.cons _ _ _ _ rfl (.optr _ _ _) (.cons _ _ _ _ rfl (Tn.av (.int _ _)) (.cons _ _ _ _ rfl (.optr _ _ _) (.cons _ _ _ _ rfl (.optr _ _ _) (.cons _ _ _ _ rfl (Tn.av (.int _ _)) (.cons _ _ _ _ rfl (Tn.av (.bool _)) (.cons _ _ _ _ rfl (TnCs.agg (.cons _ _ _ _ (Tn.av (.int _ _)) (.cons _ _ _ _ (Tn.av (.int _ _)) (.cons _ _ _ _ (Tn.av (.str _)) (.cons _ _ _ _ (GT.tn hln81) .nil)))) rfl) (.cons _ _ _ _ rfl (TnCs.agg (.cons _ _ _ _ (Tn.av (.int _ _)) (.cons _ _ _ _ (Tn.av (.int _ _)) (.cons _ _ _ _ (Tn.av (.str _)) (.cons _ _ _ _ (Tn.av (ts_av (old_av ho0))) .nil)))) rfl) (.cons _ _ _ _ rfl (TnCs.agg (.cons _ _ _ _ (Tn.av (.int _ _)) (.cons _ _ _ _ (Tn.av (.int _ _)) (.cons _ _ _ _ (Tn.av (.str _)) (.cons _ _ _ _ (Tn.av (ts_av (fr_av (show Fr tk52 tk61 _ from (show Fr tk52 tk61 _ from hf65 rfl)) (show Fr tk19 tk32 _ from (show Fr tk19 tk32 _ from hf36 rfl)) (by omega) (by omega)))) .nil)))) rfl) (.cons _ _ _ _ rfl (Tn.av (.bool _)) (.cons _ _ _ _ rfl (Tn.av (.bool _)) (.cons _ _ _ _ rfl (Tn.av (.int _ _)) (.cons _ _ _ _ rfl (TnCs.agg (.cons _ _ _ _ (Tn.av (.int _ _)) (.cons _ _ _ _ (Tn.av (.int _ _)) (.cons _ _ _ _ (Tn.av (.str _)) (.cons _ _ _ _ (GT.tn hln81) .nil)))) rfl) (.cons _ _ _ _ rfl (Tn.av (.int _ _)) .nil)))))))))))))))), (.cons _ _ _ _ _ (TnCs.box (.cons _ _ _ _ (Tn.av (.int _ _)) (.cons _ _ _ _ (Tn.av (.int _ _)) (.cons _ _ _ _ (Tn.av (fs_av (fr_av (show Fr tk32 tk39 _ from (show Fr tk32 tk39 _ from hf43 rfl)) (show Fr tk19 tk32 _ from (show Fr tk19 tk32 _ from hf36 rfl)) (by omega) (by omega)))) .nil))) rfl) (.cons _ _ _ _ _ (TnCs.box (.cons _ _ _ _ (Tn.av (.int _ _)) (.cons _ _ _ _ (Tn.av (.int _ _)) (.cons _ _ _ _ (Tn.av (.str _)) (.cons _ _ _ _ (GT.tn hln81) .nil)))) rfl) (.cons _ _ _ _ _ (TnCs.box (.cons _ _ _ _ (Tn.av (.int _ _)) (.cons _ _ _ _ (Tn.av (.int _ _)) (.cons _ _ _ _ (Tn.av (fs_av (fr_av (show Fr tk12 tk19 _ from (show Fr tk12 tk19 _ from hf23 rfl)) (show Fr tk19 tk32 _ from (show Fr tk19 tk32 _ from hf36 rfl)) (by omega) (by omega)))) .nil))) rfl) (.cons _ _ _ _ _ (TnCs.box (.cons _ _ _ _ (Tn.av (.int _ _)) (.cons _ _ _ _ (Tn.av (.int _ _)) (.cons _ _ _ _ (Tn.av (.str _)) (.cons _ _ _ _ (Tn.av (ts_av (old_av ho0))) .nil)))) rfl) .nil)))), ?_⟩
     refine mvR rfl rfl rfl rfl (ltb rfl) ?_
     refine run_ops_nil ?_
     refine run_seq ?_
     refine run_sr ?_
     refine mvL rfl rfl rfl rfl (ltb rfl) ?_
     refine run_bin rfl rfl rfl rfl rfl rfl rfl (ltb rfl) ?_
     refine mvL rfl rfl rfl rfl (ltb rfl) ?_
     refine run_splitd (i := 51) rfl (fun hb83 => ?_) (fun hb83 => ?_)
     ·replace hM := ite_t hb83 hM
      refine run_off (on_of rfl rfl rfl rfl) rfl (ltb rfl) ?_
      refine run_off (on_of rfl rfl rfl rfl) rfl (ltb rfl) ?_
      refine run_off (on_of rfl rfl rfl rfl) rfl (ltb rfl) ?_
      refine run_off (on_of rfl rfl rfl rfl) rfl (ltb rfl) ?_
      refine run_pu rfl (pick_step rfl rfl rfl) rfl (ltb rfl) ?_
      refine mvL rfl rfl rfl rfl (ltb rfl) ?_
      refine run_off (on_of rfl rfl rfl rfl) rfl (ltb rfl) ?_
      refine run_off (on_of rfl rfl rfl rfl) rfl (ltb rfl) ?_
      refine run_off (on_of rfl rfl rfl rfl) rfl (ltb rfl) ?_
      refine run_pu rfl (pick_step rfl rfl rfl) rfl (ltb rfl) ?_
      refine run_ops_nil ?_
      refine run_sub_code (σ' := ⟨[(1, .optr (.loc 1) 0 0), (2, .bool false), (4, .optr (.loc 4) 0 0), (5, .int .i64 ra27), (7, .optr (.loc 7) 0 0), (61, .bool true)], [(7, ⟨50, 3, true, [[.int .i64 k42, .int .i64 n42, .imm q42 3 f42 (fcellss ks42)]]⟩), (4, ⟨50, 3, true, [[.int .i64 k22, .int .i64 n22, .imm q22 3 f22 (fcellss ks22)]]⟩), (1, ⟨24, 4, true, [[.int .i64 k1, .int .i64 n1, .str s1, .imm q1 4 f1 (cellss ks1)]]⟩)], [], O, tk76⟩) (Sub.trans (Sub.drop (k := 6) rfl) (Sub.env _ ⟨rfl, rfl, rfl, rfl, rfl, rfl, trivial⟩)) ?_
      refine run_if rfl rfl (fun _ => ?_) (fun h => by cases h)
      refine run_sr ?_
      refine mvR rfl rfl rfl rfl (ltb rfl) ?_
      refine run_ops_nil ?_
      refine run_ret_to ?_
      obtain rfl := some_t hM
      refine fin_x hG rfl rfl rfl (v' := .bool false) (by rfl) ⟨rfl, (show tk ≤ tk76 by omega), _, rfl, rfl⟩
     ·replace hM := ite_f hb83 hM
      refine run_rdG (on_of rfl rfl rfl rfl) (aload_rd hG rfl rfl rfl (by first | (simp [ldok]; done) | exact List.not_mem_nil | trivial)) rfl (ltb rfl) ?_
      refine run_rdG (on_of rfl rfl rfl rfl) (aload_rd hG rfl rfl rfl (by first | (simp [ldok]; done) | exact List.not_mem_nil | trivial)) rfl (ltb rfl) ?_
      obtain ⟨r84, hg85, hM⟩ := bind_t hM
      refine run_callG (on_of rfl rfl rfl rfl) rfl rfl (ltb rfl) rfl rfl rfl (fun _ h => absurd h List.not_mem_nil) (w_eqForm_ok n k42 n42 q42 f42 ks42 k22 n22 q22 f22 ks22 hg85 _ _) (callK_retX (fun v tk86 (hle87 : tk76 ≤ tk86) h88 => ?_))
      subst h88
      refine run_puG (on_of rfl rfl rfl rfl) (aun_step rfl rfl rfl) rfl (ltb rfl) ?_
      refine run_pu rfl (pick_step rfl rfl rfl) rfl (ltb rfl) ?_
      refine mvL rfl rfl rfl rfl (ltb rfl) ?_
      refine run_splitb (i := 57) rfl (fun hb91 => ?_) (fun hb91 => ?_)
      ·replace hM := ite_t hb91 hM
       refine run_off (on_of rfl rfl rfl rfl) rfl (ltb rfl) ?_
       refine run_off (on_of rfl rfl rfl rfl) rfl (ltb rfl) ?_
       refine run_off (on_of rfl rfl rfl rfl) rfl (ltb rfl) ?_
       refine run_pu rfl (pick_step rfl rfl rfl) rfl (ltb rfl) ?_
       refine run_ops_nil ?_
       refine run_sub_code (σ' := ⟨[(1, .optr (.loc 1) 0 0), (2, .bool false), (4, .optr (.loc 4) 0 0), (5, .int .i64 ra27), (7, .optr (.loc 7) 0 0), (61, .bool true)], [(7, ⟨50, 3, true, [[.int .i64 k42, .int .i64 n42, .imm q42 3 f42 (fcellss ks42)]]⟩), (4, ⟨50, 3, true, [[.int .i64 k22, .int .i64 n22, .imm q22 3 f22 (fcellss ks22)]]⟩), (1, ⟨24, 4, true, [[.int .i64 k1, .int .i64 n1, .str s1, .imm q1 4 f1 (cellss ks1)]]⟩)], [], O, tk86⟩) (Sub.trans (Sub.drop (k := 6) rfl) (Sub.env _ ⟨rfl, rfl, rfl, rfl, rfl, rfl, trivial⟩)) ?_
       refine run_if rfl rfl (fun _ => ?_) (fun h => by cases h)
       refine run_sr ?_
       refine mvR rfl rfl rfl rfl (ltb rfl) ?_
       refine run_ops_nil ?_
       refine run_ret_to ?_
       obtain rfl := some_t hM
       refine fin_x hG rfl rfl rfl (v' := .bool false) (by rfl) ⟨rfl, (show tk ≤ tk86 by omega), _, rfl, rfl⟩
      ·replace hM := ite_f hb91 hM
       refine run_puG (on_of rfl rfl rfl rfl) (move_step (.inl rfl) rfl) rfl (ltb rfl) ?_
       refine run_puG (on_of rfl rfl rfl rfl) (move_step (.inl rfl) rfl) rfl (ltb rfl) ?_
       refine run_puG (on_of rfl rfl rfl rfl) (abin_step rfl rfl rfl rfl (fun _ h => by cases h)) rfl (ltb rfl) ?_
       refine run_pu rfl (pick_step rfl rfl rfl) rfl (ltb rfl) ?_
       refine run_ops_nil ?_
       refine run_sub_code (σ' := ⟨[(1, .optr (.loc 1) 0 0), (2, .bool false), (4, .optr (.loc 4) 0 0), (5, .int .i64 ra27), (7, .optr (.loc 7) 0 0), (61, .bool (ra47 != ra27))], [(7, ⟨50, 3, true, [[.int .i64 k42, .int .i64 n42, .imm q42 3 f42 (fcellss ks42)]]⟩), (4, ⟨50, 3, true, [[.int .i64 k22, .int .i64 n22, .imm q22 3 f22 (fcellss ks22)]]⟩), (1, ⟨24, 4, true, [[.int .i64 k1, .int .i64 n1, .str s1, .imm q1 4 f1 (cellss ks1)]]⟩)], [], O, tk86⟩) (Sub.trans (Sub.drop (k := 6) rfl) (Sub.env _ ⟨rfl, rfl, rfl, rfl, rfl, rfl, trivial⟩)) ?_
       refine run_ifb rfl rfl (fun hb92 => ?_) (fun hb92 => ?_)
       ·replace hM := ite_t hb92 hM
        refine run_sr ?_
        refine mvR rfl rfl rfl rfl (ltb rfl) ?_
        refine run_ops_nil ?_
        refine run_ret_to ?_
        obtain rfl := some_t hM
        refine fin_x hG rfl rfl rfl (v' := .bool false) (by rfl) ⟨rfl, (show tk ≤ tk86 by omega), _, rfl, rfl⟩
       ·replace hM := ite_f hb92 hM
        refine run_skip ?_
        refine run_sr ?_
        refine mvR rfl rfl rfl rfl (ltb rfl) ?_
        refine run_ops_nil ?_
        refine run_sr ?_
        refine run_ld hG rfl rfl rfl rfl rfl (ltb rfl) ?_
        refine mvL rfl rfl rfl rfl (ltb rfl) ?_
        obtain ⟨r93, hg94, hM⟩ := bind_t hM
        refine run_callT rfl rfl rfl (ltb rfl) rfl rfl rfl rfl rfl hOn (fun x hx => by have := ((show Fr tk32 tk39 _ from (show Fr tk32 tk39 _ from hf43 rfl))).2 x hx; show S0.tk ≤ x; omega) (w_markForm_m k42 n42 q42 f42 ks42 1 _ (Fr.ge (show Fr tk32 tk39 _ from (show Fr tk32 tk39 _ from hf43 rfl)) (by omega)) ((show Fr tk32 tk39 _ from (show Fr tk32 tk39 _ from hf43 rfl))).1 hg94) (fun out S' hR (hle96 : tk86 ≤ S'.tk) => ?_)
        obtain ⟨ks97, k98, rfl, rfl, _, hst99, hln100, hu101⟩ := hR
        generalize S'.tk = tk95 at hle96 ⊢
        refine ⟨_, rfl, rfl, GF q42 f42 ks42 ks97, GF.turned (Fr.ge (show Fr tk32 tk39 _ from (show Fr tk32 tk39 _ from hf43 rfl)) (by omega)) hst99 hln100 hu101, [(1, .optr (.loc 1) 0 0), (2, .bool false), (4, .optr (.loc 4) 0 0), (5, .int .i64 ra27), (7, .optr (.loc 7) 0 0), (61, .bool (ra47 != ra27)), (10, .int .i64 1), (62, .agg [.int .i64 k42, .int .i64 n42, .imm q42 3 f42 (fcellss ks97)]), (63, .int .i64 1)], [(7, ⟨50, 3, true, [[.int .i64 k42, .int .i64 n42, .imm q42 3 f42 (fcellss ks97)]]⟩), (4, ⟨50, 3, true, [[.int .i64 k22, .int .i64 n22, .imm q22 3 f22 (fcellss ks22)]]⟩), (1, ⟨24, 4, true, [[.int .i64 k1, .int .i64 n1, .str s1, .imm q1 4 f1 (cellss ks1)]]⟩)], (.cons _ _ _ _ rfl (.optr _ _ _) (.cons _ _ _ _ rfl (Tn.av (.bool _)) (.cons _ _ _ _ rfl (.optr _ _ _) (.cons _ _ _ _ rfl (Tn.av (.int _ _)) (.cons _ _ _ _ rfl (.optr _ _ _) (.cons _ _ _ _ rfl (Tn.av (.bool _)) (.cons _ _ _ _ rfl (Tn.av (.int _ _)) (.cons _ _ _ _ rfl (TnCs.agg (.cons _ _ _ _ (Tn.av (.int _ _)) (.cons _ _ _ _ (Tn.av (.int _ _)) (.cons _ _ _ _ (GF.tn hln100) .nil))) rfl) (.cons _ _ _ _ rfl (Tn.av (.int _ _)) .nil))))))))), (.cons _ _ _ _ _ (TnCs.box (.cons _ _ _ _ (Tn.av (.int _ _)) (.cons _ _ _ _ (Tn.av (.int _ _)) (.cons _ _ _ _ (GF.tn hln100) .nil))) rfl) (.cons _ _ _ _ _ (TnCs.box (.cons _ _ _ _ (Tn.av (.int _ _)) (.cons _ _ _ _ (Tn.av (.int _ _)) (.cons _ _ _ _ (Tn.av (fs_av (fr_av (show Fr tk12 tk19 _ from (show Fr tk12 tk19 _ from hf23 rfl)) (show Fr tk32 tk39 _ from (show Fr tk32 tk39 _ from hf43 rfl)) (by omega) (by omega)))) .nil))) rfl) (.cons _ _ _ _ _ (TnCs.box (.cons _ _ _ _ (Tn.av (.int _ _)) (.cons _ _ _ _ (Tn.av (.int _ _)) (.cons _ _ _ _ (Tn.av (.str _)) (.cons _ _ _ _ (Tn.av (ts_av (old_av ho0))) .nil)))) rfl) .nil))), ?_⟩
        refine mvR rfl rfl rfl rfl (ltb rfl) ?_
        refine run_ops_nil ?_
        refine run_sr ?_
        refine mvR rfl rfl rfl rfl (ltb rfl) ?_
        refine run_ops_nil ?_
        refine run_sr ?_
        refine run_ld hG rfl rfl rfl rfl rfl (ltb rfl) ?_
        refine mvL rfl rfl rfl rfl (ltb rfl) ?_
        obtain ⟨r102, hg103, hM⟩ := bind_t hM
        refine run_call rfl rfl rfl (ltb rfl) rfl rfl rfl (fun _ h => absurd h List.not_mem_nil) (w_heldForm_ok n k42 n42 q42 f42 ks97 1 hg103 _ _) (callK_retX (fun v tk104 (hle105 : tk95 ≤ tk104) h106 => ?_))
        subst h106
        refine mvR rfl rfl rfl rfl (ltb rfl) ?_
        refine run_ops_nil ?_
        refine run_seq ?_
        refine run_sr ?_
        refine mvL rfl rfl rfl rfl (ltb rfl) ?_
        refine run_bin rfl rfl rfl rfl rfl rfl rfl (ltb rfl) ?_
        refine run_ops_nil ?_
        refine run_ifd rfl rfl (fun hb109 => ?_) (fun hb109 => ?_)
        ·replace hM := ite_t hb109 hM
         refine run_sr ?_
         refine mvR rfl rfl rfl rfl (ltb rfl) ?_
         refine run_ops_nil ?_
         refine run_ret_to ?_
         obtain rfl := some_t hM
         refine fin_x hG rfl rfl rfl (v' := .bool false) (by rfl) ⟨rfl, (show tk ≤ tk104 by omega), _, rfl, rfl⟩
        ·replace hM := ite_f hb109 hM
         refine run_skip ?_
         refine run_seq ?_
         refine run_sr ?_
         refine mvL rfl rfl rfl rfl (ltb rfl) ?_
         refine mvL rfl rfl rfl rfl (ltb rfl) ?_
         refine run_bin rfl rfl rfl rfl rfl rfl rfl (ltb rfl) ?_
         refine run_ops_nil ?_
         refine run_sub_code (σ' := ⟨[(1, .optr (.loc 1) 0 0), (2, .bool false), (4, .optr (.loc 4) 0 0), (5, .int .i64 ra27), (7, .optr (.loc 7) 0 0), (10, .int .i64 k98), (11, .int .i64 r102), (72, .bool (r102 != k98))], [(7, ⟨50, 3, true, [[.int .i64 k42, .int .i64 n42, .imm q42 3 f42 (fcellss ks97)]]⟩), (4, ⟨50, 3, true, [[.int .i64 k22, .int .i64 n22, .imm q22 3 f22 (fcellss ks22)]]⟩), (1, ⟨24, 4, true, [[.int .i64 k1, .int .i64 n1, .str s1, .imm q1 4 f1 (cellss ks1)]]⟩)], [], O, tk104⟩) (Sub.env _ ⟨rfl, rfl, rfl, rfl, rfl, rfl, rfl, rfl, trivial⟩) ?_
         refine run_ifb rfl rfl (fun hb110 => ?_) (fun hb110 => ?_)
         ·replace hM := ite_t hb110 hM
          refine run_sr ?_
          refine mvR rfl rfl rfl rfl (ltb rfl) ?_
          refine run_ops_nil ?_
          refine run_ret_to ?_
          obtain rfl := some_t hM
          refine fin_x hG rfl rfl rfl (v' := .bool false) (by rfl) ⟨rfl, (show tk ≤ tk104 by omega), _, rfl, rfl⟩
         ·replace hM := ite_f hb110 hM
          refine run_skip ?_
          refine run_sr ?_
          refine run_ld hG rfl rfl rfl rfl rfl (ltb rfl) ?_
          obtain ⟨r111, hg112, hM⟩ := bind_t hM
          refine run_call rfl rfl rfl (ltb rfl) rfl rfl rfl (fun _ h => absurd h List.not_mem_nil) (w_toTree_ok n k1 n1 s1 q1 f1 ks1 hg112 _ _) (callK_retX (fun v tk113 (hle114 : tk104 ≤ tk113) h115 => ?_))
          obtain ⟨k116, n116, s116, q116, f116, ks116, rfl, rfl, hf117⟩ := h115
          obtain ⟨r118, hg119, hM⟩ := bind_t hM
          refine run_call rfl rfl rfl (ltb rfl) rfl rfl rfl (fun _ h => absurd h List.not_mem_nil) (i_DecodeForm_ok n k116 n116 s116 q116 f116 ks116 hg119 _ _) (callK_retX (fun v tk120 (hle121 : tk113 ≤ tk120) h122 => ?_))
          obtain ⟨ra127, ra128, va129, va130, rfl, rfl, ⟨k123, n123, q123, f123, ks123, rfl, rfl, hf124⟩, rfl⟩ := h122
          refine mvL rfl rfl rfl rfl (ltb rfl) ?_
          refine run_pu rfl (extract_step rfl rfl rfl) rfl (ltb rfl) ?_
          refine run_pu rfl (extract_step rfl rfl rfl) rfl (ltb rfl) ?_
          refine run_op rfl (alloc_step (d := 12) hG rfl rfl rfl) rfl (ltb rfl) ?_
          refine run_op0 rfl (store_step hG rfl rfl rfl rfl rfl rfl rfl rfl) rfl ?_
          refine mvR rfl rfl rfl rfl (ltb rfl) ?_
          refine run_ops_nil ?_
          refine run_seq ?_
          refine run_sr ?_
          refine run_ld hG rfl rfl rfl rfl rfl (ltb rfl) ?_
          refine run_ld hG rfl rfl rfl rfl rfl (ltb rfl) ?_
          obtain ⟨r131, hg132, hM⟩ := bind_t hM
          refine run_call rfl rfl rfl (ltb rfl) rfl rfl rfl (fun _ h => absurd h List.not_mem_nil) (w_eqForm_ok n k123 n123 q123 f123 ks123 k22 n22 q22 f22 ks22 hg132 _ _) (callK_retX (fun v tk133 (hle134 : tk120 ≤ tk133) h135 => ?_))
          subst h135
          refine run_pu rfl (aun_step rfl rfl rfl) rfl (ltb rfl) ?_
          refine mvL rfl rfl rfl rfl (ltb rfl) ?_
          refine run_splitb (i := 83) rfl (fun hb138 => ?_) (fun hb138 => ?_)
          ·replace hM := ite_t hb138 hM
           refine run_off (on_of rfl rfl rfl rfl) rfl (ltb rfl) ?_
           refine run_off (on_of rfl rfl rfl rfl) rfl (ltb rfl) ?_
           refine run_off (on_of rfl rfl rfl rfl) rfl (ltb rfl) ?_
           refine run_pu rfl (pick_step rfl rfl rfl) rfl (ltb rfl) ?_
           refine run_ops_nil ?_
           refine run_sub_code (σ' := ⟨[(2, .bool false), (7, .optr (.loc 7) 0 0), (10, .int .i64 k98), (11, .int .i64 r102), (87, .bool true)], [(7, ⟨50, 3, true, [[.int .i64 k42, .int .i64 n42, .imm q42 3 f42 (fcellss ks97)]]⟩)], [], O, tk133⟩) (Sub.trans (Sub.drop (k := 12) rfl) (Sub.trans (Sub.drop (k := 4) rfl) (Sub.trans (Sub.drop (k := 1) rfl) (Sub.env _ ⟨rfl, rfl, rfl, rfl, rfl, trivial⟩)))) ?_
           refine run_if rfl rfl (fun _ => ?_) (fun h => by cases h)
           refine run_sr ?_
           refine mvR rfl rfl rfl rfl (ltb rfl) ?_
           refine run_ops_nil ?_
           refine run_ret_to ?_
           obtain rfl := some_t hM
           refine fin_x hG rfl rfl rfl (v' := .bool false) (by rfl) ⟨rfl, (show tk ≤ tk133 by omega), _, rfl, rfl⟩
          ·replace hM := ite_f hb138 hM
           refine run_puG (on_of rfl rfl rfl rfl) (move_step (.inl rfl) rfl) rfl (ltb rfl) ?_
           refine run_puG (on_of rfl rfl rfl rfl) (move_step (.inl rfl) rfl) rfl (ltb rfl) ?_
           refine run_puG (on_of rfl rfl rfl rfl) (abin_step rfl rfl rfl rfl (fun _ h => by cases h)) rfl (ltb rfl) ?_
           refine run_pu rfl (pick_step rfl rfl rfl) rfl (ltb rfl) ?_
           refine run_ops_nil ?_
           refine run_sub_code (σ' := ⟨[(2, .bool false), (7, .optr (.loc 7) 0 0), (10, .int .i64 k98), (11, .int .i64 r102), (87, .bool (ra128 != ra27))], [(7, ⟨50, 3, true, [[.int .i64 k42, .int .i64 n42, .imm q42 3 f42 (fcellss ks97)]]⟩)], [], O, tk133⟩) (Sub.trans (Sub.drop (k := 12) rfl) (Sub.trans (Sub.drop (k := 4) rfl) (Sub.trans (Sub.drop (k := 1) rfl) (Sub.env _ ⟨rfl, rfl, rfl, rfl, rfl, trivial⟩)))) ?_
           refine run_ifb rfl rfl (fun hb139 => ?_) (fun hb139 => ?_)
           ·replace hM := ite_t hb139 hM
            refine run_sr ?_
            refine mvR rfl rfl rfl rfl (ltb rfl) ?_
            refine run_ops_nil ?_
            refine run_ret_to ?_
            obtain rfl := some_t hM
            refine fin_x hG rfl rfl rfl (v' := .bool false) (by rfl) ⟨rfl, (show tk ≤ tk133 by omega), _, rfl, rfl⟩
           ·replace hM := ite_f hb139 hM
            refine run_skip ?_
            refine run_sr ?_
            refine mvR rfl rfl rfl rfl (ltb rfl) ?_
            refine run_ops_nil ?_
            refine run_sr ?_
            refine run_ld hG rfl rfl rfl rfl rfl (ltb rfl) ?_
            refine mvL rfl rfl rfl rfl (ltb rfl) ?_
            obtain ⟨r140, hg141, hM⟩ := bind_t hM
            refine run_call rfl rfl rfl (ltb rfl) rfl rfl rfl (fun _ h => absurd h List.not_mem_nil) (w_heldForm_ok n k42 n42 q42 f42 ks97 1 hg141 _ _) (callK_retX (fun v tk142 (hle143 : tk133 ≤ tk142) h144 => ?_))
            subst h144
            refine mvR rfl rfl rfl rfl (ltb rfl) ?_
            refine run_ops_nil ?_
            refine run_seq ?_
            refine run_sr ?_
            refine mvL rfl rfl rfl rfl (ltb rfl) ?_
            refine run_bin rfl rfl rfl rfl rfl rfl rfl (ltb rfl) ?_
            refine run_ops_nil ?_
            refine run_ifd rfl rfl (fun hb147 => ?_) (fun hb147 => ?_)
            ·replace hM := ite_t hb147 hM
             refine run_sr ?_
             refine mvR rfl rfl rfl rfl (ltb rfl) ?_
             refine run_ops_nil ?_
             refine run_ret_to ?_
             obtain rfl := some_t hM
             refine fin_x hG rfl rfl rfl (v' := .bool false) (by rfl) ⟨rfl, (show tk ≤ tk142 by omega), _, rfl, rfl⟩
            ·replace hM := ite_f hb147 hM
             refine run_skip ?_
             refine run_seq ?_
             refine run_sr ?_
             refine mvL rfl rfl rfl rfl (ltb rfl) ?_
             refine mvL rfl rfl rfl rfl (ltb rfl) ?_
             refine run_bin rfl rfl rfl rfl rfl rfl rfl (ltb rfl) ?_
             refine run_ops_nil ?_
             refine run_ifb rfl rfl (fun hb148 => ?_) (fun hb148 => ?_)
             ·replace hM := ite_t hb148 hM
              refine run_sr ?_
              refine mvR rfl rfl rfl rfl (ltb rfl) ?_
              refine run_ops_nil ?_
              refine run_ret_to ?_
              obtain rfl := some_t hM
              refine fin_x hG rfl rfl rfl (v' := .bool false) (by rfl) ⟨rfl, (show tk ≤ tk142 by omega), _, rfl, rfl⟩
             ·replace hM := ite_f hb148 hM
              refine run_skip ?_
              refine run_sr ?_
              refine mvR rfl rfl rfl rfl (ltb rfl) ?_
              refine run_ops_nil ?_
              refine run_ret_to ?_
              obtain rfl := some_t hM
              refine fin_x hG rfl rfl rfl (v' := .bool true) (by rfl) ⟨rfl, (show tk ≤ tk142 by omega), _, rfl, rfl⟩

end Go.Am.YtiobknkpdkkikaaDoor
