/- Printed by a program of ours: Lean functions that do what the Go functions do, and the contracts. -/
import Derived.Test.YtiobknkpdkkikaaTypes
import Derived.Test.YtiobknkpdkkikaaMi4
import Derived.Test.YtiobknkpdkkikaaMc1
import Derived.Test.YtiobknkpdkkikaaMb3
import Derived.Test.YtiobknkpdkkikaaMxB
-- packed
namespace Go.Am.Ytiobknkpdkkikaa
open Go Go.Am

def i_formed (n : Nat) (x1 : T) : Option (Rz T) :=
 (i_tooBig n x1).bind fun r2 =>
 if r2 = true then
  some (.stop 11 0)
 else
  some (.ok x1)

set_option maxRecDepth 100000 in
theorem i_formed_ok (n : Nat) : ∀ (k1 : Int) (n1 : Int) (s1 : ByteArray) (q1 : Nat) (f1 : Bool) (ks1 : List LT) {r : (Rz T)}, i_formed n (T.mk k1 n1 s1 (ers ks1)) = some r → ∀ (O : Heap) (tk : Nat), ACalls Go.Proofs.Try.prog 53 [.agg [.int .i64 k1, .int .i64 n1, .str s1, .imm q1 4 f1 (cellss ks1)]] O tk (RetZ HT O tk r (fun r v tk' => VT false tk tk' r v)) := by
 intro k1 n1 s1 q1 f1 ks1 r hM O tk
 unfold i_formed at hM
 refine acalls_of_run Go.Proofs.Try.func53 rfl rfl [] [] (Bor.nil _) [(0, .agg [.int .i64 k1, .int .i64 n1, .str s1, .imm q1 4 f1 (cellss ks1)])] (.cons (.agg _) (.nil _)) (leb rfl) (fun _ h => by cases h) (fun S0 hO htk hfz => ?_)
 refine run_sr ?_
 refine run_op rfl (box_step (d := 1) rfl rfl rfl rfl rfl) rfl (ltb rfl) ?_
 refine run_op rfl (alloc_step (d := 2) hG rfl rfl rfl) rfl (ltb rfl) ?_
 refine run_ops_nil ?_
 refine run_seq ?_
 refine run_sr ?_
 refine run_ld hG rfl rfl rfl rfl rfl (ltb rfl) ?_
 obtain ⟨r2, hg3, hM⟩ := bind_t hM
 refine run_call rfl rfl rfl (ltb rfl) rfl rfl rfl (fun _ h => absurd h List.not_mem_nil) (i_tooBig_ok n k1 n1 s1 q1 f1 ks1 hg3 _ _) (callK_retX (fun v tk4 (hle5 : tk ≤ tk4) h6 => ?_))
 subst h6
 refine run_ops_nil ?_
 refine run_ifb rfl rfl (fun hb9 => ?_) (fun hb9 => ?_)
 ·replace hM := ite_t hb9 hM
  refine run_region ?_
  obtain rfl := some_t hM
  exact run_call rfl rfl rfl (ltb rfl) rfl rfl rfl (fun _ h => absurd h List.not_mem_nil) (i_stop_ok 11 0 _ _) (callK_retS (run_pan_at (⟨rfl, (show tk ≤ tk4 by omega), rfl⟩)))
 ·replace hM := ite_f hb9 hM
  refine run_skip ?_
  refine run_sr ?_
  refine run_ld hG rfl rfl rfl rfl rfl (ltb rfl) ?_
  refine run_op0 rfl (store_step hG rfl rfl rfl rfl rfl rfl rfl rfl) rfl ?_
  refine run_ops_nil ?_
  refine run_ret_to ?_
  obtain rfl := some_t hM
  refine fin_x hG rfl rfl rfl (v' := .agg [.int .i64 k1, .int .i64 n1, .str s1, .imm q1 4 f1 (cellss ks1)]) (by rfl) ⟨rfl, (show tk ≤ tk4 by omega), _, rfl, ⟨k1, n1, s1, q1, f1, ks1, rfl, rfl, fun h => by cases h⟩⟩

def i_cloneAll_L1 (rec_i_clone : T → Option T) (l1 : List T) : Nat → Int → List T → Option (List T)
 | 0, _, _ => none
 | m + 1, i2, l3 =>
  if i2 < ((l1).length : Int) then
   (idx l1 i2).bind fun y5 =>
   (rec_i_clone y5).bind fun r10 =>
   chk ((l3).length + ([r10]).length ≤ 1099511627776) <|
   i_cloneAll_L1 rec_i_clone l1 m (IntKind.i64.wrap (i2 + 1)) (l3 ++ [r10])
  else
   some l3

mutual

def i_clone : Nat → T → Option T
 | 0, _ => none
 | n + 1, x1 =>
  (i_cloneAll n x1.kids).bind fun r2 =>
  some (T.mk x1.kind x1.n x1.name r2)

def i_cloneAll : Nat → List T → Option (List T)
 | 0, _ => none
 | n + 1, l1 =>
  i_cloneAll_L1 (i_clone n) l1 n 0 ([])

end

set_option maxRecDepth 100000 in
theorem i_clone_st (n : Nat) (ih_i_cloneAll : ∀ (q1 : Nat) (f1 : Bool) (ks1 : List LT) {r : (List T)}, i_cloneAll n (ers ks1) = some r → ∀ (O : Heap) (tk : Nat), ACalls Go.Proofs.Try.prog 160 [.imm q1 4 f1 (cellss ks1)] O tk (RetX O tk (fun v tk' => VTs true tk tk' r v))) : ∀ (k1 : Int) (n1 : Int) (s1 : ByteArray) (q1 : Nat) (f1 : Bool) (ks1 : List LT) {r : T}, i_clone (n + 1) (T.mk k1 n1 s1 (ers ks1)) = some r → ∀ (O : Heap) (tk : Nat), ACalls Go.Proofs.Try.prog 111 [.agg [.int .i64 k1, .int .i64 n1, .str s1, .imm q1 4 f1 (cellss ks1)]] O tk (RetX O tk (fun v tk' => VT true tk tk' r v)) := by
 intro k1 n1 s1 q1 f1 ks1 r hM O tk
 rw [i_clone] at hM
 refine acalls_of_run Go.Proofs.Try.func111 rfl rfl [] [] (Bor.nil _) [(0, .agg [.int .i64 k1, .int .i64 n1, .str s1, .imm q1 4 f1 (cellss ks1)])] (.cons (.agg _) (.nil _)) (leb rfl) (fun _ h => by cases h) (fun S0 hO htk hfz => ?_)
 refine run_sr ?_
 refine run_op rfl (box_step (d := 1) rfl rfl rfl rfl rfl) rfl (ltb rfl) ?_
 refine run_op rfl (alloc_step (d := 2) hG rfl rfl rfl) rfl (ltb rfl) ?_
 refine run_ops_nil ?_
 refine run_sr ?_
 refine run_pu rfl (fieldAddr_step hG rfl rfl rfl rfl rfl) rfl (ltb rfl) ?_
 refine run_ld hG rfl rfl rfl rfl rfl (ltb rfl) ?_
 obtain ⟨r2, hg3, hM⟩ := bind_t hM
 refine run_call rfl rfl rfl (ltb rfl) rfl rfl rfl (fun _ h => absurd h List.not_mem_nil) (ih_i_cloneAll q1 f1 ks1 hg3 _ _) (callK_retX (fun v tk4 (hle5 : tk ≤ tk4) h6 => ?_))
 obtain ⟨q7, f7, ks7, rfl, rfl, hf8⟩ := h6
 refine run_pu rfl (fieldAddr_step hG rfl rfl rfl rfl rfl) rfl (ltb rfl) ?_
 refine run_op0 rfl (store_step hG rfl rfl rfl rfl rfl rfl rfl rfl) rfl ?_
 refine run_ops_nil ?_
 refine run_sr ?_
 refine run_ld hG rfl rfl rfl rfl rfl (ltb rfl) ?_
 refine run_op0 rfl (store_step hG rfl rfl rfl rfl rfl rfl rfl rfl) rfl ?_
 refine run_ops_nil ?_
 refine run_ret_to ?_
 obtain rfl := some_t hM
 refine fin_x hG rfl rfl rfl (v' := .agg [.int .i64 k1, .int .i64 n1, .str s1, .imm q7 4 f7 (cellss ks7)]) (by rfl) ⟨rfl, (show tk ≤ tk4 by omega), _, rfl, ⟨k1, n1, s1, q7, f7, ks7, rfl, rfl, fun _ => (show Fr tk tk4 _ from ((show Fr tk tk4 _ from hf8 rfl)).mono (by omega) (by omega))⟩⟩

set_option maxRecDepth 100000 in
theorem i_cloneAll_st (n : Nat) (ih_i_clone : ∀ (k1 : Int) (n1 : Int) (s1 : ByteArray) (q1 : Nat) (f1 : Bool) (ks1 : List LT) {r : T}, i_clone n (T.mk k1 n1 s1 (ers ks1)) = some r → ∀ (O : Heap) (tk : Nat), ACalls Go.Proofs.Try.prog 111 [.agg [.int .i64 k1, .int .i64 n1, .str s1, .imm q1 4 f1 (cellss ks1)]] O tk (RetX O tk (fun v tk' => VT true tk tk' r v))) : ∀ (q1 : Nat) (f1 : Bool) (ks1 : List LT) {r : (List T)}, i_cloneAll (n + 1) (ers ks1) = some r → ∀ (O : Heap) (tk : Nat), ACalls Go.Proofs.Try.prog 160 [.imm q1 4 f1 (cellss ks1)] O tk (RetX O tk (fun v tk' => VTs true tk tk' r v)) := by
 intro q1 f1 ks1 r hM O tk
 rw [i_cloneAll] at hM
 refine acalls_of_run Go.Proofs.Try.func160 rfl rfl [] [] (Bor.nil _) [(0, .imm q1 4 f1 (cellss ks1))] (.cons (entS rfl) (.nil _)) (leb rfl) (fun _ h => by cases h) (fun S0 hO htk hfz => ?_)
 refine run_sr ?_
 refine mvR rfl rfl rfl rfl (ltb rfl) ?_
 refine run_ops_nil ?_
 refine run_sr ?_
 refine run_op rfl (buildSlice_step (d := 6) hG rfl rfl rfl rfl rfl (by rfl) (by rfl) (by rfl) (by decide)) rfl (ltb rfl) ?_
 refine mvR rfl rfl rfl rfl (ltb rfl) ?_
 refine run_ops_nil ?_
 refine run_seq ?_
 refine run_sr ?_
 refine mvL rfl rfl rfl rfl (ltb rfl) ?_
 refine run_pu rfl (lenImm_step hG rfl rfl rfl rfl (tlen _)) rfl (ltb rfl) ?_
 refine mvL rfl rfl rfl rfl (ltb rfl) ?_
 refine run_ops_nil ?_
 refine run_block ?_
 refine run_rounds (fun m σ => ∃ (i2 : Int) (ks3 : List LT) (tki_cloneAll_L1 : Nat), tk ≤ tki_cloneAll_L1 ∧ Fr tk tki_cloneAll_L1 (ttoks ks3) ∧ i_cloneAll_L1 (i_clone n) (ers ks1) m i2 (ers ks3) = some r ∧ σ = ⟨[(2, .imm 0 0 true []), (3, .osl (.loc 6)), (7, .imm q1 4 f1 (cellss ks1)), (8, .int .i64 (((ers ks1)).length : Int)), (9, .int .i64 i2)], [(6, ⟨39, 4, false, cellss ks3⟩)], [], O, tki_cloneAll_L1⟩) n (Sub.env [(2, .imm 0 0 true []), (3, .osl (.loc 6)), (7, .imm q1 4 f1 (cellss ks1)), (8, .int .i64 (((ers ks1)).length : Int)), (9, .int .i64 0)] ⟨rfl, rfl, rfl, rfl, rfl, trivial⟩) ⟨0, [], tk, Nat.le_refl _, Fr.nil _ _, hM, rfl⟩ (fun m σ hI => ?_)
 clear hM
 obtain ⟨i2, ks3, tki_cloneAll_L1, hle18, hfr3, hM, rfl⟩ := hI
 obtain _ | m := m
 ·exact absurd hM (by rw [i_cloneAll_L1]; exact fun h => by cases h)
 rw [i_cloneAll_L1] at hM
 refine run_sr ?_
 refine run_bin rfl rfl rfl rfl rfl rfl rfl (ltb rfl) ?_
 refine run_ops_nil ?_
 refine run_seq ?_
 refine run_ifd rfl rfl (fun hb4 => ?_) (fun hb4 => ?_)
 ·replace hM := ite_t hb4 hM
  refine run_skip ?_
  refine run_seq ?_
  refine run_block ?_
  refine run_sr ?_
  obtain ⟨y5, hy6, hM⟩ := bind_t hM
  obtain ⟨k7, n7, s7, q7, f7, ks7, rfl, hc8, hi9⟩ := tidx (ks := ks1) hy6
  refine run_pu rfl (indexImm_step hG rfl rfl rfl hi9 rfl rfl rfl rfl hc8) rfl (ltb rfl) ?_
  refine run_ld hG rfl rfl rfl rfl rfl (ltb rfl) ?_
  refine run_op rfl (alloc_step (d := 5) hG rfl rfl rfl) rfl (ltb rfl) ?_
  refine run_op0 rfl (store_step hG rfl rfl rfl rfl rfl rfl rfl rfl) rfl ?_
  refine run_ops_nil ?_
  refine run_region ?_
  refine mvL rfl rfl rfl rfl (ltb rfl) ?_
  refine run_ld hG rfl rfl rfl rfl rfl (ltb rfl) ?_
  obtain ⟨r10, hg11, hM⟩ := bind_t hM
  refine run_call rfl rfl rfl (ltb rfl) rfl rfl rfl (fun _ h => absurd h List.not_mem_nil) (ih_i_clone k7 n7 s7 q7 f7 ks7 hg11 _ _) (callK_retX (fun v tk12 (hle13 : tki_cloneAll_L1 ≤ tk12) h14 => ?_))
  obtain ⟨k15, n15, s15, q15, f15, ks15, rfl, rfl, hf16⟩ := h14
  refine run_op rfl (buildSlice_step (d := 16) hG rfl rfl rfl rfl rfl (by rfl) (by rfl) (by rfl) (by decide)) rfl (ltb rfl) ?_
  obtain ⟨hc17, hM⟩ := chk_t hM
  try rw [show ((ers ks3) ++ [(T.mk k15 n15 s15 (ers ks15))] : List T) = (ers (ks3 ++ [LT.mk k15 n15 s15 q15 f15 ks15])) from ers_app ks3 [LT.mk k15 n15 s15 q15 f15 ks15]] at hM
  refine run_op rfl (appendM_step hG rfl rfl rfl rfl rfl rfl rfl rfl rfl rfl rfl (cellss_sz ([LT.mk k15 n15 s15 q15 f15 ks15])) (tlen ks3) (tlen ([LT.mk k15 n15 s15 q15 f15 ks15])) hc17 (by decide) (cellss_app _ _)) rfl (ltb rfl) ?_
  refine mvR rfl rfl rfl rfl (ltb rfl) ?_
  refine run_ops_nil ?_
  refine run_blk ?_
  refine run_region ?_
  refine run_bin rfl rfl rfl rfl rfl rfl rfl (ltb rfl) ?_
  refine mvL rfl rfl rfl rfl (ltb rfl) ?_
  refine run_ops_nil ?_
  exact run_loop_end ⟨m, _, Nat.lt_succ_self _, ⟨(IntKind.i64.wrap (i2 + 1)), (ks3 ++ [LT.mk k15 n15 s15 q15 f15 ks15]), tk12, (show tk ≤ tk12 by omega), (show Fr tk tk12 _ from (Fr.tsnoc (show Fr tk tki_cloneAll_L1 _ from (hfr3).mono (by omega) (by omega)) ((show Fr tki_cloneAll_L1 tk12 _ from hf16 rfl)) (by omega) (by omega)).mono (by omega) (by omega)), hM, rfl⟩, Sub.trans (Sub.drop (k := 16) rfl) (Sub.trans (Sub.drop (k := 5) rfl) (Sub.env [(2, .imm 0 0 true []), (3, .osl (.loc 6)), (7, .imm q1 4 f1 (cellss ks1)), (8, .int .i64 (((ers ks1)).length : Int)), (9, .int .i64 (IntKind.i64.wrap (i2 + 1)))] ⟨rfl, rfl, rfl, rfl, rfl, trivial⟩))⟩
 ·replace hM := ite_f hb4 hM
  refine run_exit_to rfl ?_
  refine run_sr ?_
  refine mvL rfl rfl rfl rfl (ltb rfl) ?_
  refine mvR rfl rfl rfl rfl (ltb rfl) ?_
  refine run_ops_nil ?_
  refine run_ret_to ?_
  refine fin_sub (Sub.freeze (k := 6) rfl rfl) ?_
  obtain rfl := some_t hM
  refine fin_x hG rfl rfl rfl (v' := .imm tki_cloneAll_L1 4 false (cellss ks3)) (by rfl) ⟨rfl, (show tk ≤ (tki_cloneAll_L1 + 1) by omega), _, rfl, ⟨tki_cloneAll_L1, false, ks3, rfl, rfl, fun _ => (show Fr tk (tki_cloneAll_L1 + 1) _ from (show Fr tk (tki_cloneAll_L1 + 1) _ from Fr.tstop (show Fr tk tki_cloneAll_L1 _ from (hfr3).mono (by omega) (by omega)) (by omega) (by omega)).mono (by omega) (by omega))⟩⟩

theorem i_clone_all : ∀ (n : Nat), (∀ (k1 : Int) (n1 : Int) (s1 : ByteArray) (q1 : Nat) (f1 : Bool) (ks1 : List LT) {r : T}, i_clone n (T.mk k1 n1 s1 (ers ks1)) = some r → ∀ (O : Heap) (tk : Nat), ACalls Go.Proofs.Try.prog 111 [.agg [.int .i64 k1, .int .i64 n1, .str s1, .imm q1 4 f1 (cellss ks1)]] O tk (RetX O tk (fun v tk' => VT true tk tk' r v))) ∧ (∀ (q1 : Nat) (f1 : Bool) (ks1 : List LT) {r : (List T)}, i_cloneAll n (ers ks1) = some r → ∀ (O : Heap) (tk : Nat), ACalls Go.Proofs.Try.prog 160 [.imm q1 4 f1 (cellss ks1)] O tk (RetX O tk (fun v tk' => VTs true tk tk' r v)))
 | 0 => ⟨(by intro k1 n1 s1 q1 f1 ks1 r hM; rw [i_clone] at hM; cases hM), (by intro q1 f1 ks1 r hM; rw [i_cloneAll] at hM; cases hM)⟩
 | n + 1 => have ih := i_clone_all n; ⟨i_clone_st n (ih.2), i_cloneAll_st n (ih.1)⟩

theorem i_clone_ok (n : Nat) : ∀ (k1 : Int) (n1 : Int) (s1 : ByteArray) (q1 : Nat) (f1 : Bool) (ks1 : List LT) {r : T}, i_clone n (T.mk k1 n1 s1 (ers ks1)) = some r → ∀ (O : Heap) (tk : Nat), ACalls Go.Proofs.Try.prog 111 [.agg [.int .i64 k1, .int .i64 n1, .str s1, .imm q1 4 f1 (cellss ks1)]] O tk (RetX O tk (fun v tk' => VT true tk tk' r v)) := (i_clone_all n).1

theorem i_cloneAll_ok (n : Nat) : ∀ (q1 : Nat) (f1 : Bool) (ks1 : List LT) {r : (List T)}, i_cloneAll n (ers ks1) = some r → ∀ (O : Heap) (tk : Nat), ACalls Go.Proofs.Try.prog 160 [.imm q1 4 f1 (cellss ks1)] O tk (RetX O tk (fun v tk' => VTs true tk tk' r v)) := (i_clone_all n).2

end Go.Am.Ytiobknkpdkkikaa
