/- Printed by a program of ours: Lean functions that do what the Go functions do, and the contracts. -/
import Derived.Test.YtgbmcnmepfpjiaaMi1
import Derived.Test.YtgbmcnmepfpjiaaTypes
import Derived.Test.YtgbmcnmepfpjiaaMkForm
import Derived.Test.YtgbmcnmepfpjiaaMxB
namespace Go.Am.Ytgbmcnmepfpjiaa
open Go Go.Am

def i_Judgement_c1 (n : Nat) (x1 : F) : Option T :=
  (i_judgement n x1).bind fun r2 =>
  some r2

set_option maxRecDepth 100000 in
theorem i_Judgement_c1_ok (n : Nat) : ∀ (X0 : ID) (k1 : Int) (n1 : Int) (q1 : Nat) (f1 : Bool) (ks1 : List LF) {r : T}, i_Judgement_c1 n (F.mk k1 n1 (fers ks1)) = some r → ∀ (O : Heap) (tk : Nat), O X0 = some ⟨47, 3, true, [[.int .i64 k1, .int .i64 n1, .imm q1 3 f1 (fcellss ks1)]]⟩ → ACalls Go.Proofs.Try.prog 53 [.optr X0 0 0] O tk (RetX O tk (fun v tk' => VT true tk tk' r v)) := by
  intro X0 k1 n1 q1 f1 ks1 r hM O tk hX0
  unfold i_Judgement_c1 at hM
  refine acalls_of_run Go.Proofs.Try.func53 rfl rfl [X0] [⟨47, 3, true, [[.int .i64 k1, .int .i64 n1, .imm q1 3 f1 (fcellss ks1)]]⟩] (Bor.one hX0 rfl) [(0, .optr (.bor 0) 0 0)] (.cons (.bor 0 _ _ _ rfl) (.nil _)) (leb rfl) (by intro y h; simp only [List.mem_cons, List.not_mem_nil, or_false] at h; rcases h with rfl <;> simp [tch, tch0]) (fun S0 hO htk hfz => ?_)
  refine run_seq ?_
  refine run_region ?_
  refine run_op rfl (alloc_step (d := 1) hG rfl rfl rfl) rfl (ltb rfl) ?_
  refine run_ops_nil ?_
  refine run_seq ?_
  refine run_region ?_
  refine run_rd rfl (aload_rd hG rfl rfl rfl (by simp [ldok])) rfl (ltb rfl) ?_
  obtain ⟨r2, hg3, hM⟩ := bind_t hM
  refine run_call rfl rfl rfl (ltb rfl) rfl rfl rfl (fun _ h => absurd h List.not_mem_nil) (i_judgement_ok n k1 n1 q1 f1 ks1 hg3 _ _) (callK_retX (fun v tk4 (hle5 : tk ≤ tk4) h6 => ?_))
  obtain ⟨k7, n7, s7, q7, f7, ks7, rfl, rfl, hf8⟩ := h6
  refine run_op0 rfl (store_step hG rfl rfl rfl rfl rfl rfl rfl rfl) rfl ?_
  refine run_ops_nil ?_
  refine run_ret_to ?_
  obtain rfl := some_t hM
  refine fin_x hG rfl rfl rfl (v' := .agg [.int .i64 k7, .int .i64 n7, .str s7, .imm q7 4 f7 (cellss ks7)]) (by rfl) ⟨out_same (Bor.one hX0 rfl), (show tk ≤ tk4 by omega), _, rfl, ⟨k7, n7, s7, q7, f7, ks7, rfl, rfl, fun _ => (show Fr tk tk4 _ from ((show Fr tk tk4 _ from hf8 rfl)).mono (by omega) (by omega))⟩⟩

def i_encoded__fn_i_Judgement_c1v (n : Nat) (b1 : Bool) (x2 : F) : Option (T × Int) :=
  if (!b1) = true then
    some ((T.mk 0 0 ⟨#[]⟩ []), 1)
  else
    (i_Judgement_c1 n x2).bind fun r4 =>
    (i_tooBig n r4).bind fun r11 =>
    if r11 = true then
      some ((T.mk 0 0 ⟨#[]⟩ []), 11)
    else
      some (r4, 0)

set_option maxRecDepth 100000 in
theorem i_encoded__fn_i_Judgement_c1v_ok (n : Nat) : ∀ (b1 : Bool) (X0 : ID) (k2 : Int) (n2 : Int) (q2 : Nat) (f2 : Bool) (ks2 : List LF) {r : (T × Int)}, i_encoded__fn_i_Judgement_c1v n b1 (F.mk k2 n2 (fers ks2)) = some r → ∀ (O : Heap) (tk : Nat), O X0 = some ⟨47, 3, true, [[.int .i64 k2, .int .i64 n2, .imm q2 3 f2 (fcellss ks2)]]⟩ → ACalls Go.Proofs.Try.prog 42 [.bool b1, .fn (.func 53) [] [.optr X0 0 0]] O tk (RetX O tk (fun v tk' => ∃ r0' r1' v0' v1', r = (r0', r1') ∧ v = .tup [v0', v1'] ∧ VT true tk tk' r0' v0' ∧ v1' = .int .i64 r1')) := by
  intro b1 X0 k2 n2 q2 f2 ks2 r hM O tk hX0
  unfold i_encoded__fn_i_Judgement_c1v at hM
  refine acalls_of_run Go.Proofs.Try.func42 rfl rfl [X0] [⟨47, 3, true, [[.int .i64 k2, .int .i64 n2, .imm q2 3 f2 (fcellss ks2)]]⟩] (Bor.one hX0 rfl) [(0, .bool b1), (1, .fn (.func 53) [] [.optr (.bor 0) 0 0])] (.cons (entS rfl) (.cons (ent_fn (.bor 0 _ _ _ rfl)) (.nil _))) (leb rfl) (by intro y h; simp only [List.mem_cons, List.not_mem_nil, or_false] at h; rcases h with rfl <;> simp [tch, tch0]) (fun S0 hO htk hfz => ?_)
  refine run_seq ?_
  refine run_region ?_
  refine run_op rfl (alloc_step (d := 4) hG rfl rfl rfl) rfl (ltb rfl) ?_
  refine run_pu rfl (move_step (.inr rfl) rfl) rfl (ltb rfl) ?_
  refine run_ops_nil ?_
  refine run_seq ?_
  refine run_seq ?_
  refine run_region ?_
  refine run_pu rfl (move_step (.inl rfl) rfl) rfl (ltb rfl) ?_
  refine run_pu rfl (aun_step rfl rfl rfl) rfl (ltb rfl) ?_
  refine run_ops_nil ?_
  refine run_ifb rfl rfl (fun hb3 => ?_) (fun hb3 => ?_)
  · replace hM := ite_t hb3 hM
    refine run_seq ?_
    refine run_region ?_
    refine run_pu rfl (build_step hG rfl (by rfl) rfl (fun h => by cases h) (by rfl)) rfl (ltb rfl) ?_
    refine run_op0 rfl (store_step hG rfl rfl rfl rfl rfl rfl rfl rfl) rfl ?_
    refine run_pu rfl (move_step (.inr rfl) rfl) rfl (ltb rfl) ?_
    refine run_ops_nil ?_
    refine run_ret_to ?_
    obtain rfl := some_t hM
    refine fin_x hG rfl rfl rfl (v' := .tup [.agg [.int .i64 0, .int .i64 0, .str ⟨#[]⟩, .imm 0 4 true (cellss [])], .int .i64 1]) (by rfl) ⟨out_same (Bor.one hX0 rfl), (show tk ≤ tk by omega), _, rfl, ⟨_, _, _, _, rfl, rfl, ⟨0, 0, ⟨#[]⟩, 0, true, [], rfl, rfl, fun _ => Fr.nil _ _⟩, rfl⟩⟩
  · replace hM := ite_f hb3 hM
    refine run_skip ?_
    refine run_seq ?_
    refine run_region ?_
    refine run_pu rfl (move_step (.inl rfl) rfl) rfl (ltb rfl) ?_
    obtain ⟨r4, hg5, hM⟩ := bind_t hM
    refine run_call rfl rfl rfl (ltb rfl) rfl rfl rfl (fun _ h => absurd h List.not_mem_nil) (i_Judgement_c1_ok n (.bor 0) k2 n2 q2 f2 ks2 hg5 _ _ rfl) (callK_retX (fun v tk6 (hle7 : tk ≤ tk6) h8 => ?_))
    obtain ⟨k9, n9, s9, q9, f9, ks9, rfl, rfl, hf10⟩ := h8
    refine run_op rfl (alloc_step (d := 6) hG rfl rfl rfl) rfl (ltb rfl) ?_
    refine run_op0 rfl (store_step hG rfl rfl rfl rfl rfl rfl rfl rfl) rfl ?_
    refine run_ops_nil ?_
    refine run_seq ?_
    refine run_seq ?_
    refine run_region ?_
    refine run_rd rfl (aload_rd hG rfl rfl rfl (by simp [ldok])) rfl (ltb rfl) ?_
    obtain ⟨r11, hg12, hM⟩ := bind_t hM
    refine run_call rfl rfl rfl (ltb rfl) rfl rfl rfl (fun _ h => absurd h List.not_mem_nil) (i_tooBig_ok n k9 n9 s9 q9 f9 ks9 hg12 _ _) (callK_retX (fun v tk13 (hle14 : tk6 ≤ tk13) h15 => ?_))
    subst h15
    refine run_ops_nil ?_
    refine run_ifb rfl rfl (fun hb18 => ?_) (fun hb18 => ?_)
    · replace hM := ite_t hb18 hM
      refine run_seq ?_
      refine run_region ?_
      refine run_pu rfl (build_step hG rfl (by rfl) rfl (fun h => by cases h) (by rfl)) rfl (ltb rfl) ?_
      refine run_op0 rfl (store_step hG rfl rfl rfl rfl rfl rfl rfl rfl) rfl ?_
      refine run_pu rfl (move_step (.inr rfl) rfl) rfl (ltb rfl) ?_
      refine run_ops_nil ?_
      refine run_ret_to ?_
      obtain rfl := some_t hM
      refine fin_x hG rfl rfl rfl (v' := .tup [.agg [.int .i64 0, .int .i64 0, .str ⟨#[]⟩, .imm 0 4 true (cellss [])], .int .i64 11]) (by rfl) ⟨out_same (Bor.one hX0 rfl), (show tk ≤ tk13 by omega), _, rfl, ⟨_, _, _, _, rfl, rfl, ⟨0, 0, ⟨#[]⟩, 0, true, [], rfl, rfl, fun _ => Fr.nil _ _⟩, rfl⟩⟩
    · replace hM := ite_f hb18 hM
      refine run_skip ?_
      refine run_seq ?_
      refine run_region ?_
      refine run_rd rfl (aload_rd hG rfl rfl rfl (by simp [ldok])) rfl (ltb rfl) ?_
      refine run_op0 rfl (store_step hG rfl rfl rfl rfl rfl rfl rfl rfl) rfl ?_
      refine run_pu rfl (move_step (.inr rfl) rfl) rfl (ltb rfl) ?_
      refine run_ops_nil ?_
      refine run_ret_to ?_
      obtain rfl := some_t hM
      refine fin_x hG rfl rfl rfl (v' := .tup [.agg [.int .i64 k9, .int .i64 n9, .str s9, .imm q9 4 f9 (cellss ks9)], .int .i64 0]) (by rfl) ⟨out_same (Bor.one hX0 rfl), (show tk ≤ tk13 by omega), _, rfl, ⟨_, _, _, _, rfl, rfl, ⟨k9, n9, s9, q9, f9, ks9, rfl, rfl, fun _ => (show Fr tk tk13 _ from ((show Fr tk tk6 _ from hf10 rfl)).mono (by omega) (by omega))⟩, rfl⟩⟩

def i_Judgement (n : Nat) (x1 : F) : Option (T × Int) :=
  (i_FormOK n x1).bind fun r2 =>
  (i_encoded__fn_i_Judgement_c1v n r2 x1).bind fun r9 =>
  some (r9.1, r9.2)

set_option maxRecDepth 100000 in
theorem i_Judgement_ok (n : Nat) : ∀ (k1 : Int) (n1 : Int) (q1 : Nat) (f1 : Bool) (ks1 : List LF) {r : (T × Int)}, i_Judgement n (F.mk k1 n1 (fers ks1)) = some r → ∀ (O : Heap) (tk : Nat), ACalls Go.Proofs.Try.prog 24 [.agg [.int .i64 k1, .int .i64 n1, .imm q1 3 f1 (fcellss ks1)]] O tk (RetX O tk (fun v tk' => ∃ r0' r1' v0' v1', r = (r0', r1') ∧ v = .tup [v0', v1'] ∧ VT true tk tk' r0' v0' ∧ v1' = .int .i64 r1')) := by
  intro k1 n1 q1 f1 ks1 r hM O tk
  unfold i_Judgement at hM
  refine acalls_of_run Go.Proofs.Try.func24 rfl rfl [] [] (Bor.nil _) [(0, .agg [.int .i64 k1, .int .i64 n1, .imm q1 3 f1 (fcellss ks1)])] (.cons (.agg _) (.nil _)) (leb rfl) (fun _ h => by cases h) (fun S0 hO htk hfz => ?_)
  refine run_seq ?_
  refine run_region ?_
  refine run_op rfl (box_step (d := 1) rfl rfl rfl rfl rfl) rfl (ltb rfl) ?_
  refine run_op rfl (alloc_step (d := 2) hG rfl rfl rfl) rfl (ltb rfl) ?_
  refine run_pu rfl (move_step (.inr rfl) rfl) rfl (ltb rfl) ?_
  refine run_ops_nil ?_
  refine run_seq ?_
  refine run_region ?_
  refine run_rd rfl (aload_rd hG rfl rfl rfl (by simp [ldok])) rfl (ltb rfl) ?_
  obtain ⟨r2, hg3, hM⟩ := bind_t hM
  refine run_call rfl rfl rfl (ltb rfl) rfl rfl rfl (fun _ h => absurd h List.not_mem_nil) (i_FormOK_ok n k1 n1 q1 f1 ks1 hg3 _ _) (callK_retX (fun v tk4 (hle5 : tk ≤ tk4) h6 => ?_))
  subst h6
  refine run_pu rfl (makeFunc_step (first := []) (cap := [.tmp 1]) rfl rfl rfl) rfl (ltb rfl) ?_
  obtain ⟨r9, hg10, hM⟩ := bind_t hM
  refine run_call rfl rfl rfl (ltb rfl) rfl rfl rfl (fun _ h => absurd h List.not_mem_nil) (i_encoded__fn_i_Judgement_c1v_ok n r2 (.loc 1) k1 n1 q1 f1 ks1 hg10 _ _ rfl) (callK_retX (fun v tk11 (hle12 : tk4 ≤ tk11) h13 => ?_))
  obtain ⟨ra18, ra19, va20, va21, rfl, rfl, ⟨k14, n14, s14, q14, f14, ks14, rfl, rfl, hf15⟩, rfl⟩ := h13
  refine run_pu rfl (extract_step rfl rfl rfl) rfl (ltb rfl) ?_
  refine run_pu rfl (extract_step rfl rfl rfl) rfl (ltb rfl) ?_
  refine run_op0 rfl (store_step hG rfl rfl rfl rfl rfl rfl rfl rfl) rfl ?_
  refine run_pu rfl (move_step (.inr rfl) rfl) rfl (ltb rfl) ?_
  refine run_ops_nil ?_
  refine run_ret_to ?_
  obtain rfl := some_t hM
  refine fin_x hG rfl rfl rfl (v' := .tup [.agg [.int .i64 k14, .int .i64 n14, .str s14, .imm q14 4 f14 (cellss ks14)], .int .i64 ra19]) (by rfl) ⟨rfl, (show tk ≤ tk11 by omega), _, rfl, ⟨_, _, _, _, rfl, rfl, ⟨k14, n14, s14, q14, f14, ks14, rfl, rfl, fun _ => (show Fr tk tk11 _ from ((show Fr tk4 tk11 _ from hf15 rfl)).mono (by omega) (by omega))⟩, rfl⟩⟩

def s_Judgement (n : Nat) (x1 : F) : Option (T × Int) :=
  (s_FormOK n x1).bind fun r2 =>
  if (!r2) = true then
    some ((T.mk 0 0 ⟨#[]⟩ []), 1)
  else
    (s_l08Tree n x1).bind fun r10 =>
    (s_l03Big n (T.mk 3 0 ⟨#[112, 102]⟩ [r10])).bind fun r17 =>
    if r17 = true then
      some ((T.mk 0 0 ⟨#[]⟩ []), 11)
    else
      some ((T.mk 3 0 ⟨#[112, 102]⟩ [r10]), 0)

set_option maxRecDepth 100000 in
theorem s_Judgement_ok (n : Nat) : ∀ (k1 : Int) (n1 : Int) (q1 : Nat) (f1 : Bool) (ks1 : List LF) {r : (T × Int)}, s_Judgement n (F.mk k1 n1 (fers ks1)) = some r → ∀ (O : Heap) (tk : Nat), ACalls Go.Proofs.Try.prog 23 [.agg [.int .i64 k1, .int .i64 n1, .imm q1 3 f1 (fcellss ks1)]] O tk (RetX O tk (fun v tk' => ∃ r0' r1' v0' v1', r = (r0', r1') ∧ v = .tup [v0', v1'] ∧ VT true tk tk' r0' v0' ∧ v1' = .int .i64 r1')) := by
  intro k1 n1 q1 f1 ks1 r hM O tk
  unfold s_Judgement at hM
  refine acalls_of_run Go.Proofs.Try.func23 rfl rfl [] [] (Bor.nil _) [(0, .agg [.int .i64 k1, .int .i64 n1, .imm q1 3 f1 (fcellss ks1)])] (.cons (.agg _) (.nil _)) (leb rfl) (fun _ h => by cases h) (fun S0 hO htk hfz => ?_)
  refine run_seq ?_
  refine run_region ?_
  refine run_op rfl (box_step (d := 1) rfl rfl rfl rfl rfl) rfl (ltb rfl) ?_
  refine run_op rfl (alloc_step (d := 2) hG rfl rfl rfl) rfl (ltb rfl) ?_
  refine run_pu rfl (move_step (.inr rfl) rfl) rfl (ltb rfl) ?_
  refine run_ops_nil ?_
  refine run_seq ?_
  refine run_seq ?_
  refine run_region ?_
  refine run_rd rfl (aload_rd hG rfl rfl rfl (by simp [ldok])) rfl (ltb rfl) ?_
  obtain ⟨r2, hg3, hM⟩ := bind_t hM
  refine run_call rfl rfl rfl (ltb rfl) rfl rfl rfl (fun _ h => absurd h List.not_mem_nil) (s_FormOK_ok n k1 n1 q1 f1 ks1 hg3 _ _) (callK_retX (fun v tk4 (hle5 : tk ≤ tk4) h6 => ?_))
  subst h6
  refine run_pu rfl (aun_step rfl rfl rfl) rfl (ltb rfl) ?_
  refine run_ops_nil ?_
  refine run_ifb rfl rfl (fun hb9 => ?_) (fun hb9 => ?_)
  · replace hM := ite_t hb9 hM
    refine run_seq ?_
    refine run_region ?_
    refine run_pu rfl (build_step hG rfl (by rfl) rfl (fun h => by cases h) (by rfl)) rfl (ltb rfl) ?_
    refine run_op0 rfl (store_step hG rfl rfl rfl rfl rfl rfl rfl rfl) rfl ?_
    refine run_pu rfl (move_step (.inr rfl) rfl) rfl (ltb rfl) ?_
    refine run_ops_nil ?_
    refine run_ret_to ?_
    obtain rfl := some_t hM
    refine fin_x hG rfl rfl rfl (v' := .tup [.agg [.int .i64 0, .int .i64 0, .str ⟨#[]⟩, .imm 0 4 true (cellss [])], .int .i64 1]) (by rfl) ⟨rfl, (show tk ≤ tk4 by omega), _, rfl, ⟨_, _, _, _, rfl, rfl, ⟨0, 0, ⟨#[]⟩, 0, true, [], rfl, rfl, fun _ => Fr.nil _ _⟩, rfl⟩⟩
  · replace hM := ite_f hb9 hM
    refine run_skip ?_
    refine run_seq ?_
    refine run_region ?_
    refine run_rd rfl (aload_rd hG rfl rfl rfl (by simp [ldok])) rfl (ltb rfl) ?_
    obtain ⟨r10, hg11, hM⟩ := bind_t hM
    refine run_call rfl rfl rfl (ltb rfl) rfl rfl rfl (fun _ h => absurd h List.not_mem_nil) (s_l08Tree_ok n k1 n1 q1 f1 ks1 hg11 _ _) (callK_retX (fun v tk12 (hle13 : tk4 ≤ tk12) h14 => ?_))
    obtain ⟨k15, n15, s15, q15, f15, ks15, rfl, rfl, hf16⟩ := h14
    refine run_call rfl rfl rfl (ltb rfl) rfl rfl rfl (fun _ h => absurd h List.not_mem_nil) (s_l08Pf_ex k15 n15 s15 q15 f15 ks15 _ _) (callK_retN ?_)
    skip
    refine run_op rfl (alloc_step (d := 4) hG rfl rfl rfl) rfl (ltb rfl) ?_
    refine run_op0 rfl (store_step hG rfl rfl rfl rfl rfl rfl rfl rfl) rfl ?_
    refine run_ops_nil ?_
    refine run_seq ?_
    refine run_seq ?_
    refine run_region ?_
    refine run_rd rfl (aload_rd hG rfl rfl rfl (by simp [ldok])) rfl (ltb rfl) ?_
    obtain ⟨r17, hg18, hM⟩ := bind_t hM
    refine run_call rfl rfl rfl (ltb rfl) rfl rfl rfl (fun _ h => absurd h List.not_mem_nil) (s_l03Big_ok n 3 0 ⟨#[112, 102]⟩ tk12 false [LT.mk k15 n15 s15 q15 f15 ks15] hg18 _ _) (callK_retX (fun v tk19 (hle20 : (tk12 + 1) ≤ tk19) h21 => ?_))
    subst h21
    refine run_ops_nil ?_
    refine run_ifb rfl rfl (fun hb24 => ?_) (fun hb24 => ?_)
    · replace hM := ite_t hb24 hM
      refine run_seq ?_
      refine run_region ?_
      refine run_pu rfl (build_step hG rfl (by rfl) rfl (fun h => by cases h) (by rfl)) rfl (ltb rfl) ?_
      refine run_op0 rfl (store_step hG rfl rfl rfl rfl rfl rfl rfl rfl) rfl ?_
      refine run_pu rfl (move_step (.inr rfl) rfl) rfl (ltb rfl) ?_
      refine run_ops_nil ?_
      refine run_ret_to ?_
      obtain rfl := some_t hM
      refine fin_x hG rfl rfl rfl (v' := .tup [.agg [.int .i64 0, .int .i64 0, .str ⟨#[]⟩, .imm 0 4 true (cellss [])], .int .i64 11]) (by rfl) ⟨rfl, (show tk ≤ tk19 by omega), _, rfl, ⟨_, _, _, _, rfl, rfl, ⟨0, 0, ⟨#[]⟩, 0, true, [], rfl, rfl, fun _ => Fr.nil _ _⟩, rfl⟩⟩
    · replace hM := ite_f hb24 hM
      refine run_skip ?_
      refine run_seq ?_
      refine run_region ?_
      refine run_rd rfl (aload_rd hG rfl rfl rfl (by simp [ldok])) rfl (ltb rfl) ?_
      refine run_op0 rfl (store_step hG rfl rfl rfl rfl rfl rfl rfl rfl) rfl ?_
      refine run_pu rfl (move_step (.inr rfl) rfl) rfl (ltb rfl) ?_
      refine run_ops_nil ?_
      refine run_ret_to ?_
      obtain rfl := some_t hM
      refine fin_x hG rfl rfl rfl (v' := .tup [.agg [.int .i64 3, .int .i64 0, .str ⟨#[112, 102]⟩, .imm tk12 4 false (cellss [LT.mk k15 n15 s15 q15 f15 ks15])], .int .i64 0]) (by rfl) ⟨rfl, (show tk ≤ tk19 by omega), _, rfl, ⟨_, _, _, _, rfl, rfl, ⟨3, 0, ⟨#[112, 102]⟩, tk12, false, [LT.mk k15 n15 s15 q15 f15 ks15], rfl, rfl, fun _ => (show Fr tk tk19 _ from (show Fr tk4 (tk12 + 1) _ from Fr.tstop (show Fr tk4 tk12 _ from (Fr.tcons ((show Fr tk4 tk12 _ from hf16 rfl)) (show Fr tk12 tk12 _ from Fr.nil _ _) (by omega) (by omega)).mono (by omega) (by omega)) (by omega) (by omega)).mono (by omega) (by omega))⟩, rfl⟩⟩

end Go.Am.Ytgbmcnmepfpjiaa
