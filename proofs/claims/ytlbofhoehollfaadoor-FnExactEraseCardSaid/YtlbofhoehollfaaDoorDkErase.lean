/- Printed by a program of ours: Lean functions that do what the Go functions do, and the contracts. -/
import Derived.Test.YtlbofhoehollfaaDoorMl0
import Derived.Test.YtlbofhoehollfaaDoorTypes
import Derived.Test.YtlbofhoehollfaaDoorDkFam
-- packed
namespace Go.Am.YtlbofhoehollfaaDoor
open Go Go.Am

def i_erase : Nat → T → Option T
 | 0, _ => none
 | n + 1, x1 =>
  if x1.kind = 2 then
   (idx x1.kids 0).bind fun y3 =>
   (idx x1.kids 1).bind fun y8 =>
   (i_erase n y3).bind fun r13 =>
   (i_erase n y8).bind fun r20 =>
   some (T.mk 10 0 ⟨#[]⟩ [r13, r20])
  else
   some (T.mk 9 0 x1.name [])

set_option maxRecDepth 100000 in
theorem i_erase_st (n : Nat) (ih_i_erase : ∀ (k1 : Int) (n1 : Int) (s1 : ByteArray) (q1 : Nat) (f1 : Bool) (ks1 : List LT) {r : T}, i_erase n (T.mk k1 n1 s1 (ers ks1)) = some r → ∀ (O : Heap) (tk : Nat), ACalls Go.Proofs.Tryd.prog 73 [.agg [.int .i64 k1, .int .i64 n1, .str s1, .imm q1 4 f1 (cellss ks1)]] O tk (RetX O tk (fun v tk' => VT true tk tk' r v))) : ∀ (k1 : Int) (n1 : Int) (s1 : ByteArray) (q1 : Nat) (f1 : Bool) (ks1 : List LT) {r : T}, i_erase (n + 1) (T.mk k1 n1 s1 (ers ks1)) = some r → ∀ (O : Heap) (tk : Nat), ACalls Go.Proofs.Tryd.prog 73 [.agg [.int .i64 k1, .int .i64 n1, .str s1, .imm q1 4 f1 (cellss ks1)]] O tk (RetX O tk (fun v tk' => VT true tk tk' r v)) := by
 intro k1 n1 s1 q1 f1 ks1 r hM O tk
 rw [i_erase] at hM
 refine acalls_of_run Go.Proofs.Tryd.func73 rfl rfl [] [] (Bor.nil _) [(0, .agg [.int .i64 k1, .int .i64 n1, .str s1, .imm q1 4 f1 (cellss ks1)])] (.cons (.agg _) (.nil _)) (leb rfl) (fun _ h => by cases h) (fun S0 hO htk hfz => ?_)
 refine run_sr ?_
 refine run_op rfl (box_step (d := 1) rfl rfl rfl rfl rfl) rfl (ltb rfl) ?_
 refine run_op rfl (alloc_step (d := 2) hG rfl rfl rfl) rfl (ltb rfl) ?_
 refine run_ops_nil ?_
 refine run_seq ?_
 refine run_sr ?_
 refine run_pu rfl (fieldAddr_step hG rfl rfl rfl rfl rfl) rfl (ltb rfl) ?_
 refine run_ld hG rfl rfl rfl rfl rfl (ltb rfl) ?_
 refine run_bin rfl rfl rfl rfl rfl rfl rfl (ltb rfl) ?_
 refine run_ops_nil ?_
 refine run_ifd rfl rfl (fun hb2 => ?_) (fun hb2 => ?_)
 ·replace hM := ite_t hb2 hM
  refine run_seq ?_
  refine run_draw [.loc 2] (n := 13) mixed rfl (by intro x hx; simp only [List.mem_cons, List.not_mem_nil, or_false] at hx; rcases hx with rfl <;> rfl) ?_
  refine AAny.take (i := 0) rfl (by kernel_rfl) (by kernel_rfl) (by kernel_rfl) rfl rfl (ltb rfl) ((fieldAddr_step hG rfl rfl rfl rfl rfl).rd _) ?_
  refine AAny.take (i := 1) rfl (by kernel_rfl) (by kernel_rfl) (by kernel_rfl) rfl rfl (ltb rfl) (aload_rd hG rfl rfl rfl (by first | (simp [ldok]; done) | exact List.not_mem_nil | trivial)) ?_
  obtain ⟨y3, hy4, hM⟩ := bind_t hM
  obtain ⟨k5, n5, s5, q5, f5, ks5, rfl, hc6, hi7⟩ := tidx (ks := ks1) hy4
  refine AAny.take (i := 2) rfl (by kernel_rfl) (by kernel_rfl) (by kernel_rfl) rfl rfl (ltb rfl) ((indexImm_step hG rfl rfl rfl hi7 rfl rfl rfl rfl hc6).rd _) ?_
  refine AAny.take (i := 3) rfl (by kernel_rfl) (by kernel_rfl) (by kernel_rfl) rfl rfl (ltb rfl) (aload_rd hG rfl rfl rfl (by first | (simp [ldok]; done) | exact List.not_mem_nil | trivial)) ?_
  refine AAny.take (i := 5) rfl (by kernel_rfl) (by kernel_rfl) (by kernel_rfl) rfl rfl (ltb rfl) ((fieldAddr_step hG rfl rfl rfl rfl rfl).rd _) ?_
  refine AAny.take (i := 6) rfl (by kernel_rfl) (by kernel_rfl) (by kernel_rfl) rfl rfl (ltb rfl) (aload_rd hG rfl rfl rfl (by first | (simp [ldok]; done) | exact List.not_mem_nil | trivial)) ?_
  obtain ⟨y8, hy9, hM⟩ := bind_t hM
  obtain ⟨k10, n10, s10, q10, f10, ks10, rfl, hc11, hi12⟩ := tidx (ks := ks1) hy9
  refine AAny.take (i := 7) rfl (by kernel_rfl) (by kernel_rfl) (by kernel_rfl) rfl rfl (ltb rfl) ((indexImm_step hG rfl rfl rfl hi12 rfl rfl rfl rfl hc11).rd _) ?_
  refine AAny.take (i := 8) rfl (by kernel_rfl) (by kernel_rfl) (by kernel_rfl) rfl rfl (ltb rfl) (aload_rd hG rfl rfl rfl (by first | (simp [ldok]; done) | exact List.not_mem_nil | trivial)) ?_
  obtain ⟨r13, hg14, hM⟩ := bind_t hM
  refine AAny.one (i := 4) (by kernel_rfl) (AOp.call rfl rfl rfl rfl (ltb rfl) rfl rfl rfl (fun _ h => absurd h List.not_mem_nil) (fun _ h => absurd h List.not_mem_nil) (ih_i_erase k5 n5 s5 q5 f5 ks5 hg14 _ _) (callK_retX (fun v tk15 (hle16 : tk ≤ tk15) h17 => ?_)))
  obtain ⟨k18, n18, s18, q18, f18, ks18, rfl, rfl, hf19⟩ := h17
  obtain ⟨r20, hg21, hM⟩ := bind_t hM
  refine AAny.one (i := 9) (by kernel_rfl) (AOp.call rfl rfl rfl rfl (ltb rfl) rfl rfl rfl (fun _ h => absurd h List.not_mem_nil) (fun _ h => absurd h List.not_mem_nil) (ih_i_erase k10 n10 s10 q10 f10 ks10 hg21 _ _) (callK_retX (fun v tk22 (hle23 : tk15 ≤ tk22) h24 => ?_)))
  obtain ⟨k25, n25, s25, q25, f25, ks25, rfl, rfl, hf26⟩ := h24
  refine AAny.one (i := 10) (by kernel_rfl) (AOp.step rfl rfl rfl (ltb rfl) (buildSlice_step (d := 16) hG rfl rfl rfl rfl rfl (by rfl) (by rfl) (by rfl) (by decide)) (fun _ h => absurd h List.not_mem_nil) ?_)
  refine AAny.take (i := 11) rfl (by kernel_rfl) (by kernel_rfl) (by kernel_rfl) rfl rfl (ltb rfl) ((build_step hG rfl (by rfl) rfl (fun h => by cases h) (by rfl)).rd _) ?_
  refine AAny.one (i := 12) (by kernel_rfl) (AOp.step0 rfl rfl rfl (store_step hG rfl rfl rfl rfl rfl rfl rfl rfl) (by intro x hx; exact hx) ?_)
  refine AAny.done (by kernel_rfl) ?_
  refine run_ret_to ?_
  refine fin_sub (Sub.freeze (k := 16) rfl rfl) ?_
  obtain rfl := some_t hM
  refine fin_x hG rfl rfl rfl (v' := .agg [.int .i64 10, .int .i64 0, .str ⟨#[]⟩, .imm tk22 4 false (cellss [LT.mk k18 n18 s18 q18 f18 ks18, LT.mk k25 n25 s25 q25 f25 ks25])]) (by rfl) ⟨rfl, (show tk ≤ (tk22 + 1) by omega), _, rfl, ⟨10, 0, ⟨#[]⟩, tk22, false, [LT.mk k18 n18 s18 q18 f18 ks18, LT.mk k25 n25 s25 q25 f25 ks25], rfl, rfl, fun _ => (show Fr tk (tk22 + 1) _ from (show Fr tk (tk22 + 1) _ from Fr.tstop (show Fr tk tk22 _ from (Fr.tcons (show Fr tk tk15 _ from ((show Fr tk tk15 _ from hf19 rfl)).mono (by omega) (by omega)) (Fr.tcons ((show Fr tk15 tk22 _ from hf26 rfl)) (show Fr tk22 tk22 _ from Fr.nil _ _) (by omega) (by omega)) (by omega) (by omega)).mono (by omega) (by omega)) (by omega) (by omega)).mono (by omega) (by omega))⟩⟩
 ·replace hM := ite_f hb2 hM
  refine run_skip ?_
  refine run_sr ?_
  refine run_pu rfl (fieldAddr_step hG rfl rfl rfl rfl rfl) rfl (ltb rfl) ?_
  refine run_ld hG rfl rfl rfl rfl rfl (ltb rfl) ?_
  refine run_pu rfl (build_step hG rfl (by rfl) rfl (fun h => by cases h) (by rfl)) rfl (ltb rfl) ?_
  refine run_op0 rfl (store_step hG rfl rfl rfl rfl rfl rfl rfl rfl) rfl ?_
  refine run_ops_nil ?_
  refine run_ret_to ?_
  obtain rfl := some_t hM
  refine fin_x hG rfl rfl rfl (v' := .agg [.int .i64 9, .int .i64 0, .str s1, .imm 0 4 true (cellss [])]) (by rfl) ⟨rfl, (show tk ≤ tk by omega), _, rfl, ⟨9, 0, s1, 0, true, [], rfl, rfl, fun _ => Fr.nil _ _⟩⟩

theorem i_erase_all : ∀ (n : Nat), (∀ (k1 : Int) (n1 : Int) (s1 : ByteArray) (q1 : Nat) (f1 : Bool) (ks1 : List LT) {r : T}, i_erase n (T.mk k1 n1 s1 (ers ks1)) = some r → ∀ (O : Heap) (tk : Nat), ACalls Go.Proofs.Tryd.prog 73 [.agg [.int .i64 k1, .int .i64 n1, .str s1, .imm q1 4 f1 (cellss ks1)]] O tk (RetX O tk (fun v tk' => VT true tk tk' r v)))
 | 0 => by intro k1 n1 s1 q1 f1 ks1 r hM; rw [i_erase] at hM; cases hM
 | n + 1 => have ih := i_erase_all n; i_erase_st n (ih)

theorem i_erase_ok (n : Nat) : ∀ (k1 : Int) (n1 : Int) (s1 : ByteArray) (q1 : Nat) (f1 : Bool) (ks1 : List LT) {r : T}, i_erase n (T.mk k1 n1 s1 (ers ks1)) = some r → ∀ (O : Heap) (tk : Nat), ACalls Go.Proofs.Tryd.prog 73 [.agg [.int .i64 k1, .int .i64 n1, .str s1, .imm q1 4 f1 (cellss ks1)]] O tk (RetX O tk (fun v tk' => VT true tk tk' r v)) := i_erase_all n

set_option maxRecDepth 100000 in
theorem s_l01Arrow_ex (k1 : Int) (n1 : Int) (s1 : ByteArray) (q1 : Nat) (f1 : Bool) (ks1 : List LT) (k2 : Int) (n2 : Int) (s2 : ByteArray) (q2 : Nat) (f2 : Bool) (ks2 : List LT) (O : Heap) (tk : Nat) : ACalls Go.Proofs.Tryd.prog 95 [.agg [.int .i64 k1, .int .i64 n1, .str s1, .imm q1 4 f1 (cellss ks1)], .agg [.int .i64 k2, .int .i64 n2, .str s2, .imm q2 4 f2 (cellss ks2)]] O tk (RetN O (.agg [.int .i64 10, .int .i64 0, .str ⟨#[]⟩, .imm tk 4 false (cellss [LT.mk k1 n1 s1 q1 f1 ks1, LT.mk k2 n2 s2 q2 f2 ks2])]) (tk + 1)) := by
 refine acalls_of_run Go.Proofs.Tryd.func95 rfl rfl [] [] (Bor.nil _) [(0, .agg [.int .i64 k1, .int .i64 n1, .str s1, .imm q1 4 f1 (cellss ks1)]), (1, .agg [.int .i64 k2, .int .i64 n2, .str s2, .imm q2 4 f2 (cellss ks2)])] (.cons (.agg _) (.cons (.agg _) (.nil _))) (leb rfl) (fun _ h => by cases h) (fun S0 hO htk hfz => ?_)
 refine run_sr ?_
 refine run_op rfl (box_step (d := 2) rfl rfl rfl rfl rfl) rfl (ltb rfl) ?_
 refine run_op rfl (box_step (d := 3) rfl rfl rfl rfl rfl) rfl (ltb rfl) ?_
 refine run_op rfl (alloc_step (d := 4) hG rfl rfl rfl) rfl (ltb rfl) ?_
 refine run_ops_nil ?_
 refine run_sr ?_
 refine run_ld hG rfl rfl rfl rfl rfl (ltb rfl) ?_
 refine run_ld hG rfl rfl rfl rfl rfl (ltb rfl) ?_
 refine run_op rfl (buildSlice_step (d := 7) hG rfl rfl rfl rfl rfl (by rfl) (by rfl) (by rfl) (by decide)) rfl (ltb rfl) ?_
 refine run_pu rfl (build_step hG rfl (by rfl) rfl (fun h => by cases h) (by rfl)) rfl (ltb rfl) ?_
 refine run_op0 rfl (store_step hG rfl rfl rfl rfl rfl rfl rfl rfl) rfl ?_
 refine run_ops_nil ?_
 refine run_ret_to ?_
 refine fin_sub (Sub.freeze (k := 7) rfl rfl) ?_
 refine fin_x hG rfl rfl rfl (v' := .agg [.int .i64 10, .int .i64 0, .str ⟨#[]⟩, .imm tk 4 false (cellss [LT.mk k1 n1 s1 q1 f1 ks1, LT.mk k2 n2 s2 q2 f2 ks2])]) (by rfl) ⟨rfl, rfl, rfl⟩

set_option maxRecDepth 100000 in
theorem s_l01Base_ex (t1 : ByteArray) (O : Heap) (tk : Nat) : ACalls Go.Proofs.Tryd.prog 96 [.str t1] O tk (RetN O (.agg [.int .i64 9, .int .i64 0, .str t1, .imm 0 4 true (cellss [])]) tk) := by
 refine acalls_of_run Go.Proofs.Tryd.func96 rfl rfl [] [] (Bor.nil _) [(0, .str t1)] (.cons (entS rfl) (.nil _)) (leb rfl) (fun _ h => by cases h) (fun S0 hO htk hfz => ?_)
 refine run_sr ?_
 refine run_op rfl (alloc_step (d := 2) hG rfl rfl rfl) rfl (ltb rfl) ?_
 refine run_ops_nil ?_
 refine run_sr ?_
 refine mvL rfl rfl rfl rfl (ltb rfl) ?_
 refine run_pu rfl (build_step hG rfl (by rfl) rfl (fun h => by cases h) (by rfl)) rfl (ltb rfl) ?_
 refine run_op0 rfl (store_step hG rfl rfl rfl rfl rfl rfl rfl rfl) rfl ?_
 refine run_ops_nil ?_
 refine run_ret_to ?_
 refine fin_x hG rfl rfl rfl (v' := .agg [.int .i64 9, .int .i64 0, .str t1, .imm 0 4 true (cellss [])]) (by rfl) ⟨rfl, rfl, rfl⟩

def s_l01Erase : Nat → T → Option T
 | 0, _ => none
 | n + 1, x1 =>
  if x1.kind = 2 then
   (idx x1.kids 0).bind fun y3 =>
   (idx x1.kids 1).bind fun y8 =>
   (s_l01Erase n y3).bind fun r13 =>
   (s_l01Erase n y8).bind fun r20 =>
   some (T.mk 10 0 ⟨#[]⟩ [r13, r20])
  else
   some (T.mk 9 0 x1.name [])

set_option maxRecDepth 100000 in
theorem s_l01Erase_st (n : Nat) (ih_s_l01Erase : ∀ (k1 : Int) (n1 : Int) (s1 : ByteArray) (q1 : Nat) (f1 : Bool) (ks1 : List LT) {r : T}, s_l01Erase n (T.mk k1 n1 s1 (ers ks1)) = some r → ∀ (O : Heap) (tk : Nat), ACalls Go.Proofs.Tryd.prog 72 [.agg [.int .i64 k1, .int .i64 n1, .str s1, .imm q1 4 f1 (cellss ks1)]] O tk (RetX O tk (fun v tk' => VT true tk tk' r v))) : ∀ (k1 : Int) (n1 : Int) (s1 : ByteArray) (q1 : Nat) (f1 : Bool) (ks1 : List LT) {r : T}, s_l01Erase (n + 1) (T.mk k1 n1 s1 (ers ks1)) = some r → ∀ (O : Heap) (tk : Nat), ACalls Go.Proofs.Tryd.prog 72 [.agg [.int .i64 k1, .int .i64 n1, .str s1, .imm q1 4 f1 (cellss ks1)]] O tk (RetX O tk (fun v tk' => VT true tk tk' r v)) := by
 intro k1 n1 s1 q1 f1 ks1 r hM O tk
 rw [s_l01Erase] at hM
 refine acalls_of_run Go.Proofs.Tryd.func72 rfl rfl [] [] (Bor.nil _) [(0, .agg [.int .i64 k1, .int .i64 n1, .str s1, .imm q1 4 f1 (cellss ks1)])] (.cons (.agg _) (.nil _)) (leb rfl) (fun _ h => by cases h) (fun S0 hO htk hfz => ?_)
 refine run_sr ?_
 refine run_op rfl (box_step (d := 1) rfl rfl rfl rfl rfl) rfl (ltb rfl) ?_
 refine run_op rfl (alloc_step (d := 2) hG rfl rfl rfl) rfl (ltb rfl) ?_
 refine run_ops_nil ?_
 refine run_seq ?_
 refine run_sr ?_
 refine run_pu rfl (fieldAddr_step hG rfl rfl rfl rfl rfl) rfl (ltb rfl) ?_
 refine run_ld hG rfl rfl rfl rfl rfl (ltb rfl) ?_
 refine run_bin rfl rfl rfl rfl rfl rfl rfl (ltb rfl) ?_
 refine run_ops_nil ?_
 refine run_ifd rfl rfl (fun hb2 => ?_) (fun hb2 => ?_)
 ·replace hM := ite_t hb2 hM
  refine run_seq ?_
  refine run_draw [.loc 2] (n := 12) mixed rfl (by intro x hx; simp only [List.mem_cons, List.not_mem_nil, or_false] at hx; rcases hx with rfl <;> rfl) ?_
  refine AAny.take (i := 0) rfl (by kernel_rfl) (by kernel_rfl) (by kernel_rfl) rfl rfl (ltb rfl) ((fieldAddr_step hG rfl rfl rfl rfl rfl).rd _) ?_
  refine AAny.take (i := 1) rfl (by kernel_rfl) (by kernel_rfl) (by kernel_rfl) rfl rfl (ltb rfl) (aload_rd hG rfl rfl rfl (by first | (simp [ldok]; done) | exact List.not_mem_nil | trivial)) ?_
  obtain ⟨y3, hy4, hM⟩ := bind_t hM
  obtain ⟨k5, n5, s5, q5, f5, ks5, rfl, hc6, hi7⟩ := tidx (ks := ks1) hy4
  refine AAny.take (i := 2) rfl (by kernel_rfl) (by kernel_rfl) (by kernel_rfl) rfl rfl (ltb rfl) ((indexImm_step hG rfl rfl rfl hi7 rfl rfl rfl rfl hc6).rd _) ?_
  refine AAny.take (i := 3) rfl (by kernel_rfl) (by kernel_rfl) (by kernel_rfl) rfl rfl (ltb rfl) (aload_rd hG rfl rfl rfl (by first | (simp [ldok]; done) | exact List.not_mem_nil | trivial)) ?_
  refine AAny.take (i := 5) rfl (by kernel_rfl) (by kernel_rfl) (by kernel_rfl) rfl rfl (ltb rfl) ((fieldAddr_step hG rfl rfl rfl rfl rfl).rd _) ?_
  refine AAny.take (i := 6) rfl (by kernel_rfl) (by kernel_rfl) (by kernel_rfl) rfl rfl (ltb rfl) (aload_rd hG rfl rfl rfl (by first | (simp [ldok]; done) | exact List.not_mem_nil | trivial)) ?_
  obtain ⟨y8, hy9, hM⟩ := bind_t hM
  obtain ⟨k10, n10, s10, q10, f10, ks10, rfl, hc11, hi12⟩ := tidx (ks := ks1) hy9
  refine AAny.take (i := 7) rfl (by kernel_rfl) (by kernel_rfl) (by kernel_rfl) rfl rfl (ltb rfl) ((indexImm_step hG rfl rfl rfl hi12 rfl rfl rfl rfl hc11).rd _) ?_
  refine AAny.take (i := 8) rfl (by kernel_rfl) (by kernel_rfl) (by kernel_rfl) rfl rfl (ltb rfl) (aload_rd hG rfl rfl rfl (by first | (simp [ldok]; done) | exact List.not_mem_nil | trivial)) ?_
  obtain ⟨r13, hg14, hM⟩ := bind_t hM
  refine AAny.one (i := 4) (by kernel_rfl) (AOp.call rfl rfl rfl rfl (ltb rfl) rfl rfl rfl (fun _ h => absurd h List.not_mem_nil) (fun _ h => absurd h List.not_mem_nil) (ih_s_l01Erase k5 n5 s5 q5 f5 ks5 hg14 _ _) (callK_retX (fun v tk15 (hle16 : tk ≤ tk15) h17 => ?_)))
  obtain ⟨k18, n18, s18, q18, f18, ks18, rfl, rfl, hf19⟩ := h17
  obtain ⟨r20, hg21, hM⟩ := bind_t hM
  refine AAny.one (i := 9) (by kernel_rfl) (AOp.call rfl rfl rfl rfl (ltb rfl) rfl rfl rfl (fun _ h => absurd h List.not_mem_nil) (fun _ h => absurd h List.not_mem_nil) (ih_s_l01Erase k10 n10 s10 q10 f10 ks10 hg21 _ _) (callK_retX (fun v tk22 (hle23 : tk15 ≤ tk22) h24 => ?_)))
  obtain ⟨k25, n25, s25, q25, f25, ks25, rfl, rfl, hf26⟩ := h24
  refine AAny.one (i := 10) (by kernel_rfl) (AOp.call rfl rfl rfl rfl (ltb rfl) rfl rfl rfl (fun _ h => absurd h List.not_mem_nil) (fun _ h => absurd h List.not_mem_nil) (s_l01Arrow_ex k18 n18 s18 q18 f18 ks18 k25 n25 s25 q25 f25 ks25 _ _) (callK_retN ?_))
  skip
  refine AAny.one (i := 11) (by kernel_rfl) (AOp.step0 rfl rfl rfl (store_step hG rfl rfl rfl rfl rfl rfl rfl rfl) (by intro x hx; exact hx) ?_)
  refine AAny.done (by kernel_rfl) ?_
  refine run_ret_to ?_
  obtain rfl := some_t hM
  refine fin_x hG rfl rfl rfl (v' := .agg [.int .i64 10, .int .i64 0, .str ⟨#[]⟩, .imm tk22 4 false (cellss [LT.mk k18 n18 s18 q18 f18 ks18, LT.mk k25 n25 s25 q25 f25 ks25])]) (by rfl) ⟨rfl, (show tk ≤ (tk22 + 1) by omega), _, rfl, ⟨10, 0, ⟨#[]⟩, tk22, false, [LT.mk k18 n18 s18 q18 f18 ks18, LT.mk k25 n25 s25 q25 f25 ks25], rfl, rfl, fun _ => (show Fr tk (tk22 + 1) _ from (show Fr tk (tk22 + 1) _ from Fr.tstop (show Fr tk tk22 _ from (Fr.tcons (show Fr tk tk15 _ from ((show Fr tk tk15 _ from hf19 rfl)).mono (by omega) (by omega)) (Fr.tcons ((show Fr tk15 tk22 _ from hf26 rfl)) (show Fr tk22 tk22 _ from Fr.nil _ _) (by omega) (by omega)) (by omega) (by omega)).mono (by omega) (by omega)) (by omega) (by omega)).mono (by omega) (by omega))⟩⟩
 ·replace hM := ite_f hb2 hM
  refine run_skip ?_
  refine run_sr ?_
  refine run_pu rfl (fieldAddr_step hG rfl rfl rfl rfl rfl) rfl (ltb rfl) ?_
  refine run_ld hG rfl rfl rfl rfl rfl (ltb rfl) ?_
  refine run_call rfl rfl rfl (ltb rfl) rfl rfl rfl (fun _ h => absurd h List.not_mem_nil) (s_l01Base_ex s1 _ _) (callK_retN ?_)
  skip
  refine run_op0 rfl (store_step hG rfl rfl rfl rfl rfl rfl rfl rfl) rfl ?_
  refine run_ops_nil ?_
  refine run_ret_to ?_
  obtain rfl := some_t hM
  refine fin_x hG rfl rfl rfl (v' := .agg [.int .i64 9, .int .i64 0, .str s1, .imm 0 4 true (cellss [])]) (by rfl) ⟨rfl, (show tk ≤ tk by omega), _, rfl, ⟨9, 0, s1, 0, true, [], rfl, rfl, fun _ => Fr.nil _ _⟩⟩

theorem s_l01Erase_all : ∀ (n : Nat), (∀ (k1 : Int) (n1 : Int) (s1 : ByteArray) (q1 : Nat) (f1 : Bool) (ks1 : List LT) {r : T}, s_l01Erase n (T.mk k1 n1 s1 (ers ks1)) = some r → ∀ (O : Heap) (tk : Nat), ACalls Go.Proofs.Tryd.prog 72 [.agg [.int .i64 k1, .int .i64 n1, .str s1, .imm q1 4 f1 (cellss ks1)]] O tk (RetX O tk (fun v tk' => VT true tk tk' r v)))
 | 0 => by intro k1 n1 s1 q1 f1 ks1 r hM; rw [s_l01Erase] at hM; cases hM
 | n + 1 => have ih := s_l01Erase_all n; s_l01Erase_st n (ih)

theorem s_l01Erase_ok (n : Nat) : ∀ (k1 : Int) (n1 : Int) (s1 : ByteArray) (q1 : Nat) (f1 : Bool) (ks1 : List LT) {r : T}, s_l01Erase n (T.mk k1 n1 s1 (ers ks1)) = some r → ∀ (O : Heap) (tk : Nat), ACalls Go.Proofs.Tryd.prog 72 [.agg [.int .i64 k1, .int .i64 n1, .str s1, .imm q1 4 f1 (cellss ks1)]] O tk (RetX O tk (fun v tk' => VT true tk tk' r v)) := s_l01Erase_all n

def i_Erase (n : Nat) (x1 : T) : Option (T × Int) :=
 (i_FamilyOK n x1).bind fun r2 =>
 if (!r2) = true then
  some ((T.mk 0 0 ⟨#[]⟩ []), 1)
 else
  (i_erase n x1).bind fun r10 =>
  some (r10, 0)

set_option maxRecDepth 100000 in
theorem i_Erase_ok (n : Nat) : ∀ (k1 : Int) (n1 : Int) (s1 : ByteArray) (q1 : Nat) (f1 : Bool) (ks1 : List LT) {r : (T × Int)}, i_Erase n (T.mk k1 n1 s1 (ers ks1)) = some r → ∀ (O : Heap) (tk : Nat), ACalls Go.Proofs.Tryd.prog 37 [.agg [.int .i64 k1, .int .i64 n1, .str s1, .imm q1 4 f1 (cellss ks1)]] O tk (RetX O tk (fun v tk' => ∃ r0' r1' v0' v1', r = (r0', r1') ∧ v = .tup [v0', v1'] ∧ VT true tk tk' r0' v0' ∧ v1' = .int .i64 r1')) := by
 intro k1 n1 s1 q1 f1 ks1 r hM O tk
 unfold i_Erase at hM
 refine acalls_of_run Go.Proofs.Tryd.func37 rfl rfl [] [] (Bor.nil _) [(0, .agg [.int .i64 k1, .int .i64 n1, .str s1, .imm q1 4 f1 (cellss ks1)])] (.cons (.agg _) (.nil _)) (leb rfl) (fun _ h => by cases h) (fun S0 hO htk hfz => ?_)
 refine run_sr ?_
 refine run_op rfl (box_step (d := 1) rfl rfl rfl rfl rfl) rfl (ltb rfl) ?_
 refine run_op rfl (alloc_step (d := 2) hG rfl rfl rfl) rfl (ltb rfl) ?_
 refine mvR rfl rfl rfl rfl (ltb rfl) ?_
 refine run_ops_nil ?_
 refine run_seq ?_
 refine run_sr ?_
 refine run_ld hG rfl rfl rfl rfl rfl (ltb rfl) ?_
 obtain ⟨r2, hg3, hM⟩ := bind_t hM
 refine run_call rfl rfl rfl (ltb rfl) rfl rfl rfl (fun _ h => absurd h List.not_mem_nil) (i_FamilyOK_ok n k1 n1 s1 q1 f1 ks1 hg3 _ _) (callK_retX (fun v tk4 (hle5 : tk ≤ tk4) h6 => ?_))
 subst h6
 refine run_pu rfl (aun_step rfl rfl rfl) rfl (ltb rfl) ?_
 refine run_ops_nil ?_
 refine run_ifb rfl rfl (fun hb9 => ?_) (fun hb9 => ?_)
 ·replace hM := ite_t hb9 hM
  refine run_sr ?_
  refine run_pu rfl (build_step hG rfl (by rfl) rfl (fun h => by cases h) (by rfl)) rfl (ltb rfl) ?_
  refine run_op0 rfl (store_step hG rfl rfl rfl rfl rfl rfl rfl rfl) rfl ?_
  refine mvR rfl rfl rfl rfl (ltb rfl) ?_
  refine run_ops_nil ?_
  refine run_ret_to ?_
  obtain rfl := some_t hM
  refine fin_x hG rfl rfl rfl (v' := .tup [.agg [.int .i64 0, .int .i64 0, .str ⟨#[]⟩, .imm 0 4 true (cellss [])], .int .i64 1]) (by rfl) ⟨rfl, (show tk ≤ tk4 by omega), _, rfl, ⟨_, _, _, _, rfl, rfl, ⟨0, 0, ⟨#[]⟩, 0, true, [], rfl, rfl, fun _ => Fr.nil _ _⟩, rfl⟩⟩
 ·replace hM := ite_f hb9 hM
  refine run_skip ?_
  refine run_sr ?_
  refine run_ld hG rfl rfl rfl rfl rfl (ltb rfl) ?_
  obtain ⟨r10, hg11, hM⟩ := bind_t hM
  refine run_call rfl rfl rfl (ltb rfl) rfl rfl rfl (fun _ h => absurd h List.not_mem_nil) (i_erase_ok n k1 n1 s1 q1 f1 ks1 hg11 _ _) (callK_retX (fun v tk12 (hle13 : tk4 ≤ tk12) h14 => ?_))
  obtain ⟨k15, n15, s15, q15, f15, ks15, rfl, rfl, hf16⟩ := h14
  refine run_op0 rfl (store_step hG rfl rfl rfl rfl rfl rfl rfl rfl) rfl ?_
  refine mvR rfl rfl rfl rfl (ltb rfl) ?_
  refine run_ops_nil ?_
  refine run_ret_to ?_
  obtain rfl := some_t hM
  refine fin_x hG rfl rfl rfl (v' := .tup [.agg [.int .i64 k15, .int .i64 n15, .str s15, .imm q15 4 f15 (cellss ks15)], .int .i64 0]) (by rfl) ⟨rfl, (show tk ≤ tk12 by omega), _, rfl, ⟨_, _, _, _, rfl, rfl, ⟨k15, n15, s15, q15, f15, ks15, rfl, rfl, fun _ => (show Fr tk tk12 _ from ((show Fr tk4 tk12 _ from hf16 rfl)).mono (by omega) (by omega))⟩, rfl⟩⟩

def s_Erase (n : Nat) (x1 : T) : Option (T × Int) :=
 (s_FamilyOK n x1).bind fun r2 =>
 if (!r2) = true then
  some ((T.mk 0 0 ⟨#[]⟩ []), 1)
 else
  (s_l01Erase n x1).bind fun r10 =>
  some (r10, 0)

set_option maxRecDepth 100000 in
theorem s_Erase_ok (n : Nat) : ∀ (k1 : Int) (n1 : Int) (s1 : ByteArray) (q1 : Nat) (f1 : Bool) (ks1 : List LT) {r : (T × Int)}, s_Erase n (T.mk k1 n1 s1 (ers ks1)) = some r → ∀ (O : Heap) (tk : Nat), ACalls Go.Proofs.Tryd.prog 36 [.agg [.int .i64 k1, .int .i64 n1, .str s1, .imm q1 4 f1 (cellss ks1)]] O tk (RetX O tk (fun v tk' => ∃ r0' r1' v0' v1', r = (r0', r1') ∧ v = .tup [v0', v1'] ∧ VT true tk tk' r0' v0' ∧ v1' = .int .i64 r1')) := by
 intro k1 n1 s1 q1 f1 ks1 r hM O tk
 unfold s_Erase at hM
 refine acalls_of_run Go.Proofs.Tryd.func36 rfl rfl [] [] (Bor.nil _) [(0, .agg [.int .i64 k1, .int .i64 n1, .str s1, .imm q1 4 f1 (cellss ks1)])] (.cons (.agg _) (.nil _)) (leb rfl) (fun _ h => by cases h) (fun S0 hO htk hfz => ?_)
 refine run_sr ?_
 refine run_op rfl (box_step (d := 1) rfl rfl rfl rfl rfl) rfl (ltb rfl) ?_
 refine run_op rfl (alloc_step (d := 2) hG rfl rfl rfl) rfl (ltb rfl) ?_
 refine mvR rfl rfl rfl rfl (ltb rfl) ?_
 refine run_ops_nil ?_
 refine run_seq ?_
 refine run_sr ?_
 refine run_ld hG rfl rfl rfl rfl rfl (ltb rfl) ?_
 obtain ⟨r2, hg3, hM⟩ := bind_t hM
 refine run_call rfl rfl rfl (ltb rfl) rfl rfl rfl (fun _ h => absurd h List.not_mem_nil) (s_FamilyOK_ok n k1 n1 s1 q1 f1 ks1 hg3 _ _) (callK_retX (fun v tk4 (hle5 : tk ≤ tk4) h6 => ?_))
 subst h6
 refine run_pu rfl (aun_step rfl rfl rfl) rfl (ltb rfl) ?_
 refine run_ops_nil ?_
 refine run_ifb rfl rfl (fun hb9 => ?_) (fun hb9 => ?_)
 ·replace hM := ite_t hb9 hM
  refine run_sr ?_
  refine run_pu rfl (build_step hG rfl (by rfl) rfl (fun h => by cases h) (by rfl)) rfl (ltb rfl) ?_
  refine run_op0 rfl (store_step hG rfl rfl rfl rfl rfl rfl rfl rfl) rfl ?_
  refine mvR rfl rfl rfl rfl (ltb rfl) ?_
  refine run_ops_nil ?_
  refine run_ret_to ?_
  obtain rfl := some_t hM
  refine fin_x hG rfl rfl rfl (v' := .tup [.agg [.int .i64 0, .int .i64 0, .str ⟨#[]⟩, .imm 0 4 true (cellss [])], .int .i64 1]) (by rfl) ⟨rfl, (show tk ≤ tk4 by omega), _, rfl, ⟨_, _, _, _, rfl, rfl, ⟨0, 0, ⟨#[]⟩, 0, true, [], rfl, rfl, fun _ => Fr.nil _ _⟩, rfl⟩⟩
 ·replace hM := ite_f hb9 hM
  refine run_skip ?_
  refine run_sr ?_
  refine run_ld hG rfl rfl rfl rfl rfl (ltb rfl) ?_
  obtain ⟨r10, hg11, hM⟩ := bind_t hM
  refine run_call rfl rfl rfl (ltb rfl) rfl rfl rfl (fun _ h => absurd h List.not_mem_nil) (s_l01Erase_ok n k1 n1 s1 q1 f1 ks1 hg11 _ _) (callK_retX (fun v tk12 (hle13 : tk4 ≤ tk12) h14 => ?_))
  obtain ⟨k15, n15, s15, q15, f15, ks15, rfl, rfl, hf16⟩ := h14
  refine run_op0 rfl (store_step hG rfl rfl rfl rfl rfl rfl rfl rfl) rfl ?_
  refine mvR rfl rfl rfl rfl (ltb rfl) ?_
  refine run_ops_nil ?_
  refine run_ret_to ?_
  obtain rfl := some_t hM
  refine fin_x hG rfl rfl rfl (v' := .tup [.agg [.int .i64 k15, .int .i64 n15, .str s15, .imm q15 4 f15 (cellss ks15)], .int .i64 0]) (by rfl) ⟨rfl, (show tk ≤ tk12 by omega), _, rfl, ⟨_, _, _, _, rfl, rfl, ⟨k15, n15, s15, q15, f15, ks15, rfl, rfl, fun _ => (show Fr tk tk12 _ from ((show Fr tk4 tk12 _ from hf16 rfl)).mono (by omega) (by omega))⟩, rfl⟩⟩

end Go.Am.YtlbofhoehollfaaDoor
