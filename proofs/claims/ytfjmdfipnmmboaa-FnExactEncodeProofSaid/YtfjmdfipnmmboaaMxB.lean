/- Printed by a program of ours: Lean functions that do what the Go functions do, and the contracts. -/
import Derived.Test.YtfjmdfipnmmboaaMi1
import Derived.Test.YtfjmdfipnmmboaaTypes
import Derived.Test.YtfjmdfipnmmboaaMxA
namespace Go.Am.Ytfjmdfipnmmboaa
open Go Go.Am

def i_formTerm : Nat → F → Option T
  | 0, _ => none
  | n + 1, x1 =>
    if x1.kind = 1 then
      (strSub (⟨#[112, 48, 112, 49, 112, 50, 112, 51, 112, 52, 112, 53]⟩ : ByteArray) (IntKind.i64.wrap (2 * x1.n)) (IntKind.i64.wrap ((IntKind.i64.wrap (2 * x1.n)) + 2))).bind fun y3 =>
      some (T.mk 6 0 y3 [])
    else
      if x1.kind = 4 then
        some (T.mk 6 0 ⟨#[98, 111, 116]⟩ [])
      else
        if x1.kind = 2 then
          (idx x1.kids 0).bind fun y7 =>
          (idx x1.kids 1).bind fun y12 =>
          (i_formTerm n y7).bind fun r17 =>
          (i_formTerm n y12).bind fun r24 =>
          some (T.mk 6 0 ⟨#[97, 110, 100]⟩ [r17, r24])
        else
          (idx x1.kids 0).bind fun y31 =>
          (idx x1.kids 1).bind fun y36 =>
          (i_formTerm n y31).bind fun r41 =>
          (i_formTerm n y36).bind fun r48 =>
          some (T.mk 6 0 ⟨#[105, 109, 112]⟩ [r41, r48])

set_option maxRecDepth 100000 in
theorem i_formTerm_st (n : Nat) (ih_i_formTerm : ∀ (k1 : Int) (n1 : Int) (q1 : Nat) (f1 : Bool) (ks1 : List LF) {r : T}, i_formTerm n (F.mk k1 n1 (fers ks1)) = some r → ∀ (O : Heap) (tk : Nat), ACalls Go.Proofs.Try.prog 175 [.agg [.int .i64 k1, .int .i64 n1, .imm q1 3 f1 (fcellss ks1)]] O tk (RetX O tk (fun v tk' => VT true tk tk' r v))) : ∀ (k1 : Int) (n1 : Int) (q1 : Nat) (f1 : Bool) (ks1 : List LF) {r : T}, i_formTerm (n + 1) (F.mk k1 n1 (fers ks1)) = some r → ∀ (O : Heap) (tk : Nat), ACalls Go.Proofs.Try.prog 175 [.agg [.int .i64 k1, .int .i64 n1, .imm q1 3 f1 (fcellss ks1)]] O tk (RetX O tk (fun v tk' => VT true tk tk' r v)) := by
  intro k1 n1 q1 f1 ks1 r hM O tk
  rw [i_formTerm] at hM
  refine acalls_of_run Go.Proofs.Try.func175 rfl rfl [] [] (Bor.nil _) [(0, .agg [.int .i64 k1, .int .i64 n1, .imm q1 3 f1 (fcellss ks1)])] (.cons (.agg _) (.nil _)) (leb rfl) (fun _ h => by cases h) (fun S0 hO htk hfz => ?_)
  refine run_seq ?_
  refine run_region ?_
  refine run_op rfl (box_step (d := 1) rfl rfl rfl rfl rfl) rfl (ltb rfl) ?_
  refine run_op rfl (alloc_step (d := 2) hG rfl rfl rfl) rfl (ltb rfl) ?_
  refine run_ops_nil ?_
  refine run_seq ?_
  refine run_seq ?_
  refine run_region ?_
  refine run_pu rfl (fieldAddr_step hG rfl rfl rfl rfl rfl) rfl (ltb rfl) ?_
  refine run_rd rfl (aload_rd hG rfl rfl rfl (by simp [ldok])) rfl (ltb rfl) ?_
  refine run_ops_nil ?_
  refine run_block ?_
  refine run_seq ?_
  refine run_region ?_
  refine run_pu rfl (abin_step rfl rfl rfl rfl (fun _ h => by cases h)) rfl (ltb rfl) ?_
  refine run_pu rfl (move_step (.inr rfl) rfl) rfl (ltb rfl) ?_
  refine run_ops_nil ?_
  refine run_ifd rfl rfl (fun hb2 => ?_) (fun hb2 => ?_)
  · replace hM := ite_t hb2 hM
    refine run_seq ?_
    refine run_region ?_
    refine run_pu rfl (fieldAddr_step hG rfl rfl rfl rfl rfl) rfl (ltb rfl) ?_
    refine run_rd rfl (aload_rd hG rfl rfl rfl (by simp [ldok])) rfl (ltb rfl) ?_
    refine run_pu rfl (abin_step rfl rfl rfl rfl (fun _ h => by cases h)) rfl (ltb rfl) ?_
    refine run_pu rfl (fieldAddr_step hG rfl rfl rfl rfl rfl) rfl (ltb rfl) ?_
    refine run_rd rfl (aload_rd hG rfl rfl rfl (by simp [ldok])) rfl (ltb rfl) ?_
    refine run_pu rfl (abin_step rfl rfl rfl rfl (fun _ h => by cases h)) rfl (ltb rfl) ?_
    refine run_pu rfl (abin_step rfl rfl rfl rfl (fun _ h => by cases h)) rfl (ltb rfl) ?_
    obtain ⟨y3, hy4, hM⟩ := bind_t hM
    refine run_pu rfl (strSlice_step hG rfl rfl rfl rfl rfl rfl hy4) rfl (ltb rfl) ?_
    refine run_call rfl rfl rfl (ltb rfl) rfl rfl rfl (fun _ h => absurd h List.not_mem_nil) (ACalls.args (args' := [.str y3, .imm 0 4 true (cellss [])]) rfl (i_constant_ex y3 0 true [] _ _)) (callK_retN ?_)
    skip
    refine run_op0 rfl (store_step hG rfl rfl rfl rfl rfl rfl rfl rfl) rfl ?_
    refine run_ops_nil ?_
    refine run_ret_to ?_
    obtain rfl := some_t hM
    refine fin_x hG rfl rfl rfl (v' := .agg [.int .i64 6, .int .i64 0, .str y3, .imm 0 4 true (cellss [])]) (by rfl) ⟨rfl, (show tk ≤ tk by omega), _, rfl, ⟨6, 0, y3, 0, true, [], rfl, rfl, fun _ => Fr.nil _ _⟩⟩
  · replace hM := ite_f hb2 hM
    refine run_seq ?_
    refine run_region ?_
    refine run_pu rfl (abin_step rfl rfl rfl rfl (fun _ h => by cases h)) rfl (ltb rfl) ?_
    refine run_pu rfl (move_step (.inr rfl) rfl) rfl (ltb rfl) ?_
    refine run_ops_nil ?_
    refine run_ifd rfl rfl (fun hb5 => ?_) (fun hb5 => ?_)
    · replace hM := ite_t hb5 hM
      refine run_seq ?_
      refine run_region ?_
      refine run_call rfl rfl rfl (ltb rfl) rfl rfl rfl (fun _ h => absurd h List.not_mem_nil) (ACalls.args (args' := [.str ⟨#[98, 111, 116]⟩, .imm 0 4 true (cellss [])]) rfl (i_constant_ex ⟨#[98, 111, 116]⟩ 0 true [] _ _)) (callK_retN ?_)
      skip
      refine run_op0 rfl (store_step hG rfl rfl rfl rfl rfl rfl rfl rfl) rfl ?_
      refine run_ops_nil ?_
      refine run_ret_to ?_
      obtain rfl := some_t hM
      refine fin_x hG rfl rfl rfl (v' := .agg [.int .i64 6, .int .i64 0, .str ⟨#[98, 111, 116]⟩, .imm 0 4 true (cellss [])]) (by rfl) ⟨rfl, (show tk ≤ tk by omega), _, rfl, ⟨6, 0, ⟨#[98, 111, 116]⟩, 0, true, [], rfl, rfl, fun _ => Fr.nil _ _⟩⟩
    · replace hM := ite_f hb5 hM
      refine run_seq ?_
      refine run_region ?_
      refine run_pu rfl (abin_step rfl rfl rfl rfl (fun _ h => by cases h)) rfl (ltb rfl) ?_
      refine run_pu rfl (move_step (.inr rfl) rfl) rfl (ltb rfl) ?_
      refine run_ops_nil ?_
      refine run_ifd rfl rfl (fun hb6 => ?_) (fun hb6 => ?_)
      · replace hM := ite_t hb6 hM
        refine run_seq ?_
        refine run_draw [.loc 2] (n := 13) mixed rfl (by intro x hx; simp only [List.mem_cons, List.not_mem_nil, or_false] at hx; rcases hx with rfl <;> rfl) ?_
        refine AAny.take (i := 0) rfl (by kernel_rfl) (by kernel_rfl) (by kernel_rfl) rfl rfl (ltb rfl) ((fieldAddr_step hG rfl rfl rfl rfl rfl).rd _) ?_
        refine AAny.take (i := 1) rfl (by kernel_rfl) (by kernel_rfl) (by kernel_rfl) rfl rfl (ltb rfl) (aload_rd hG rfl rfl rfl (by simp [ldok])) ?_
        obtain ⟨y7, hy8, hM⟩ := bind_t hM
        obtain ⟨k9, n9, q9, f9, ks9, rfl, hc10, hi11⟩ := fidx hy8
        refine AAny.take (i := 2) rfl (by kernel_rfl) (by kernel_rfl) (by kernel_rfl) rfl rfl (ltb rfl) ((indexImm_step hG rfl rfl rfl hi11 rfl rfl rfl rfl hc10).rd _) ?_
        refine AAny.take (i := 3) rfl (by kernel_rfl) (by kernel_rfl) (by kernel_rfl) rfl rfl (ltb rfl) (aload_rd hG rfl rfl rfl (by simp [ldok])) ?_
        refine AAny.take (i := 5) rfl (by kernel_rfl) (by kernel_rfl) (by kernel_rfl) rfl rfl (ltb rfl) ((fieldAddr_step hG rfl rfl rfl rfl rfl).rd _) ?_
        refine AAny.take (i := 6) rfl (by kernel_rfl) (by kernel_rfl) (by kernel_rfl) rfl rfl (ltb rfl) (aload_rd hG rfl rfl rfl (by simp [ldok])) ?_
        obtain ⟨y12, hy13, hM⟩ := bind_t hM
        obtain ⟨k14, n14, q14, f14, ks14, rfl, hc15, hi16⟩ := fidx hy13
        refine AAny.take (i := 7) rfl (by kernel_rfl) (by kernel_rfl) (by kernel_rfl) rfl rfl (ltb rfl) ((indexImm_step hG rfl rfl rfl hi16 rfl rfl rfl rfl hc15).rd _) ?_
        refine AAny.take (i := 8) rfl (by kernel_rfl) (by kernel_rfl) (by kernel_rfl) rfl rfl (ltb rfl) (aload_rd hG rfl rfl rfl (by simp [ldok])) ?_
        obtain ⟨r17, hg18, hM⟩ := bind_t hM
        refine AAny.one (i := 4) (by kernel_rfl) (AOp.call rfl rfl rfl rfl (ltb rfl) rfl rfl rfl (fun _ h => absurd h List.not_mem_nil) (fun _ h => absurd h List.not_mem_nil) (ih_i_formTerm k9 n9 q9 f9 ks9 hg18 _ _) (callK_retX (fun v tk19 (hle20 : tk ≤ tk19) h21 => ?_)))
        obtain ⟨k22, n22, s22, q22, f22, ks22, rfl, rfl, hf23⟩ := h21
        obtain ⟨r24, hg25, hM⟩ := bind_t hM
        refine AAny.one (i := 9) (by kernel_rfl) (AOp.call rfl rfl rfl rfl (ltb rfl) rfl rfl rfl (fun _ h => absurd h List.not_mem_nil) (fun _ h => absurd h List.not_mem_nil) (ih_i_formTerm k14 n14 q14 f14 ks14 hg25 _ _) (callK_retX (fun v tk26 (hle27 : tk19 ≤ tk26) h28 => ?_)))
        obtain ⟨k29, n29, s29, q29, f29, ks29, rfl, rfl, hf30⟩ := h28
        refine AAny.one (i := 10) (by kernel_rfl) (AOp.step rfl rfl rfl (ltb rfl) (buildSlice_step (d := 31) hG rfl rfl rfl rfl rfl (by rfl) (by rfl) (by rfl) (by decide)) (fun _ h => absurd h List.not_mem_nil) ?_)
        refine AAny.sub (Sub.freeze (k := 31) rfl rfl) (by intro x hx; simp only [List.mem_cons, List.not_mem_nil, or_false] at hx; rcases hx with rfl <;> rfl) ?_
        refine AAny.one (i := 11) (by kernel_rfl) (AOp.call rfl rfl rfl rfl (ltb rfl) rfl rfl rfl (fun _ h => absurd h List.not_mem_nil) (fun _ h => absurd h List.not_mem_nil) (i_constant_ex ⟨#[97, 110, 100]⟩ tk26 false [LT.mk k22 n22 s22 q22 f22 ks22, LT.mk k29 n29 s29 q29 f29 ks29] _ _) (callK_retN ?_))
        skip
        refine AAny.one (i := 12) (by kernel_rfl) (AOp.step0 rfl rfl rfl (store_step hG rfl rfl rfl rfl rfl rfl rfl rfl) (by intro x hx; exact hx) ?_)
        refine AAny.done (by kernel_rfl) ?_
        refine run_ret_to ?_
        obtain rfl := some_t hM
        refine fin_x hG rfl rfl rfl (v' := .agg [.int .i64 6, .int .i64 0, .str ⟨#[97, 110, 100]⟩, .imm tk26 4 false (cellss [LT.mk k22 n22 s22 q22 f22 ks22, LT.mk k29 n29 s29 q29 f29 ks29])]) (by rfl) ⟨rfl, (show tk ≤ (tk26 + 1) by omega), _, rfl, ⟨6, 0, ⟨#[97, 110, 100]⟩, tk26, false, [LT.mk k22 n22 s22 q22 f22 ks22, LT.mk k29 n29 s29 q29 f29 ks29], rfl, rfl, fun _ => (show Fr tk (tk26 + 1) _ from (show Fr tk (tk26 + 1) _ from Fr.tstop (show Fr tk tk26 _ from (Fr.tcons (show Fr tk tk19 _ from ((show Fr tk tk19 _ from hf23 rfl)).mono (by omega) (by omega)) (Fr.tcons ((show Fr tk19 tk26 _ from hf30 rfl)) (show Fr tk26 tk26 _ from Fr.nil _ _) (by omega) (by omega)) (by omega) (by omega)).mono (by omega) (by omega)) (by omega) (by omega)).mono (by omega) (by omega))⟩⟩
      · replace hM := ite_f hb6 hM
        refine run_skip ?_
        refine run_blk ?_
        refine run_seq ?_
        refine run_draw [.loc 2] (n := 13) mixed rfl (by intro x hx; simp only [List.mem_cons, List.not_mem_nil, or_false] at hx; rcases hx with rfl <;> rfl) ?_
        refine AAny.take (i := 0) rfl (by kernel_rfl) (by kernel_rfl) (by kernel_rfl) rfl rfl (ltb rfl) ((fieldAddr_step hG rfl rfl rfl rfl rfl).rd _) ?_
        refine AAny.take (i := 1) rfl (by kernel_rfl) (by kernel_rfl) (by kernel_rfl) rfl rfl (ltb rfl) (aload_rd hG rfl rfl rfl (by simp [ldok])) ?_
        obtain ⟨y31, hy32, hM⟩ := bind_t hM
        obtain ⟨k33, n33, q33, f33, ks33, rfl, hc34, hi35⟩ := fidx hy32
        refine AAny.take (i := 2) rfl (by kernel_rfl) (by kernel_rfl) (by kernel_rfl) rfl rfl (ltb rfl) ((indexImm_step hG rfl rfl rfl hi35 rfl rfl rfl rfl hc34).rd _) ?_
        refine AAny.take (i := 3) rfl (by kernel_rfl) (by kernel_rfl) (by kernel_rfl) rfl rfl (ltb rfl) (aload_rd hG rfl rfl rfl (by simp [ldok])) ?_
        refine AAny.take (i := 5) rfl (by kernel_rfl) (by kernel_rfl) (by kernel_rfl) rfl rfl (ltb rfl) ((fieldAddr_step hG rfl rfl rfl rfl rfl).rd _) ?_
        refine AAny.take (i := 6) rfl (by kernel_rfl) (by kernel_rfl) (by kernel_rfl) rfl rfl (ltb rfl) (aload_rd hG rfl rfl rfl (by simp [ldok])) ?_
        obtain ⟨y36, hy37, hM⟩ := bind_t hM
        obtain ⟨k38, n38, q38, f38, ks38, rfl, hc39, hi40⟩ := fidx hy37
        refine AAny.take (i := 7) rfl (by kernel_rfl) (by kernel_rfl) (by kernel_rfl) rfl rfl (ltb rfl) ((indexImm_step hG rfl rfl rfl hi40 rfl rfl rfl rfl hc39).rd _) ?_
        refine AAny.take (i := 8) rfl (by kernel_rfl) (by kernel_rfl) (by kernel_rfl) rfl rfl (ltb rfl) (aload_rd hG rfl rfl rfl (by simp [ldok])) ?_
        obtain ⟨r41, hg42, hM⟩ := bind_t hM
        refine AAny.one (i := 4) (by kernel_rfl) (AOp.call rfl rfl rfl rfl (ltb rfl) rfl rfl rfl (fun _ h => absurd h List.not_mem_nil) (fun _ h => absurd h List.not_mem_nil) (ih_i_formTerm k33 n33 q33 f33 ks33 hg42 _ _) (callK_retX (fun v tk43 (hle44 : tk ≤ tk43) h45 => ?_)))
        obtain ⟨k46, n46, s46, q46, f46, ks46, rfl, rfl, hf47⟩ := h45
        obtain ⟨r48, hg49, hM⟩ := bind_t hM
        refine AAny.one (i := 9) (by kernel_rfl) (AOp.call rfl rfl rfl rfl (ltb rfl) rfl rfl rfl (fun _ h => absurd h List.not_mem_nil) (fun _ h => absurd h List.not_mem_nil) (ih_i_formTerm k38 n38 q38 f38 ks38 hg49 _ _) (callK_retX (fun v tk50 (hle51 : tk43 ≤ tk50) h52 => ?_)))
        obtain ⟨k53, n53, s53, q53, f53, ks53, rfl, rfl, hf54⟩ := h52
        refine AAny.one (i := 10) (by kernel_rfl) (AOp.step rfl rfl rfl (ltb rfl) (buildSlice_step (d := 43) hG rfl rfl rfl rfl rfl (by rfl) (by rfl) (by rfl) (by decide)) (fun _ h => absurd h List.not_mem_nil) ?_)
        refine AAny.sub (Sub.freeze (k := 43) rfl rfl) (by intro x hx; simp only [List.mem_cons, List.not_mem_nil, or_false] at hx; rcases hx with rfl <;> rfl) ?_
        refine AAny.one (i := 11) (by kernel_rfl) (AOp.call rfl rfl rfl rfl (ltb rfl) rfl rfl rfl (fun _ h => absurd h List.not_mem_nil) (fun _ h => absurd h List.not_mem_nil) (i_constant_ex ⟨#[105, 109, 112]⟩ tk50 false [LT.mk k46 n46 s46 q46 f46 ks46, LT.mk k53 n53 s53 q53 f53 ks53] _ _) (callK_retN ?_))
        skip
        refine AAny.one (i := 12) (by kernel_rfl) (AOp.step0 rfl rfl rfl (store_step hG rfl rfl rfl rfl rfl rfl rfl rfl) (by intro x hx; exact hx) ?_)
        refine AAny.done (by kernel_rfl) ?_
        refine run_ret_to ?_
        obtain rfl := some_t hM
        refine fin_x hG rfl rfl rfl (v' := .agg [.int .i64 6, .int .i64 0, .str ⟨#[105, 109, 112]⟩, .imm tk50 4 false (cellss [LT.mk k46 n46 s46 q46 f46 ks46, LT.mk k53 n53 s53 q53 f53 ks53])]) (by rfl) ⟨rfl, (show tk ≤ (tk50 + 1) by omega), _, rfl, ⟨6, 0, ⟨#[105, 109, 112]⟩, tk50, false, [LT.mk k46 n46 s46 q46 f46 ks46, LT.mk k53 n53 s53 q53 f53 ks53], rfl, rfl, fun _ => (show Fr tk (tk50 + 1) _ from (show Fr tk (tk50 + 1) _ from Fr.tstop (show Fr tk tk50 _ from (Fr.tcons (show Fr tk tk43 _ from ((show Fr tk tk43 _ from hf47 rfl)).mono (by omega) (by omega)) (Fr.tcons ((show Fr tk43 tk50 _ from hf54 rfl)) (show Fr tk50 tk50 _ from Fr.nil _ _) (by omega) (by omega)) (by omega) (by omega)).mono (by omega) (by omega)) (by omega) (by omega)).mono (by omega) (by omega))⟩⟩

theorem i_formTerm_all : ∀ (n : Nat), (∀ (k1 : Int) (n1 : Int) (q1 : Nat) (f1 : Bool) (ks1 : List LF) {r : T}, i_formTerm n (F.mk k1 n1 (fers ks1)) = some r → ∀ (O : Heap) (tk : Nat), ACalls Go.Proofs.Try.prog 175 [.agg [.int .i64 k1, .int .i64 n1, .imm q1 3 f1 (fcellss ks1)]] O tk (RetX O tk (fun v tk' => VT true tk tk' r v)))
  | 0 => by intro k1 n1 q1 f1 ks1 r hM; rw [i_formTerm] at hM; cases hM
  | n + 1 => have ih := i_formTerm_all n; i_formTerm_st n (ih)

theorem i_formTerm_ok (n : Nat) : ∀ (k1 : Int) (n1 : Int) (q1 : Nat) (f1 : Bool) (ks1 : List LF) {r : T}, i_formTerm n (F.mk k1 n1 (fers ks1)) = some r → ∀ (O : Heap) (tk : Nat), ACalls Go.Proofs.Try.prog 175 [.agg [.int .i64 k1, .int .i64 n1, .imm q1 3 f1 (fcellss ks1)]] O tk (RetX O tk (fun v tk' => VT true tk tk' r v)) := i_formTerm_all n

def s_l08Tree : Nat → F → Option T
  | 0, _ => none
  | n + 1, x1 =>
    if x1.kind = 1 then
      (s_l00Digits n x1.n).bind fun r3 =>
      chk ((⟨#[112]⟩ : ByteArray).size + r3.size ≤ 9223372036854775807) <|
      some (T.mk 6 0 ((⟨#[112]⟩ : ByteArray) ++ r3) [])
    else
      if x1.kind = 2 then
        (idx x1.kids 0).bind fun y12 =>
        (idx x1.kids 1).bind fun y17 =>
        (s_l08Tree n y12).bind fun r22 =>
        (s_l08Tree n y17).bind fun r29 =>
        some (T.mk 6 0 ⟨#[97, 110, 100]⟩ [r22, r29])
      else
        if x1.kind = 3 then
          (idx x1.kids 0).bind fun y37 =>
          (idx x1.kids 1).bind fun y42 =>
          (s_l08Tree n y37).bind fun r47 =>
          (s_l08Tree n y42).bind fun r54 =>
          some (T.mk 6 0 ⟨#[105, 109, 112]⟩ [r47, r54])
        else
          some (T.mk 6 0 ⟨#[98, 111, 116]⟩ [])

set_option maxRecDepth 100000 in
theorem s_l08Tree_st (n : Nat) (ih_s_l08Tree : ∀ (k1 : Int) (n1 : Int) (q1 : Nat) (f1 : Bool) (ks1 : List LF) {r : T}, s_l08Tree n (F.mk k1 n1 (fers ks1)) = some r → ∀ (O : Heap) (tk : Nat), ACalls Go.Proofs.Try.prog 165 [.agg [.int .i64 k1, .int .i64 n1, .imm q1 3 f1 (fcellss ks1)]] O tk (RetX O tk (fun v tk' => VT true tk tk' r v))) : ∀ (k1 : Int) (n1 : Int) (q1 : Nat) (f1 : Bool) (ks1 : List LF) {r : T}, s_l08Tree (n + 1) (F.mk k1 n1 (fers ks1)) = some r → ∀ (O : Heap) (tk : Nat), ACalls Go.Proofs.Try.prog 165 [.agg [.int .i64 k1, .int .i64 n1, .imm q1 3 f1 (fcellss ks1)]] O tk (RetX O tk (fun v tk' => VT true tk tk' r v)) := by
  intro k1 n1 q1 f1 ks1 r hM O tk
  rw [s_l08Tree] at hM
  refine acalls_of_run Go.Proofs.Try.func165 rfl rfl [] [] (Bor.nil _) [(0, .agg [.int .i64 k1, .int .i64 n1, .imm q1 3 f1 (fcellss ks1)])] (.cons (.agg _) (.nil _)) (leb rfl) (fun _ h => by cases h) (fun S0 hO htk hfz => ?_)
  refine run_seq ?_
  refine run_region ?_
  refine run_op rfl (box_step (d := 1) rfl rfl rfl rfl rfl) rfl (ltb rfl) ?_
  refine run_op rfl (alloc_step (d := 2) hG rfl rfl rfl) rfl (ltb rfl) ?_
  refine run_ops_nil ?_
  refine run_seq ?_
  refine run_seq ?_
  refine run_region ?_
  refine run_pu rfl (fieldAddr_step hG rfl rfl rfl rfl rfl) rfl (ltb rfl) ?_
  refine run_rd rfl (aload_rd hG rfl rfl rfl (by simp [ldok])) rfl (ltb rfl) ?_
  refine run_ops_nil ?_
  refine run_block ?_
  refine run_seq ?_
  refine run_region ?_
  refine run_pu rfl (abin_step rfl rfl rfl rfl (fun _ h => by cases h)) rfl (ltb rfl) ?_
  refine run_pu rfl (move_step (.inr rfl) rfl) rfl (ltb rfl) ?_
  refine run_ops_nil ?_
  refine run_ifd rfl rfl (fun hb2 => ?_) (fun hb2 => ?_)
  · replace hM := ite_t hb2 hM
    refine run_seq ?_
    refine run_region ?_
    refine run_pu rfl (fieldAddr_step hG rfl rfl rfl rfl rfl) rfl (ltb rfl) ?_
    refine run_rd rfl (aload_rd hG rfl rfl rfl (by simp [ldok])) rfl (ltb rfl) ?_
    obtain ⟨r3, hg4, hM⟩ := bind_t hM
    refine run_call rfl rfl rfl (ltb rfl) rfl rfl rfl (fun _ h => absurd h List.not_mem_nil) (s_l00Digits_ok n n1 hg4 _ _) (callK_retX (fun v tk5 (hle6 : tk ≤ tk5) h7 => ?_))
    subst h7
    obtain ⟨hc10, hM⟩ := chk_t hM
    refine run_pu rfl (strAdd_step rfl rfl rfl hc10) rfl (ltb rfl) ?_
    refine run_call rfl rfl rfl (ltb rfl) rfl rfl rfl (fun _ h => absurd h List.not_mem_nil) (ACalls.args (args' := [.str ((⟨#[112]⟩ : ByteArray) ++ r3), .imm 0 4 true (cellss [])]) rfl (s_l01Const_ex ((⟨#[112]⟩ : ByteArray) ++ r3) 0 true [] _ _)) (callK_retN ?_)
    skip
    refine run_op0 rfl (store_step hG rfl rfl rfl rfl rfl rfl rfl rfl) rfl ?_
    refine run_ops_nil ?_
    refine run_ret_to ?_
    obtain rfl := some_t hM
    refine fin_x hG rfl rfl rfl (v' := .agg [.int .i64 6, .int .i64 0, .str ((⟨#[112]⟩ : ByteArray) ++ r3), .imm 0 4 true (cellss [])]) (by rfl) ⟨rfl, (show tk ≤ tk5 by omega), _, rfl, ⟨6, 0, ((⟨#[112]⟩ : ByteArray) ++ r3), 0, true, [], rfl, rfl, fun _ => Fr.nil _ _⟩⟩
  · replace hM := ite_f hb2 hM
    refine run_seq ?_
    refine run_region ?_
    refine run_pu rfl (abin_step rfl rfl rfl rfl (fun _ h => by cases h)) rfl (ltb rfl) ?_
    refine run_pu rfl (move_step (.inr rfl) rfl) rfl (ltb rfl) ?_
    refine run_ops_nil ?_
    refine run_ifd rfl rfl (fun hb11 => ?_) (fun hb11 => ?_)
    · replace hM := ite_t hb11 hM
      refine run_seq ?_
      refine run_draw [.loc 2] (n := 13) mixed rfl (by intro x hx; simp only [List.mem_cons, List.not_mem_nil, or_false] at hx; rcases hx with rfl <;> rfl) ?_
      refine AAny.take (i := 0) rfl (by kernel_rfl) (by kernel_rfl) (by kernel_rfl) rfl rfl (ltb rfl) ((fieldAddr_step hG rfl rfl rfl rfl rfl).rd _) ?_
      refine AAny.take (i := 1) rfl (by kernel_rfl) (by kernel_rfl) (by kernel_rfl) rfl rfl (ltb rfl) (aload_rd hG rfl rfl rfl (by simp [ldok])) ?_
      obtain ⟨y12, hy13, hM⟩ := bind_t hM
      obtain ⟨k14, n14, q14, f14, ks14, rfl, hc15, hi16⟩ := fidx hy13
      refine AAny.take (i := 2) rfl (by kernel_rfl) (by kernel_rfl) (by kernel_rfl) rfl rfl (ltb rfl) ((indexImm_step hG rfl rfl rfl hi16 rfl rfl rfl rfl hc15).rd _) ?_
      refine AAny.take (i := 3) rfl (by kernel_rfl) (by kernel_rfl) (by kernel_rfl) rfl rfl (ltb rfl) (aload_rd hG rfl rfl rfl (by simp [ldok])) ?_
      refine AAny.take (i := 5) rfl (by kernel_rfl) (by kernel_rfl) (by kernel_rfl) rfl rfl (ltb rfl) ((fieldAddr_step hG rfl rfl rfl rfl rfl).rd _) ?_
      refine AAny.take (i := 6) rfl (by kernel_rfl) (by kernel_rfl) (by kernel_rfl) rfl rfl (ltb rfl) (aload_rd hG rfl rfl rfl (by simp [ldok])) ?_
      obtain ⟨y17, hy18, hM⟩ := bind_t hM
      obtain ⟨k19, n19, q19, f19, ks19, rfl, hc20, hi21⟩ := fidx hy18
      refine AAny.take (i := 7) rfl (by kernel_rfl) (by kernel_rfl) (by kernel_rfl) rfl rfl (ltb rfl) ((indexImm_step hG rfl rfl rfl hi21 rfl rfl rfl rfl hc20).rd _) ?_
      refine AAny.take (i := 8) rfl (by kernel_rfl) (by kernel_rfl) (by kernel_rfl) rfl rfl (ltb rfl) (aload_rd hG rfl rfl rfl (by simp [ldok])) ?_
      obtain ⟨r22, hg23, hM⟩ := bind_t hM
      refine AAny.one (i := 4) (by kernel_rfl) (AOp.call rfl rfl rfl rfl (ltb rfl) rfl rfl rfl (fun _ h => absurd h List.not_mem_nil) (fun _ h => absurd h List.not_mem_nil) (ih_s_l08Tree k14 n14 q14 f14 ks14 hg23 _ _) (callK_retX (fun v tk24 (hle25 : tk ≤ tk24) h26 => ?_)))
      obtain ⟨k27, n27, s27, q27, f27, ks27, rfl, rfl, hf28⟩ := h26
      obtain ⟨r29, hg30, hM⟩ := bind_t hM
      refine AAny.one (i := 9) (by kernel_rfl) (AOp.call rfl rfl rfl rfl (ltb rfl) rfl rfl rfl (fun _ h => absurd h List.not_mem_nil) (fun _ h => absurd h List.not_mem_nil) (ih_s_l08Tree k19 n19 q19 f19 ks19 hg30 _ _) (callK_retX (fun v tk31 (hle32 : tk24 ≤ tk31) h33 => ?_)))
      obtain ⟨k34, n34, s34, q34, f34, ks34, rfl, rfl, hf35⟩ := h33
      refine AAny.one (i := 10) (by kernel_rfl) (AOp.step rfl rfl rfl (ltb rfl) (buildSlice_step (d := 24) hG rfl rfl rfl rfl rfl (by rfl) (by rfl) (by rfl) (by decide)) (fun _ h => absurd h List.not_mem_nil) ?_)
      refine AAny.sub (Sub.freeze (k := 24) rfl rfl) (by intro x hx; simp only [List.mem_cons, List.not_mem_nil, or_false] at hx; rcases hx with rfl <;> rfl) ?_
      refine AAny.one (i := 11) (by kernel_rfl) (AOp.call rfl rfl rfl rfl (ltb rfl) rfl rfl rfl (fun _ h => absurd h List.not_mem_nil) (fun _ h => absurd h List.not_mem_nil) (s_l04Neutral_ex ⟨#[97, 110, 100]⟩ tk31 false [LT.mk k27 n27 s27 q27 f27 ks27, LT.mk k34 n34 s34 q34 f34 ks34] _ _) (callK_retN ?_))
      skip
      refine AAny.one (i := 12) (by kernel_rfl) (AOp.step0 rfl rfl rfl (store_step hG rfl rfl rfl rfl rfl rfl rfl rfl) (by intro x hx; exact hx) ?_)
      refine AAny.done (by kernel_rfl) ?_
      refine run_ret_to ?_
      obtain rfl := some_t hM
      refine fin_x hG rfl rfl rfl (v' := .agg [.int .i64 6, .int .i64 0, .str ⟨#[97, 110, 100]⟩, .imm tk31 4 false (cellss [LT.mk k27 n27 s27 q27 f27 ks27, LT.mk k34 n34 s34 q34 f34 ks34])]) (by rfl) ⟨rfl, (show tk ≤ (tk31 + 1) by omega), _, rfl, ⟨6, 0, ⟨#[97, 110, 100]⟩, tk31, false, [LT.mk k27 n27 s27 q27 f27 ks27, LT.mk k34 n34 s34 q34 f34 ks34], rfl, rfl, fun _ => (show Fr tk (tk31 + 1) _ from (show Fr tk (tk31 + 1) _ from Fr.tstop (show Fr tk tk31 _ from (Fr.tcons (show Fr tk tk24 _ from ((show Fr tk tk24 _ from hf28 rfl)).mono (by omega) (by omega)) (Fr.tcons ((show Fr tk24 tk31 _ from hf35 rfl)) (show Fr tk31 tk31 _ from Fr.nil _ _) (by omega) (by omega)) (by omega) (by omega)).mono (by omega) (by omega)) (by omega) (by omega)).mono (by omega) (by omega))⟩⟩
    · replace hM := ite_f hb11 hM
      refine run_seq ?_
      refine run_region ?_
      refine run_pu rfl (abin_step rfl rfl rfl rfl (fun _ h => by cases h)) rfl (ltb rfl) ?_
      refine run_pu rfl (move_step (.inr rfl) rfl) rfl (ltb rfl) ?_
      refine run_ops_nil ?_
      refine run_ifd rfl rfl (fun hb36 => ?_) (fun hb36 => ?_)
      · replace hM := ite_t hb36 hM
        refine run_seq ?_
        refine run_draw [.loc 2] (n := 13) mixed rfl (by intro x hx; simp only [List.mem_cons, List.not_mem_nil, or_false] at hx; rcases hx with rfl <;> rfl) ?_
        refine AAny.take (i := 0) rfl (by kernel_rfl) (by kernel_rfl) (by kernel_rfl) rfl rfl (ltb rfl) ((fieldAddr_step hG rfl rfl rfl rfl rfl).rd _) ?_
        refine AAny.take (i := 1) rfl (by kernel_rfl) (by kernel_rfl) (by kernel_rfl) rfl rfl (ltb rfl) (aload_rd hG rfl rfl rfl (by simp [ldok])) ?_
        obtain ⟨y37, hy38, hM⟩ := bind_t hM
        obtain ⟨k39, n39, q39, f39, ks39, rfl, hc40, hi41⟩ := fidx hy38
        refine AAny.take (i := 2) rfl (by kernel_rfl) (by kernel_rfl) (by kernel_rfl) rfl rfl (ltb rfl) ((indexImm_step hG rfl rfl rfl hi41 rfl rfl rfl rfl hc40).rd _) ?_
        refine AAny.take (i := 3) rfl (by kernel_rfl) (by kernel_rfl) (by kernel_rfl) rfl rfl (ltb rfl) (aload_rd hG rfl rfl rfl (by simp [ldok])) ?_
        refine AAny.take (i := 5) rfl (by kernel_rfl) (by kernel_rfl) (by kernel_rfl) rfl rfl (ltb rfl) ((fieldAddr_step hG rfl rfl rfl rfl rfl).rd _) ?_
        refine AAny.take (i := 6) rfl (by kernel_rfl) (by kernel_rfl) (by kernel_rfl) rfl rfl (ltb rfl) (aload_rd hG rfl rfl rfl (by simp [ldok])) ?_
        obtain ⟨y42, hy43, hM⟩ := bind_t hM
        obtain ⟨k44, n44, q44, f44, ks44, rfl, hc45, hi46⟩ := fidx hy43
        refine AAny.take (i := 7) rfl (by kernel_rfl) (by kernel_rfl) (by kernel_rfl) rfl rfl (ltb rfl) ((indexImm_step hG rfl rfl rfl hi46 rfl rfl rfl rfl hc45).rd _) ?_
        refine AAny.take (i := 8) rfl (by kernel_rfl) (by kernel_rfl) (by kernel_rfl) rfl rfl (ltb rfl) (aload_rd hG rfl rfl rfl (by simp [ldok])) ?_
        obtain ⟨r47, hg48, hM⟩ := bind_t hM
        refine AAny.one (i := 4) (by kernel_rfl) (AOp.call rfl rfl rfl rfl (ltb rfl) rfl rfl rfl (fun _ h => absurd h List.not_mem_nil) (fun _ h => absurd h List.not_mem_nil) (ih_s_l08Tree k39 n39 q39 f39 ks39 hg48 _ _) (callK_retX (fun v tk49 (hle50 : tk ≤ tk49) h51 => ?_)))
        obtain ⟨k52, n52, s52, q52, f52, ks52, rfl, rfl, hf53⟩ := h51
        obtain ⟨r54, hg55, hM⟩ := bind_t hM
        refine AAny.one (i := 9) (by kernel_rfl) (AOp.call rfl rfl rfl rfl (ltb rfl) rfl rfl rfl (fun _ h => absurd h List.not_mem_nil) (fun _ h => absurd h List.not_mem_nil) (ih_s_l08Tree k44 n44 q44 f44 ks44 hg55 _ _) (callK_retX (fun v tk56 (hle57 : tk49 ≤ tk56) h58 => ?_)))
        obtain ⟨k59, n59, s59, q59, f59, ks59, rfl, rfl, hf60⟩ := h58
        refine AAny.one (i := 10) (by kernel_rfl) (AOp.step rfl rfl rfl (ltb rfl) (buildSlice_step (d := 38) hG rfl rfl rfl rfl rfl (by rfl) (by rfl) (by rfl) (by decide)) (fun _ h => absurd h List.not_mem_nil) ?_)
        refine AAny.sub (Sub.freeze (k := 38) rfl rfl) (by intro x hx; simp only [List.mem_cons, List.not_mem_nil, or_false] at hx; rcases hx with rfl <;> rfl) ?_
        refine AAny.one (i := 11) (by kernel_rfl) (AOp.call rfl rfl rfl rfl (ltb rfl) rfl rfl rfl (fun _ h => absurd h List.not_mem_nil) (fun _ h => absurd h List.not_mem_nil) (s_l04Neutral_ex ⟨#[105, 109, 112]⟩ tk56 false [LT.mk k52 n52 s52 q52 f52 ks52, LT.mk k59 n59 s59 q59 f59 ks59] _ _) (callK_retN ?_))
        skip
        refine AAny.one (i := 12) (by kernel_rfl) (AOp.step0 rfl rfl rfl (store_step hG rfl rfl rfl rfl rfl rfl rfl rfl) (by intro x hx; exact hx) ?_)
        refine AAny.done (by kernel_rfl) ?_
        refine run_ret_to ?_
        obtain rfl := some_t hM
        refine fin_x hG rfl rfl rfl (v' := .agg [.int .i64 6, .int .i64 0, .str ⟨#[105, 109, 112]⟩, .imm tk56 4 false (cellss [LT.mk k52 n52 s52 q52 f52 ks52, LT.mk k59 n59 s59 q59 f59 ks59])]) (by rfl) ⟨rfl, (show tk ≤ (tk56 + 1) by omega), _, rfl, ⟨6, 0, ⟨#[105, 109, 112]⟩, tk56, false, [LT.mk k52 n52 s52 q52 f52 ks52, LT.mk k59 n59 s59 q59 f59 ks59], rfl, rfl, fun _ => (show Fr tk (tk56 + 1) _ from (show Fr tk (tk56 + 1) _ from Fr.tstop (show Fr tk tk56 _ from (Fr.tcons (show Fr tk tk49 _ from ((show Fr tk tk49 _ from hf53 rfl)).mono (by omega) (by omega)) (Fr.tcons ((show Fr tk49 tk56 _ from hf60 rfl)) (show Fr tk56 tk56 _ from Fr.nil _ _) (by omega) (by omega)) (by omega) (by omega)).mono (by omega) (by omega)) (by omega) (by omega)).mono (by omega) (by omega))⟩⟩
      · replace hM := ite_f hb36 hM
        refine run_skip ?_
        refine run_blk ?_
        refine run_seq ?_
        refine run_region ?_
        refine run_call rfl rfl rfl (ltb rfl) rfl rfl rfl (fun _ h => absurd h List.not_mem_nil) (ACalls.args (args' := [.str ⟨#[98, 111, 116]⟩, .imm 0 4 true (cellss [])]) rfl (s_l01Const_ex ⟨#[98, 111, 116]⟩ 0 true [] _ _)) (callK_retN ?_)
        skip
        refine run_op0 rfl (store_step hG rfl rfl rfl rfl rfl rfl rfl rfl) rfl ?_
        refine run_ops_nil ?_
        refine run_ret_to ?_
        obtain rfl := some_t hM
        refine fin_x hG rfl rfl rfl (v' := .agg [.int .i64 6, .int .i64 0, .str ⟨#[98, 111, 116]⟩, .imm 0 4 true (cellss [])]) (by rfl) ⟨rfl, (show tk ≤ tk by omega), _, rfl, ⟨6, 0, ⟨#[98, 111, 116]⟩, 0, true, [], rfl, rfl, fun _ => Fr.nil _ _⟩⟩

theorem s_l08Tree_all : ∀ (n : Nat), (∀ (k1 : Int) (n1 : Int) (q1 : Nat) (f1 : Bool) (ks1 : List LF) {r : T}, s_l08Tree n (F.mk k1 n1 (fers ks1)) = some r → ∀ (O : Heap) (tk : Nat), ACalls Go.Proofs.Try.prog 165 [.agg [.int .i64 k1, .int .i64 n1, .imm q1 3 f1 (fcellss ks1)]] O tk (RetX O tk (fun v tk' => VT true tk tk' r v)))
  | 0 => by intro k1 n1 q1 f1 ks1 r hM; rw [s_l08Tree] at hM; cases hM
  | n + 1 => have ih := s_l08Tree_all n; s_l08Tree_st n (ih)

theorem s_l08Tree_ok (n : Nat) : ∀ (k1 : Int) (n1 : Int) (q1 : Nat) (f1 : Bool) (ks1 : List LF) {r : T}, s_l08Tree n (F.mk k1 n1 (fers ks1)) = some r → ∀ (O : Heap) (tk : Nat), ACalls Go.Proofs.Try.prog 165 [.agg [.int .i64 k1, .int .i64 n1, .imm q1 3 f1 (fcellss ks1)]] O tk (RetX O tk (fun v tk' => VT true tk tk' r v)) := s_l08Tree_all n

def s_l01Count_L1 (rec_s_l01Count : T → Int → Option Int) (x1 : T) : Nat → Int → Int → Option Int
  | 0, _, _ => none
  | m + 1, i3, i4 =>
    if i4 < ((x1.kids).length : Int) then
      if i3 ≥ 0 then
        (idx x1.kids i4).bind fun y7 =>
        (rec_s_l01Count y7 i3).bind fun r12 =>
        s_l01Count_L1 rec_s_l01Count x1 m r12 (IntKind.i64.wrap (i4 + 1))
      else
        some i3
    else
      some i3

def s_l01Count : Nat → T → Int → Option Int
  | 0, _, _ => none
  | n + 1, x1, i2 =>
    s_l01Count_L1 (s_l01Count n) x1 n (IntKind.i64.wrap (i2 - 1)) 0

set_option maxRecDepth 100000 in
theorem s_l01Count_st (n : Nat) (ih_s_l01Count : ∀ (k1 : Int) (n1 : Int) (s1 : ByteArray) (q1 : Nat) (f1 : Bool) (ks1 : List LT) (i2 : Int) {r : Int}, s_l01Count n (T.mk k1 n1 s1 (ers ks1)) i2 = some r → ∀ (O : Heap) (tk : Nat), ACalls Go.Proofs.Try.prog 215 [.agg [.int .i64 k1, .int .i64 n1, .str s1, .imm q1 4 f1 (cellss ks1)], .int .i64 i2] O tk (RetX O tk (fun v tk' => v = .int .i64 r))) : ∀ (k1 : Int) (n1 : Int) (s1 : ByteArray) (q1 : Nat) (f1 : Bool) (ks1 : List LT) (i2 : Int) {r : Int}, s_l01Count (n + 1) (T.mk k1 n1 s1 (ers ks1)) i2 = some r → ∀ (O : Heap) (tk : Nat), ACalls Go.Proofs.Try.prog 215 [.agg [.int .i64 k1, .int .i64 n1, .str s1, .imm q1 4 f1 (cellss ks1)], .int .i64 i2] O tk (RetX O tk (fun v tk' => v = .int .i64 r)) := by
  intro k1 n1 s1 q1 f1 ks1 i2 r hM O tk
  rw [s_l01Count] at hM
  refine acalls_of_run Go.Proofs.Try.func215 rfl rfl [] [] (Bor.nil _) [(0, .agg [.int .i64 k1, .int .i64 n1, .str s1, .imm q1 4 f1 (cellss ks1)]), (1, .int .i64 i2)] (.cons (.agg _) (.cons (entS rfl) (.nil _))) (leb rfl) (fun _ h => by cases h) (fun S0 hO htk hfz => ?_)
  refine run_seq ?_
  refine run_region ?_
  refine run_op rfl (box_step (d := 2) rfl rfl rfl rfl rfl) rfl (ltb rfl) ?_
  refine run_pu rfl (move_step (.inr rfl) rfl) rfl (ltb rfl) ?_
  refine run_ops_nil ?_
  refine run_seq ?_
  refine run_region ?_
  refine run_pu rfl (move_step (.inl rfl) rfl) rfl (ltb rfl) ?_
  refine run_pu rfl (abin_step rfl rfl rfl rfl (fun _ h => by cases h)) rfl (ltb rfl) ?_
  refine run_pu rfl (move_step (.inr rfl) rfl) rfl (ltb rfl) ?_
  refine run_ops_nil ?_
  refine run_seq ?_
  refine run_seq ?_
  refine run_region ?_
  refine run_pu rfl (move_step (.inr rfl) rfl) rfl (ltb rfl) ?_
  refine run_ops_nil ?_
  refine run_block ?_
  refine run_rounds (fun m σ => ∃ (i3 : Int) (i4 : Int) (tks_l01Count_L1 : Nat), tk ≤ tks_l01Count_L1 ∧ s_l01Count_L1 (s_l01Count n) (T.mk k1 n1 s1 (ers ks1)) m i3 i4 = some r ∧ σ = ⟨[(1, .int .i64 i3), (2, .optr (.loc 2) 0 0), (4, .int .i64 0), (5, .int .i64 i4)], [(2, ⟨55, 4, true, [[.int .i64 k1, .int .i64 n1, .str s1, .imm q1 4 f1 (cellss ks1)]]⟩)], [], O, tks_l01Count_L1⟩) n (Sub.env [(1, .int .i64 (IntKind.i64.wrap (i2 - 1))), (2, .optr (.loc 2) 0 0), (4, .int .i64 0), (5, .int .i64 0)] ⟨rfl, rfl, rfl, rfl, trivial⟩) ⟨(IntKind.i64.wrap (i2 - 1)), 0, tk, Nat.le_refl _, hM, rfl⟩ (fun m σ hI => ?_)
  clear hM
  obtain ⟨i3, i4, tks_l01Count_L1, hle19, hM, rfl⟩ := hI
  obtain _ | m := m
  · exact absurd hM (by rw [s_l01Count_L1]; exact fun h => by cases h)
  rw [s_l01Count_L1] at hM
  refine run_seq ?_
  refine run_seq ?_
  refine run_region ?_
  refine run_pu rfl (move_step (.inl rfl) rfl) rfl (ltb rfl) ?_
  refine run_pu rfl (fieldAddr_step hG rfl rfl rfl rfl rfl) rfl (ltb rfl) ?_
  refine run_rd rfl (aload_rd hG rfl rfl rfl (by simp [ldok])) rfl (ltb rfl) ?_
  refine run_pu rfl (lenImm_step hG rfl rfl rfl rfl (tlen _)) rfl (ltb rfl) ?_
  refine run_pu rfl (abin_step rfl rfl rfl rfl (fun _ h => by cases h)) rfl (ltb rfl) ?_
  refine run_pu rfl (move_step (.inl rfl) rfl) rfl (ltb rfl) ?_
  refine run_splitd (i := 13) rfl (fun hb5 => ?_) (fun hb5 => ?_)
  · replace hM := ite_t hb5 hM
    refine run_puG (on_of rfl rfl rfl rfl) (move_step (.inl rfl) rfl) rfl (ltb rfl) ?_
    refine run_puG (on_of rfl rfl rfl rfl) (abin_step rfl rfl rfl rfl (fun _ h => by cases h)) rfl (ltb rfl) ?_
    refine run_pu rfl (pick_step rfl rfl rfl) rfl (ltb rfl) ?_
    refine run_ops_nil ?_
    refine run_ifd rfl rfl (fun hb6 => ?_) (fun hb6 => ?_)
    · replace hM := ite_t hb6 hM
      refine run_skip ?_
      refine run_seq ?_
      refine run_block ?_
      refine run_region ?_
      refine run_pu rfl (fieldAddr_step hG rfl rfl rfl rfl rfl) rfl (ltb rfl) ?_
      refine run_rd rfl (aload_rd hG rfl rfl rfl (by simp [ldok])) rfl (ltb rfl) ?_
      refine run_pu rfl (move_step (.inl rfl) rfl) rfl (ltb rfl) ?_
      obtain ⟨y7, hy8, hM⟩ := bind_t hM
      obtain ⟨k9, n9, s9, q9, f9, ks9, rfl, hc10, hi11⟩ := tidx hy8
      refine run_pu rfl (indexImm_step hG rfl rfl rfl hi11 rfl rfl rfl rfl hc10) rfl (ltb rfl) ?_
      refine run_rd rfl (aload_rd hG rfl rfl rfl (by simp [ldok])) rfl (ltb rfl) ?_
      refine run_pu rfl (move_step (.inl rfl) rfl) rfl (ltb rfl) ?_
      obtain ⟨r12, hg13, hM⟩ := bind_t hM
      refine run_call rfl rfl rfl (ltb rfl) rfl rfl rfl (fun _ h => absurd h List.not_mem_nil) (ih_s_l01Count k9 n9 s9 q9 f9 ks9 i3 hg13 _ _) (callK_retX (fun v tk14 (hle15 : tks_l01Count_L1 ≤ tk14) h16 => ?_))
      subst h16
      refine run_pu rfl (move_step (.inr rfl) rfl) rfl (ltb rfl) ?_
      refine run_ops_nil ?_
      refine run_blk ?_
      refine run_sub_code (σ' := ⟨[(1, .int .i64 r12), (2, .optr (.loc 2) 0 0), (4, .int .i64 0), (5, .int .i64 i4)], [(2, ⟨55, 4, true, [[.int .i64 k1, .int .i64 n1, .str s1, .imm q1 4 f1 (cellss ks1)]]⟩)], [], O, tk14⟩) (Sub.env [(1, .int .i64 r12), (2, .optr (.loc 2) 0 0), (4, .int .i64 0), (5, .int .i64 i4)] ⟨rfl, rfl, rfl, rfl, trivial⟩) ?_
      refine run_region ?_
      refine run_pu rfl (move_step (.inl rfl) rfl) rfl (ltb rfl) ?_
      refine run_pu rfl (abin_step rfl rfl rfl rfl (fun _ h => by cases h)) rfl (ltb rfl) ?_
      refine run_pu rfl (move_step (.inr rfl) rfl) rfl (ltb rfl) ?_
      refine run_ops_nil ?_
      exact run_loop_end ⟨m, _, Nat.lt_succ_self _, ⟨r12, (IntKind.i64.wrap (i4 + 1)), tk14, (show tk ≤ tk14 by omega), hM, rfl⟩, Sub.env [(1, .int .i64 r12), (2, .optr (.loc 2) 0 0), (4, .int .i64 0), (5, .int .i64 (IntKind.i64.wrap (i4 + 1)))] ⟨rfl, rfl, rfl, rfl, trivial⟩⟩
    · replace hM := ite_f hb6 hM
      refine run_exit_to rfl ?_
      refine run_seq ?_
      refine run_region ?_
      refine run_pu rfl (move_step (.inl rfl) rfl) rfl (ltb rfl) ?_
      refine run_pu rfl (move_step (.inr rfl) rfl) rfl (ltb rfl) ?_
      refine run_ops_nil ?_
      refine run_ret_to ?_
      obtain rfl := some_t hM
      refine fin_x hG rfl rfl rfl (v' := .int .i64 i3) (by rfl) ⟨rfl, (show tk ≤ tks_l01Count_L1 by omega), _, rfl, rfl⟩
  · replace hM := ite_f hb5 hM
    refine run_off (on_of rfl rfl rfl rfl) rfl (ltb rfl) ?_
    refine run_off (on_of rfl rfl rfl rfl) rfl (ltb rfl) ?_
    refine run_pu rfl (pick_step rfl rfl rfl) rfl (ltb rfl) ?_
    refine run_ops_nil ?_
    refine run_if rfl rfl (fun h => by cases h) (fun _ => ?_)
    refine run_exit_to rfl ?_
    refine run_seq ?_
    refine run_region ?_
    refine run_pu rfl (move_step (.inl rfl) rfl) rfl (ltb rfl) ?_
    refine run_pu rfl (move_step (.inr rfl) rfl) rfl (ltb rfl) ?_
    refine run_ops_nil ?_
    refine run_ret_to ?_
    obtain rfl := some_t hM
    refine fin_x hG rfl rfl rfl (v' := .int .i64 i3) (by rfl) ⟨rfl, (show tk ≤ tks_l01Count_L1 by omega), _, rfl, rfl⟩

theorem s_l01Count_all : ∀ (n : Nat), (∀ (k1 : Int) (n1 : Int) (s1 : ByteArray) (q1 : Nat) (f1 : Bool) (ks1 : List LT) (i2 : Int) {r : Int}, s_l01Count n (T.mk k1 n1 s1 (ers ks1)) i2 = some r → ∀ (O : Heap) (tk : Nat), ACalls Go.Proofs.Try.prog 215 [.agg [.int .i64 k1, .int .i64 n1, .str s1, .imm q1 4 f1 (cellss ks1)], .int .i64 i2] O tk (RetX O tk (fun v tk' => v = .int .i64 r)))
  | 0 => by intro k1 n1 s1 q1 f1 ks1 i2 r hM; rw [s_l01Count] at hM; cases hM
  | n + 1 => have ih := s_l01Count_all n; s_l01Count_st n (ih)

theorem s_l01Count_ok (n : Nat) : ∀ (k1 : Int) (n1 : Int) (s1 : ByteArray) (q1 : Nat) (f1 : Bool) (ks1 : List LT) (i2 : Int) {r : Int}, s_l01Count n (T.mk k1 n1 s1 (ers ks1)) i2 = some r → ∀ (O : Heap) (tk : Nat), ACalls Go.Proofs.Try.prog 215 [.agg [.int .i64 k1, .int .i64 n1, .str s1, .imm q1 4 f1 (cellss ks1)], .int .i64 i2] O tk (RetX O tk (fun v tk' => v = .int .i64 r)) := s_l01Count_all n

def s_l01Small (n : Nat) (x1 : T) : Option Bool :=
  (s_l01Count n x1 150).bind fun r2 =>
  some (decide (r2 ≥ 0))

set_option maxRecDepth 100000 in
theorem s_l01Small_ok (n : Nat) : ∀ (k1 : Int) (n1 : Int) (s1 : ByteArray) (q1 : Nat) (f1 : Bool) (ks1 : List LT) {r : Bool}, s_l01Small n (T.mk k1 n1 s1 (ers ks1)) = some r → ∀ (O : Heap) (tk : Nat), ACalls Go.Proofs.Try.prog 169 [.agg [.int .i64 k1, .int .i64 n1, .str s1, .imm q1 4 f1 (cellss ks1)]] O tk (RetX O tk (fun v tk' => v = .bool r)) := by
  intro k1 n1 s1 q1 f1 ks1 r hM O tk
  unfold s_l01Small at hM
  refine acalls_of_run Go.Proofs.Try.func169 rfl rfl [] [] (Bor.nil _) [(0, .agg [.int .i64 k1, .int .i64 n1, .str s1, .imm q1 4 f1 (cellss ks1)])] (.cons (.agg _) (.nil _)) (leb rfl) (fun _ h => by cases h) (fun S0 hO htk hfz => ?_)
  refine run_seq ?_
  refine run_region ?_
  refine run_op rfl (box_step (d := 1) rfl rfl rfl rfl rfl) rfl (ltb rfl) ?_
  refine run_pu rfl (move_step (.inr rfl) rfl) rfl (ltb rfl) ?_
  refine run_ops_nil ?_
  refine run_seq ?_
  refine run_region ?_
  refine run_rd rfl (aload_rd hG rfl rfl rfl (by simp [ldok])) rfl (ltb rfl) ?_
  obtain ⟨r2, hg3, hM⟩ := bind_t hM
  refine run_call rfl rfl rfl (ltb rfl) rfl rfl rfl (fun _ h => absurd h List.not_mem_nil) (s_l01Count_ok n k1 n1 s1 q1 f1 ks1 150 hg3 _ _) (callK_retX (fun v tk4 (hle5 : tk ≤ tk4) h6 => ?_))
  subst h6
  refine run_pu rfl (abin_step rfl rfl rfl rfl (fun _ h => by cases h)) rfl (ltb rfl) ?_
  refine run_pu rfl (move_step (.inr rfl) rfl) rfl (ltb rfl) ?_
  refine run_ops_nil ?_
  refine run_ret_to ?_
  obtain rfl := some_t hM
  refine fin_x hG rfl rfl rfl (v' := .bool (decide (r2 ≥ 0))) (by rfl) ⟨rfl, (show tk ≤ tk4 by omega), _, rfl, rfl⟩

def s_l01High_L1 (rec_s_l01High : T → Option Bool) (x1 : T) : Nat → Int → Option Bool
  | 0, _ => none
  | m + 1, i5 =>
    if i5 < ((x1.kids).length : Int) then
      (idx x1.kids i5).bind fun y7 =>
      (rec_s_l01High y7).bind fun r12 =>
      if r12 = true then
        some true
      else
        s_l01High_L1 rec_s_l01High x1 m (IntKind.i64.wrap (i5 + 1))
    else
      some false

def s_l01High : Nat → T → Option Bool
  | 0, _ => none
  | n + 1, x1 =>
    jn (
      s_l01High_L1 (s_l01High n) x1 n 0) fun j2 =>
    if x1.kind = 5 then
      if x1.n > 100 then
        some true
      else
        j2
    else
      j2

set_option maxRecDepth 100000 in
theorem s_l01High_st (n : Nat) (ih_s_l01High : ∀ (k1 : Int) (n1 : Int) (s1 : ByteArray) (q1 : Nat) (f1 : Bool) (ks1 : List LT) {r : Bool}, s_l01High n (T.mk k1 n1 s1 (ers ks1)) = some r → ∀ (O : Heap) (tk : Nat), ACalls Go.Proofs.Try.prog 170 [.agg [.int .i64 k1, .int .i64 n1, .str s1, .imm q1 4 f1 (cellss ks1)]] O tk (RetX O tk (fun v tk' => v = .bool r))) : ∀ (k1 : Int) (n1 : Int) (s1 : ByteArray) (q1 : Nat) (f1 : Bool) (ks1 : List LT) {r : Bool}, s_l01High (n + 1) (T.mk k1 n1 s1 (ers ks1)) = some r → ∀ (O : Heap) (tk : Nat), ACalls Go.Proofs.Try.prog 170 [.agg [.int .i64 k1, .int .i64 n1, .str s1, .imm q1 4 f1 (cellss ks1)]] O tk (RetX O tk (fun v tk' => v = .bool r)) := by
  intro k1 n1 s1 q1 f1 ks1 r hM O tk
  rw [s_l01High] at hM
  refine acalls_of_run Go.Proofs.Try.func170 rfl rfl [] [] (Bor.nil _) [(0, .agg [.int .i64 k1, .int .i64 n1, .str s1, .imm q1 4 f1 (cellss ks1)])] (.cons (.agg _) (.nil _)) (leb rfl) (fun _ h => by cases h) (fun S0 hO htk hfz => ?_)
  refine run_seq ?_
  refine run_region ?_
  refine run_op rfl (box_step (d := 1) rfl rfl rfl rfl rfl) rfl (ltb rfl) ?_
  refine run_pu rfl (move_step (.inr rfl) rfl) rfl (ltb rfl) ?_
  refine run_ops_nil ?_
  refine run_seq ?_
  refine run_seq ?_
  obtain ⟨j2, hj22, hM⟩ := jn_t hM
  refine run_cutL [.code _, .code _] (fun σ' => ∃ (tkj2 : Nat), tk ≤ tkj2 ∧ j2 = some r ∧ Sub ⟨Go.Proofs.Try.prog, S0, Go.Proofs.Try.f170.ntmps, [], fun _ => False, []⟩ σ' ⟨[(1, .optr (.loc 1) 0 0), (2, .bool false)], [(1, ⟨55, 4, true, [[.int .i64 k1, .int .i64 n1, .str s1, .imm q1 4 f1 (cellss ks1)]]⟩)], [], O, tkj2⟩) rfl ?_ ?_
  · refine run_region ?_
    refine run_pu rfl (fieldAddr_step hG rfl rfl rfl rfl rfl) rfl (ltb rfl) ?_
    refine run_rd rfl (aload_rd hG rfl rfl rfl (by simp [ldok])) rfl (ltb rfl) ?_
    refine run_pu rfl (abin_step rfl rfl rfl rfl (fun _ h => by cases h)) rfl (ltb rfl) ?_
    refine run_pu rfl (move_step (.inl rfl) rfl) rfl (ltb rfl) ?_
    refine run_splitd (i := 7) rfl (fun hb3 => ?_) (fun hb3 => ?_)
    · replace hM := ite_t hb3 hM
      refine run_puG (on_of rfl rfl rfl rfl) (fieldAddr_step hG rfl rfl rfl rfl rfl) rfl (ltb rfl) ?_
      refine run_rdG (on_of rfl rfl rfl rfl) (aload_rd hG rfl rfl rfl (by simp [ldok])) rfl (ltb rfl) ?_
      refine run_puG (on_of rfl rfl rfl rfl) (abin_step rfl rfl rfl rfl (fun _ h => by cases h)) rfl (ltb rfl) ?_
      refine run_pu rfl (pick_step rfl rfl rfl) rfl (ltb rfl) ?_
      refine run_ops_nil ?_
      refine run_ifd rfl rfl (fun hb4 => ?_) (fun hb4 => ?_)
      · replace hM := ite_t hb4 hM
        refine run_seq ?_
        refine run_region ?_
        refine run_pu rfl (move_step (.inr rfl) rfl) rfl (ltb rfl) ?_
        refine run_ops_nil ?_
        refine run_ret_to ?_
        refine cut_ret ?_
        obtain rfl := some_t hM
        refine fin_x hG rfl rfl rfl (v' := .bool true) (by rfl) ⟨rfl, (show tk ≤ tk by omega), _, rfl, rfl⟩
      · replace hM := ite_f hb4 hM
        refine run_skip ?_
        exact ⟨tk, (show tk ≤ tk by omega), hM, Sub.env [(1, .optr (.loc 1) 0 0), (2, .bool false)] ⟨rfl, rfl, trivial⟩⟩
    · replace hM := ite_f hb3 hM
      refine run_off (on_of rfl rfl rfl rfl) rfl (ltb rfl) ?_
      refine run_off (on_of rfl rfl rfl rfl) rfl (ltb rfl) ?_
      refine run_off (on_of rfl rfl rfl rfl) rfl (ltb rfl) ?_
      refine run_pu rfl (pick_step rfl rfl rfl) rfl (ltb rfl) ?_
      refine run_ops_nil ?_
      refine run_if rfl rfl (fun h => by cases h) (fun _ => ?_)
      refine run_skip ?_
      exact ⟨tk, (show tk ≤ tk by omega), hM, Sub.env [(1, .optr (.loc 1) 0 0), (2, .bool false)] ⟨rfl, rfl, trivial⟩⟩
  · clear hM
    rintro σ' ⟨tkj2, hle21, hM, hsub⟩
    rw [hj22] at hM
    clear hj22
    refine run_sub_code hsub ?_
    refine run_seq ?_
    refine run_seq ?_
    refine run_region ?_
    refine run_pu rfl (move_step (.inr rfl) rfl) rfl (ltb rfl) ?_
    refine run_ops_nil ?_
    refine run_block ?_
    refine run_rounds (fun m σ => ∃ (i5 : Int) (tks_l01High_L1 : Nat), tkj2 ≤ tks_l01High_L1 ∧ s_l01High_L1 (s_l01High n) (T.mk k1 n1 s1 (ers ks1)) m i5 = some r ∧ σ = ⟨[(1, .optr (.loc 1) 0 0), (2, .bool false), (3, .int .i64 i5)], [(1, ⟨55, 4, true, [[.int .i64 k1, .int .i64 n1, .str s1, .imm q1 4 f1 (cellss ks1)]]⟩)], [], O, tks_l01High_L1⟩) n (Sub.env [(1, .optr (.loc 1) 0 0), (2, .bool false), (3, .int .i64 0)] ⟨rfl, rfl, rfl, trivial⟩) ⟨0, tkj2, Nat.le_refl _, hM, rfl⟩ (fun m σ hI => ?_)
    clear hM
    obtain ⟨i5, tks_l01High_L1, hle20, hM, rfl⟩ := hI
    obtain _ | m := m
    · exact absurd hM (by rw [s_l01High_L1]; exact fun h => by cases h)
    rw [s_l01High_L1] at hM
    refine run_seq ?_
    refine run_seq ?_
    refine run_region ?_
    refine run_pu rfl (move_step (.inl rfl) rfl) rfl (ltb rfl) ?_
    refine run_pu rfl (fieldAddr_step hG rfl rfl rfl rfl rfl) rfl (ltb rfl) ?_
    refine run_rd rfl (aload_rd hG rfl rfl rfl (by simp [ldok])) rfl (ltb rfl) ?_
    refine run_pu rfl (lenImm_step hG rfl rfl rfl rfl (tlen _)) rfl (ltb rfl) ?_
    refine run_pu rfl (abin_step rfl rfl rfl rfl (fun _ h => by cases h)) rfl (ltb rfl) ?_
    refine run_ops_nil ?_
    refine run_ifd rfl rfl (fun hb6 => ?_) (fun hb6 => ?_)
    · replace hM := ite_t hb6 hM
      refine run_skip ?_
      refine run_seq ?_
      refine run_block ?_
      refine run_seq ?_
      refine run_region ?_
      refine run_pu rfl (fieldAddr_step hG rfl rfl rfl rfl rfl) rfl (ltb rfl) ?_
      refine run_rd rfl (aload_rd hG rfl rfl rfl (by simp [ldok])) rfl (ltb rfl) ?_
      refine run_pu rfl (move_step (.inl rfl) rfl) rfl (ltb rfl) ?_
      obtain ⟨y7, hy8, hM⟩ := bind_t hM
      obtain ⟨k9, n9, s9, q9, f9, ks9, rfl, hc10, hi11⟩ := tidx hy8
      refine run_pu rfl (indexImm_step hG rfl rfl rfl hi11 rfl rfl rfl rfl hc10) rfl (ltb rfl) ?_
      refine run_rd rfl (aload_rd hG rfl rfl rfl (by simp [ldok])) rfl (ltb rfl) ?_
      obtain ⟨r12, hg13, hM⟩ := bind_t hM
      refine run_call rfl rfl rfl (ltb rfl) rfl rfl rfl (fun _ h => absurd h List.not_mem_nil) (ih_s_l01High k9 n9 s9 q9 f9 ks9 hg13 _ _) (callK_retX (fun v tk14 (hle15 : tks_l01High_L1 ≤ tk14) h16 => ?_))
      subst h16
      refine run_ops_nil ?_
      refine run_ifb rfl rfl (fun hb19 => ?_) (fun hb19 => ?_)
      · replace hM := ite_t hb19 hM
        refine run_seq ?_
        refine run_region ?_
        refine run_pu rfl (move_step (.inr rfl) rfl) rfl (ltb rfl) ?_
        refine run_ops_nil ?_
        refine run_ret_to ?_
        obtain rfl := some_t hM
        refine fin_x hG rfl rfl rfl (v' := .bool true) (by rfl) ⟨rfl, (show tk ≤ tk14 by omega), _, rfl, rfl⟩
      · replace hM := ite_f hb19 hM
        refine run_skip ?_
        refine run_blk ?_
        refine run_region ?_
        refine run_pu rfl (move_step (.inl rfl) rfl) rfl (ltb rfl) ?_
        refine run_pu rfl (abin_step rfl rfl rfl rfl (fun _ h => by cases h)) rfl (ltb rfl) ?_
        refine run_pu rfl (move_step (.inr rfl) rfl) rfl (ltb rfl) ?_
        refine run_ops_nil ?_
        exact run_loop_end ⟨m, _, Nat.lt_succ_self _, ⟨(IntKind.i64.wrap (i5 + 1)), tk14, (show tkj2 ≤ tk14 by omega), hM, rfl⟩, Sub.env [(1, .optr (.loc 1) 0 0), (2, .bool false), (3, .int .i64 (IntKind.i64.wrap (i5 + 1)))] ⟨rfl, rfl, rfl, trivial⟩⟩
    · replace hM := ite_f hb6 hM
      refine run_exit_to rfl ?_
      refine run_seq ?_
      refine run_region ?_
      refine run_pu rfl (move_step (.inr rfl) rfl) rfl (ltb rfl) ?_
      refine run_ops_nil ?_
      refine run_ret_to ?_
      obtain rfl := some_t hM
      refine fin_x hG rfl rfl rfl (v' := .bool false) (by rfl) ⟨rfl, (show tk ≤ tks_l01High_L1 by omega), _, rfl, rfl⟩

theorem s_l01High_all : ∀ (n : Nat), (∀ (k1 : Int) (n1 : Int) (s1 : ByteArray) (q1 : Nat) (f1 : Bool) (ks1 : List LT) {r : Bool}, s_l01High n (T.mk k1 n1 s1 (ers ks1)) = some r → ∀ (O : Heap) (tk : Nat), ACalls Go.Proofs.Try.prog 170 [.agg [.int .i64 k1, .int .i64 n1, .str s1, .imm q1 4 f1 (cellss ks1)]] O tk (RetX O tk (fun v tk' => v = .bool r)))
  | 0 => by intro k1 n1 s1 q1 f1 ks1 r hM; rw [s_l01High] at hM; cases hM
  | n + 1 => have ih := s_l01High_all n; s_l01High_st n (ih)

theorem s_l01High_ok (n : Nat) : ∀ (k1 : Int) (n1 : Int) (s1 : ByteArray) (q1 : Nat) (f1 : Bool) (ks1 : List LT) {r : Bool}, s_l01High n (T.mk k1 n1 s1 (ers ks1)) = some r → ∀ (O : Heap) (tk : Nat), ACalls Go.Proofs.Try.prog 170 [.agg [.int .i64 k1, .int .i64 n1, .str s1, .imm q1 4 f1 (cellss ks1)]] O tk (RetX O tk (fun v tk' => v = .bool r)) := s_l01High_all n

def s_l03Big (n : Nat) (x1 : T) : Option Bool :=
  (s_l01Small n x1).bind fun r2 =>
  if (!r2) = true then
    some true
  else
    (s_l01High n x1).bind fun r10 =>
    some r10

set_option maxRecDepth 100000 in
theorem s_l03Big_ok (n : Nat) : ∀ (k1 : Int) (n1 : Int) (s1 : ByteArray) (q1 : Nat) (f1 : Bool) (ks1 : List LT) {r : Bool}, s_l03Big n (T.mk k1 n1 s1 (ers ks1)) = some r → ∀ (O : Heap) (tk : Nat), ACalls Go.Proofs.Try.prog 86 [.agg [.int .i64 k1, .int .i64 n1, .str s1, .imm q1 4 f1 (cellss ks1)]] O tk (RetX O tk (fun v tk' => v = .bool r)) := by
  intro k1 n1 s1 q1 f1 ks1 r hM O tk
  unfold s_l03Big at hM
  refine acalls_of_run Go.Proofs.Try.func86 rfl rfl [] [] (Bor.nil _) [(0, .agg [.int .i64 k1, .int .i64 n1, .str s1, .imm q1 4 f1 (cellss ks1)])] (.cons (.agg _) (.nil _)) (leb rfl) (fun _ h => by cases h) (fun S0 hO htk hfz => ?_)
  refine run_seq ?_
  refine run_region ?_
  refine run_op rfl (box_step (d := 1) rfl rfl rfl rfl rfl) rfl (ltb rfl) ?_
  refine run_pu rfl (move_step (.inr rfl) rfl) rfl (ltb rfl) ?_
  refine run_ops_nil ?_
  refine run_seq ?_
  refine run_region ?_
  refine run_rd rfl (aload_rd hG rfl rfl rfl (by simp [ldok])) rfl (ltb rfl) ?_
  obtain ⟨r2, hg3, hM⟩ := bind_t hM
  refine run_call rfl rfl rfl (ltb rfl) rfl rfl rfl (fun _ h => absurd h List.not_mem_nil) (s_l01Small_ok n k1 n1 s1 q1 f1 ks1 hg3 _ _) (callK_retX (fun v tk4 (hle5 : tk ≤ tk4) h6 => ?_))
  subst h6
  refine run_pu rfl (aun_step rfl rfl rfl) rfl (ltb rfl) ?_
  refine run_pu rfl (move_step (.inl rfl) rfl) rfl (ltb rfl) ?_
  refine run_splitb (i := 6) rfl (fun hb9 => ?_) (fun hb9 => ?_)
  · replace hM := ite_t hb9 hM
    refine run_off (on_of rfl rfl rfl rfl) rfl (ltb rfl) ?_
    refine run_off (on_of rfl rfl rfl rfl) rfl (ltb rfl) ?_
    refine run_pu rfl (pick_step rfl rfl rfl) rfl (ltb rfl) ?_
    refine run_pu rfl (move_step (.inr rfl) rfl) rfl (ltb rfl) ?_
    refine run_ops_nil ?_
    refine run_ret_to ?_
    obtain rfl := some_t hM
    refine fin_x hG rfl rfl rfl (v' := .bool true) (by rfl) ⟨rfl, (show tk ≤ tk4 by omega), _, rfl, rfl⟩
  · replace hM := ite_f hb9 hM
    refine run_rdG (on_of rfl rfl rfl rfl) (aload_rd hG rfl rfl rfl (by simp [ldok])) rfl (ltb rfl) ?_
    obtain ⟨r10, hg11, hM⟩ := bind_t hM
    refine run_callG (on_of rfl rfl rfl rfl) rfl rfl (ltb rfl) rfl rfl rfl (fun _ h => absurd h List.not_mem_nil) (s_l01High_ok n k1 n1 s1 q1 f1 ks1 hg11 _ _) (callK_retX (fun v tk12 (hle13 : tk4 ≤ tk12) h14 => ?_))
    subst h14
    refine run_pu rfl (pick_step rfl rfl rfl) rfl (ltb rfl) ?_
    refine run_pu rfl (move_step (.inr rfl) rfl) rfl (ltb rfl) ?_
    refine run_ops_nil ?_
    refine run_ret_to ?_
    obtain rfl := some_t hM
    refine fin_x hG rfl rfl rfl (v' := .bool r10) (by rfl) ⟨rfl, (show tk ≤ tk12 by omega), _, rfl, rfl⟩

end Go.Am.Ytfjmdfipnmmboaa
