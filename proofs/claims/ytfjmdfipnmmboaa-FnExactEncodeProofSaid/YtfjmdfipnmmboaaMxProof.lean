/- Printed by a program of ours: Lean functions that do what the Go functions do, and the contracts. -/
import Derived.Test.YtfjmdfipnmmboaaMi3
import Derived.Test.YtfjmdfipnmmboaaTypes
import Derived.Test.YtfjmdfipnmmboaaMkProof
import Derived.Test.YtfjmdfipnmmboaaMxB
namespace Go.Am.Ytfjmdfipnmmboaa
open Go Go.Am

set_option maxRecDepth 100000 in
theorem i_variable_ex (i1 : Int) (q2 : Nat) (f2 : Bool) (ks2 : List LT) (O : Heap) (tk : Nat) : ACalls Go.Proofs.Try.prog 172 [.int .i64 i1, .imm q2 4 f2 (cellss ks2)] O tk (RetN O (.agg [.int .i64 5, .int .i64 i1, .str ⟨#[]⟩, .imm q2 4 f2 (cellss ks2)]) tk) := by
  refine acalls_of_run Go.Proofs.Try.func172 rfl rfl [] [] (Bor.nil _) [(0, .int .i64 i1), (1, .imm q2 4 f2 (cellss ks2))] (.cons (entS rfl) (.cons (entS rfl) (.nil _))) (leb rfl) (fun _ h => by cases h) (fun S0 hO htk hfz => ?_)
  refine run_seq ?_
  refine run_region ?_
  refine run_op rfl (alloc_step (d := 4) hG rfl rfl rfl) rfl (ltb rfl) ?_
  refine run_ops_nil ?_
  refine run_seq ?_
  refine run_region ?_
  refine run_pu rfl (move_step (.inl rfl) rfl) rfl (ltb rfl) ?_
  refine run_pu rfl (move_step (.inl rfl) rfl) rfl (ltb rfl) ?_
  refine run_pu rfl (build_step hG rfl (by rfl) rfl (fun h => by cases h) (by rfl)) rfl (ltb rfl) ?_
  refine run_op0 rfl (store_step hG rfl rfl rfl rfl rfl rfl rfl rfl) rfl ?_
  refine run_ops_nil ?_
  refine run_ret_to ?_
  refine fin_x hG rfl rfl rfl (v' := .agg [.int .i64 5, .int .i64 i1, .str ⟨#[]⟩, .imm q2 4 f2 (cellss ks2)]) (by rfl) ⟨rfl, rfl, rfl⟩

set_option maxRecDepth 100000 in
theorem s_l01Var_ex (i1 : Int) (q2 : Nat) (f2 : Bool) (ks2 : List LT) (O : Heap) (tk : Nat) : ACalls Go.Proofs.Try.prog 164 [.int .i64 i1, .imm q2 4 f2 (cellss ks2)] O tk (RetN O (.agg [.int .i64 5, .int .i64 i1, .str ⟨#[]⟩, .imm q2 4 f2 (cellss ks2)]) tk) := by
  refine acalls_of_run Go.Proofs.Try.func164 rfl rfl [] [] (Bor.nil _) [(0, .int .i64 i1), (1, .imm q2 4 f2 (cellss ks2))] (.cons (entS rfl) (.cons (entS rfl) (.nil _))) (leb rfl) (fun _ h => by cases h) (fun S0 hO htk hfz => ?_)
  refine run_seq ?_
  refine run_region ?_
  refine run_op rfl (alloc_step (d := 4) hG rfl rfl rfl) rfl (ltb rfl) ?_
  refine run_ops_nil ?_
  refine run_seq ?_
  refine run_region ?_
  refine run_pu rfl (move_step (.inl rfl) rfl) rfl (ltb rfl) ?_
  refine run_pu rfl (move_step (.inl rfl) rfl) rfl (ltb rfl) ?_
  refine run_pu rfl (build_step hG rfl (by rfl) rfl (fun h => by cases h) (by rfl)) rfl (ltb rfl) ?_
  refine run_op0 rfl (store_step hG rfl rfl rfl rfl rfl rfl rfl rfl) rfl ?_
  refine run_ops_nil ?_
  refine run_ret_to ?_
  refine fin_x hG rfl rfl rfl (v' := .agg [.int .i64 5, .int .i64 i1, .str ⟨#[]⟩, .imm q2 4 f2 (cellss ks2)]) (by rfl) ⟨rfl, rfl, rfl⟩

set_option maxRecDepth 100000 in
theorem i_lam_ex (k1 : Int) (n1 : Int) (s1 : ByteArray) (q1 : Nat) (f1 : Bool) (ks1 : List LT) (O : Heap) (tk : Nat) : ACalls Go.Proofs.Try.prog 176 [.agg [.int .i64 k1, .int .i64 n1, .str s1, .imm q1 4 f1 (cellss ks1)]] O tk (RetN O (.agg [.int .i64 4, .int .i64 0, .str ⟨#[]⟩, .imm tk 4 false (cellss [LT.mk k1 n1 s1 q1 f1 ks1])]) (tk + 1)) := by
  refine acalls_of_run Go.Proofs.Try.func176 rfl rfl [] [] (Bor.nil _) [(0, .agg [.int .i64 k1, .int .i64 n1, .str s1, .imm q1 4 f1 (cellss ks1)])] (.cons (.agg _) (.nil _)) (leb rfl) (fun _ h => by cases h) (fun S0 hO htk hfz => ?_)
  refine run_seq ?_
  refine run_region ?_
  refine run_op rfl (box_step (d := 1) rfl rfl rfl rfl rfl) rfl (ltb rfl) ?_
  refine run_op rfl (alloc_step (d := 2) hG rfl rfl rfl) rfl (ltb rfl) ?_
  refine run_ops_nil ?_
  refine run_seq ?_
  refine run_region ?_
  refine run_rd rfl (aload_rd hG rfl rfl rfl (by simp [ldok])) rfl (ltb rfl) ?_
  refine run_op rfl (buildSlice_step (d := 4) hG rfl rfl rfl rfl rfl (by rfl) (by rfl) (by rfl) (by decide)) rfl (ltb rfl) ?_
  refine run_pu rfl (build_step hG rfl (by rfl) rfl (fun h => by cases h) (by rfl)) rfl (ltb rfl) ?_
  refine run_op0 rfl (store_step hG rfl rfl rfl rfl rfl rfl rfl rfl) rfl ?_
  refine run_ops_nil ?_
  refine run_ret_to ?_
  refine fin_sub (Sub.freeze (k := 4) rfl rfl) ?_
  refine fin_x hG rfl rfl rfl (v' := .agg [.int .i64 4, .int .i64 0, .str ⟨#[]⟩, .imm tk 4 false (cellss [LT.mk k1 n1 s1 q1 f1 ks1])]) (by rfl) ⟨rfl, rfl, rfl⟩

set_option maxRecDepth 100000 in
theorem s_l01Lam_ex (k1 : Int) (n1 : Int) (s1 : ByteArray) (q1 : Nat) (f1 : Bool) (ks1 : List LT) (O : Heap) (tk : Nat) : ACalls Go.Proofs.Try.prog 166 [.agg [.int .i64 k1, .int .i64 n1, .str s1, .imm q1 4 f1 (cellss ks1)]] O tk (RetN O (.agg [.int .i64 4, .int .i64 0, .str ⟨#[]⟩, .imm tk 4 false (cellss [LT.mk k1 n1 s1 q1 f1 ks1])]) (tk + 1)) := by
  refine acalls_of_run Go.Proofs.Try.func166 rfl rfl [] [] (Bor.nil _) [(0, .agg [.int .i64 k1, .int .i64 n1, .str s1, .imm q1 4 f1 (cellss ks1)])] (.cons (.agg _) (.nil _)) (leb rfl) (fun _ h => by cases h) (fun S0 hO htk hfz => ?_)
  refine run_seq ?_
  refine run_region ?_
  refine run_op rfl (box_step (d := 1) rfl rfl rfl rfl rfl) rfl (ltb rfl) ?_
  refine run_op rfl (alloc_step (d := 2) hG rfl rfl rfl) rfl (ltb rfl) ?_
  refine run_ops_nil ?_
  refine run_seq ?_
  refine run_region ?_
  refine run_rd rfl (aload_rd hG rfl rfl rfl (by simp [ldok])) rfl (ltb rfl) ?_
  refine run_op rfl (buildSlice_step (d := 4) hG rfl rfl rfl rfl rfl (by rfl) (by rfl) (by rfl) (by decide)) rfl (ltb rfl) ?_
  refine run_pu rfl (build_step hG rfl (by rfl) rfl (fun h => by cases h) (by rfl)) rfl (ltb rfl) ?_
  refine run_op0 rfl (store_step hG rfl rfl rfl rfl rfl rfl rfl rfl) rfl ?_
  refine run_ops_nil ?_
  refine run_ret_to ?_
  refine fin_sub (Sub.freeze (k := 4) rfl rfl) ?_
  refine fin_x hG rfl rfl rfl (v' := .agg [.int .i64 4, .int .i64 0, .str ⟨#[]⟩, .imm tk 4 false (cellss [LT.mk k1 n1 s1 q1 f1 ks1])]) (by rfl) ⟨rfl, rfl, rfl⟩

def i_proofTerm_L2 (rec_i_proofTerm : Pf → Option T) (x1 : Pf) (t6 : ByteArray) : Nat → Int → List T → Option T
  | 0, _, _ => none
  | m + 1, i38, l39 =>
    if i38 < ((x1.kids).length : Int) then
      (idx x1.kids i38).bind fun y41 =>
      (rec_i_proofTerm y41).bind fun r46 =>
      if x1.kind = 5 then
        chk ((l39).length + ([(T.mk 4 0 ⟨#[]⟩ [r46])]).length ≤ 1099511627776) <|
        i_proofTerm_L2 rec_i_proofTerm x1 t6 m (IntKind.i64.wrap (i38 + 1)) (l39 ++ [(T.mk 4 0 ⟨#[]⟩ [r46])])
      else
        chk ((l39).length + ([r46]).length ≤ 1099511627776) <|
        i_proofTerm_L2 rec_i_proofTerm x1 t6 m (IntKind.i64.wrap (i38 + 1)) (l39 ++ [r46])
    else
      some (T.mk 6 0 t6 l39)

def i_proofTerm_L1 (rec_i_proofTerm : Pf → Option T) (n : Nat) (x1 : Pf) (t6 : ByteArray) : Nat → Int → List T → Option T
  | 0, _, _ => none
  | m + 1, i13, l14 =>
    if i13 < ((x1.forms).length : Int) then
      (idx x1.forms i13).bind fun y16 =>
      (i_formTerm n y16).bind fun r21 =>
      chk ((l14).length + ([r21]).length ≤ 1099511627776) <|
      i_proofTerm_L1 rec_i_proofTerm n x1 t6 m (IntKind.i64.wrap (i13 + 1)) (l14 ++ [r21])
    else
      i_proofTerm_L2 rec_i_proofTerm x1 t6 n 0 l14

def i_proofTerm : Nat → Pf → Option T
  | 0, _ => none
  | n + 1, x1 =>
    if x1.kind = 1 then
      some (T.mk 5 x1.n ⟨#[]⟩ [])
    else
      jn (fun (i4 : Int) (i5 : Int) (t6 : ByteArray) =>
        if 0 < ((x1.forms).length : Int) then
          (idx x1.forms 0).bind fun y58 =>
          (i_formTerm n y58).bind fun r63 =>
          chk ((([] : List T)).length + ([r63]).length ≤ 1099511627776) <|
          i_proofTerm_L1 (i_proofTerm n) n x1 t6 n (IntKind.i64.wrap (0 + 1)) (([] : List T) ++ [r63])
        else
          if 0 < ((x1.kids).length : Int) then
            (idx x1.kids 0).bind fun y99 =>
            (i_proofTerm n y99).bind fun r104 =>
            if x1.kind = 5 then
              chk ((([] : List T)).length + ([(T.mk 4 0 ⟨#[]⟩ [r104])]).length ≤ 1099511627776) <|
              i_proofTerm_L2 (i_proofTerm n) x1 t6 n (IntKind.i64.wrap (0 + 1)) (([] : List T) ++ [(T.mk 4 0 ⟨#[]⟩ [r104])])
            else
              chk ((([] : List T)).length + ([r104]).length ≤ 1099511627776) <|
              i_proofTerm_L2 (i_proofTerm n) x1 t6 n (IntKind.i64.wrap (0 + 1)) (([] : List T) ++ [r104])
          else
            some (T.mk 6 0 t6 [])) fun j3 =>
      if x1.kind = 2 then
        j3 2 2 (⟨#[97, 110, 100, 73]⟩)
      else
        if x1.kind = 3 then
          j3 2 1 (⟨#[102, 115, 116]⟩)
        else
          if x1.kind = 4 then
            j3 2 1 (⟨#[115, 110, 100]⟩)
          else
            if x1.kind = 5 then
              j3 2 1 (⟨#[102, 117, 110, 73]⟩)
            else
              if x1.kind = 6 then
                j3 2 2 (⟨#[117, 115, 101]⟩)
              else
                if x1.kind = 7 then
                  j3 1 1 (⟨#[98, 111, 116, 69]⟩)
                else
                  j3 0 0 (⟨#[]⟩)

set_option maxRecDepth 100000 in
theorem i_proofTerm_st (n : Nat) (ih_i_proofTerm : ∀ (k1 : Int) (n1 : Int) (p1 : Nat) (e1 : Bool) (fs1 : List LF) (q1 : Nat) (f1 : Bool) (ks1 : List LP) {r : T}, i_proofTerm n (Pf.mk k1 n1 (fers fs1) (pers ks1)) = some r → ∀ (O : Heap) (tk : Nat), ACalls Go.Proofs.Try.prog 91 [.agg [.int .i64 k1, .int .i64 n1, .imm p1 3 e1 (fcellss fs1), .imm q1 4 f1 (pcellss ks1)]] O tk (RetX O tk (fun v tk' => VT true tk tk' r v))) : ∀ (k1 : Int) (n1 : Int) (p1 : Nat) (e1 : Bool) (fs1 : List LF) (q1 : Nat) (f1 : Bool) (ks1 : List LP) {r : T}, i_proofTerm (n + 1) (Pf.mk k1 n1 (fers fs1) (pers ks1)) = some r → ∀ (O : Heap) (tk : Nat), ACalls Go.Proofs.Try.prog 91 [.agg [.int .i64 k1, .int .i64 n1, .imm p1 3 e1 (fcellss fs1), .imm q1 4 f1 (pcellss ks1)]] O tk (RetX O tk (fun v tk' => VT true tk tk' r v)) := by
  intro k1 n1 p1 e1 fs1 q1 f1 ks1 r hM O tk
  rw [i_proofTerm] at hM
  refine acalls_of_run Go.Proofs.Try.func91 rfl rfl [] [] (Bor.nil _) [(0, .agg [.int .i64 k1, .int .i64 n1, .imm p1 3 e1 (fcellss fs1), .imm q1 4 f1 (pcellss ks1)])] (.cons (.agg _) (.nil _)) (leb rfl) (fun _ h => by cases h) (fun S0 hO htk hfz => ?_)
  refine run_seq ?_
  refine run_region ?_
  refine run_op rfl (box_step (d := 1) rfl rfl rfl rfl rfl) rfl (ltb rfl) ?_
  refine run_op rfl (alloc_step (d := 2) hG rfl rfl rfl) rfl (ltb rfl) ?_
  refine run_ops_nil ?_
  refine run_seq ?_
  refine run_seq ?_
  refine run_region ?_
  refine run_pu rfl (fieldAddr_step hG rfl rfl rfl rfl rfl) rfl (ltb rfl) ?_
  refine run_rd rfl (aload_rd hG rfl rfl rfl (by simp [ldok])) rfl (ltb rfl) ?_
  refine run_pu rfl (abin_step rfl rfl rfl rfl (fun _ h => by cases h)) rfl (ltb rfl) ?_
  refine run_ops_nil ?_
  refine run_ifd rfl rfl (fun hb2 => ?_) (fun hb2 => ?_)
  · replace hM := ite_t hb2 hM
    refine run_seq ?_
    refine run_region ?_
    refine run_pu rfl (fieldAddr_step hG rfl rfl rfl rfl rfl) rfl (ltb rfl) ?_
    refine run_rd rfl (aload_rd hG rfl rfl rfl (by simp [ldok])) rfl (ltb rfl) ?_
    refine run_call rfl rfl rfl (ltb rfl) rfl rfl rfl (fun _ h => absurd h List.not_mem_nil) (ACalls.args (args' := [.int .i64 n1, .imm 0 4 true (cellss [])]) rfl (i_variable_ex n1 0 true [] _ _)) (callK_retN ?_)
    skip
    refine run_op0 rfl (store_step hG rfl rfl rfl rfl rfl rfl rfl rfl) rfl ?_
    refine run_ops_nil ?_
    refine run_ret_to ?_
    obtain rfl := some_t hM
    refine fin_x hG rfl rfl rfl (v' := .agg [.int .i64 5, .int .i64 n1, .str ⟨#[]⟩, .imm 0 4 true (cellss [])]) (by rfl) ⟨rfl, (show tk ≤ tk by omega), _, rfl, ⟨5, n1, ⟨#[]⟩, 0, true, [], rfl, rfl, fun _ => Fr.nil _ _⟩⟩
  · replace hM := ite_f hb2 hM
    refine run_skip ?_
    refine run_seq ?_
    obtain ⟨j3, hj117, hM⟩ := jn_t hM
    refine run_cutL [.code _] (fun σ' => ∃ (i4 : Int) (i5 : Int) (t6 : ByteArray) (tkj3 : Nat), tk ≤ tkj3 ∧ j3 i4 i5 t6 = some r ∧ Sub ⟨Go.Proofs.Try.prog, S0, Go.Proofs.Try.f91.ntmps, [], fun _ => False, []⟩ σ' ⟨[(1, .optr (.loc 1) 0 0), (2, .optr (.loc 2) 0 0), (3, .optr (.loc 3) 0 0)], [(3, ⟨193, 5, true, [[.int .i64 i4, .int .i64 i5, .str t6, .jnk, .jnk]]⟩), (2, ⟨55, 4, true, [[.int .i64 0, .int .i64 0, .str ⟨#[]⟩, .imm 0 4 true []]]⟩), (1, ⟨61, 4, true, [[.int .i64 k1, .int .i64 n1, .imm p1 3 e1 (fcellss fs1), .imm q1 4 f1 (pcellss ks1)]]⟩)], [], O, tkj3⟩) rfl ?_ ?_
    · refine run_region ?_
      refine run_pu rfl (fieldAddr_step hG rfl rfl rfl rfl rfl) rfl (ltb rfl) ?_
      refine run_rd rfl (aload_rd hG rfl rfl rfl (by simp [ldok])) rfl (ltb rfl) ?_
      by_cases hb7 : k1 = 2
      · replace hM := ite_t hb7 hM
        refine run_call rfl rfl rfl (ltb rfl) rfl rfl rfl (fun _ h => absurd h List.not_mem_nil) (i_ruleOf_ex0 k1 hb7 _ _) (callK_retN ?_)
        refine run_pu rfl (move_step (.inl rfl) rfl) rfl (ltb rfl) ?_
        refine run_pu rfl (extract_step rfl rfl rfl) rfl (ltb rfl) ?_
        refine run_pu rfl (extract_step rfl rfl rfl) rfl (ltb rfl) ?_
        refine run_op rfl (alloc_step (d := 3) hG rfl rfl rfl) rfl (ltb rfl) ?_
        refine run_op0 rfl (store_step hG rfl rfl rfl rfl rfl rfl rfl rfl) rfl ?_
        refine run_pu rfl (move_step (.inr rfl) rfl) rfl (ltb rfl) ?_
        refine run_ops_nil ?_
        exact ⟨2, 2, ⟨#[97, 110, 100, 73]⟩, tk, (show tk ≤ tk by omega), hM, Sub.trans (Sub.jnk (k := 3) rfl (.keep (.keep (.keep (.jnk (.jnk .nil)))))) (Sub.env [(1, .optr (.loc 1) 0 0), (2, .optr (.loc 2) 0 0), (3, .optr (.loc 3) 0 0)] ⟨rfl, rfl, rfl, trivial⟩)⟩
      · replace hM := ite_f hb7 hM
        by_cases hb8 : k1 = 3
        · replace hM := ite_t hb8 hM
          refine run_call rfl rfl rfl (ltb rfl) rfl rfl rfl (fun _ h => absurd h List.not_mem_nil) (i_ruleOf_ex1 k1 hb7 hb8 _ _) (callK_retN ?_)
          refine run_pu rfl (move_step (.inl rfl) rfl) rfl (ltb rfl) ?_
          refine run_pu rfl (extract_step rfl rfl rfl) rfl (ltb rfl) ?_
          refine run_pu rfl (extract_step rfl rfl rfl) rfl (ltb rfl) ?_
          refine run_op rfl (alloc_step (d := 3) hG rfl rfl rfl) rfl (ltb rfl) ?_
          refine run_op0 rfl (store_step hG rfl rfl rfl rfl rfl rfl rfl rfl) rfl ?_
          refine run_pu rfl (move_step (.inr rfl) rfl) rfl (ltb rfl) ?_
          refine run_ops_nil ?_
          exact ⟨2, 1, ⟨#[102, 115, 116]⟩, tk, (show tk ≤ tk by omega), hM, Sub.trans (Sub.jnk (k := 3) rfl (.keep (.keep (.keep (.jnk (.jnk .nil)))))) (Sub.env [(1, .optr (.loc 1) 0 0), (2, .optr (.loc 2) 0 0), (3, .optr (.loc 3) 0 0)] ⟨rfl, rfl, rfl, trivial⟩)⟩
        · replace hM := ite_f hb8 hM
          by_cases hb9 : k1 = 4
          · replace hM := ite_t hb9 hM
            refine run_call rfl rfl rfl (ltb rfl) rfl rfl rfl (fun _ h => absurd h List.not_mem_nil) (i_ruleOf_ex2 k1 hb7 hb8 hb9 _ _) (callK_retN ?_)
            refine run_pu rfl (move_step (.inl rfl) rfl) rfl (ltb rfl) ?_
            refine run_pu rfl (extract_step rfl rfl rfl) rfl (ltb rfl) ?_
            refine run_pu rfl (extract_step rfl rfl rfl) rfl (ltb rfl) ?_
            refine run_op rfl (alloc_step (d := 3) hG rfl rfl rfl) rfl (ltb rfl) ?_
            refine run_op0 rfl (store_step hG rfl rfl rfl rfl rfl rfl rfl rfl) rfl ?_
            refine run_pu rfl (move_step (.inr rfl) rfl) rfl (ltb rfl) ?_
            refine run_ops_nil ?_
            exact ⟨2, 1, ⟨#[115, 110, 100]⟩, tk, (show tk ≤ tk by omega), hM, Sub.trans (Sub.jnk (k := 3) rfl (.keep (.keep (.keep (.jnk (.jnk .nil)))))) (Sub.env [(1, .optr (.loc 1) 0 0), (2, .optr (.loc 2) 0 0), (3, .optr (.loc 3) 0 0)] ⟨rfl, rfl, rfl, trivial⟩)⟩
          · replace hM := ite_f hb9 hM
            by_cases hb10 : k1 = 5
            · replace hM := ite_t hb10 hM
              refine run_call rfl rfl rfl (ltb rfl) rfl rfl rfl (fun _ h => absurd h List.not_mem_nil) (i_ruleOf_ex3 k1 hb7 hb8 hb9 hb10 _ _) (callK_retN ?_)
              refine run_pu rfl (move_step (.inl rfl) rfl) rfl (ltb rfl) ?_
              refine run_pu rfl (extract_step rfl rfl rfl) rfl (ltb rfl) ?_
              refine run_pu rfl (extract_step rfl rfl rfl) rfl (ltb rfl) ?_
              refine run_op rfl (alloc_step (d := 3) hG rfl rfl rfl) rfl (ltb rfl) ?_
              refine run_op0 rfl (store_step hG rfl rfl rfl rfl rfl rfl rfl rfl) rfl ?_
              refine run_pu rfl (move_step (.inr rfl) rfl) rfl (ltb rfl) ?_
              refine run_ops_nil ?_
              exact ⟨2, 1, ⟨#[102, 117, 110, 73]⟩, tk, (show tk ≤ tk by omega), hM, Sub.trans (Sub.jnk (k := 3) rfl (.keep (.keep (.keep (.jnk (.jnk .nil)))))) (Sub.env [(1, .optr (.loc 1) 0 0), (2, .optr (.loc 2) 0 0), (3, .optr (.loc 3) 0 0)] ⟨rfl, rfl, rfl, trivial⟩)⟩
            · replace hM := ite_f hb10 hM
              by_cases hb11 : k1 = 6
              · replace hM := ite_t hb11 hM
                refine run_call rfl rfl rfl (ltb rfl) rfl rfl rfl (fun _ h => absurd h List.not_mem_nil) (i_ruleOf_ex4 k1 hb7 hb8 hb9 hb10 hb11 _ _) (callK_retN ?_)
                refine run_pu rfl (move_step (.inl rfl) rfl) rfl (ltb rfl) ?_
                refine run_pu rfl (extract_step rfl rfl rfl) rfl (ltb rfl) ?_
                refine run_pu rfl (extract_step rfl rfl rfl) rfl (ltb rfl) ?_
                refine run_op rfl (alloc_step (d := 3) hG rfl rfl rfl) rfl (ltb rfl) ?_
                refine run_op0 rfl (store_step hG rfl rfl rfl rfl rfl rfl rfl rfl) rfl ?_
                refine run_pu rfl (move_step (.inr rfl) rfl) rfl (ltb rfl) ?_
                refine run_ops_nil ?_
                exact ⟨2, 2, ⟨#[117, 115, 101]⟩, tk, (show tk ≤ tk by omega), hM, Sub.trans (Sub.jnk (k := 3) rfl (.keep (.keep (.keep (.jnk (.jnk .nil)))))) (Sub.env [(1, .optr (.loc 1) 0 0), (2, .optr (.loc 2) 0 0), (3, .optr (.loc 3) 0 0)] ⟨rfl, rfl, rfl, trivial⟩)⟩
              · replace hM := ite_f hb11 hM
                by_cases hb12 : k1 = 7
                · replace hM := ite_t hb12 hM
                  refine run_call rfl rfl rfl (ltb rfl) rfl rfl rfl (fun _ h => absurd h List.not_mem_nil) (i_ruleOf_ex5 k1 hb7 hb8 hb9 hb10 hb11 hb12 _ _) (callK_retN ?_)
                  refine run_pu rfl (move_step (.inl rfl) rfl) rfl (ltb rfl) ?_
                  refine run_pu rfl (extract_step rfl rfl rfl) rfl (ltb rfl) ?_
                  refine run_pu rfl (extract_step rfl rfl rfl) rfl (ltb rfl) ?_
                  refine run_op rfl (alloc_step (d := 3) hG rfl rfl rfl) rfl (ltb rfl) ?_
                  refine run_op0 rfl (store_step hG rfl rfl rfl rfl rfl rfl rfl rfl) rfl ?_
                  refine run_pu rfl (move_step (.inr rfl) rfl) rfl (ltb rfl) ?_
                  refine run_ops_nil ?_
                  exact ⟨1, 1, ⟨#[98, 111, 116, 69]⟩, tk, (show tk ≤ tk by omega), hM, Sub.trans (Sub.jnk (k := 3) rfl (.keep (.keep (.keep (.jnk (.jnk .nil)))))) (Sub.env [(1, .optr (.loc 1) 0 0), (2, .optr (.loc 2) 0 0), (3, .optr (.loc 3) 0 0)] ⟨rfl, rfl, rfl, trivial⟩)⟩
                · replace hM := ite_f hb12 hM
                  refine run_call rfl rfl rfl (ltb rfl) rfl rfl rfl (fun _ h => absurd h List.not_mem_nil) (i_ruleOf_ex6 k1 hb7 hb8 hb9 hb10 hb11 hb12 _ _) (callK_retN ?_)
                  refine run_pu rfl (move_step (.inl rfl) rfl) rfl (ltb rfl) ?_
                  refine run_pu rfl (extract_step rfl rfl rfl) rfl (ltb rfl) ?_
                  refine run_pu rfl (extract_step rfl rfl rfl) rfl (ltb rfl) ?_
                  refine run_op rfl (alloc_step (d := 3) hG rfl rfl rfl) rfl (ltb rfl) ?_
                  refine run_op0 rfl (store_step hG rfl rfl rfl rfl rfl rfl rfl rfl) rfl ?_
                  refine run_pu rfl (move_step (.inr rfl) rfl) rfl (ltb rfl) ?_
                  refine run_ops_nil ?_
                  exact ⟨0, 0, ⟨#[]⟩, tk, (show tk ≤ tk by omega), hM, Sub.trans (Sub.jnk (k := 3) rfl (.keep (.keep (.keep (.jnk (.jnk .nil)))))) (Sub.env [(1, .optr (.loc 1) 0 0), (2, .optr (.loc 2) 0 0), (3, .optr (.loc 3) 0 0)] ⟨rfl, rfl, rfl, trivial⟩)⟩
    · clear hM
      rintro σ' ⟨i4, i5, t6, tkj3, hle116, hM, hsub⟩
      rw [hj117] at hM
      clear hj117
      refine run_sub_code hsub ?_
      refine run_seq ?_
      refine run_region ?_
      refine run_pu rfl (fieldAddr_step hG rfl rfl rfl rfl rfl) rfl (ltb rfl) ?_
      refine run_rd rfl (aload_rd hG rfl rfl rfl (by simp [ldok])) rfl (ltb rfl) ?_
      refine run_call rfl rfl rfl (ltb rfl) rfl rfl rfl (fun _ h => absurd h List.not_mem_nil) (ACalls.args (args' := [.str t6, .imm 0 4 true (cellss [])]) rfl (i_constant_ex t6 0 true [] _ _)) (callK_retN ?_)
      skip
      refine run_op rfl (alloc_step (d := 5) hG rfl rfl rfl) rfl (ltb rfl) ?_
      refine run_op0 rfl (store_step hG rfl rfl rfl rfl rfl rfl rfl rfl) rfl ?_
      refine run_ops_nil ?_
      refine run_seq ?_
      refine run_seq ?_
      refine run_region ?_
      refine run_pu rfl (fieldAddr_step hG rfl rfl rfl rfl rfl) rfl (ltb rfl) ?_
      refine run_rd rfl (aload_rd hG rfl rfl rfl (by simp [ldok])) rfl (ltb rfl) ?_
      refine run_pu rfl (lenImm_step hG rfl rfl rfl rfl (flen _)) rfl (ltb rfl) ?_
      refine run_pu rfl (move_step (.inl rfl) rfl) rfl (ltb rfl) ?_
      refine run_ops_nil ?_
      refine run_block ?_
      refine run_peel (fun m σ => ∃ (i13 : Int) (ks14 : List LT) (tki_proofTerm_L1 : Nat), tkj3 ≤ tki_proofTerm_L1 ∧ Fr tkj3 tki_proofTerm_L1 (ttoks ks14) ∧ i_proofTerm_L1 (i_proofTerm n) n (Pf.mk k1 n1 (fers fs1) (pers ks1)) t6 m i13 (ers ks14) = some r ∧ σ = ⟨[(1, .optr (.loc 1) 0 0), (2, .optr (.loc 2) 0 0), (5, .optr (.loc 5) 0 0), (27, .imm p1 3 e1 (fcellss fs1)), (28, .int .i64 (((fers fs1)).length : Int)), (29, .int .i64 i13)], [(38, ⟨55, 4, false, cellss ks14⟩), (5, ⟨55, 4, true, [[.int .i64 6, .int .i64 0, .str t6, .osl (.loc 38)]]⟩), (2, ⟨55, 4, true, [[.int .i64 0, .int .i64 0, .str ⟨#[]⟩, .imm 0 4 true []]]⟩), (1, ⟨61, 4, true, [[.int .i64 k1, .int .i64 n1, .imm p1 3 e1 (fcellss fs1), .imm q1 4 f1 (pcellss ks1)]]⟩)], [], O, tki_proofTerm_L1⟩) n ?_ (fun m σ hI => ?_)
      · refine run_seq ?_
        refine run_region ?_
        refine run_pu rfl (abin_step rfl rfl rfl rfl (fun _ h => by cases h)) rfl (ltb rfl) ?_
        refine run_ops_nil ?_
        refine run_seq ?_
        refine run_ifd rfl rfl (fun hb57 => ?_) (fun hb57 => ?_)
        · replace hM := ite_t hb57 hM
          refine run_skip ?_
          refine run_seq ?_
          refine run_block ?_
          refine run_seq ?_
          refine run_region ?_
          obtain ⟨y58, hy59, hM⟩ := bind_t hM
          obtain ⟨k60, n60, q60, f60, ks60, rfl, hc61, hi62⟩ := fidx hy59
          refine run_pu rfl (indexImm_step hG rfl rfl rfl hi62 rfl rfl rfl rfl hc61) rfl (ltb rfl) ?_
          refine run_rd rfl (aload_rd hG rfl rfl rfl (by simp [ldok])) rfl (ltb rfl) ?_
          refine run_op rfl (alloc_step (d := 7) hG rfl rfl rfl) rfl (ltb rfl) ?_
          refine run_op0 rfl (store_step hG rfl rfl rfl rfl rfl rfl rfl rfl) rfl ?_
          refine run_ops_nil ?_
          refine run_sub_code (σ' := ⟨[(1, .optr (.loc 1) 0 0), (2, .optr (.loc 2) 0 0), (5, .optr (.loc 5) 0 0), (27, .imm p1 3 e1 (fcellss fs1)), (28, .int .i64 (((fers fs1)).length : Int)), (29, .int .i64 0), (7, .optr (.loc 7) 0 0)], [(7, ⟨72, 3, true, [[.int .i64 k60, .int .i64 n60, .imm q60 3 f60 (fcellss ks60)]]⟩), (5, ⟨55, 4, true, [[.int .i64 6, .int .i64 0, .str t6, .imm 0 4 true (cellss [])]]⟩), (2, ⟨55, 4, true, [[.int .i64 0, .int .i64 0, .str ⟨#[]⟩, .imm 0 4 true []]]⟩), (1, ⟨61, 4, true, [[.int .i64 k1, .int .i64 n1, .imm p1 3 e1 (fcellss fs1), .imm q1 4 f1 (pcellss ks1)]]⟩)], [], O, tkj3⟩) (Sub.trans (Sub.drop (k := 3) rfl) (Sub.env [(1, .optr (.loc 1) 0 0), (2, .optr (.loc 2) 0 0), (5, .optr (.loc 5) 0 0), (27, .imm p1 3 e1 (fcellss fs1)), (28, .int .i64 (((fers fs1)).length : Int)), (29, .int .i64 0), (7, .optr (.loc 7) 0 0)] ⟨rfl, rfl, rfl, rfl, rfl, rfl, rfl, trivial⟩)) ?_
          refine run_draw [.loc 5] (n := 8) mixed rfl (by intro x hx; simp only [List.mem_cons, List.not_mem_nil, or_false] at hx; rcases hx with rfl <;> rfl) ?_
          refine AAny.take (i := 0) rfl (by kernel_rfl) (by kernel_rfl) (by kernel_rfl) rfl rfl (ltb rfl) ((fieldAddr_step hG rfl rfl rfl rfl rfl).rd _) ?_
          refine AAny.take (i := 2) rfl (by kernel_rfl) (by kernel_rfl) (by kernel_rfl) rfl rfl (ltb rfl) (aload_rd hG rfl rfl rfl (by simp [ldok])) ?_
          refine AAny.each (rs := [1, 3]) (by kernel_rfl) (fun h => by cases h) (fun i hi => ?_)
          simp only [List.mem_cons, List.not_mem_nil, or_false] at hi
          rcases hi with rfl | rfl
          · refine AOp.rd rfl rfl rfl (ltb rfl) (aload_rd hG rfl rfl rfl (by simp [ldok])) ?_
            obtain ⟨r63, hg64, hM⟩ := bind_t hM
            refine AAny.one (i := 3) (by kernel_rfl) (AOp.call rfl rfl rfl rfl (ltb rfl) rfl rfl rfl (fun _ h => absurd h List.not_mem_nil) (fun _ h => absurd h List.not_mem_nil) (i_formTerm_ok n k60 n60 q60 f60 ks60 hg64 _ _) (callK_retX (fun v tk65 (hle66 : tkj3 ≤ tk65) h67 => ?_)))
            obtain ⟨k68, n68, s68, q68, f68, ks68, rfl, rfl, hf69⟩ := h67
            refine AAny.one (i := 4) (by kernel_rfl) (AOp.step rfl rfl rfl (ltb rfl) (buildSlice_step (d := 37) hG rfl rfl rfl rfl rfl (by rfl) (by rfl) (by rfl) (by decide)) (fun _ h => absurd h List.not_mem_nil) ?_)
            obtain ⟨hc70, hM⟩ := chk_t hM
            try rw [show ((ers ([] : List LT)) ++ [(T.mk k68 n68 s68 (ers ks68))] : List T) = (ers (([] : List LT) ++ [LT.mk k68 n68 s68 q68 f68 ks68])) from ers_app ([] : List LT) [LT.mk k68 n68 s68 q68 f68 ks68]] at hM
            refine AAny.one (i := 5) (by kernel_rfl) (AOp.step rfl rfl rfl (ltb rfl) (appendFM_step (d := 38) hG rfl rfl rfl rfl rfl rfl rfl (cellss_sz ([] : List LT)) rfl (cellss_sz ([LT.mk k68 n68 s68 q68 f68 ks68])) (tlen ([] : List LT)) (tlen ([LT.mk k68 n68 s68 q68 f68 ks68])) (by simp [ers]) hc70 (by decide) (cellss_app _ _)) (fun _ h => absurd h List.not_mem_nil) ?_)
            refine AAny.take (i := 6) rfl (by kernel_rfl) (by kernel_rfl) (by kernel_rfl) rfl rfl (ltb rfl) ((fieldAddr_step hG rfl rfl rfl rfl rfl).rd _) ?_
            refine AAny.one (i := 7) (by kernel_rfl) (AOp.step0 rfl rfl rfl (store_step hG rfl rfl rfl rfl rfl rfl rfl rfl) (by intro x hx; exact hx) ?_)
            refine AAny.done (by kernel_rfl) ?_
            refine run_blk ?_
            refine run_region ?_
            refine run_pu rfl (abin_step rfl rfl rfl rfl (fun _ h => by cases h)) rfl (ltb rfl) ?_
            refine run_pu rfl (move_step (.inl rfl) rfl) rfl (ltb rfl) ?_
            refine run_ops_nil ?_
            exact run_loop_end ⟨n, _, Nat.le_refl _, ⟨(IntKind.i64.wrap (0 + 1)), (([] : List LT) ++ [LT.mk k68 n68 s68 q68 f68 ks68]), tk65, (show tkj3 ≤ tk65 by omega), (show Fr tkj3 tk65 _ from (Fr.tcons ((show Fr tkj3 tk65 _ from hf69 rfl)) (show Fr tk65 tk65 _ from Fr.nil _ _) (by omega) (by omega)).mono (by omega) (by omega)), hM, rfl⟩, Sub.trans (Sub.drop (k := 37) rfl) (Sub.trans (Sub.drop (k := 7) rfl) (Sub.env [(1, .optr (.loc 1) 0 0), (2, .optr (.loc 2) 0 0), (5, .optr (.loc 5) 0 0), (27, .imm p1 3 e1 (fcellss fs1)), (28, .int .i64 (((fers fs1)).length : Int)), (29, .int .i64 (IntKind.i64.wrap (0 + 1)))] ⟨rfl, rfl, rfl, rfl, rfl, rfl, trivial⟩))⟩
          · obtain ⟨r71, hg72, hM⟩ := bind_t hM
            refine AOp.call rfl rfl rfl rfl (ltb rfl) rfl rfl rfl (fun _ h => absurd h List.not_mem_nil) (fun _ h => absurd h List.not_mem_nil) (i_formTerm_ok n k60 n60 q60 f60 ks60 hg72 _ _) (callK_retX (fun v tk73 (hle74 : tkj3 ≤ tk73) h75 => ?_))
            obtain ⟨k76, n76, s76, q76, f76, ks76, rfl, rfl, hf77⟩ := h75
            refine AAny.each (rs := [1, 4]) (by kernel_rfl) (fun h => by cases h) (fun i hi => ?_)
            simp only [List.mem_cons, List.not_mem_nil, or_false] at hi
            rcases hi with rfl | rfl
            · refine AOp.rd rfl rfl rfl (ltb rfl) (aload_rd hG rfl rfl rfl (by simp [ldok])) ?_
              refine AAny.one (i := 4) (by kernel_rfl) (AOp.step rfl rfl rfl (ltb rfl) (buildSlice_step (d := 37) hG rfl rfl rfl rfl rfl (by rfl) (by rfl) (by rfl) (by decide)) (fun _ h => absurd h List.not_mem_nil) ?_)
              obtain ⟨hc78, hM⟩ := chk_t hM
              try rw [show ((ers ([] : List LT)) ++ [(T.mk k76 n76 s76 (ers ks76))] : List T) = (ers (([] : List LT) ++ [LT.mk k76 n76 s76 q76 f76 ks76])) from ers_app ([] : List LT) [LT.mk k76 n76 s76 q76 f76 ks76]] at hM
              refine AAny.one (i := 5) (by kernel_rfl) (AOp.step rfl rfl rfl (ltb rfl) (appendFM_step (d := 38) hG rfl rfl rfl rfl rfl rfl rfl (cellss_sz ([] : List LT)) rfl (cellss_sz ([LT.mk k76 n76 s76 q76 f76 ks76])) (tlen ([] : List LT)) (tlen ([LT.mk k76 n76 s76 q76 f76 ks76])) (by simp [ers]) hc78 (by decide) (cellss_app _ _)) (fun _ h => absurd h List.not_mem_nil) ?_)
              refine AAny.take (i := 6) rfl (by kernel_rfl) (by kernel_rfl) (by kernel_rfl) rfl rfl (ltb rfl) ((fieldAddr_step hG rfl rfl rfl rfl rfl).rd _) ?_
              refine AAny.one (i := 7) (by kernel_rfl) (AOp.step0 rfl rfl rfl (store_step hG rfl rfl rfl rfl rfl rfl rfl rfl) (by intro x hx; exact hx) ?_)
              refine AAny.done (by kernel_rfl) ?_
              refine run_blk ?_
              refine run_region ?_
              refine run_pu rfl (abin_step rfl rfl rfl rfl (fun _ h => by cases h)) rfl (ltb rfl) ?_
              refine run_pu rfl (move_step (.inl rfl) rfl) rfl (ltb rfl) ?_
              refine run_ops_nil ?_
              exact run_loop_end ⟨n, _, Nat.le_refl _, ⟨(IntKind.i64.wrap (0 + 1)), (([] : List LT) ++ [LT.mk k76 n76 s76 q76 f76 ks76]), tk73, (show tkj3 ≤ tk73 by omega), (show Fr tkj3 tk73 _ from (Fr.tcons ((show Fr tkj3 tk73 _ from hf77 rfl)) (show Fr tk73 tk73 _ from Fr.nil _ _) (by omega) (by omega)).mono (by omega) (by omega)), hM, rfl⟩, Sub.trans (Sub.drop (k := 37) rfl) (Sub.trans (Sub.drop (k := 7) rfl) (Sub.env [(1, .optr (.loc 1) 0 0), (2, .optr (.loc 2) 0 0), (5, .optr (.loc 5) 0 0), (27, .imm p1 3 e1 (fcellss fs1)), (28, .int .i64 (((fers fs1)).length : Int)), (29, .int .i64 (IntKind.i64.wrap (0 + 1)))] ⟨rfl, rfl, rfl, rfl, rfl, rfl, trivial⟩))⟩
            · refine AOp.step rfl rfl rfl (ltb rfl) (buildSlice_step (d := 37) hG rfl rfl rfl rfl rfl (by rfl) (by rfl) (by rfl) (by decide)) (fun _ h => absurd h List.not_mem_nil) ?_
              refine AAny.one (i := 1) (by kernel_rfl) (AOp.rd rfl rfl rfl (ltb rfl) (aload_rd hG rfl rfl rfl (by simp [ldok])) ?_)
              obtain ⟨hc79, hM⟩ := chk_t hM
              try rw [show ((ers ([] : List LT)) ++ [(T.mk k76 n76 s76 (ers ks76))] : List T) = (ers (([] : List LT) ++ [LT.mk k76 n76 s76 q76 f76 ks76])) from ers_app ([] : List LT) [LT.mk k76 n76 s76 q76 f76 ks76]] at hM
              refine AAny.one (i := 5) (by kernel_rfl) (AOp.step rfl rfl rfl (ltb rfl) (appendFM_step (d := 38) hG rfl rfl rfl rfl rfl rfl rfl (cellss_sz ([] : List LT)) rfl (cellss_sz ([LT.mk k76 n76 s76 q76 f76 ks76])) (tlen ([] : List LT)) (tlen ([LT.mk k76 n76 s76 q76 f76 ks76])) (by simp [ers]) hc79 (by decide) (cellss_app _ _)) (fun _ h => absurd h List.not_mem_nil) ?_)
              refine AAny.take (i := 6) rfl (by kernel_rfl) (by kernel_rfl) (by kernel_rfl) rfl rfl (ltb rfl) ((fieldAddr_step hG rfl rfl rfl rfl rfl).rd _) ?_
              refine AAny.one (i := 7) (by kernel_rfl) (AOp.step0 rfl rfl rfl (store_step hG rfl rfl rfl rfl rfl rfl rfl rfl) (by intro x hx; exact hx) ?_)
              refine AAny.done (by kernel_rfl) ?_
              refine run_blk ?_
              refine run_region ?_
              refine run_pu rfl (abin_step rfl rfl rfl rfl (fun _ h => by cases h)) rfl (ltb rfl) ?_
              refine run_pu rfl (move_step (.inl rfl) rfl) rfl (ltb rfl) ?_
              refine run_ops_nil ?_
              exact run_loop_end ⟨n, _, Nat.le_refl _, ⟨(IntKind.i64.wrap (0 + 1)), (([] : List LT) ++ [LT.mk k76 n76 s76 q76 f76 ks76]), tk73, (show tkj3 ≤ tk73 by omega), (show Fr tkj3 tk73 _ from (Fr.tcons ((show Fr tkj3 tk73 _ from hf77 rfl)) (show Fr tk73 tk73 _ from Fr.nil _ _) (by omega) (by omega)).mono (by omega) (by omega)), hM, rfl⟩, Sub.trans (Sub.drop (k := 37) rfl) (Sub.trans (Sub.drop (k := 7) rfl) (Sub.env [(1, .optr (.loc 1) 0 0), (2, .optr (.loc 2) 0 0), (5, .optr (.loc 5) 0 0), (27, .imm p1 3 e1 (fcellss fs1)), (28, .int .i64 (((fers fs1)).length : Int)), (29, .int .i64 (IntKind.i64.wrap (0 + 1)))] ⟨rfl, rfl, rfl, rfl, rfl, rfl, trivial⟩))⟩
        · replace hM := ite_f hb57 hM
          refine run_exit_to rfl ?_
          refine run_seq ?_
          refine run_seq ?_
          refine run_region ?_
          refine run_pu rfl (fieldAddr_step hG rfl rfl rfl rfl rfl) rfl (ltb rfl) ?_
          refine run_rd rfl (aload_rd hG rfl rfl rfl (by simp [ldok])) rfl (ltb rfl) ?_
          refine run_pu rfl (lenImm_step hG rfl rfl rfl rfl (plen _)) rfl (ltb rfl) ?_
          refine run_pu rfl (move_step (.inl rfl) rfl) rfl (ltb rfl) ?_
          refine run_ops_nil ?_
          refine run_block ?_
          refine run_sub_code (σ' := ⟨[(1, .optr (.loc 1) 0 0), (2, .optr (.loc 2) 0 0), (5, .optr (.loc 5) 0 0), (42, .imm q1 4 f1 (pcellss ks1)), (43, .int .i64 (((pers ks1)).length : Int)), (44, .int .i64 0)], [(5, ⟨55, 4, true, [[.int .i64 6, .int .i64 0, .str t6, .imm 0 4 true (cellss [])]]⟩), (2, ⟨55, 4, true, [[.int .i64 0, .int .i64 0, .str ⟨#[]⟩, .imm 0 4 true []]]⟩), (1, ⟨61, 4, true, [[.int .i64 k1, .int .i64 n1, .imm p1 3 e1 (fcellss fs1), .imm q1 4 f1 (pcellss ks1)]]⟩)], [], O, tkj3⟩) (Sub.trans (Sub.drop (k := 3) rfl) (Sub.env [(1, .optr (.loc 1) 0 0), (2, .optr (.loc 2) 0 0), (5, .optr (.loc 5) 0 0), (42, .imm q1 4 f1 (pcellss ks1)), (43, .int .i64 (((pers ks1)).length : Int)), (44, .int .i64 0)] ⟨rfl, rfl, rfl, rfl, rfl, rfl, trivial⟩)) ?_
          refine run_peel (fun m σ => ∃ (i80 : Int) (ks81 : List LT) (tki_proofTerm_L3 : Nat), tkj3 ≤ tki_proofTerm_L3 ∧ Fr tkj3 tki_proofTerm_L3 (ttoks ks81) ∧ i_proofTerm_L2 (i_proofTerm n) (Pf.mk k1 n1 (fers fs1) (pers ks1)) t6 m i80 (ers ks81) = some r ∧ σ = ⟨[(1, .optr (.loc 1) 0 0), (2, .optr (.loc 2) 0 0), (5, .optr (.loc 5) 0 0), (42, .imm q1 4 f1 (pcellss ks1)), (43, .int .i64 (((pers ks1)).length : Int)), (44, .int .i64 i80)], [(59, ⟨55, 4, false, cellss ks81⟩), (5, ⟨55, 4, true, [[.int .i64 6, .int .i64 0, .str t6, .osl (.loc 59)]]⟩), (2, ⟨55, 4, true, [[.int .i64 0, .int .i64 0, .str ⟨#[]⟩, .imm 0 4 true []]]⟩), (1, ⟨61, 4, true, [[.int .i64 k1, .int .i64 n1, .imm p1 3 e1 (fcellss fs1), .imm q1 4 f1 (pcellss ks1)]]⟩)], [], O, tki_proofTerm_L3⟩) n ?_ (fun m σ hI => ?_)
          · refine run_seq ?_
            refine run_region ?_
            refine run_pu rfl (abin_step rfl rfl rfl rfl (fun _ h => by cases h)) rfl (ltb rfl) ?_
            refine run_ops_nil ?_
            refine run_seq ?_
            refine run_ifd rfl rfl (fun hb98 => ?_) (fun hb98 => ?_)
            · replace hM := ite_t hb98 hM
              refine run_skip ?_
              refine run_seq ?_
              refine run_block ?_
              refine run_seq ?_
              refine run_region ?_
              obtain ⟨y99, hy100, hM⟩ := bind_t hM
              obtain ⟨k101, n101, p101, e101, fs101, q101, f101, ks101, rfl, hc102, hi103⟩ := pidx hy100
              refine run_pu rfl (indexImm_step hG rfl rfl rfl hi103 rfl rfl rfl rfl hc102) rfl (ltb rfl) ?_
              refine run_rd rfl (aload_rd hG rfl rfl rfl (by simp [ldok])) rfl (ltb rfl) ?_
              refine run_op rfl (alloc_step (d := 9) hG rfl rfl rfl) rfl (ltb rfl) ?_
              refine run_op0 rfl (store_step hG rfl rfl rfl rfl rfl rfl rfl rfl) rfl ?_
              refine run_ops_nil ?_
              refine run_seq ?_
              refine run_region ?_
              refine run_rd rfl (aload_rd hG rfl rfl rfl (by simp [ldok])) rfl (ltb rfl) ?_
              obtain ⟨r104, hg105, hM⟩ := bind_t hM
              refine run_call rfl rfl rfl (ltb rfl) rfl rfl rfl (fun _ h => absurd h List.not_mem_nil) (ih_i_proofTerm k101 n101 p101 e101 fs101 q101 f101 ks101 hg105 _ _) (callK_retX (fun v tk106 (hle107 : tkj3 ≤ tk106) h108 => ?_))
              obtain ⟨k109, n109, s109, q109, f109, ks109, rfl, rfl, hf110⟩ := h108
              refine run_op rfl (alloc_step (d := 10) hG rfl rfl rfl) rfl (ltb rfl) ?_
              refine run_op0 rfl (store_step hG rfl rfl rfl rfl rfl rfl rfl rfl) rfl ?_
              refine run_ops_nil ?_
              refine run_seq ?_
              refine run_seq ?_
              refine run_region ?_
              refine run_pu rfl (fieldAddr_step hG rfl rfl rfl rfl rfl) rfl (ltb rfl) ?_
              refine run_rd rfl (aload_rd hG rfl rfl rfl (by simp [ldok])) rfl (ltb rfl) ?_
              refine run_pu rfl (abin_step rfl rfl rfl rfl (fun _ h => by cases h)) rfl (ltb rfl) ?_
              refine run_ops_nil ?_
              refine run_ifd rfl rfl (fun hb111 => ?_) (fun hb111 => ?_)
              · replace hM := ite_t hb111 hM
                refine run_region ?_
                refine run_rd rfl (aload_rd hG rfl rfl rfl (by simp [ldok])) rfl (ltb rfl) ?_
                refine run_call rfl rfl rfl (ltb rfl) rfl rfl rfl (fun _ h => absurd h List.not_mem_nil) (i_lam_ex k109 n109 s109 q109 f109 ks109 _ _) (callK_retN ?_)
                skip
                refine run_op0 rfl (store_step hG rfl rfl rfl rfl rfl rfl rfl rfl) rfl ?_
                refine run_ops_nil ?_
                refine run_sub_code (σ' := ⟨[(1, .optr (.loc 1) 0 0), (2, .optr (.loc 2) 0 0), (5, .optr (.loc 5) 0 0), (42, .imm q1 4 f1 (pcellss ks1)), (43, .int .i64 (((pers ks1)).length : Int)), (44, .int .i64 0), (10, .optr (.loc 10) 0 0)], [(10, ⟨55, 4, true, [[.int .i64 4, .int .i64 0, .str ⟨#[]⟩, .imm tk106 4 false (cellss [LT.mk k109 n109 s109 q109 f109 ks109])]]⟩), (5, ⟨55, 4, true, [[.int .i64 6, .int .i64 0, .str t6, .imm 0 4 true (cellss [])]]⟩), (2, ⟨55, 4, true, [[.int .i64 0, .int .i64 0, .str ⟨#[]⟩, .imm 0 4 true []]]⟩), (1, ⟨61, 4, true, [[.int .i64 k1, .int .i64 n1, .imm p1 3 e1 (fcellss fs1), .imm q1 4 f1 (pcellss ks1)]]⟩)], [], O, (tk106 + 1)⟩) (Sub.trans (Sub.drop (k := 9) rfl) (Sub.env [(1, .optr (.loc 1) 0 0), (2, .optr (.loc 2) 0 0), (5, .optr (.loc 5) 0 0), (42, .imm q1 4 f1 (pcellss ks1)), (43, .int .i64 (((pers ks1)).length : Int)), (44, .int .i64 0), (10, .optr (.loc 10) 0 0)] ⟨rfl, rfl, rfl, rfl, rfl, rfl, rfl, trivial⟩)) ?_
                refine run_region ?_
                refine run_pu rfl (fieldAddr_step hG rfl rfl rfl rfl rfl) rfl (ltb rfl) ?_
                refine run_rd rfl (aload_rd hG rfl rfl rfl (by simp [ldok])) rfl (ltb rfl) ?_
                refine run_rd rfl (aload_rd hG rfl rfl rfl (by simp [ldok])) rfl (ltb rfl) ?_
                refine run_op rfl (buildSlice_step (d := 58) hG rfl rfl rfl rfl rfl (by rfl) (by rfl) (by rfl) (by decide)) rfl (ltb rfl) ?_
                obtain ⟨hc112, hM⟩ := chk_t hM
                try rw [show ((ers ([] : List LT)) ++ [(T.mk 4 0 ⟨#[]⟩ [(T.mk k109 n109 s109 (ers ks109))])] : List T) = (ers (([] : List LT) ++ [LT.mk 4 0 ⟨#[]⟩ tk106 false [LT.mk k109 n109 s109 q109 f109 ks109]])) from ers_app ([] : List LT) [LT.mk 4 0 ⟨#[]⟩ tk106 false [LT.mk k109 n109 s109 q109 f109 ks109]]] at hM
                refine run_op rfl (appendFM_step (d := 59) hG rfl rfl rfl rfl rfl rfl rfl (cellss_sz ([] : List LT)) rfl (cellss_sz ([LT.mk 4 0 ⟨#[]⟩ tk106 false [LT.mk k109 n109 s109 q109 f109 ks109]])) (tlen ([] : List LT)) (tlen ([LT.mk 4 0 ⟨#[]⟩ tk106 false [LT.mk k109 n109 s109 q109 f109 ks109]])) (by simp [ers]) hc112 (by decide) (cellss_app _ _)) rfl (ltb rfl) ?_
                refine run_pu rfl (fieldAddr_step hG rfl rfl rfl rfl rfl) rfl (ltb rfl) ?_
                refine run_op0 rfl (store_step hG rfl rfl rfl rfl rfl rfl rfl rfl) rfl ?_
                refine run_ops_nil ?_
                refine run_blk ?_
                refine run_region ?_
                refine run_pu rfl (abin_step rfl rfl rfl rfl (fun _ h => by cases h)) rfl (ltb rfl) ?_
                refine run_pu rfl (move_step (.inl rfl) rfl) rfl (ltb rfl) ?_
                refine run_ops_nil ?_
                exact run_loop_end ⟨n, _, Nat.le_refl _, ⟨(IntKind.i64.wrap (0 + 1)), (([] : List LT) ++ [LT.mk 4 0 ⟨#[]⟩ tk106 false [LT.mk k109 n109 s109 q109 f109 ks109]]), (tk106 + 1), (show tkj3 ≤ (tk106 + 1) by omega), (show Fr tkj3 (tk106 + 1) _ from (Fr.tcons (show Fr tkj3 (tk106 + 1) _ from Fr.tstop (show Fr tkj3 tk106 _ from (Fr.tcons ((show Fr tkj3 tk106 _ from hf110 rfl)) (show Fr tk106 tk106 _ from Fr.nil _ _) (by omega) (by omega)).mono (by omega) (by omega)) (by omega) (by omega)) (show Fr (tk106 + 1) (tk106 + 1) _ from Fr.nil _ _) (by omega) (by omega)).mono (by omega) (by omega)), hM, rfl⟩, Sub.trans (Sub.drop (k := 58) rfl) (Sub.trans (Sub.drop (k := 10) rfl) (Sub.env [(1, .optr (.loc 1) 0 0), (2, .optr (.loc 2) 0 0), (5, .optr (.loc 5) 0 0), (42, .imm q1 4 f1 (pcellss ks1)), (43, .int .i64 (((pers ks1)).length : Int)), (44, .int .i64 (IntKind.i64.wrap (0 + 1)))] ⟨rfl, rfl, rfl, rfl, rfl, rfl, trivial⟩))⟩
              · replace hM := ite_f hb111 hM
                refine run_skip ?_
                refine run_region ?_
                refine run_pu rfl (fieldAddr_step hG rfl rfl rfl rfl rfl) rfl (ltb rfl) ?_
                refine run_rd rfl (aload_rd hG rfl rfl rfl (by simp [ldok])) rfl (ltb rfl) ?_
                refine run_rd rfl (aload_rd hG rfl rfl rfl (by simp [ldok])) rfl (ltb rfl) ?_
                refine run_op rfl (buildSlice_step (d := 58) hG rfl rfl rfl rfl rfl (by rfl) (by rfl) (by rfl) (by decide)) rfl (ltb rfl) ?_
                obtain ⟨hc113, hM⟩ := chk_t hM
                try rw [show ((ers ([] : List LT)) ++ [(T.mk k109 n109 s109 (ers ks109))] : List T) = (ers (([] : List LT) ++ [LT.mk k109 n109 s109 q109 f109 ks109])) from ers_app ([] : List LT) [LT.mk k109 n109 s109 q109 f109 ks109]] at hM
                refine run_op rfl (appendFM_step (d := 59) hG rfl rfl rfl rfl rfl rfl rfl (cellss_sz ([] : List LT)) rfl (cellss_sz ([LT.mk k109 n109 s109 q109 f109 ks109])) (tlen ([] : List LT)) (tlen ([LT.mk k109 n109 s109 q109 f109 ks109])) (by simp [ers]) hc113 (by decide) (cellss_app _ _)) rfl (ltb rfl) ?_
                refine run_pu rfl (fieldAddr_step hG rfl rfl rfl rfl rfl) rfl (ltb rfl) ?_
                refine run_op0 rfl (store_step hG rfl rfl rfl rfl rfl rfl rfl rfl) rfl ?_
                refine run_ops_nil ?_
                refine run_blk ?_
                refine run_sub_code (σ' := ⟨[(1, .optr (.loc 1) 0 0), (2, .optr (.loc 2) 0 0), (5, .optr (.loc 5) 0 0), (42, .imm q1 4 f1 (pcellss ks1)), (43, .int .i64 (((pers ks1)).length : Int)), (44, .int .i64 0)], [(59, ⟨55, 4, false, cellss (([] : List LT) ++ [LT.mk k109 n109 s109 q109 f109 ks109])⟩), (5, ⟨55, 4, true, [[.int .i64 6, .int .i64 0, .str t6, .osl (.loc 59)]]⟩), (2, ⟨55, 4, true, [[.int .i64 0, .int .i64 0, .str ⟨#[]⟩, .imm 0 4 true []]]⟩), (1, ⟨61, 4, true, [[.int .i64 k1, .int .i64 n1, .imm p1 3 e1 (fcellss fs1), .imm q1 4 f1 (pcellss ks1)]]⟩)], [], O, tk106⟩) (Sub.trans (Sub.drop (k := 58) rfl) (Sub.trans (Sub.drop (k := 10) rfl) (Sub.trans (Sub.drop (k := 9) rfl) (Sub.env [(1, .optr (.loc 1) 0 0), (2, .optr (.loc 2) 0 0), (5, .optr (.loc 5) 0 0), (42, .imm q1 4 f1 (pcellss ks1)), (43, .int .i64 (((pers ks1)).length : Int)), (44, .int .i64 0)] ⟨rfl, rfl, rfl, rfl, rfl, rfl, trivial⟩)))) ?_
                refine run_region ?_
                refine run_pu rfl (abin_step rfl rfl rfl rfl (fun _ h => by cases h)) rfl (ltb rfl) ?_
                refine run_pu rfl (move_step (.inl rfl) rfl) rfl (ltb rfl) ?_
                refine run_ops_nil ?_
                exact run_loop_end ⟨n, _, Nat.le_refl _, ⟨(IntKind.i64.wrap (0 + 1)), (([] : List LT) ++ [LT.mk k109 n109 s109 q109 f109 ks109]), tk106, (show tkj3 ≤ tk106 by omega), (show Fr tkj3 tk106 _ from (Fr.tcons ((show Fr tkj3 tk106 _ from hf110 rfl)) (show Fr tk106 tk106 _ from Fr.nil _ _) (by omega) (by omega)).mono (by omega) (by omega)), hM, rfl⟩, Sub.env [(1, .optr (.loc 1) 0 0), (2, .optr (.loc 2) 0 0), (5, .optr (.loc 5) 0 0), (42, .imm q1 4 f1 (pcellss ks1)), (43, .int .i64 (((pers ks1)).length : Int)), (44, .int .i64 (IntKind.i64.wrap (0 + 1)))] ⟨rfl, rfl, rfl, rfl, rfl, rfl, trivial⟩⟩
            · replace hM := ite_f hb98 hM
              refine run_exit_to rfl ?_
              refine run_seq ?_
              refine run_region ?_
              refine run_rd rfl (aload_rd hG rfl rfl rfl (by simp [ldok])) rfl (ltb rfl) ?_
              refine run_op0 rfl (store_step hG rfl rfl rfl rfl rfl rfl rfl rfl) rfl ?_
              refine run_ops_nil ?_
              refine run_ret_to ?_
              obtain rfl := some_t hM
              refine fin_x hG rfl rfl rfl (v' := .agg [.int .i64 6, .int .i64 0, .str t6, .imm 0 4 true (cellss [])]) (by rfl) ⟨rfl, (show tk ≤ tkj3 by omega), _, rfl, ⟨6, 0, t6, 0, true, [], rfl, rfl, fun _ => Fr.nil _ _⟩⟩
          · clear hM
            obtain ⟨i80, ks81, tki_proofTerm_L3, hle114, hfr81, hM, rfl⟩ := hI
            obtain _ | m := m
            · exact absurd hM (by rw [i_proofTerm_L2]; exact fun h => by cases h)
            rw [i_proofTerm_L2] at hM
            refine run_seq ?_
            refine run_region ?_
            refine run_pu rfl (abin_step rfl rfl rfl rfl (fun _ h => by cases h)) rfl (ltb rfl) ?_
            refine run_ops_nil ?_
            refine run_seq ?_
            refine run_ifd rfl rfl (fun hb82 => ?_) (fun hb82 => ?_)
            · replace hM := ite_t hb82 hM
              refine run_skip ?_
              refine run_seq ?_
              refine run_block ?_
              refine run_seq ?_
              refine run_region ?_
              obtain ⟨y83, hy84, hM⟩ := bind_t hM
              obtain ⟨k85, n85, p85, e85, fs85, q85, f85, ks85, rfl, hc86, hi87⟩ := pidx hy84
              refine run_pu rfl (indexImm_step hG rfl rfl rfl hi87 rfl rfl rfl rfl hc86) rfl (ltb rfl) ?_
              refine run_rd rfl (aload_rd hG rfl rfl rfl (by simp [ldok])) rfl (ltb rfl) ?_
              refine run_op rfl (alloc_step (d := 9) hG rfl rfl rfl) rfl (ltb rfl) ?_
              refine run_op0 rfl (store_step hG rfl rfl rfl rfl rfl rfl rfl rfl) rfl ?_
              refine run_ops_nil ?_
              refine run_seq ?_
              refine run_region ?_
              refine run_rd rfl (aload_rd hG rfl rfl rfl (by simp [ldok])) rfl (ltb rfl) ?_
              obtain ⟨r88, hg89, hM⟩ := bind_t hM
              refine run_call rfl rfl rfl (ltb rfl) rfl rfl rfl (fun _ h => absurd h List.not_mem_nil) (ih_i_proofTerm k85 n85 p85 e85 fs85 q85 f85 ks85 hg89 _ _) (callK_retX (fun v tk90 (hle91 : tki_proofTerm_L3 ≤ tk90) h92 => ?_))
              obtain ⟨k93, n93, s93, q93, f93, ks93, rfl, rfl, hf94⟩ := h92
              refine run_op rfl (alloc_step (d := 10) hG rfl rfl rfl) rfl (ltb rfl) ?_
              refine run_op0 rfl (store_step hG rfl rfl rfl rfl rfl rfl rfl rfl) rfl ?_
              refine run_ops_nil ?_
              refine run_seq ?_
              refine run_seq ?_
              refine run_region ?_
              refine run_pu rfl (fieldAddr_step hG rfl rfl rfl rfl rfl) rfl (ltb rfl) ?_
              refine run_rd rfl (aload_rd hG rfl rfl rfl (by simp [ldok])) rfl (ltb rfl) ?_
              refine run_pu rfl (abin_step rfl rfl rfl rfl (fun _ h => by cases h)) rfl (ltb rfl) ?_
              refine run_ops_nil ?_
              refine run_ifd rfl rfl (fun hb95 => ?_) (fun hb95 => ?_)
              · replace hM := ite_t hb95 hM
                refine run_region ?_
                refine run_rd rfl (aload_rd hG rfl rfl rfl (by simp [ldok])) rfl (ltb rfl) ?_
                refine run_call rfl rfl rfl (ltb rfl) rfl rfl rfl (fun _ h => absurd h List.not_mem_nil) (i_lam_ex k93 n93 s93 q93 f93 ks93 _ _) (callK_retN ?_)
                skip
                refine run_op0 rfl (store_step hG rfl rfl rfl rfl rfl rfl rfl rfl) rfl ?_
                refine run_ops_nil ?_
                refine run_sub_code (σ' := ⟨[(1, .optr (.loc 1) 0 0), (2, .optr (.loc 2) 0 0), (5, .optr (.loc 5) 0 0), (42, .imm q1 4 f1 (pcellss ks1)), (43, .int .i64 (((pers ks1)).length : Int)), (44, .int .i64 i80), (10, .optr (.loc 10) 0 0)], [(10, ⟨55, 4, true, [[.int .i64 4, .int .i64 0, .str ⟨#[]⟩, .imm tk90 4 false (cellss [LT.mk k93 n93 s93 q93 f93 ks93])]]⟩), (59, ⟨55, 4, false, cellss ks81⟩), (5, ⟨55, 4, true, [[.int .i64 6, .int .i64 0, .str t6, .osl (.loc 59)]]⟩), (2, ⟨55, 4, true, [[.int .i64 0, .int .i64 0, .str ⟨#[]⟩, .imm 0 4 true []]]⟩), (1, ⟨61, 4, true, [[.int .i64 k1, .int .i64 n1, .imm p1 3 e1 (fcellss fs1), .imm q1 4 f1 (pcellss ks1)]]⟩)], [], O, (tk90 + 1)⟩) (Sub.trans (Sub.drop (k := 9) rfl) (Sub.env [(1, .optr (.loc 1) 0 0), (2, .optr (.loc 2) 0 0), (5, .optr (.loc 5) 0 0), (42, .imm q1 4 f1 (pcellss ks1)), (43, .int .i64 (((pers ks1)).length : Int)), (44, .int .i64 i80), (10, .optr (.loc 10) 0 0)] ⟨rfl, rfl, rfl, rfl, rfl, rfl, rfl, trivial⟩)) ?_
                refine run_region ?_
                refine run_pu rfl (fieldAddr_step hG rfl rfl rfl rfl rfl) rfl (ltb rfl) ?_
                refine run_rd rfl (aload_rd hG rfl rfl rfl (by simp [ldok])) rfl (ltb rfl) ?_
                refine run_rd rfl (aload_rd hG rfl rfl rfl (by simp [ldok])) rfl (ltb rfl) ?_
                refine run_op rfl (buildSlice_step (d := 58) hG rfl rfl rfl rfl rfl (by rfl) (by rfl) (by rfl) (by decide)) rfl (ltb rfl) ?_
                obtain ⟨hc96, hM⟩ := chk_t hM
                try rw [show ((ers ks81) ++ [(T.mk 4 0 ⟨#[]⟩ [(T.mk k93 n93 s93 (ers ks93))])] : List T) = (ers (ks81 ++ [LT.mk 4 0 ⟨#[]⟩ tk90 false [LT.mk k93 n93 s93 q93 f93 ks93]])) from ers_app ks81 [LT.mk 4 0 ⟨#[]⟩ tk90 false [LT.mk k93 n93 s93 q93 f93 ks93]]] at hM
                refine run_op rfl (appendM_step hG rfl rfl rfl rfl rfl rfl rfl rfl rfl rfl rfl (cellss_sz ([LT.mk 4 0 ⟨#[]⟩ tk90 false [LT.mk k93 n93 s93 q93 f93 ks93]])) (tlen _) (tlen ([LT.mk 4 0 ⟨#[]⟩ tk90 false [LT.mk k93 n93 s93 q93 f93 ks93]])) hc96 (by decide) (cellss_app _ _)) rfl (ltb rfl) ?_
                refine run_pu rfl (fieldAddr_step hG rfl rfl rfl rfl rfl) rfl (ltb rfl) ?_
                refine run_op0 rfl (store_step hG rfl rfl rfl rfl rfl rfl rfl rfl) rfl ?_
                refine run_ops_nil ?_
                refine run_blk ?_
                refine run_region ?_
                refine run_pu rfl (abin_step rfl rfl rfl rfl (fun _ h => by cases h)) rfl (ltb rfl) ?_
                refine run_pu rfl (move_step (.inl rfl) rfl) rfl (ltb rfl) ?_
                refine run_ops_nil ?_
                exact run_loop_end ⟨m, _, Nat.lt_succ_self _, ⟨(IntKind.i64.wrap (i80 + 1)), (ks81 ++ [LT.mk 4 0 ⟨#[]⟩ tk90 false [LT.mk k93 n93 s93 q93 f93 ks93]]), (tk90 + 1), (show tkj3 ≤ (tk90 + 1) by omega), (show Fr tkj3 (tk90 + 1) _ from (Fr.tsnoc (show Fr tkj3 tki_proofTerm_L3 _ from (hfr81).mono (by omega) (by omega)) (show Fr tki_proofTerm_L3 (tk90 + 1) _ from Fr.tstop (show Fr tki_proofTerm_L3 tk90 _ from (Fr.tcons ((show Fr tki_proofTerm_L3 tk90 _ from hf94 rfl)) (show Fr tk90 tk90 _ from Fr.nil _ _) (by omega) (by omega)).mono (by omega) (by omega)) (by omega) (by omega)) (by omega) (by omega)).mono (by omega) (by omega)), hM, rfl⟩, Sub.trans (Sub.drop (k := 58) rfl) (Sub.trans (Sub.drop (k := 10) rfl) (Sub.env [(1, .optr (.loc 1) 0 0), (2, .optr (.loc 2) 0 0), (5, .optr (.loc 5) 0 0), (42, .imm q1 4 f1 (pcellss ks1)), (43, .int .i64 (((pers ks1)).length : Int)), (44, .int .i64 (IntKind.i64.wrap (i80 + 1)))] ⟨rfl, rfl, rfl, rfl, rfl, rfl, trivial⟩))⟩
              · replace hM := ite_f hb95 hM
                refine run_skip ?_
                refine run_region ?_
                refine run_pu rfl (fieldAddr_step hG rfl rfl rfl rfl rfl) rfl (ltb rfl) ?_
                refine run_rd rfl (aload_rd hG rfl rfl rfl (by simp [ldok])) rfl (ltb rfl) ?_
                refine run_rd rfl (aload_rd hG rfl rfl rfl (by simp [ldok])) rfl (ltb rfl) ?_
                refine run_op rfl (buildSlice_step (d := 58) hG rfl rfl rfl rfl rfl (by rfl) (by rfl) (by rfl) (by decide)) rfl (ltb rfl) ?_
                obtain ⟨hc97, hM⟩ := chk_t hM
                try rw [show ((ers ks81) ++ [(T.mk k93 n93 s93 (ers ks93))] : List T) = (ers (ks81 ++ [LT.mk k93 n93 s93 q93 f93 ks93])) from ers_app ks81 [LT.mk k93 n93 s93 q93 f93 ks93]] at hM
                refine run_op rfl (appendM_step hG rfl rfl rfl rfl rfl rfl rfl rfl rfl rfl rfl (cellss_sz ([LT.mk k93 n93 s93 q93 f93 ks93])) (tlen _) (tlen ([LT.mk k93 n93 s93 q93 f93 ks93])) hc97 (by decide) (cellss_app _ _)) rfl (ltb rfl) ?_
                refine run_pu rfl (fieldAddr_step hG rfl rfl rfl rfl rfl) rfl (ltb rfl) ?_
                refine run_op0 rfl (store_step hG rfl rfl rfl rfl rfl rfl rfl rfl) rfl ?_
                refine run_ops_nil ?_
                refine run_blk ?_
                refine run_sub_code (σ' := ⟨[(1, .optr (.loc 1) 0 0), (2, .optr (.loc 2) 0 0), (5, .optr (.loc 5) 0 0), (42, .imm q1 4 f1 (pcellss ks1)), (43, .int .i64 (((pers ks1)).length : Int)), (44, .int .i64 i80)], [(59, ⟨55, 4, false, cellss (ks81 ++ [LT.mk k93 n93 s93 q93 f93 ks93])⟩), (5, ⟨55, 4, true, [[.int .i64 6, .int .i64 0, .str t6, .osl (.loc 59)]]⟩), (2, ⟨55, 4, true, [[.int .i64 0, .int .i64 0, .str ⟨#[]⟩, .imm 0 4 true []]]⟩), (1, ⟨61, 4, true, [[.int .i64 k1, .int .i64 n1, .imm p1 3 e1 (fcellss fs1), .imm q1 4 f1 (pcellss ks1)]]⟩)], [], O, tk90⟩) (Sub.trans (Sub.drop (k := 58) rfl) (Sub.trans (Sub.drop (k := 10) rfl) (Sub.trans (Sub.drop (k := 9) rfl) (Sub.env [(1, .optr (.loc 1) 0 0), (2, .optr (.loc 2) 0 0), (5, .optr (.loc 5) 0 0), (42, .imm q1 4 f1 (pcellss ks1)), (43, .int .i64 (((pers ks1)).length : Int)), (44, .int .i64 i80)] ⟨rfl, rfl, rfl, rfl, rfl, rfl, trivial⟩)))) ?_
                refine run_region ?_
                refine run_pu rfl (abin_step rfl rfl rfl rfl (fun _ h => by cases h)) rfl (ltb rfl) ?_
                refine run_pu rfl (move_step (.inl rfl) rfl) rfl (ltb rfl) ?_
                refine run_ops_nil ?_
                exact run_loop_end ⟨m, _, Nat.lt_succ_self _, ⟨(IntKind.i64.wrap (i80 + 1)), (ks81 ++ [LT.mk k93 n93 s93 q93 f93 ks93]), tk90, (show tkj3 ≤ tk90 by omega), (show Fr tkj3 tk90 _ from (Fr.tsnoc (show Fr tkj3 tki_proofTerm_L3 _ from (hfr81).mono (by omega) (by omega)) ((show Fr tki_proofTerm_L3 tk90 _ from hf94 rfl)) (by omega) (by omega)).mono (by omega) (by omega)), hM, rfl⟩, Sub.env [(1, .optr (.loc 1) 0 0), (2, .optr (.loc 2) 0 0), (5, .optr (.loc 5) 0 0), (42, .imm q1 4 f1 (pcellss ks1)), (43, .int .i64 (((pers ks1)).length : Int)), (44, .int .i64 (IntKind.i64.wrap (i80 + 1)))] ⟨rfl, rfl, rfl, rfl, rfl, rfl, trivial⟩⟩
            · replace hM := ite_f hb82 hM
              refine run_exit_to rfl ?_
              refine run_seq ?_
              refine run_region ?_
              refine run_rd rfl (aload_rd hG rfl rfl rfl (by simp [ldok])) rfl (ltb rfl) ?_
              refine run_op0 rfl (store_step hG rfl rfl rfl rfl rfl rfl rfl rfl) rfl ?_
              refine run_ops_nil ?_
              refine run_ret_to ?_
              refine fin_sub (Sub.freeze (k := 59) rfl rfl) ?_
              obtain rfl := some_t hM
              refine fin_x hG rfl rfl rfl (v' := .agg [.int .i64 6, .int .i64 0, .str t6, .imm tki_proofTerm_L3 4 false (cellss ks81)]) (by rfl) ⟨rfl, (show tk ≤ (tki_proofTerm_L3 + 1) by omega), _, rfl, ⟨6, 0, t6, tki_proofTerm_L3, false, ks81, rfl, rfl, fun _ => (show Fr tk (tki_proofTerm_L3 + 1) _ from (show Fr tkj3 (tki_proofTerm_L3 + 1) _ from Fr.tstop (show Fr tkj3 tki_proofTerm_L3 _ from (hfr81).mono (by omega) (by omega)) (by omega) (by omega)).mono (by omega) (by omega))⟩⟩
      · clear hM
        obtain ⟨i13, ks14, tki_proofTerm_L1, hle115, hfr14, hM, rfl⟩ := hI
        obtain _ | m := m
        · exact absurd hM (by rw [i_proofTerm_L1]; exact fun h => by cases h)
        rw [i_proofTerm_L1] at hM
        refine run_seq ?_
        refine run_region ?_
        refine run_pu rfl (abin_step rfl rfl rfl rfl (fun _ h => by cases h)) rfl (ltb rfl) ?_
        refine run_ops_nil ?_
        refine run_seq ?_
        refine run_ifd rfl rfl (fun hb15 => ?_) (fun hb15 => ?_)
        · replace hM := ite_t hb15 hM
          refine run_skip ?_
          refine run_seq ?_
          refine run_block ?_
          refine run_seq ?_
          refine run_region ?_
          obtain ⟨y16, hy17, hM⟩ := bind_t hM
          obtain ⟨k18, n18, q18, f18, ks18, rfl, hc19, hi20⟩ := fidx hy17
          refine run_pu rfl (indexImm_step hG rfl rfl rfl hi20 rfl rfl rfl rfl hc19) rfl (ltb rfl) ?_
          refine run_rd rfl (aload_rd hG rfl rfl rfl (by simp [ldok])) rfl (ltb rfl) ?_
          refine run_op rfl (alloc_step (d := 7) hG rfl rfl rfl) rfl (ltb rfl) ?_
          refine run_op0 rfl (store_step hG rfl rfl rfl rfl rfl rfl rfl rfl) rfl ?_
          refine run_ops_nil ?_
          refine run_draw [.loc 5, .loc 38] (n := 8) mixed rfl (by intro x hx; simp only [List.mem_cons, List.not_mem_nil, or_false] at hx; rcases hx with rfl | rfl <;> rfl) ?_
          refine AAny.take (i := 0) rfl (by kernel_rfl) (by kernel_rfl) (by kernel_rfl) rfl rfl (ltb rfl) ((fieldAddr_step hG rfl rfl rfl rfl rfl).rd _) ?_
          refine AAny.take (i := 2) rfl (by kernel_rfl) (by kernel_rfl) (by kernel_rfl) rfl rfl (ltb rfl) (aload_rd hG rfl rfl rfl (by simp [ldok])) ?_
          refine AAny.each (rs := [1, 3]) (by kernel_rfl) (fun h => by cases h) (fun i hi => ?_)
          simp only [List.mem_cons, List.not_mem_nil, or_false] at hi
          rcases hi with rfl | rfl
          · refine AOp.rd rfl rfl rfl (ltb rfl) (aload_rd hG rfl rfl rfl (by simp [ldok])) ?_
            obtain ⟨r21, hg22, hM⟩ := bind_t hM
            refine AAny.one (i := 3) (by kernel_rfl) (AOp.call rfl rfl rfl rfl (ltb rfl) rfl rfl rfl (fun _ h => absurd h List.not_mem_nil) (fun _ h => absurd h List.not_mem_nil) (i_formTerm_ok n k18 n18 q18 f18 ks18 hg22 _ _) (callK_retX (fun v tk23 (hle24 : tki_proofTerm_L1 ≤ tk23) h25 => ?_)))
            obtain ⟨k26, n26, s26, q26, f26, ks26, rfl, rfl, hf27⟩ := h25
            refine AAny.one (i := 4) (by kernel_rfl) (AOp.step rfl rfl rfl (ltb rfl) (buildSlice_step (d := 37) hG rfl rfl rfl rfl rfl (by rfl) (by rfl) (by rfl) (by decide)) (fun _ h => absurd h List.not_mem_nil) ?_)
            obtain ⟨hc28, hM⟩ := chk_t hM
            try rw [show ((ers ks14) ++ [(T.mk k26 n26 s26 (ers ks26))] : List T) = (ers (ks14 ++ [LT.mk k26 n26 s26 q26 f26 ks26])) from ers_app ks14 [LT.mk k26 n26 s26 q26 f26 ks26]] at hM
            refine AAny.one (i := 5) (by kernel_rfl) (AOp.step rfl rfl rfl (ltb rfl) (appendM_step hG rfl rfl rfl rfl rfl rfl rfl rfl rfl rfl rfl (cellss_sz ([LT.mk k26 n26 s26 q26 f26 ks26])) (tlen _) (tlen ([LT.mk k26 n26 s26 q26 f26 ks26])) hc28 (by decide) (cellss_app _ _)) (by intro x hx; simp only [List.mem_cons, List.not_mem_nil, or_false] at hx; subst hx; simp) ?_)
            refine AAny.take (i := 6) rfl (by kernel_rfl) (by kernel_rfl) (by kernel_rfl) rfl rfl (ltb rfl) ((fieldAddr_step hG rfl rfl rfl rfl rfl).rd _) ?_
            refine AAny.one (i := 7) (by kernel_rfl) (AOp.step0 rfl rfl rfl (store_step hG rfl rfl rfl rfl rfl rfl rfl rfl) (by intro x hx; simp only [stW, List.mem_cons, List.not_mem_nil, or_false] at hx; subst hx; simp) ?_)
            refine AAny.done (by kernel_rfl) ?_
            refine run_blk ?_
            refine run_region ?_
            refine run_pu rfl (abin_step rfl rfl rfl rfl (fun _ h => by cases h)) rfl (ltb rfl) ?_
            refine run_pu rfl (move_step (.inl rfl) rfl) rfl (ltb rfl) ?_
            refine run_ops_nil ?_
            exact run_loop_end ⟨m, _, Nat.lt_succ_self _, ⟨(IntKind.i64.wrap (i13 + 1)), (ks14 ++ [LT.mk k26 n26 s26 q26 f26 ks26]), tk23, (show tkj3 ≤ tk23 by omega), (show Fr tkj3 tk23 _ from (Fr.tsnoc (show Fr tkj3 tki_proofTerm_L1 _ from (hfr14).mono (by omega) (by omega)) ((show Fr tki_proofTerm_L1 tk23 _ from hf27 rfl)) (by omega) (by omega)).mono (by omega) (by omega)), hM, rfl⟩, Sub.trans (Sub.drop (k := 37) rfl) (Sub.trans (Sub.drop (k := 7) rfl) (Sub.env [(1, .optr (.loc 1) 0 0), (2, .optr (.loc 2) 0 0), (5, .optr (.loc 5) 0 0), (27, .imm p1 3 e1 (fcellss fs1)), (28, .int .i64 (((fers fs1)).length : Int)), (29, .int .i64 (IntKind.i64.wrap (i13 + 1)))] ⟨rfl, rfl, rfl, rfl, rfl, rfl, trivial⟩))⟩
          · obtain ⟨r29, hg30, hM⟩ := bind_t hM
            refine AOp.call rfl rfl rfl rfl (ltb rfl) rfl rfl rfl (fun _ h => absurd h List.not_mem_nil) (fun _ h => absurd h List.not_mem_nil) (i_formTerm_ok n k18 n18 q18 f18 ks18 hg30 _ _) (callK_retX (fun v tk31 (hle32 : tki_proofTerm_L1 ≤ tk31) h33 => ?_))
            obtain ⟨k34, n34, s34, q34, f34, ks34, rfl, rfl, hf35⟩ := h33
            refine AAny.each (rs := [1, 4]) (by kernel_rfl) (fun h => by cases h) (fun i hi => ?_)
            simp only [List.mem_cons, List.not_mem_nil, or_false] at hi
            rcases hi with rfl | rfl
            · refine AOp.rd rfl rfl rfl (ltb rfl) (aload_rd hG rfl rfl rfl (by simp [ldok])) ?_
              refine AAny.one (i := 4) (by kernel_rfl) (AOp.step rfl rfl rfl (ltb rfl) (buildSlice_step (d := 37) hG rfl rfl rfl rfl rfl (by rfl) (by rfl) (by rfl) (by decide)) (fun _ h => absurd h List.not_mem_nil) ?_)
              obtain ⟨hc36, hM⟩ := chk_t hM
              try rw [show ((ers ks14) ++ [(T.mk k34 n34 s34 (ers ks34))] : List T) = (ers (ks14 ++ [LT.mk k34 n34 s34 q34 f34 ks34])) from ers_app ks14 [LT.mk k34 n34 s34 q34 f34 ks34]] at hM
              refine AAny.one (i := 5) (by kernel_rfl) (AOp.step rfl rfl rfl (ltb rfl) (appendM_step hG rfl rfl rfl rfl rfl rfl rfl rfl rfl rfl rfl (cellss_sz ([LT.mk k34 n34 s34 q34 f34 ks34])) (tlen _) (tlen ([LT.mk k34 n34 s34 q34 f34 ks34])) hc36 (by decide) (cellss_app _ _)) (by intro x hx; simp only [List.mem_cons, List.not_mem_nil, or_false] at hx; subst hx; simp) ?_)
              refine AAny.take (i := 6) rfl (by kernel_rfl) (by kernel_rfl) (by kernel_rfl) rfl rfl (ltb rfl) ((fieldAddr_step hG rfl rfl rfl rfl rfl).rd _) ?_
              refine AAny.one (i := 7) (by kernel_rfl) (AOp.step0 rfl rfl rfl (store_step hG rfl rfl rfl rfl rfl rfl rfl rfl) (by intro x hx; simp only [stW, List.mem_cons, List.not_mem_nil, or_false] at hx; subst hx; simp) ?_)
              refine AAny.done (by kernel_rfl) ?_
              refine run_blk ?_
              refine run_region ?_
              refine run_pu rfl (abin_step rfl rfl rfl rfl (fun _ h => by cases h)) rfl (ltb rfl) ?_
              refine run_pu rfl (move_step (.inl rfl) rfl) rfl (ltb rfl) ?_
              refine run_ops_nil ?_
              exact run_loop_end ⟨m, _, Nat.lt_succ_self _, ⟨(IntKind.i64.wrap (i13 + 1)), (ks14 ++ [LT.mk k34 n34 s34 q34 f34 ks34]), tk31, (show tkj3 ≤ tk31 by omega), (show Fr tkj3 tk31 _ from (Fr.tsnoc (show Fr tkj3 tki_proofTerm_L1 _ from (hfr14).mono (by omega) (by omega)) ((show Fr tki_proofTerm_L1 tk31 _ from hf35 rfl)) (by omega) (by omega)).mono (by omega) (by omega)), hM, rfl⟩, Sub.trans (Sub.drop (k := 37) rfl) (Sub.trans (Sub.drop (k := 7) rfl) (Sub.env [(1, .optr (.loc 1) 0 0), (2, .optr (.loc 2) 0 0), (5, .optr (.loc 5) 0 0), (27, .imm p1 3 e1 (fcellss fs1)), (28, .int .i64 (((fers fs1)).length : Int)), (29, .int .i64 (IntKind.i64.wrap (i13 + 1)))] ⟨rfl, rfl, rfl, rfl, rfl, rfl, trivial⟩))⟩
            · refine AOp.step rfl rfl rfl (ltb rfl) (buildSlice_step (d := 37) hG rfl rfl rfl rfl rfl (by rfl) (by rfl) (by rfl) (by decide)) (fun _ h => absurd h List.not_mem_nil) ?_
              refine AAny.one (i := 1) (by kernel_rfl) (AOp.rd rfl rfl rfl (ltb rfl) (aload_rd hG rfl rfl rfl (by simp [ldok])) ?_)
              obtain ⟨hc37, hM⟩ := chk_t hM
              try rw [show ((ers ks14) ++ [(T.mk k34 n34 s34 (ers ks34))] : List T) = (ers (ks14 ++ [LT.mk k34 n34 s34 q34 f34 ks34])) from ers_app ks14 [LT.mk k34 n34 s34 q34 f34 ks34]] at hM
              refine AAny.one (i := 5) (by kernel_rfl) (AOp.step rfl rfl rfl (ltb rfl) (appendM_step hG rfl rfl rfl rfl rfl rfl rfl rfl rfl rfl rfl (cellss_sz ([LT.mk k34 n34 s34 q34 f34 ks34])) (tlen _) (tlen ([LT.mk k34 n34 s34 q34 f34 ks34])) hc37 (by decide) (cellss_app _ _)) (by intro x hx; simp only [List.mem_cons, List.not_mem_nil, or_false] at hx; subst hx; simp) ?_)
              refine AAny.take (i := 6) rfl (by kernel_rfl) (by kernel_rfl) (by kernel_rfl) rfl rfl (ltb rfl) ((fieldAddr_step hG rfl rfl rfl rfl rfl).rd _) ?_
              refine AAny.one (i := 7) (by kernel_rfl) (AOp.step0 rfl rfl rfl (store_step hG rfl rfl rfl rfl rfl rfl rfl rfl) (by intro x hx; simp only [stW, List.mem_cons, List.not_mem_nil, or_false] at hx; subst hx; simp) ?_)
              refine AAny.done (by kernel_rfl) ?_
              refine run_blk ?_
              refine run_region ?_
              refine run_pu rfl (abin_step rfl rfl rfl rfl (fun _ h => by cases h)) rfl (ltb rfl) ?_
              refine run_pu rfl (move_step (.inl rfl) rfl) rfl (ltb rfl) ?_
              refine run_ops_nil ?_
              exact run_loop_end ⟨m, _, Nat.lt_succ_self _, ⟨(IntKind.i64.wrap (i13 + 1)), (ks14 ++ [LT.mk k34 n34 s34 q34 f34 ks34]), tk31, (show tkj3 ≤ tk31 by omega), (show Fr tkj3 tk31 _ from (Fr.tsnoc (show Fr tkj3 tki_proofTerm_L1 _ from (hfr14).mono (by omega) (by omega)) ((show Fr tki_proofTerm_L1 tk31 _ from hf35 rfl)) (by omega) (by omega)).mono (by omega) (by omega)), hM, rfl⟩, Sub.trans (Sub.drop (k := 37) rfl) (Sub.trans (Sub.drop (k := 7) rfl) (Sub.env [(1, .optr (.loc 1) 0 0), (2, .optr (.loc 2) 0 0), (5, .optr (.loc 5) 0 0), (27, .imm p1 3 e1 (fcellss fs1)), (28, .int .i64 (((fers fs1)).length : Int)), (29, .int .i64 (IntKind.i64.wrap (i13 + 1)))] ⟨rfl, rfl, rfl, rfl, rfl, rfl, trivial⟩))⟩
        · replace hM := ite_f hb15 hM
          refine run_exit_to rfl ?_
          refine run_seq ?_
          refine run_seq ?_
          refine run_region ?_
          refine run_pu rfl (fieldAddr_step hG rfl rfl rfl rfl rfl) rfl (ltb rfl) ?_
          refine run_rd rfl (aload_rd hG rfl rfl rfl (by simp [ldok])) rfl (ltb rfl) ?_
          refine run_pu rfl (lenImm_step hG rfl rfl rfl rfl (plen _)) rfl (ltb rfl) ?_
          refine run_pu rfl (move_step (.inl rfl) rfl) rfl (ltb rfl) ?_
          refine run_ops_nil ?_
          refine run_block ?_
          refine run_rounds (fun m σ => ∃ (i38 : Int) (ks39 : List LT) (tki_proofTerm_L2 : Nat), tki_proofTerm_L1 ≤ tki_proofTerm_L2 ∧ Fr tkj3 tki_proofTerm_L2 (ttoks ks39) ∧ i_proofTerm_L2 (i_proofTerm n) (Pf.mk k1 n1 (fers fs1) (pers ks1)) t6 m i38 (ers ks39) = some r ∧ σ = ⟨[(1, .optr (.loc 1) 0 0), (2, .optr (.loc 2) 0 0), (5, .optr (.loc 5) 0 0), (42, .imm q1 4 f1 (pcellss ks1)), (43, .int .i64 (((pers ks1)).length : Int)), (44, .int .i64 i38)], [(38, ⟨55, 4, false, cellss ks39⟩), (5, ⟨55, 4, true, [[.int .i64 6, .int .i64 0, .str t6, .osl (.loc 38)]]⟩), (2, ⟨55, 4, true, [[.int .i64 0, .int .i64 0, .str ⟨#[]⟩, .imm 0 4 true []]]⟩), (1, ⟨61, 4, true, [[.int .i64 k1, .int .i64 n1, .imm p1 3 e1 (fcellss fs1), .imm q1 4 f1 (pcellss ks1)]]⟩)], [], O, tki_proofTerm_L2⟩) n (Sub.env [(1, .optr (.loc 1) 0 0), (2, .optr (.loc 2) 0 0), (5, .optr (.loc 5) 0 0), (42, .imm q1 4 f1 (pcellss ks1)), (43, .int .i64 (((pers ks1)).length : Int)), (44, .int .i64 0)] ⟨rfl, rfl, rfl, rfl, rfl, rfl, trivial⟩) ⟨0, ks14, tki_proofTerm_L1, Nat.le_refl _, (show Fr tkj3 tki_proofTerm_L1 _ from (hfr14).mono (by omega) (by omega)), hM, rfl⟩ (fun m σ hI => ?_)
          clear hM
          obtain ⟨i38, ks39, tki_proofTerm_L2, hle56, hfr39, hM, rfl⟩ := hI
          obtain _ | m := m
          · exact absurd hM (by rw [i_proofTerm_L2]; exact fun h => by cases h)
          rw [i_proofTerm_L2] at hM
          refine run_seq ?_
          refine run_region ?_
          refine run_pu rfl (abin_step rfl rfl rfl rfl (fun _ h => by cases h)) rfl (ltb rfl) ?_
          refine run_ops_nil ?_
          refine run_seq ?_
          refine run_ifd rfl rfl (fun hb40 => ?_) (fun hb40 => ?_)
          · replace hM := ite_t hb40 hM
            refine run_skip ?_
            refine run_seq ?_
            refine run_block ?_
            refine run_seq ?_
            refine run_region ?_
            obtain ⟨y41, hy42, hM⟩ := bind_t hM
            obtain ⟨k43, n43, p43, e43, fs43, q43, f43, ks43, rfl, hc44, hi45⟩ := pidx hy42
            refine run_pu rfl (indexImm_step hG rfl rfl rfl hi45 rfl rfl rfl rfl hc44) rfl (ltb rfl) ?_
            refine run_rd rfl (aload_rd hG rfl rfl rfl (by simp [ldok])) rfl (ltb rfl) ?_
            refine run_op rfl (alloc_step (d := 9) hG rfl rfl rfl) rfl (ltb rfl) ?_
            refine run_op0 rfl (store_step hG rfl rfl rfl rfl rfl rfl rfl rfl) rfl ?_
            refine run_ops_nil ?_
            refine run_seq ?_
            refine run_region ?_
            refine run_rd rfl (aload_rd hG rfl rfl rfl (by simp [ldok])) rfl (ltb rfl) ?_
            obtain ⟨r46, hg47, hM⟩ := bind_t hM
            refine run_call rfl rfl rfl (ltb rfl) rfl rfl rfl (fun _ h => absurd h List.not_mem_nil) (ih_i_proofTerm k43 n43 p43 e43 fs43 q43 f43 ks43 hg47 _ _) (callK_retX (fun v tk48 (hle49 : tki_proofTerm_L2 ≤ tk48) h50 => ?_))
            obtain ⟨k51, n51, s51, q51, f51, ks51, rfl, rfl, hf52⟩ := h50
            refine run_op rfl (alloc_step (d := 10) hG rfl rfl rfl) rfl (ltb rfl) ?_
            refine run_op0 rfl (store_step hG rfl rfl rfl rfl rfl rfl rfl rfl) rfl ?_
            refine run_ops_nil ?_
            refine run_seq ?_
            refine run_seq ?_
            refine run_region ?_
            refine run_pu rfl (fieldAddr_step hG rfl rfl rfl rfl rfl) rfl (ltb rfl) ?_
            refine run_rd rfl (aload_rd hG rfl rfl rfl (by simp [ldok])) rfl (ltb rfl) ?_
            refine run_pu rfl (abin_step rfl rfl rfl rfl (fun _ h => by cases h)) rfl (ltb rfl) ?_
            refine run_ops_nil ?_
            refine run_ifd rfl rfl (fun hb53 => ?_) (fun hb53 => ?_)
            · replace hM := ite_t hb53 hM
              refine run_region ?_
              refine run_rd rfl (aload_rd hG rfl rfl rfl (by simp [ldok])) rfl (ltb rfl) ?_
              refine run_call rfl rfl rfl (ltb rfl) rfl rfl rfl (fun _ h => absurd h List.not_mem_nil) (i_lam_ex k51 n51 s51 q51 f51 ks51 _ _) (callK_retN ?_)
              skip
              refine run_op0 rfl (store_step hG rfl rfl rfl rfl rfl rfl rfl rfl) rfl ?_
              refine run_ops_nil ?_
              refine run_sub_code (σ' := ⟨[(1, .optr (.loc 1) 0 0), (2, .optr (.loc 2) 0 0), (5, .optr (.loc 5) 0 0), (42, .imm q1 4 f1 (pcellss ks1)), (43, .int .i64 (((pers ks1)).length : Int)), (44, .int .i64 i38), (10, .optr (.loc 10) 0 0)], [(10, ⟨55, 4, true, [[.int .i64 4, .int .i64 0, .str ⟨#[]⟩, .imm tk48 4 false (cellss [LT.mk k51 n51 s51 q51 f51 ks51])]]⟩), (38, ⟨55, 4, false, cellss ks39⟩), (5, ⟨55, 4, true, [[.int .i64 6, .int .i64 0, .str t6, .osl (.loc 38)]]⟩), (2, ⟨55, 4, true, [[.int .i64 0, .int .i64 0, .str ⟨#[]⟩, .imm 0 4 true []]]⟩), (1, ⟨61, 4, true, [[.int .i64 k1, .int .i64 n1, .imm p1 3 e1 (fcellss fs1), .imm q1 4 f1 (pcellss ks1)]]⟩)], [], O, (tk48 + 1)⟩) (Sub.trans (Sub.drop (k := 9) rfl) (Sub.env [(1, .optr (.loc 1) 0 0), (2, .optr (.loc 2) 0 0), (5, .optr (.loc 5) 0 0), (42, .imm q1 4 f1 (pcellss ks1)), (43, .int .i64 (((pers ks1)).length : Int)), (44, .int .i64 i38), (10, .optr (.loc 10) 0 0)] ⟨rfl, rfl, rfl, rfl, rfl, rfl, rfl, trivial⟩)) ?_
              refine run_region ?_
              refine run_pu rfl (fieldAddr_step hG rfl rfl rfl rfl rfl) rfl (ltb rfl) ?_
              refine run_rd rfl (aload_rd hG rfl rfl rfl (by simp [ldok])) rfl (ltb rfl) ?_
              refine run_rd rfl (aload_rd hG rfl rfl rfl (by simp [ldok])) rfl (ltb rfl) ?_
              refine run_op rfl (buildSlice_step (d := 58) hG rfl rfl rfl rfl rfl (by rfl) (by rfl) (by rfl) (by decide)) rfl (ltb rfl) ?_
              obtain ⟨hc54, hM⟩ := chk_t hM
              try rw [show ((ers ks39) ++ [(T.mk 4 0 ⟨#[]⟩ [(T.mk k51 n51 s51 (ers ks51))])] : List T) = (ers (ks39 ++ [LT.mk 4 0 ⟨#[]⟩ tk48 false [LT.mk k51 n51 s51 q51 f51 ks51]])) from ers_app ks39 [LT.mk 4 0 ⟨#[]⟩ tk48 false [LT.mk k51 n51 s51 q51 f51 ks51]]] at hM
              refine run_op rfl (appendM_step hG rfl rfl rfl rfl rfl rfl rfl rfl rfl rfl rfl (cellss_sz ([LT.mk 4 0 ⟨#[]⟩ tk48 false [LT.mk k51 n51 s51 q51 f51 ks51]])) (tlen _) (tlen ([LT.mk 4 0 ⟨#[]⟩ tk48 false [LT.mk k51 n51 s51 q51 f51 ks51]])) hc54 (by decide) (cellss_app _ _)) rfl (ltb rfl) ?_
              refine run_pu rfl (fieldAddr_step hG rfl rfl rfl rfl rfl) rfl (ltb rfl) ?_
              refine run_op0 rfl (store_step hG rfl rfl rfl rfl rfl rfl rfl rfl) rfl ?_
              refine run_ops_nil ?_
              refine run_blk ?_
              refine run_region ?_
              refine run_pu rfl (abin_step rfl rfl rfl rfl (fun _ h => by cases h)) rfl (ltb rfl) ?_
              refine run_pu rfl (move_step (.inl rfl) rfl) rfl (ltb rfl) ?_
              refine run_ops_nil ?_
              exact run_loop_end ⟨m, _, Nat.lt_succ_self _, ⟨(IntKind.i64.wrap (i38 + 1)), (ks39 ++ [LT.mk 4 0 ⟨#[]⟩ tk48 false [LT.mk k51 n51 s51 q51 f51 ks51]]), (tk48 + 1), (show tki_proofTerm_L1 ≤ (tk48 + 1) by omega), (show Fr tkj3 (tk48 + 1) _ from (Fr.tsnoc (show Fr tkj3 tki_proofTerm_L2 _ from (hfr39).mono (by omega) (by omega)) (show Fr tki_proofTerm_L2 (tk48 + 1) _ from Fr.tstop (show Fr tki_proofTerm_L2 tk48 _ from (Fr.tcons ((show Fr tki_proofTerm_L2 tk48 _ from hf52 rfl)) (show Fr tk48 tk48 _ from Fr.nil _ _) (by omega) (by omega)).mono (by omega) (by omega)) (by omega) (by omega)) (by omega) (by omega)).mono (by omega) (by omega)), hM, rfl⟩, Sub.trans (Sub.drop (k := 58) rfl) (Sub.trans (Sub.drop (k := 10) rfl) (Sub.env [(1, .optr (.loc 1) 0 0), (2, .optr (.loc 2) 0 0), (5, .optr (.loc 5) 0 0), (42, .imm q1 4 f1 (pcellss ks1)), (43, .int .i64 (((pers ks1)).length : Int)), (44, .int .i64 (IntKind.i64.wrap (i38 + 1)))] ⟨rfl, rfl, rfl, rfl, rfl, rfl, trivial⟩))⟩
            · replace hM := ite_f hb53 hM
              refine run_skip ?_
              refine run_region ?_
              refine run_pu rfl (fieldAddr_step hG rfl rfl rfl rfl rfl) rfl (ltb rfl) ?_
              refine run_rd rfl (aload_rd hG rfl rfl rfl (by simp [ldok])) rfl (ltb rfl) ?_
              refine run_rd rfl (aload_rd hG rfl rfl rfl (by simp [ldok])) rfl (ltb rfl) ?_
              refine run_op rfl (buildSlice_step (d := 58) hG rfl rfl rfl rfl rfl (by rfl) (by rfl) (by rfl) (by decide)) rfl (ltb rfl) ?_
              obtain ⟨hc55, hM⟩ := chk_t hM
              try rw [show ((ers ks39) ++ [(T.mk k51 n51 s51 (ers ks51))] : List T) = (ers (ks39 ++ [LT.mk k51 n51 s51 q51 f51 ks51])) from ers_app ks39 [LT.mk k51 n51 s51 q51 f51 ks51]] at hM
              refine run_op rfl (appendM_step hG rfl rfl rfl rfl rfl rfl rfl rfl rfl rfl rfl (cellss_sz ([LT.mk k51 n51 s51 q51 f51 ks51])) (tlen _) (tlen ([LT.mk k51 n51 s51 q51 f51 ks51])) hc55 (by decide) (cellss_app _ _)) rfl (ltb rfl) ?_
              refine run_pu rfl (fieldAddr_step hG rfl rfl rfl rfl rfl) rfl (ltb rfl) ?_
              refine run_op0 rfl (store_step hG rfl rfl rfl rfl rfl rfl rfl rfl) rfl ?_
              refine run_ops_nil ?_
              refine run_blk ?_
              refine run_sub_code (σ' := ⟨[(1, .optr (.loc 1) 0 0), (2, .optr (.loc 2) 0 0), (5, .optr (.loc 5) 0 0), (42, .imm q1 4 f1 (pcellss ks1)), (43, .int .i64 (((pers ks1)).length : Int)), (44, .int .i64 i38)], [(38, ⟨55, 4, false, cellss (ks39 ++ [LT.mk k51 n51 s51 q51 f51 ks51])⟩), (5, ⟨55, 4, true, [[.int .i64 6, .int .i64 0, .str t6, .osl (.loc 38)]]⟩), (2, ⟨55, 4, true, [[.int .i64 0, .int .i64 0, .str ⟨#[]⟩, .imm 0 4 true []]]⟩), (1, ⟨61, 4, true, [[.int .i64 k1, .int .i64 n1, .imm p1 3 e1 (fcellss fs1), .imm q1 4 f1 (pcellss ks1)]]⟩)], [], O, tk48⟩) (Sub.trans (Sub.drop (k := 58) rfl) (Sub.trans (Sub.drop (k := 10) rfl) (Sub.trans (Sub.drop (k := 9) rfl) (Sub.env [(1, .optr (.loc 1) 0 0), (2, .optr (.loc 2) 0 0), (5, .optr (.loc 5) 0 0), (42, .imm q1 4 f1 (pcellss ks1)), (43, .int .i64 (((pers ks1)).length : Int)), (44, .int .i64 i38)] ⟨rfl, rfl, rfl, rfl, rfl, rfl, trivial⟩)))) ?_
              refine run_region ?_
              refine run_pu rfl (abin_step rfl rfl rfl rfl (fun _ h => by cases h)) rfl (ltb rfl) ?_
              refine run_pu rfl (move_step (.inl rfl) rfl) rfl (ltb rfl) ?_
              refine run_ops_nil ?_
              exact run_loop_end ⟨m, _, Nat.lt_succ_self _, ⟨(IntKind.i64.wrap (i38 + 1)), (ks39 ++ [LT.mk k51 n51 s51 q51 f51 ks51]), tk48, (show tki_proofTerm_L1 ≤ tk48 by omega), (show Fr tkj3 tk48 _ from (Fr.tsnoc (show Fr tkj3 tki_proofTerm_L2 _ from (hfr39).mono (by omega) (by omega)) ((show Fr tki_proofTerm_L2 tk48 _ from hf52 rfl)) (by omega) (by omega)).mono (by omega) (by omega)), hM, rfl⟩, Sub.env [(1, .optr (.loc 1) 0 0), (2, .optr (.loc 2) 0 0), (5, .optr (.loc 5) 0 0), (42, .imm q1 4 f1 (pcellss ks1)), (43, .int .i64 (((pers ks1)).length : Int)), (44, .int .i64 (IntKind.i64.wrap (i38 + 1)))] ⟨rfl, rfl, rfl, rfl, rfl, rfl, trivial⟩⟩
          · replace hM := ite_f hb40 hM
            refine run_exit_to rfl ?_
            refine run_seq ?_
            refine run_region ?_
            refine run_rd rfl (aload_rd hG rfl rfl rfl (by simp [ldok])) rfl (ltb rfl) ?_
            refine run_op0 rfl (store_step hG rfl rfl rfl rfl rfl rfl rfl rfl) rfl ?_
            refine run_ops_nil ?_
            refine run_ret_to ?_
            refine fin_sub (Sub.freeze (k := 38) rfl rfl) ?_
            obtain rfl := some_t hM
            refine fin_x hG rfl rfl rfl (v' := .agg [.int .i64 6, .int .i64 0, .str t6, .imm tki_proofTerm_L2 4 false (cellss ks39)]) (by rfl) ⟨rfl, (show tk ≤ (tki_proofTerm_L2 + 1) by omega), _, rfl, ⟨6, 0, t6, tki_proofTerm_L2, false, ks39, rfl, rfl, fun _ => (show Fr tk (tki_proofTerm_L2 + 1) _ from (show Fr tkj3 (tki_proofTerm_L2 + 1) _ from Fr.tstop (show Fr tkj3 tki_proofTerm_L2 _ from (hfr39).mono (by omega) (by omega)) (by omega) (by omega)).mono (by omega) (by omega))⟩⟩

theorem i_proofTerm_all : ∀ (n : Nat), (∀ (k1 : Int) (n1 : Int) (p1 : Nat) (e1 : Bool) (fs1 : List LF) (q1 : Nat) (f1 : Bool) (ks1 : List LP) {r : T}, i_proofTerm n (Pf.mk k1 n1 (fers fs1) (pers ks1)) = some r → ∀ (O : Heap) (tk : Nat), ACalls Go.Proofs.Try.prog 91 [.agg [.int .i64 k1, .int .i64 n1, .imm p1 3 e1 (fcellss fs1), .imm q1 4 f1 (pcellss ks1)]] O tk (RetX O tk (fun v tk' => VT true tk tk' r v)))
  | 0 => by intro k1 n1 p1 e1 fs1 q1 f1 ks1 r hM; rw [i_proofTerm] at hM; cases hM
  | n + 1 => have ih := i_proofTerm_all n; i_proofTerm_st n (ih)

theorem i_proofTerm_ok (n : Nat) : ∀ (k1 : Int) (n1 : Int) (p1 : Nat) (e1 : Bool) (fs1 : List LF) (q1 : Nat) (f1 : Bool) (ks1 : List LP) {r : T}, i_proofTerm n (Pf.mk k1 n1 (fers fs1) (pers ks1)) = some r → ∀ (O : Heap) (tk : Nat), ACalls Go.Proofs.Try.prog 91 [.agg [.int .i64 k1, .int .i64 n1, .imm p1 3 e1 (fcellss fs1), .imm q1 4 f1 (pcellss ks1)]] O tk (RetX O tk (fun v tk' => VT true tk tk' r v)) := i_proofTerm_all n

set_option maxRecDepth 100000 in
theorem s_l08Names_ex (O : Heap) (tk : Nat) : ACalls Go.Proofs.Try.prog 168 [] O tk (RetN O (.imm tk 1 false (([⟨#[]⟩, ⟨#[]⟩, ⟨#[97, 110, 100, 73]⟩, ⟨#[102, 115, 116]⟩, ⟨#[115, 110, 100]⟩, ⟨#[102, 117, 110, 73]⟩, ⟨#[117, 115, 101]⟩, ⟨#[98, 111, 116, 69]⟩] : List ByteArray).map fun s => [AV.str s])) (tk + 1)) := by
  refine acalls_of_run Go.Proofs.Try.func168 rfl rfl [] [] (Bor.nil _) [] (.nil _) (leb rfl) (fun _ h => by cases h) (fun S0 hO htk hfz => ?_)
  refine run_seq ?_
  refine run_region ?_
  refine run_pu rfl (move_step (.inr rfl) rfl) rfl (ltb rfl) ?_
  refine run_ops_nil ?_
  refine run_seq ?_
  refine run_region ?_
  refine run_op rfl (buildSlice_step (d := 1) hG rfl rfl rfl rfl rfl (by rfl) (by rfl) (by rfl) (by decide)) rfl (ltb rfl) ?_
  refine run_pu rfl (move_step (.inr rfl) rfl) rfl (ltb rfl) ?_
  refine run_ops_nil ?_
  refine run_ret_to ?_
  refine fin_sub (Sub.freeze (k := 1) rfl rfl) ?_
  refine fin_x hG rfl rfl rfl (v' := .imm tk 1 false (([⟨#[]⟩, ⟨#[]⟩, ⟨#[97, 110, 100, 73]⟩, ⟨#[102, 115, 116]⟩, ⟨#[115, 110, 100]⟩, ⟨#[102, 117, 110, 73]⟩, ⟨#[117, 115, 101]⟩, ⟨#[98, 111, 116, 69]⟩] : List ByteArray).map fun s => [AV.str s])) (by rfl) ⟨rfl, rfl, rfl⟩

def s_l08Encode_L2 (rec_s_l08Encode : Pf → Option T) (x1 : Pf) : Nat → Int → List T → Option T
  | 0, _, _ => none
  | m + 1, i19, l20 =>
    if i19 < ((x1.kids).length : Int) then
      (idx x1.kids i19).bind fun y22 =>
      (rec_s_l08Encode y22).bind fun r27 =>
      if x1.kind = 5 then
        chk ((l20).length + ([(T.mk 4 0 ⟨#[]⟩ [r27])]).length ≤ 1099511627776) <|
        s_l08Encode_L2 rec_s_l08Encode x1 m (IntKind.i64.wrap (i19 + 1)) (l20 ++ [(T.mk 4 0 ⟨#[]⟩ [r27])])
      else
        chk ((l20).length + ([r27]).length ≤ 1099511627776) <|
        s_l08Encode_L2 rec_s_l08Encode x1 m (IntKind.i64.wrap (i19 + 1)) (l20 ++ [r27])
    else
      (idx ([⟨#[]⟩, ⟨#[]⟩, ⟨#[97, 110, 100, 73]⟩, ⟨#[102, 115, 116]⟩, ⟨#[115, 110, 100]⟩, ⟨#[102, 117, 110, 73]⟩, ⟨#[117, 115, 101]⟩, ⟨#[98, 111, 116, 69]⟩]) x1.kind).bind fun y37 =>
      some (T.mk 6 0 y37 l20)

def s_l08Encode_L1 (rec_s_l08Encode : Pf → Option T) (n : Nat) (x1 : Pf) : Nat → Int → List T → Option T
  | 0, _, _ => none
  | m + 1, i3, l4 =>
    if i3 < ((x1.forms).length : Int) then
      (idx x1.forms i3).bind fun y6 =>
      (s_l08Tree n y6).bind fun r11 =>
      chk ((l4).length + ([r11]).length ≤ 1099511627776) <|
      s_l08Encode_L1 rec_s_l08Encode n x1 m (IntKind.i64.wrap (i3 + 1)) (l4 ++ [r11])
    else
      s_l08Encode_L2 rec_s_l08Encode x1 n 0 l4

def s_l08Encode : Nat → Pf → Option T
  | 0, _ => none
  | n + 1, x1 =>
    if x1.kind = 1 then
      some (T.mk 5 x1.n ⟨#[]⟩ [])
    else
      s_l08Encode_L1 (s_l08Encode n) n x1 n 0 ([])

set_option maxRecDepth 100000 in
theorem s_l08Encode_st (n : Nat) (ih_s_l08Encode : ∀ (k1 : Int) (n1 : Int) (p1 : Nat) (e1 : Bool) (fs1 : List LF) (q1 : Nat) (f1 : Bool) (ks1 : List LP) {r : T}, s_l08Encode n (Pf.mk k1 n1 (fers fs1) (pers ks1)) = some r → ∀ (O : Heap) (tk : Nat), ACalls Go.Proofs.Try.prog 85 [.agg [.int .i64 k1, .int .i64 n1, .imm p1 3 e1 (fcellss fs1), .imm q1 4 f1 (pcellss ks1)]] O tk (RetX O tk (fun v tk' => VT true tk tk' r v))) : ∀ (k1 : Int) (n1 : Int) (p1 : Nat) (e1 : Bool) (fs1 : List LF) (q1 : Nat) (f1 : Bool) (ks1 : List LP) {r : T}, s_l08Encode (n + 1) (Pf.mk k1 n1 (fers fs1) (pers ks1)) = some r → ∀ (O : Heap) (tk : Nat), ACalls Go.Proofs.Try.prog 85 [.agg [.int .i64 k1, .int .i64 n1, .imm p1 3 e1 (fcellss fs1), .imm q1 4 f1 (pcellss ks1)]] O tk (RetX O tk (fun v tk' => VT true tk tk' r v)) := by
  intro k1 n1 p1 e1 fs1 q1 f1 ks1 r hM O tk
  rw [s_l08Encode] at hM
  refine acalls_of_run Go.Proofs.Try.func85 rfl rfl [] [] (Bor.nil _) [(0, .agg [.int .i64 k1, .int .i64 n1, .imm p1 3 e1 (fcellss fs1), .imm q1 4 f1 (pcellss ks1)])] (.cons (.agg _) (.nil _)) (leb rfl) (fun _ h => by cases h) (fun S0 hO htk hfz => ?_)
  refine run_seq ?_
  refine run_region ?_
  refine run_op rfl (box_step (d := 1) rfl rfl rfl rfl rfl) rfl (ltb rfl) ?_
  refine run_op rfl (alloc_step (d := 2) hG rfl rfl rfl) rfl (ltb rfl) ?_
  refine run_ops_nil ?_
  refine run_seq ?_
  refine run_seq ?_
  refine run_region ?_
  refine run_pu rfl (fieldAddr_step hG rfl rfl rfl rfl rfl) rfl (ltb rfl) ?_
  refine run_rd rfl (aload_rd hG rfl rfl rfl (by simp [ldok])) rfl (ltb rfl) ?_
  refine run_pu rfl (abin_step rfl rfl rfl rfl (fun _ h => by cases h)) rfl (ltb rfl) ?_
  refine run_ops_nil ?_
  refine run_ifd rfl rfl (fun hb2 => ?_) (fun hb2 => ?_)
  · replace hM := ite_t hb2 hM
    refine run_seq ?_
    refine run_region ?_
    refine run_pu rfl (fieldAddr_step hG rfl rfl rfl rfl rfl) rfl (ltb rfl) ?_
    refine run_rd rfl (aload_rd hG rfl rfl rfl (by simp [ldok])) rfl (ltb rfl) ?_
    refine run_call rfl rfl rfl (ltb rfl) rfl rfl rfl (fun _ h => absurd h List.not_mem_nil) (ACalls.args (args' := [.int .i64 n1, .imm 0 4 true (cellss [])]) rfl (s_l01Var_ex n1 0 true [] _ _)) (callK_retN ?_)
    skip
    refine run_op0 rfl (store_step hG rfl rfl rfl rfl rfl rfl rfl rfl) rfl ?_
    refine run_ops_nil ?_
    refine run_ret_to ?_
    obtain rfl := some_t hM
    refine fin_x hG rfl rfl rfl (v' := .agg [.int .i64 5, .int .i64 n1, .str ⟨#[]⟩, .imm 0 4 true (cellss [])]) (by rfl) ⟨rfl, (show tk ≤ tk by omega), _, rfl, ⟨5, n1, ⟨#[]⟩, 0, true, [], rfl, rfl, fun _ => Fr.nil _ _⟩⟩
  · replace hM := ite_f hb2 hM
    refine run_skip ?_
    refine run_seq ?_
    refine run_region ?_
    refine run_op rfl (buildSlice_step (d := 13) hG rfl rfl rfl rfl rfl (by rfl) (by rfl) (by rfl) (by decide)) rfl (ltb rfl) ?_
    refine run_pu rfl (move_step (.inr rfl) rfl) rfl (ltb rfl) ?_
    refine run_ops_nil ?_
    refine run_seq ?_
    refine run_seq ?_
    refine run_region ?_
    refine run_pu rfl (move_step (.inr rfl) rfl) rfl (ltb rfl) ?_
    refine run_ops_nil ?_
    refine run_block ?_
    refine run_rounds (fun m σ => ∃ (i3 : Int) (ks4 : List LT) (tks_l08Encode_L1 : Nat), tk ≤ tks_l08Encode_L1 ∧ Fr tk tks_l08Encode_L1 (ttoks ks4) ∧ s_l08Encode_L1 (s_l08Encode n) n (Pf.mk k1 n1 (fers fs1) (pers ks1)) m i3 (ers ks4) = some r ∧ σ = ⟨[(1, .optr (.loc 1) 0 0), (2, .optr (.loc 2) 0 0), (3, .osl (.loc 13)), (4, .int .i64 i3)], [(13, ⟨55, 4, false, cellss ks4⟩), (2, ⟨55, 4, true, [[.int .i64 0, .int .i64 0, .str ⟨#[]⟩, .imm 0 4 true []]]⟩), (1, ⟨61, 4, true, [[.int .i64 k1, .int .i64 n1, .imm p1 3 e1 (fcellss fs1), .imm q1 4 f1 (pcellss ks1)]]⟩)], [], O, tks_l08Encode_L1⟩) n (Sub.env [(1, .optr (.loc 1) 0 0), (2, .optr (.loc 2) 0 0), (3, .osl (.loc 13)), (4, .int .i64 0)] ⟨rfl, rfl, rfl, rfl, trivial⟩) ⟨0, [], tk, Nat.le_refl _, Fr.nil _ _, hM, rfl⟩ (fun m σ hI => ?_)
    clear hM
    obtain ⟨i3, ks4, tks_l08Encode_L1, hle43, hfr4, hM, rfl⟩ := hI
    obtain _ | m := m
    · exact absurd hM (by rw [s_l08Encode_L1]; exact fun h => by cases h)
    rw [s_l08Encode_L1] at hM
    refine run_seq ?_
    refine run_seq ?_
    refine run_region ?_
    refine run_pu rfl (move_step (.inl rfl) rfl) rfl (ltb rfl) ?_
    refine run_pu rfl (fieldAddr_step hG rfl rfl rfl rfl rfl) rfl (ltb rfl) ?_
    refine run_rd rfl (aload_rd hG rfl rfl rfl (by simp [ldok])) rfl (ltb rfl) ?_
    refine run_pu rfl (lenImm_step hG rfl rfl rfl rfl (flen _)) rfl (ltb rfl) ?_
    refine run_pu rfl (abin_step rfl rfl rfl rfl (fun _ h => by cases h)) rfl (ltb rfl) ?_
    refine run_ops_nil ?_
    refine run_ifd rfl rfl (fun hb5 => ?_) (fun hb5 => ?_)
    · replace hM := ite_t hb5 hM
      refine run_skip ?_
      refine run_seq ?_
      refine run_block ?_
      refine run_region ?_
      refine run_pu rfl (move_step (.inl rfl) rfl) rfl (ltb rfl) ?_
      refine run_pu rfl (fieldAddr_step hG rfl rfl rfl rfl rfl) rfl (ltb rfl) ?_
      refine run_rd rfl (aload_rd hG rfl rfl rfl (by simp [ldok])) rfl (ltb rfl) ?_
      refine run_pu rfl (move_step (.inl rfl) rfl) rfl (ltb rfl) ?_
      obtain ⟨y6, hy7, hM⟩ := bind_t hM
      obtain ⟨k8, n8, q8, f8, ks8, rfl, hc9, hi10⟩ := fidx hy7
      refine run_pu rfl (indexImm_step hG rfl rfl rfl hi10 rfl rfl rfl rfl hc9) rfl (ltb rfl) ?_
      refine run_rd rfl (aload_rd hG rfl rfl rfl (by simp [ldok])) rfl (ltb rfl) ?_
      obtain ⟨r11, hg12, hM⟩ := bind_t hM
      refine run_call rfl rfl rfl (ltb rfl) rfl rfl rfl (fun _ h => absurd h List.not_mem_nil) (s_l08Tree_ok n k8 n8 q8 f8 ks8 hg12 _ _) (callK_retX (fun v tk13 (hle14 : tks_l08Encode_L1 ≤ tk13) h15 => ?_))
      obtain ⟨k16, n16, s16, q16, f16, ks16, rfl, rfl, hf17⟩ := h15
      refine run_op rfl (buildSlice_step (d := 28) hG rfl rfl rfl rfl rfl (by rfl) (by rfl) (by rfl) (by decide)) rfl (ltb rfl) ?_
      obtain ⟨hc18, hM⟩ := chk_t hM
      try rw [show ((ers ks4) ++ [(T.mk k16 n16 s16 (ers ks16))] : List T) = (ers (ks4 ++ [LT.mk k16 n16 s16 q16 f16 ks16])) from ers_app ks4 [LT.mk k16 n16 s16 q16 f16 ks16]] at hM
      refine run_op rfl (appendM_step hG rfl rfl rfl rfl rfl rfl rfl rfl rfl rfl rfl (cellss_sz ([LT.mk k16 n16 s16 q16 f16 ks16])) (tlen _) (tlen ([LT.mk k16 n16 s16 q16 f16 ks16])) hc18 (by decide) (cellss_app _ _)) rfl (ltb rfl) ?_
      refine run_pu rfl (move_step (.inr rfl) rfl) rfl (ltb rfl) ?_
      refine run_ops_nil ?_
      refine run_blk ?_
      refine run_sub_code (σ' := ⟨[(1, .optr (.loc 1) 0 0), (2, .optr (.loc 2) 0 0), (3, .osl (.loc 13)), (4, .int .i64 i3)], [(13, ⟨55, 4, false, cellss (ks4 ++ [LT.mk k16 n16 s16 q16 f16 ks16])⟩), (2, ⟨55, 4, true, [[.int .i64 0, .int .i64 0, .str ⟨#[]⟩, .imm 0 4 true []]]⟩), (1, ⟨61, 4, true, [[.int .i64 k1, .int .i64 n1, .imm p1 3 e1 (fcellss fs1), .imm q1 4 f1 (pcellss ks1)]]⟩)], [], O, tk13⟩) (Sub.trans (Sub.drop (k := 28) rfl) (Sub.env [(1, .optr (.loc 1) 0 0), (2, .optr (.loc 2) 0 0), (3, .osl (.loc 13)), (4, .int .i64 i3)] ⟨rfl, rfl, rfl, rfl, trivial⟩)) ?_
      refine run_region ?_
      refine run_pu rfl (move_step (.inl rfl) rfl) rfl (ltb rfl) ?_
      refine run_pu rfl (abin_step rfl rfl rfl rfl (fun _ h => by cases h)) rfl (ltb rfl) ?_
      refine run_pu rfl (move_step (.inr rfl) rfl) rfl (ltb rfl) ?_
      refine run_ops_nil ?_
      exact run_loop_end ⟨m, _, Nat.lt_succ_self _, ⟨(IntKind.i64.wrap (i3 + 1)), (ks4 ++ [LT.mk k16 n16 s16 q16 f16 ks16]), tk13, (show tk ≤ tk13 by omega), (show Fr tk tk13 _ from (Fr.tsnoc (show Fr tk tks_l08Encode_L1 _ from (hfr4).mono (by omega) (by omega)) ((show Fr tks_l08Encode_L1 tk13 _ from hf17 rfl)) (by omega) (by omega)).mono (by omega) (by omega)), hM, rfl⟩, Sub.env [(1, .optr (.loc 1) 0 0), (2, .optr (.loc 2) 0 0), (3, .osl (.loc 13)), (4, .int .i64 (IntKind.i64.wrap (i3 + 1)))] ⟨rfl, rfl, rfl, rfl, trivial⟩⟩
    · replace hM := ite_f hb5 hM
      refine run_exit_to rfl ?_
      refine run_seq ?_
      refine run_seq ?_
      refine run_region ?_
      refine run_pu rfl (move_step (.inr rfl) rfl) rfl (ltb rfl) ?_
      refine run_ops_nil ?_
      refine run_block ?_
      refine run_rounds (fun m σ => ∃ (i19 : Int) (ks20 : List LT) (tks_l08Encode_L2 : Nat), tks_l08Encode_L1 ≤ tks_l08Encode_L2 ∧ Fr tk tks_l08Encode_L2 (ttoks ks20) ∧ s_l08Encode_L2 (s_l08Encode n) (Pf.mk k1 n1 (fers fs1) (pers ks1)) m i19 (ers ks20) = some r ∧ σ = ⟨[(1, .optr (.loc 1) 0 0), (2, .optr (.loc 2) 0 0), (3, .osl (.loc 13)), (5, .int .i64 i19)], [(13, ⟨55, 4, false, cellss ks20⟩), (2, ⟨55, 4, true, [[.int .i64 0, .int .i64 0, .str ⟨#[]⟩, .imm 0 4 true []]]⟩), (1, ⟨61, 4, true, [[.int .i64 k1, .int .i64 n1, .imm p1 3 e1 (fcellss fs1), .imm q1 4 f1 (pcellss ks1)]]⟩)], [], O, tks_l08Encode_L2⟩) n (Sub.env [(1, .optr (.loc 1) 0 0), (2, .optr (.loc 2) 0 0), (3, .osl (.loc 13)), (5, .int .i64 0)] ⟨rfl, rfl, rfl, rfl, trivial⟩) ⟨0, ks4, tks_l08Encode_L1, Nat.le_refl _, (show Fr tk tks_l08Encode_L1 _ from (hfr4).mono (by omega) (by omega)), hM, rfl⟩ (fun m σ hI => ?_)
      clear hM
      obtain ⟨i19, ks20, tks_l08Encode_L2, hle42, hfr20, hM, rfl⟩ := hI
      obtain _ | m := m
      · exact absurd hM (by rw [s_l08Encode_L2]; exact fun h => by cases h)
      rw [s_l08Encode_L2] at hM
      refine run_seq ?_
      refine run_seq ?_
      refine run_region ?_
      refine run_pu rfl (move_step (.inl rfl) rfl) rfl (ltb rfl) ?_
      refine run_pu rfl (fieldAddr_step hG rfl rfl rfl rfl rfl) rfl (ltb rfl) ?_
      refine run_rd rfl (aload_rd hG rfl rfl rfl (by simp [ldok])) rfl (ltb rfl) ?_
      refine run_pu rfl (lenImm_step hG rfl rfl rfl rfl (plen _)) rfl (ltb rfl) ?_
      refine run_pu rfl (abin_step rfl rfl rfl rfl (fun _ h => by cases h)) rfl (ltb rfl) ?_
      refine run_ops_nil ?_
      refine run_ifd rfl rfl (fun hb21 => ?_) (fun hb21 => ?_)
      · replace hM := ite_t hb21 hM
        refine run_skip ?_
        refine run_seq ?_
        refine run_block ?_
        refine run_seq ?_
        refine run_region ?_
        refine run_pu rfl (fieldAddr_step hG rfl rfl rfl rfl rfl) rfl (ltb rfl) ?_
        refine run_rd rfl (aload_rd hG rfl rfl rfl (by simp [ldok])) rfl (ltb rfl) ?_
        refine run_pu rfl (move_step (.inl rfl) rfl) rfl (ltb rfl) ?_
        obtain ⟨y22, hy23, hM⟩ := bind_t hM
        obtain ⟨k24, n24, p24, e24, fs24, q24, f24, ks24, rfl, hc25, hi26⟩ := pidx hy23
        refine run_pu rfl (indexImm_step hG rfl rfl rfl hi26 rfl rfl rfl rfl hc25) rfl (ltb rfl) ?_
        refine run_rd rfl (aload_rd hG rfl rfl rfl (by simp [ldok])) rfl (ltb rfl) ?_
        obtain ⟨r27, hg28, hM⟩ := bind_t hM
        refine run_call rfl rfl rfl (ltb rfl) rfl rfl rfl (fun _ h => absurd h List.not_mem_nil) (ih_s_l08Encode k24 n24 p24 e24 fs24 q24 f24 ks24 hg28 _ _) (callK_retX (fun v tk29 (hle30 : tks_l08Encode_L2 ≤ tk29) h31 => ?_))
        obtain ⟨k32, n32, s32, q32, f32, ks32, rfl, rfl, hf33⟩ := h31
        refine run_op rfl (alloc_step (d := 6) hG rfl rfl rfl) rfl (ltb rfl) ?_
        refine run_op0 rfl (store_step hG rfl rfl rfl rfl rfl rfl rfl rfl) rfl ?_
        refine run_ops_nil ?_
        refine run_seq ?_
        refine run_seq ?_
        refine run_region ?_
        refine run_pu rfl (fieldAddr_step hG rfl rfl rfl rfl rfl) rfl (ltb rfl) ?_
        refine run_rd rfl (aload_rd hG rfl rfl rfl (by simp [ldok])) rfl (ltb rfl) ?_
        refine run_pu rfl (abin_step rfl rfl rfl rfl (fun _ h => by cases h)) rfl (ltb rfl) ?_
        refine run_ops_nil ?_
        refine run_sub_code (σ' := ⟨[(1, .optr (.loc 1) 0 0), (2, .optr (.loc 2) 0 0), (3, .osl (.loc 13)), (5, .int .i64 i19), (6, .optr (.loc 6) 0 0), (45, .bool (k1 == 5))], [(6, ⟨55, 4, true, [[.int .i64 k32, .int .i64 n32, .str s32, .imm q32 4 f32 (cellss ks32)]]⟩), (13, ⟨55, 4, false, cellss ks20⟩), (2, ⟨55, 4, true, [[.int .i64 0, .int .i64 0, .str ⟨#[]⟩, .imm 0 4 true []]]⟩), (1, ⟨61, 4, true, [[.int .i64 k1, .int .i64 n1, .imm p1 3 e1 (fcellss fs1), .imm q1 4 f1 (pcellss ks1)]]⟩)], [], O, tk29⟩) (Sub.env [(1, .optr (.loc 1) 0 0), (2, .optr (.loc 2) 0 0), (3, .osl (.loc 13)), (5, .int .i64 i19), (6, .optr (.loc 6) 0 0), (45, .bool (k1 == 5))] ⟨rfl, rfl, rfl, rfl, rfl, rfl, trivial⟩) ?_
        refine run_ifd rfl rfl (fun hb34 => ?_) (fun hb34 => ?_)
        · replace hM := ite_t hb34 hM
          refine run_region ?_
          refine run_rd rfl (aload_rd hG rfl rfl rfl (by simp [ldok])) rfl (ltb rfl) ?_
          refine run_call rfl rfl rfl (ltb rfl) rfl rfl rfl (fun _ h => absurd h List.not_mem_nil) (s_l01Lam_ex k32 n32 s32 q32 f32 ks32 _ _) (callK_retN ?_)
          skip
          refine run_op0 rfl (store_step hG rfl rfl rfl rfl rfl rfl rfl rfl) rfl ?_
          refine run_ops_nil ?_
          refine run_region ?_
          refine run_pu rfl (move_step (.inl rfl) rfl) rfl (ltb rfl) ?_
          refine run_rd rfl (aload_rd hG rfl rfl rfl (by simp [ldok])) rfl (ltb rfl) ?_
          refine run_op rfl (buildSlice_step (d := 50) hG rfl rfl rfl rfl rfl (by rfl) (by rfl) (by rfl) (by decide)) rfl (ltb rfl) ?_
          obtain ⟨hc35, hM⟩ := chk_t hM
          try rw [show ((ers ks20) ++ [(T.mk 4 0 ⟨#[]⟩ [(T.mk k32 n32 s32 (ers ks32))])] : List T) = (ers (ks20 ++ [LT.mk 4 0 ⟨#[]⟩ tk29 false [LT.mk k32 n32 s32 q32 f32 ks32]])) from ers_app ks20 [LT.mk 4 0 ⟨#[]⟩ tk29 false [LT.mk k32 n32 s32 q32 f32 ks32]]] at hM
          refine run_op rfl (appendM_step hG rfl rfl rfl rfl rfl rfl rfl rfl rfl rfl rfl (cellss_sz ([LT.mk 4 0 ⟨#[]⟩ tk29 false [LT.mk k32 n32 s32 q32 f32 ks32]])) (tlen _) (tlen ([LT.mk 4 0 ⟨#[]⟩ tk29 false [LT.mk k32 n32 s32 q32 f32 ks32]])) hc35 (by decide) (cellss_app _ _)) rfl (ltb rfl) ?_
          refine run_pu rfl (move_step (.inr rfl) rfl) rfl (ltb rfl) ?_
          refine run_ops_nil ?_
          refine run_blk ?_
          refine run_region ?_
          refine run_pu rfl (move_step (.inl rfl) rfl) rfl (ltb rfl) ?_
          refine run_pu rfl (abin_step rfl rfl rfl rfl (fun _ h => by cases h)) rfl (ltb rfl) ?_
          refine run_pu rfl (move_step (.inr rfl) rfl) rfl (ltb rfl) ?_
          refine run_ops_nil ?_
          exact run_loop_end ⟨m, _, Nat.lt_succ_self _, ⟨(IntKind.i64.wrap (i19 + 1)), (ks20 ++ [LT.mk 4 0 ⟨#[]⟩ tk29 false [LT.mk k32 n32 s32 q32 f32 ks32]]), (tk29 + 1), (show tks_l08Encode_L1 ≤ (tk29 + 1) by omega), (show Fr tk (tk29 + 1) _ from (Fr.tsnoc (show Fr tk tks_l08Encode_L2 _ from (hfr20).mono (by omega) (by omega)) (show Fr tks_l08Encode_L2 (tk29 + 1) _ from Fr.tstop (show Fr tks_l08Encode_L2 tk29 _ from (Fr.tcons ((show Fr tks_l08Encode_L2 tk29 _ from hf33 rfl)) (show Fr tk29 tk29 _ from Fr.nil _ _) (by omega) (by omega)).mono (by omega) (by omega)) (by omega) (by omega)) (by omega) (by omega)).mono (by omega) (by omega)), hM, rfl⟩, Sub.trans (Sub.drop (k := 50) rfl) (Sub.trans (Sub.drop (k := 6) rfl) (Sub.env [(1, .optr (.loc 1) 0 0), (2, .optr (.loc 2) 0 0), (3, .osl (.loc 13)), (5, .int .i64 (IntKind.i64.wrap (i19 + 1)))] ⟨rfl, rfl, rfl, rfl, trivial⟩))⟩
        · replace hM := ite_f hb34 hM
          refine run_skip ?_
          refine run_region ?_
          refine run_pu rfl (move_step (.inl rfl) rfl) rfl (ltb rfl) ?_
          refine run_rd rfl (aload_rd hG rfl rfl rfl (by simp [ldok])) rfl (ltb rfl) ?_
          refine run_op rfl (buildSlice_step (d := 50) hG rfl rfl rfl rfl rfl (by rfl) (by rfl) (by rfl) (by decide)) rfl (ltb rfl) ?_
          obtain ⟨hc36, hM⟩ := chk_t hM
          try rw [show ((ers ks20) ++ [(T.mk k32 n32 s32 (ers ks32))] : List T) = (ers (ks20 ++ [LT.mk k32 n32 s32 q32 f32 ks32])) from ers_app ks20 [LT.mk k32 n32 s32 q32 f32 ks32]] at hM
          refine run_op rfl (appendM_step hG rfl rfl rfl rfl rfl rfl rfl rfl rfl rfl rfl (cellss_sz ([LT.mk k32 n32 s32 q32 f32 ks32])) (tlen _) (tlen ([LT.mk k32 n32 s32 q32 f32 ks32])) hc36 (by decide) (cellss_app _ _)) rfl (ltb rfl) ?_
          refine run_pu rfl (move_step (.inr rfl) rfl) rfl (ltb rfl) ?_
          refine run_ops_nil ?_
          refine run_blk ?_
          refine run_region ?_
          refine run_pu rfl (move_step (.inl rfl) rfl) rfl (ltb rfl) ?_
          refine run_pu rfl (abin_step rfl rfl rfl rfl (fun _ h => by cases h)) rfl (ltb rfl) ?_
          refine run_pu rfl (move_step (.inr rfl) rfl) rfl (ltb rfl) ?_
          refine run_ops_nil ?_
          exact run_loop_end ⟨m, _, Nat.lt_succ_self _, ⟨(IntKind.i64.wrap (i19 + 1)), (ks20 ++ [LT.mk k32 n32 s32 q32 f32 ks32]), tk29, (show tks_l08Encode_L1 ≤ tk29 by omega), (show Fr tk tk29 _ from (Fr.tsnoc (show Fr tk tks_l08Encode_L2 _ from (hfr20).mono (by omega) (by omega)) ((show Fr tks_l08Encode_L2 tk29 _ from hf33 rfl)) (by omega) (by omega)).mono (by omega) (by omega)), hM, rfl⟩, Sub.trans (Sub.drop (k := 50) rfl) (Sub.trans (Sub.drop (k := 6) rfl) (Sub.env [(1, .optr (.loc 1) 0 0), (2, .optr (.loc 2) 0 0), (3, .osl (.loc 13)), (5, .int .i64 (IntKind.i64.wrap (i19 + 1)))] ⟨rfl, rfl, rfl, rfl, trivial⟩))⟩
      · replace hM := ite_f hb21 hM
        refine run_exit_to rfl ?_
        refine run_seq ?_
        refine run_draw [.loc 2] (n := 8) mixed rfl (by intro x hx; simp only [List.mem_cons, List.not_mem_nil, or_false] at hx; rcases hx with rfl <;> rfl) ?_
        refine AAny.take (i := 1) rfl (by kernel_rfl) (by kernel_rfl) (by kernel_rfl) rfl rfl (ltb rfl) ((fieldAddr_step hG rfl rfl rfl rfl rfl).rd _) ?_
        refine AAny.take (i := 2) rfl (by kernel_rfl) (by kernel_rfl) (by kernel_rfl) rfl rfl (ltb rfl) (aload_rd hG rfl rfl rfl (by simp [ldok])) ?_
        refine AAny.take (i := 5) rfl (by kernel_rfl) (by kernel_rfl) (by kernel_rfl) rfl rfl (ltb rfl) ((move_step (.inl rfl) rfl).rd _) ?_
        refine AAny.one (i := 0) (by kernel_rfl) (AOp.call rfl rfl rfl rfl (ltb rfl) rfl rfl rfl (fun _ h => absurd h List.not_mem_nil) (fun _ h => absurd h List.not_mem_nil) (s_l08Names_ex  _ _) (callK_retN ?_))
        skip
        obtain ⟨y37, hy38, hM⟩ := bind_t hM
        obtain ⟨hc40, hi41⟩ := sidx hy38
        refine AAny.take (i := 3) rfl (by kernel_rfl) (by kernel_rfl) (by kernel_rfl) rfl rfl (ltb rfl) ((indexImm_step hG rfl rfl rfl hi41 rfl rfl rfl rfl hc40).rd _) ?_
        refine AAny.take (i := 4) rfl (by kernel_rfl) (by kernel_rfl) (by kernel_rfl) rfl rfl (ltb rfl) (aload_rd hG rfl rfl rfl (by simp [ldok])) ?_
        refine AAny.sub (Sub.freeze (k := 13) rfl rfl) (by intro x hx; simp only [List.mem_cons, List.not_mem_nil, or_false] at hx; rcases hx with rfl <;> rfl) ?_
        refine AAny.one (i := 6) (by kernel_rfl) (AOp.call rfl rfl rfl rfl (ltb rfl) rfl rfl rfl (fun _ h => absurd h List.not_mem_nil) (fun _ h => absurd h List.not_mem_nil) (s_l01Const_ex y37 (tks_l08Encode_L2 + 1) false ks20 _ _) (callK_retN ?_))
        skip
        refine AAny.one (i := 7) (by kernel_rfl) (AOp.step0 rfl rfl rfl (store_step hG rfl rfl rfl rfl rfl rfl rfl rfl) (by intro x hx; exact hx) ?_)
        refine AAny.done (by kernel_rfl) ?_
        refine run_ret_to ?_
        obtain rfl := some_t hM
        refine fin_x hG rfl rfl rfl (v' := .agg [.int .i64 6, .int .i64 0, .str y37, .imm (tks_l08Encode_L2 + 1) 4 false (cellss ks20)]) (by rfl) ⟨rfl, (show tk ≤ ((tks_l08Encode_L2 + 1) + 1) by omega), _, rfl, ⟨6, 0, y37, (tks_l08Encode_L2 + 1), false, ks20, rfl, rfl, fun _ => (show Fr tk ((tks_l08Encode_L2 + 1) + 1) _ from (show Fr tk ((tks_l08Encode_L2 + 1) + 1) _ from Fr.tstop (show Fr tk (tks_l08Encode_L2 + 1) _ from (hfr20).mono (by omega) (by omega)) (by omega) (by omega)).mono (by omega) (by omega))⟩⟩

theorem s_l08Encode_all : ∀ (n : Nat), (∀ (k1 : Int) (n1 : Int) (p1 : Nat) (e1 : Bool) (fs1 : List LF) (q1 : Nat) (f1 : Bool) (ks1 : List LP) {r : T}, s_l08Encode n (Pf.mk k1 n1 (fers fs1) (pers ks1)) = some r → ∀ (O : Heap) (tk : Nat), ACalls Go.Proofs.Try.prog 85 [.agg [.int .i64 k1, .int .i64 n1, .imm p1 3 e1 (fcellss fs1), .imm q1 4 f1 (pcellss ks1)]] O tk (RetX O tk (fun v tk' => VT true tk tk' r v)))
  | 0 => by intro k1 n1 p1 e1 fs1 q1 f1 ks1 r hM; rw [s_l08Encode] at hM; cases hM
  | n + 1 => have ih := s_l08Encode_all n; s_l08Encode_st n (ih)

theorem s_l08Encode_ok (n : Nat) : ∀ (k1 : Int) (n1 : Int) (p1 : Nat) (e1 : Bool) (fs1 : List LF) (q1 : Nat) (f1 : Bool) (ks1 : List LP) {r : T}, s_l08Encode n (Pf.mk k1 n1 (fers fs1) (pers ks1)) = some r → ∀ (O : Heap) (tk : Nat), ACalls Go.Proofs.Try.prog 85 [.agg [.int .i64 k1, .int .i64 n1, .imm p1 3 e1 (fcellss fs1), .imm q1 4 f1 (pcellss ks1)]] O tk (RetX O tk (fun v tk' => VT true tk tk' r v)) := s_l08Encode_all n

def i_EncodeProof_c1 (n : Nat) (x1 : Pf) : Option T :=
  (i_proofTerm n x1).bind fun r2 =>
  some r2

set_option maxRecDepth 100000 in
theorem i_EncodeProof_c1_ok (n : Nat) : ∀ (X0 : ID) (k1 : Int) (n1 : Int) (p1 : Nat) (e1 : Bool) (fs1 : List LF) (q1 : Nat) (f1 : Bool) (ks1 : List LP) {r : T}, i_EncodeProof_c1 n (Pf.mk k1 n1 (fers fs1) (pers ks1)) = some r → ∀ (O : Heap) (tk : Nat), O X0 = some ⟨61, 4, true, [[.int .i64 k1, .int .i64 n1, .imm p1 3 e1 (fcellss fs1), .imm q1 4 f1 (pcellss ks1)]]⟩ → ACalls Go.Proofs.Try.prog 90 [.optr X0 0 0] O tk (RetX O tk (fun v tk' => VT true tk tk' r v)) := by
  intro X0 k1 n1 p1 e1 fs1 q1 f1 ks1 r hM O tk hX0
  unfold i_EncodeProof_c1 at hM
  refine acalls_of_run Go.Proofs.Try.func90 rfl rfl [X0] [⟨61, 4, true, [[.int .i64 k1, .int .i64 n1, .imm p1 3 e1 (fcellss fs1), .imm q1 4 f1 (pcellss ks1)]]⟩] (Bor.one hX0 rfl) [(0, .optr (.bor 0) 0 0)] (.cons (.bor 0 _ _ _ rfl) (.nil _)) (leb rfl) (by intro y h; simp only [List.mem_cons, List.not_mem_nil, or_false] at h; rcases h with rfl <;> simp [tch, tch0]) (fun S0 hO htk hfz => ?_)
  refine run_seq ?_
  refine run_region ?_
  refine run_op rfl (alloc_step (d := 1) hG rfl rfl rfl) rfl (ltb rfl) ?_
  refine run_ops_nil ?_
  refine run_seq ?_
  refine run_region ?_
  refine run_rd rfl (aload_rd hG rfl rfl rfl (by simp [ldok])) rfl (ltb rfl) ?_
  obtain ⟨r2, hg3, hM⟩ := bind_t hM
  refine run_call rfl rfl rfl (ltb rfl) rfl rfl rfl (fun _ h => absurd h List.not_mem_nil) (i_proofTerm_ok n k1 n1 p1 e1 fs1 q1 f1 ks1 hg3 _ _) (callK_retX (fun v tk4 (hle5 : tk ≤ tk4) h6 => ?_))
  obtain ⟨k7, n7, s7, q7, f7, ks7, rfl, rfl, hf8⟩ := h6
  refine run_op0 rfl (store_step hG rfl rfl rfl rfl rfl rfl rfl rfl) rfl ?_
  refine run_ops_nil ?_
  refine run_ret_to ?_
  obtain rfl := some_t hM
  refine fin_x hG rfl rfl rfl (v' := .agg [.int .i64 k7, .int .i64 n7, .str s7, .imm q7 4 f7 (cellss ks7)]) (by rfl) ⟨out_same (Bor.one hX0 rfl), (show tk ≤ tk4 by omega), _, rfl, ⟨k7, n7, s7, q7, f7, ks7, rfl, rfl, fun _ => (show Fr tk tk4 _ from ((show Fr tk tk4 _ from hf8 rfl)).mono (by omega) (by omega))⟩⟩

def i_encoded__fn_i_EncodeProof_c1v (n : Nat) (b1 : Bool) (x2 : Pf) : Option (T × Int) :=
  if (!b1) = true then
    some ((T.mk 0 0 ⟨#[]⟩ []), 1)
  else
    (i_EncodeProof_c1 n x2).bind fun r4 =>
    (i_tooBig n r4).bind fun r11 =>
    if r11 = true then
      some ((T.mk 0 0 ⟨#[]⟩ []), 11)
    else
      some (r4, 0)

set_option maxRecDepth 100000 in
theorem i_encoded__fn_i_EncodeProof_c1v_ok (n : Nat) : ∀ (b1 : Bool) (X0 : ID) (k2 : Int) (n2 : Int) (p2 : Nat) (e2 : Bool) (fs2 : List LF) (q2 : Nat) (f2 : Bool) (ks2 : List LP) {r : (T × Int)}, i_encoded__fn_i_EncodeProof_c1v n b1 (Pf.mk k2 n2 (fers fs2) (pers ks2)) = some r → ∀ (O : Heap) (tk : Nat), O X0 = some ⟨61, 4, true, [[.int .i64 k2, .int .i64 n2, .imm p2 3 e2 (fcellss fs2), .imm q2 4 f2 (pcellss ks2)]]⟩ → ACalls Go.Proofs.Try.prog 88 [.bool b1, .fn (.func 90) [] [.optr X0 0 0]] O tk (RetX O tk (fun v tk' => ∃ r0' r1' v0' v1', r = (r0', r1') ∧ v = .tup [v0', v1'] ∧ VT true tk tk' r0' v0' ∧ v1' = .int .i64 r1')) := by
  intro b1 X0 k2 n2 p2 e2 fs2 q2 f2 ks2 r hM O tk hX0
  unfold i_encoded__fn_i_EncodeProof_c1v at hM
  refine acalls_of_run Go.Proofs.Try.func88 rfl rfl [X0] [⟨61, 4, true, [[.int .i64 k2, .int .i64 n2, .imm p2 3 e2 (fcellss fs2), .imm q2 4 f2 (pcellss ks2)]]⟩] (Bor.one hX0 rfl) [(0, .bool b1), (1, .fn (.func 90) [] [.optr (.bor 0) 0 0])] (.cons (entS rfl) (.cons (ent_fn (.bor 0 _ _ _ rfl)) (.nil _))) (leb rfl) (by intro y h; simp only [List.mem_cons, List.not_mem_nil, or_false] at h; rcases h with rfl <;> simp [tch, tch0]) (fun S0 hO htk hfz => ?_)
  refine run_seq ?_
  refine run_region ?_
  refine run_op rfl (alloc_step (d := 4) hG rfl rfl rfl) rfl (ltb rfl) ?_
  refine run_pu rfl (move_step (.inr rfl) rfl) rfl (ltb rfl) ?_
  refine run_ops_nil ?_
  refine run_seq ?_
  refine run_seq ?_
  refine run_region ?_
  refine run_pu rfl (move_step (.inl rfl) rfl) rfl (ltb rfl) ?_
  refine run_pu rfl (aun_step rfl rfl rfl) rfl (ltb rfl) ?_
  refine run_ops_nil ?_
  refine run_ifb rfl rfl (fun hb3 => ?_) (fun hb3 => ?_)
  · replace hM := ite_t hb3 hM
    refine run_seq ?_
    refine run_region ?_
    refine run_pu rfl (build_step hG rfl (by rfl) rfl (fun h => by cases h) (by rfl)) rfl (ltb rfl) ?_
    refine run_op0 rfl (store_step hG rfl rfl rfl rfl rfl rfl rfl rfl) rfl ?_
    refine run_pu rfl (move_step (.inr rfl) rfl) rfl (ltb rfl) ?_
    refine run_ops_nil ?_
    refine run_ret_to ?_
    obtain rfl := some_t hM
    refine fin_x hG rfl rfl rfl (v' := .tup [.agg [.int .i64 0, .int .i64 0, .str ⟨#[]⟩, .imm 0 4 true (cellss [])], .int .i64 1]) (by rfl) ⟨out_same (Bor.one hX0 rfl), (show tk ≤ tk by omega), _, rfl, ⟨_, _, _, _, rfl, rfl, ⟨0, 0, ⟨#[]⟩, 0, true, [], rfl, rfl, fun _ => Fr.nil _ _⟩, rfl⟩⟩
  · replace hM := ite_f hb3 hM
    refine run_skip ?_
    refine run_seq ?_
    refine run_region ?_
    refine run_pu rfl (move_step (.inl rfl) rfl) rfl (ltb rfl) ?_
    obtain ⟨r4, hg5, hM⟩ := bind_t hM
    refine run_call rfl rfl rfl (ltb rfl) rfl rfl rfl (fun _ h => absurd h List.not_mem_nil) (i_EncodeProof_c1_ok n (.bor 0) k2 n2 p2 e2 fs2 q2 f2 ks2 hg5 _ _ rfl) (callK_retX (fun v tk6 (hle7 : tk ≤ tk6) h8 => ?_))
    obtain ⟨k9, n9, s9, q9, f9, ks9, rfl, rfl, hf10⟩ := h8
    refine run_op rfl (alloc_step (d := 6) hG rfl rfl rfl) rfl (ltb rfl) ?_
    refine run_op0 rfl (store_step hG rfl rfl rfl rfl rfl rfl rfl rfl) rfl ?_
    refine run_ops_nil ?_
    refine run_seq ?_
    refine run_seq ?_
    refine run_region ?_
    refine run_rd rfl (aload_rd hG rfl rfl rfl (by simp [ldok])) rfl (ltb rfl) ?_
    obtain ⟨r11, hg12, hM⟩ := bind_t hM
    refine run_call rfl rfl rfl (ltb rfl) rfl rfl rfl (fun _ h => absurd h List.not_mem_nil) (i_tooBig_ok n k9 n9 s9 q9 f9 ks9 hg12 _ _) (callK_retX (fun v tk13 (hle14 : tk6 ≤ tk13) h15 => ?_))
    subst h15
    refine run_ops_nil ?_
    refine run_ifb rfl rfl (fun hb18 => ?_) (fun hb18 => ?_)
    · replace hM := ite_t hb18 hM
      refine run_seq ?_
      refine run_region ?_
      refine run_pu rfl (build_step hG rfl (by rfl) rfl (fun h => by cases h) (by rfl)) rfl (ltb rfl) ?_
      refine run_op0 rfl (store_step hG rfl rfl rfl rfl rfl rfl rfl rfl) rfl ?_
      refine run_pu rfl (move_step (.inr rfl) rfl) rfl (ltb rfl) ?_
      refine run_ops_nil ?_
      refine run_ret_to ?_
      obtain rfl := some_t hM
      refine fin_x hG rfl rfl rfl (v' := .tup [.agg [.int .i64 0, .int .i64 0, .str ⟨#[]⟩, .imm 0 4 true (cellss [])], .int .i64 11]) (by rfl) ⟨out_same (Bor.one hX0 rfl), (show tk ≤ tk13 by omega), _, rfl, ⟨_, _, _, _, rfl, rfl, ⟨0, 0, ⟨#[]⟩, 0, true, [], rfl, rfl, fun _ => Fr.nil _ _⟩, rfl⟩⟩
    · replace hM := ite_f hb18 hM
      refine run_skip ?_
      refine run_seq ?_
      refine run_region ?_
      refine run_rd rfl (aload_rd hG rfl rfl rfl (by simp [ldok])) rfl (ltb rfl) ?_
      refine run_op0 rfl (store_step hG rfl rfl rfl rfl rfl rfl rfl rfl) rfl ?_
      refine run_pu rfl (move_step (.inr rfl) rfl) rfl (ltb rfl) ?_
      refine run_ops_nil ?_
      refine run_ret_to ?_
      obtain rfl := some_t hM
      refine fin_x hG rfl rfl rfl (v' := .tup [.agg [.int .i64 k9, .int .i64 n9, .str s9, .imm q9 4 f9 (cellss ks9)], .int .i64 0]) (by rfl) ⟨out_same (Bor.one hX0 rfl), (show tk ≤ tk13 by omega), _, rfl, ⟨_, _, _, _, rfl, rfl, ⟨k9, n9, s9, q9, f9, ks9, rfl, rfl, fun _ => (show Fr tk tk13 _ from ((show Fr tk tk6 _ from hf10 rfl)).mono (by omega) (by omega))⟩, rfl⟩⟩

def i_EncodeProof (n : Nat) (x1 : Pf) : Option (T × Int) :=
  (i_ProofOK n x1).bind fun r2 =>
  (i_encoded__fn_i_EncodeProof_c1v n r2 x1).bind fun r9 =>
  some (r9.1, r9.2)

set_option maxRecDepth 100000 in
theorem i_EncodeProof_ok (n : Nat) : ∀ (k1 : Int) (n1 : Int) (p1 : Nat) (e1 : Bool) (fs1 : List LF) (q1 : Nat) (f1 : Bool) (ks1 : List LP) {r : (T × Int)}, i_EncodeProof n (Pf.mk k1 n1 (fers fs1) (pers ks1)) = some r → ∀ (O : Heap) (tk : Nat), ACalls Go.Proofs.Try.prog 32 [.agg [.int .i64 k1, .int .i64 n1, .imm p1 3 e1 (fcellss fs1), .imm q1 4 f1 (pcellss ks1)]] O tk (RetX O tk (fun v tk' => ∃ r0' r1' v0' v1', r = (r0', r1') ∧ v = .tup [v0', v1'] ∧ VT true tk tk' r0' v0' ∧ v1' = .int .i64 r1')) := by
  intro k1 n1 p1 e1 fs1 q1 f1 ks1 r hM O tk
  unfold i_EncodeProof at hM
  refine acalls_of_run Go.Proofs.Try.func32 rfl rfl [] [] (Bor.nil _) [(0, .agg [.int .i64 k1, .int .i64 n1, .imm p1 3 e1 (fcellss fs1), .imm q1 4 f1 (pcellss ks1)])] (.cons (.agg _) (.nil _)) (leb rfl) (fun _ h => by cases h) (fun S0 hO htk hfz => ?_)
  refine run_seq ?_
  refine run_region ?_
  refine run_op rfl (box_step (d := 1) rfl rfl rfl rfl rfl) rfl (ltb rfl) ?_
  refine run_op rfl (alloc_step (d := 2) hG rfl rfl rfl) rfl (ltb rfl) ?_
  refine run_pu rfl (move_step (.inr rfl) rfl) rfl (ltb rfl) ?_
  refine run_ops_nil ?_
  refine run_seq ?_
  refine run_region ?_
  refine run_rd rfl (aload_rd hG rfl rfl rfl (by simp [ldok])) rfl (ltb rfl) ?_
  obtain ⟨r2, hg3, hM⟩ := bind_t hM
  refine run_call rfl rfl rfl (ltb rfl) rfl rfl rfl (fun _ h => absurd h List.not_mem_nil) (i_ProofOK_ok n k1 n1 p1 e1 fs1 q1 f1 ks1 hg3 _ _) (callK_retX (fun v tk4 (hle5 : tk ≤ tk4) h6 => ?_))
  subst h6
  refine run_pu rfl (makeFunc_step (first := []) (cap := [.tmp 1]) rfl rfl rfl) rfl (ltb rfl) ?_
  obtain ⟨r9, hg10, hM⟩ := bind_t hM
  refine run_call rfl rfl rfl (ltb rfl) rfl rfl rfl (fun _ h => absurd h List.not_mem_nil) (i_encoded__fn_i_EncodeProof_c1v_ok n r2 (.loc 1) k1 n1 p1 e1 fs1 q1 f1 ks1 hg10 _ _ rfl) (callK_retX (fun v tk11 (hle12 : tk4 ≤ tk11) h13 => ?_))
  obtain ⟨ra18, ra19, va20, va21, rfl, rfl, ⟨k14, n14, s14, q14, f14, ks14, rfl, rfl, hf15⟩, rfl⟩ := h13
  refine run_pu rfl (extract_step rfl rfl rfl) rfl (ltb rfl) ?_
  refine run_pu rfl (extract_step rfl rfl rfl) rfl (ltb rfl) ?_
  refine run_op0 rfl (store_step hG rfl rfl rfl rfl rfl rfl rfl rfl) rfl ?_
  refine run_pu rfl (move_step (.inr rfl) rfl) rfl (ltb rfl) ?_
  refine run_ops_nil ?_
  refine run_ret_to ?_
  obtain rfl := some_t hM
  refine fin_x hG rfl rfl rfl (v' := .tup [.agg [.int .i64 k14, .int .i64 n14, .str s14, .imm q14 4 f14 (cellss ks14)], .int .i64 ra19]) (by rfl) ⟨rfl, (show tk ≤ tk11 by omega), _, rfl, ⟨_, _, _, _, rfl, rfl, ⟨k14, n14, s14, q14, f14, ks14, rfl, rfl, fun _ => (show Fr tk tk11 _ from ((show Fr tk4 tk11 _ from hf15 rfl)).mono (by omega) (by omega))⟩, rfl⟩⟩

def s_EncodeProof (n : Nat) (x1 : Pf) : Option (T × Int) :=
  (s_ProofOK n x1).bind fun r2 =>
  if (!r2) = true then
    some ((T.mk 0 0 ⟨#[]⟩ []), 1)
  else
    (s_l08Encode n x1).bind fun r10 =>
    (s_l03Big n r10).bind fun r17 =>
    if r17 = true then
      some ((T.mk 0 0 ⟨#[]⟩ []), 11)
    else
      some (r10, 0)

set_option maxRecDepth 100000 in
theorem s_EncodeProof_ok (n : Nat) : ∀ (k1 : Int) (n1 : Int) (p1 : Nat) (e1 : Bool) (fs1 : List LF) (q1 : Nat) (f1 : Bool) (ks1 : List LP) {r : (T × Int)}, s_EncodeProof n (Pf.mk k1 n1 (fers fs1) (pers ks1)) = some r → ∀ (O : Heap) (tk : Nat), ACalls Go.Proofs.Try.prog 30 [.agg [.int .i64 k1, .int .i64 n1, .imm p1 3 e1 (fcellss fs1), .imm q1 4 f1 (pcellss ks1)]] O tk (RetX O tk (fun v tk' => ∃ r0' r1' v0' v1', r = (r0', r1') ∧ v = .tup [v0', v1'] ∧ VT true tk tk' r0' v0' ∧ v1' = .int .i64 r1')) := by
  intro k1 n1 p1 e1 fs1 q1 f1 ks1 r hM O tk
  unfold s_EncodeProof at hM
  refine acalls_of_run Go.Proofs.Try.func30 rfl rfl [] [] (Bor.nil _) [(0, .agg [.int .i64 k1, .int .i64 n1, .imm p1 3 e1 (fcellss fs1), .imm q1 4 f1 (pcellss ks1)])] (.cons (.agg _) (.nil _)) (leb rfl) (fun _ h => by cases h) (fun S0 hO htk hfz => ?_)
  refine run_seq ?_
  refine run_region ?_
  refine run_op rfl (box_step (d := 1) rfl rfl rfl rfl rfl) rfl (ltb rfl) ?_
  refine run_op rfl (alloc_step (d := 2) hG rfl rfl rfl) rfl (ltb rfl) ?_
  refine run_pu rfl (move_step (.inr rfl) rfl) rfl (ltb rfl) ?_
  refine run_ops_nil ?_
  refine run_seq ?_
  refine run_seq ?_
  refine run_region ?_
  refine run_rd rfl (aload_rd hG rfl rfl rfl (by simp [ldok])) rfl (ltb rfl) ?_
  obtain ⟨r2, hg3, hM⟩ := bind_t hM
  refine run_call rfl rfl rfl (ltb rfl) rfl rfl rfl (fun _ h => absurd h List.not_mem_nil) (s_ProofOK_ok n k1 n1 p1 e1 fs1 q1 f1 ks1 hg3 _ _) (callK_retX (fun v tk4 (hle5 : tk ≤ tk4) h6 => ?_))
  subst h6
  refine run_pu rfl (aun_step rfl rfl rfl) rfl (ltb rfl) ?_
  refine run_ops_nil ?_
  refine run_ifb rfl rfl (fun hb9 => ?_) (fun hb9 => ?_)
  · replace hM := ite_t hb9 hM
    refine run_seq ?_
    refine run_region ?_
    refine run_pu rfl (build_step hG rfl (by rfl) rfl (fun h => by cases h) (by rfl)) rfl (ltb rfl) ?_
    refine run_op0 rfl (store_step hG rfl rfl rfl rfl rfl rfl rfl rfl) rfl ?_
    refine run_pu rfl (move_step (.inr rfl) rfl) rfl (ltb rfl) ?_
    refine run_ops_nil ?_
    refine run_ret_to ?_
    obtain rfl := some_t hM
    refine fin_x hG rfl rfl rfl (v' := .tup [.agg [.int .i64 0, .int .i64 0, .str ⟨#[]⟩, .imm 0 4 true (cellss [])], .int .i64 1]) (by rfl) ⟨rfl, (show tk ≤ tk4 by omega), _, rfl, ⟨_, _, _, _, rfl, rfl, ⟨0, 0, ⟨#[]⟩, 0, true, [], rfl, rfl, fun _ => Fr.nil _ _⟩, rfl⟩⟩
  · replace hM := ite_f hb9 hM
    refine run_skip ?_
    refine run_seq ?_
    refine run_region ?_
    refine run_rd rfl (aload_rd hG rfl rfl rfl (by simp [ldok])) rfl (ltb rfl) ?_
    obtain ⟨r10, hg11, hM⟩ := bind_t hM
    refine run_call rfl rfl rfl (ltb rfl) rfl rfl rfl (fun _ h => absurd h List.not_mem_nil) (s_l08Encode_ok n k1 n1 p1 e1 fs1 q1 f1 ks1 hg11 _ _) (callK_retX (fun v tk12 (hle13 : tk4 ≤ tk12) h14 => ?_))
    obtain ⟨k15, n15, s15, q15, f15, ks15, rfl, rfl, hf16⟩ := h14
    refine run_op rfl (alloc_step (d := 4) hG rfl rfl rfl) rfl (ltb rfl) ?_
    refine run_op0 rfl (store_step hG rfl rfl rfl rfl rfl rfl rfl rfl) rfl ?_
    refine run_ops_nil ?_
    refine run_seq ?_
    refine run_seq ?_
    refine run_region ?_
    refine run_rd rfl (aload_rd hG rfl rfl rfl (by simp [ldok])) rfl (ltb rfl) ?_
    obtain ⟨r17, hg18, hM⟩ := bind_t hM
    refine run_call rfl rfl rfl (ltb rfl) rfl rfl rfl (fun _ h => absurd h List.not_mem_nil) (s_l03Big_ok n k15 n15 s15 q15 f15 ks15 hg18 _ _) (callK_retX (fun v tk19 (hle20 : tk12 ≤ tk19) h21 => ?_))
    subst h21
    refine run_ops_nil ?_
    refine run_ifb rfl rfl (fun hb24 => ?_) (fun hb24 => ?_)
    · replace hM := ite_t hb24 hM
      refine run_seq ?_
      refine run_region ?_
      refine run_pu rfl (build_step hG rfl (by rfl) rfl (fun h => by cases h) (by rfl)) rfl (ltb rfl) ?_
      refine run_op0 rfl (store_step hG rfl rfl rfl rfl rfl rfl rfl rfl) rfl ?_
      refine run_pu rfl (move_step (.inr rfl) rfl) rfl (ltb rfl) ?_
      refine run_ops_nil ?_
      refine run_ret_to ?_
      obtain rfl := some_t hM
      refine fin_x hG rfl rfl rfl (v' := .tup [.agg [.int .i64 0, .int .i64 0, .str ⟨#[]⟩, .imm 0 4 true (cellss [])], .int .i64 11]) (by rfl) ⟨rfl, (show tk ≤ tk19 by omega), _, rfl, ⟨_, _, _, _, rfl, rfl, ⟨0, 0, ⟨#[]⟩, 0, true, [], rfl, rfl, fun _ => Fr.nil _ _⟩, rfl⟩⟩
    · replace hM := ite_f hb24 hM
      refine run_skip ?_
      refine run_seq ?_
      refine run_region ?_
      refine run_rd rfl (aload_rd hG rfl rfl rfl (by simp [ldok])) rfl (ltb rfl) ?_
      refine run_op0 rfl (store_step hG rfl rfl rfl rfl rfl rfl rfl rfl) rfl ?_
      refine run_pu rfl (move_step (.inr rfl) rfl) rfl (ltb rfl) ?_
      refine run_ops_nil ?_
      refine run_ret_to ?_
      obtain rfl := some_t hM
      refine fin_x hG rfl rfl rfl (v' := .tup [.agg [.int .i64 k15, .int .i64 n15, .str s15, .imm q15 4 f15 (cellss ks15)], .int .i64 0]) (by rfl) ⟨rfl, (show tk ≤ tk19 by omega), _, rfl, ⟨_, _, _, _, rfl, rfl, ⟨k15, n15, s15, q15, f15, ks15, rfl, rfl, fun _ => (show Fr tk tk19 _ from ((show Fr tk4 tk12 _ from hf16 rfl)).mono (by omega) (by omega))⟩, rfl⟩⟩

end Go.Am.Ytfjmdfipnmmboaa
