/- Printed by a program of ours: Lean functions that do what the Go functions do, and the contracts. -/
import Derived.Test.YtgbmcnmepfpjiaaTypes
import Derived.Test.YtgbmcnmepfpjiaaMsType
import Derived.Test.YtgbmcnmepfpjiaaMsTree
import Derived.Test.YtgbmcnmepfpjiaaMxVars
import Derived.Test.YtgbmcnmepfpjiaaMlType
import Derived.Test.YtgbmcnmepfpjiaaMeTree
import Derived.Test.YtgbmcnmepfpjiaaMhTree
namespace Go.Am.Ytgbmcnmepfpjiaa
open Go Go.Am

def w_FnExactEncodeVars (n : Nat) (l1 : List F) : Option Bool :=
  (w_szTypeS n l1 1048576).bind fun r2 =>
  if r2 < 0 then
    some true
  else
    (w_toTypeS n l1).bind fun r10 =>
    (s_EncodeVars n r10).bind fun r17 =>
    (w_toTypeS n l1).bind fun r30 =>
    (i_EncodeVars n r30).bind fun r37 =>
    (w_eqTreeS n r37.1 r17.1).bind fun r50 =>
    if (!r50) = true then
      some false
    else
      if (r37.2 != r17.2) = true then
        some false
      else
        (w_toTypeS n l1).bind fun r59 =>
        (w_eqTypeS n r30 r59).bind fun r66 =>
        if (!r66) = true then
          some false
        else
          (w_markTypeS r30 1).bind fun r74 =>
          if r74.2 < 0 then
            some false
          else
            (w_eqTreeS n r37.1 r17.1).bind fun r84 =>
            if (!r84) = true then
              some false
            else
              if (r37.2 != r17.2) = true then
                some false
              else
                (w_markTreeS r37.1 1).bind fun r93 =>
                (w_heldTreeS n r93.1 1).bind fun r102 =>
                if r102 < 0 then
                  some false
                else
                  if (r102 != r93.2) = true then
                    some false
                  else
                    (w_toTypeS n l1).bind fun r111 =>
                    (i_EncodeVars n r111).bind fun r118 =>
                    (w_eqTreeS n r118.1 r17.1).bind fun r131 =>
                    if (!r131) = true then
                      some false
                    else
                      if (r118.2 != r17.2) = true then
                        some false
                      else
                        (w_heldTreeS n r93.1 1).bind fun r140 =>
                        if r140 < 0 then
                          some false
                        else
                          if (r140 != r93.2) = true then
                            some false
                          else
                            some true

set_option maxRecDepth 100000 in
theorem w_FnExactEncodeVars_ok (n : Nat) : ∀ (q1 : Nat) (f1 : Bool) (ks1 : List LF) {r : Bool}, w_FnExactEncodeVars n (fers ks1) = some r → (∀ x ∈ fstoks q1 ks1, x = 0) → ∀ (O : Heap) (tk : Nat), O = (fun _ => none) → 2 ≤ tk → ACalls Go.Proofs.Try.prog 6 [.imm q1 3 f1 (fcellss ks1)] O tk (RetX O tk (fun v tk' => v = .bool r)) := by
  intro q1 f1 ks1 r hM ho0 O tk hOn h2tk
  unfold w_FnExactEncodeVars at hM
  refine acalls_of_run Go.Proofs.Try.func6 rfl rfl [] [] (Bor.nil _) [(0, .imm q1 3 f1 (fcellss ks1))] (.cons (entS rfl) (.nil _)) (leb rfl) (fun _ h => by cases h) (fun S0 hO htk hfz => ?_)
  refine run_seq ?_
  refine run_region ?_
  refine run_pu rfl (move_step (.inr rfl) rfl) rfl (ltb rfl) ?_
  refine run_ops_nil ?_
  refine run_seq ?_
  refine run_region ?_
  refine run_pu rfl (move_step (.inr rfl) rfl) rfl (ltb rfl) ?_
  refine run_ops_nil ?_
  refine run_seq ?_
  refine run_region ?_
  refine run_pu rfl (move_step (.inl rfl) rfl) rfl (ltb rfl) ?_
  refine run_pu rfl (move_step (.inl rfl) rfl) rfl (ltb rfl) ?_
  obtain ⟨r2, hg3, hM⟩ := bind_t hM
  refine run_call rfl rfl rfl (ltb rfl) rfl rfl rfl (fun _ h => absurd h List.not_mem_nil) (w_szTypeS_ok n q1 f1 ks1 1048576 hg3 _ _) (callK_retX (fun v tk4 (hle5 : tk ≤ tk4) h6 => ?_))
  subst h6
  refine run_pu rfl (move_step (.inr rfl) rfl) rfl (ltb rfl) ?_
  refine run_ops_nil ?_
  refine run_seq ?_
  refine run_seq ?_
  refine run_region ?_
  refine run_pu rfl (move_step (.inl rfl) rfl) rfl (ltb rfl) ?_
  refine run_pu rfl (abin_step rfl rfl rfl rfl (fun _ h => by cases h)) rfl (ltb rfl) ?_
  refine run_ops_nil ?_
  refine run_ifd rfl rfl (fun hb9 => ?_) (fun hb9 => ?_)
  · replace hM := ite_t hb9 hM
    refine run_seq ?_
    refine run_region ?_
    refine run_pu rfl (move_step (.inr rfl) rfl) rfl (ltb rfl) ?_
    refine run_ops_nil ?_
    refine run_ret_to ?_
    obtain rfl := some_t hM
    refine fin_x hG rfl rfl rfl (v' := .bool true) (by rfl) ⟨rfl, (show tk ≤ tk4 by omega), _, rfl, rfl⟩
  · replace hM := ite_f hb9 hM
    refine run_skip ?_
    refine run_seq ?_
    refine run_region ?_
    refine run_pu rfl (move_step (.inl rfl) rfl) rfl (ltb rfl) ?_
    obtain ⟨r10, hg11, hM⟩ := bind_t hM
    refine run_call rfl rfl rfl (ltb rfl) rfl rfl rfl (fun _ h => absurd h List.not_mem_nil) (w_toTypeS_ok n q1 f1 ks1 hg11 _ _) (callK_retX (fun v tk12 (hle13 : tk4 ≤ tk12) h14 => ?_))
    obtain ⟨q15, f15, ks15, rfl, rfl, hf16⟩ := h14
    obtain ⟨r17, hg18, hM⟩ := bind_t hM
    refine run_call rfl rfl rfl (ltb rfl) rfl rfl rfl (fun _ h => absurd h List.not_mem_nil) (s_EncodeVars_ok n q15 f15 ks15 hg18 _ _) (callK_retX (fun v tk19 (hle20 : tk12 ≤ tk19) h21 => ?_))
    obtain ⟨ra26, ra27, va28, va29, rfl, rfl, ⟨q22, f22, ks22, rfl, rfl, hf23⟩, rfl⟩ := h21
    refine run_pu rfl (move_step (.inl rfl) rfl) rfl (ltb rfl) ?_
    refine run_pu rfl (extract_step rfl rfl rfl) rfl (ltb rfl) ?_
    refine run_pu rfl (extract_step rfl rfl rfl) rfl (ltb rfl) ?_
    refine run_pu rfl (move_step (.inr rfl) rfl) rfl (ltb rfl) ?_
    refine run_pu rfl (move_step (.inr rfl) rfl) rfl (ltb rfl) ?_
    refine run_ops_nil ?_
    refine run_sub_code (σ' := ⟨[(0, .imm q1 3 f1 (fcellss ks1)), (2, .bool false), (4, .imm q22 4 f22 (cellss ks22)), (5, .int .i64 ra27)], [], [], O, tk19⟩) (Sub.env [(0, .imm q1 3 f1 (fcellss ks1)), (2, .bool false), (4, .imm q22 4 f22 (cellss ks22)), (5, .int .i64 ra27)] ⟨rfl, rfl, rfl, rfl, trivial⟩) ?_
    refine run_seq ?_
    refine run_region ?_
    refine run_pu rfl (move_step (.inl rfl) rfl) rfl (ltb rfl) ?_
    obtain ⟨r30, hg31, hM⟩ := bind_t hM
    refine run_call rfl rfl rfl (ltb rfl) rfl rfl rfl (fun _ h => absurd h List.not_mem_nil) (w_toTypeS_ok n q1 f1 ks1 hg31 _ _) (callK_retX (fun v tk32 (hle33 : tk19 ≤ tk32) h34 => ?_))
    obtain ⟨q35, f35, ks35, rfl, rfl, hf36⟩ := h34
    refine run_pu rfl (move_step (.inr rfl) rfl) rfl (ltb rfl) ?_
    refine run_ops_nil ?_
    refine run_seq ?_
    refine run_region ?_
    refine run_pu rfl (move_step (.inl rfl) rfl) rfl (ltb rfl) ?_
    obtain ⟨r37, hg38, hM⟩ := bind_t hM
    refine run_call rfl rfl rfl (ltb rfl) rfl rfl rfl (fun _ h => absurd h List.not_mem_nil) (i_EncodeVars_ok n q35 f35 ks35 hg38 _ _) (callK_retX (fun v tk39 (hle40 : tk32 ≤ tk39) h41 => ?_))
    obtain ⟨ra46, ra47, va48, va49, rfl, rfl, ⟨q42, f42, ks42, rfl, rfl, hf43⟩, rfl⟩ := h41
    refine run_pu rfl (move_step (.inl rfl) rfl) rfl (ltb rfl) ?_
    refine run_pu rfl (extract_step rfl rfl rfl) rfl (ltb rfl) ?_
    refine run_pu rfl (extract_step rfl rfl rfl) rfl (ltb rfl) ?_
    refine run_pu rfl (move_step (.inr rfl) rfl) rfl (ltb rfl) ?_
    refine run_pu rfl (move_step (.inr rfl) rfl) rfl (ltb rfl) ?_
    refine run_ops_nil ?_
    refine run_seq ?_
    refine run_seq ?_
    refine run_region ?_
    refine run_pu rfl (move_step (.inl rfl) rfl) rfl (ltb rfl) ?_
    refine run_pu rfl (move_step (.inl rfl) rfl) rfl (ltb rfl) ?_
    obtain ⟨r50, hg51, hM⟩ := bind_t hM
    refine run_call rfl rfl rfl (ltb rfl) rfl rfl rfl (fun _ h => absurd h List.not_mem_nil) (w_eqTreeS_ok n q42 f42 ks42 q22 f22 ks22 hg51 _ _) (callK_retX (fun v tk52 (hle53 : tk39 ≤ tk52) h54 => ?_))
    subst h54
    refine run_pu rfl (aun_step rfl rfl rfl) rfl (ltb rfl) ?_
    refine run_pu rfl (move_step (.inl rfl) rfl) rfl (ltb rfl) ?_
    refine run_splitb (i := 36) rfl (fun hb57 => ?_) (fun hb57 => ?_)
    · replace hM := ite_t hb57 hM
      refine run_off (on_of rfl rfl rfl rfl) rfl (ltb rfl) ?_
      refine run_off (on_of rfl rfl rfl rfl) rfl (ltb rfl) ?_
      refine run_off (on_of rfl rfl rfl rfl) rfl (ltb rfl) ?_
      refine run_pu rfl (pick_step rfl rfl rfl) rfl (ltb rfl) ?_
      refine run_ops_nil ?_
      refine run_sub_code (σ' := ⟨[(0, .imm q1 3 f1 (fcellss ks1)), (2, .bool false), (4, .imm q22 4 f22 (cellss ks22)), (5, .int .i64 ra27), (6, .imm q35 3 f35 (fcellss ks35)), (7, .imm q42 4 f42 (cellss ks42)), (8, .int .i64 ra47), (40, .bool true)], [], [], O, tk52⟩) (Sub.env [(0, .imm q1 3 f1 (fcellss ks1)), (2, .bool false), (4, .imm q22 4 f22 (cellss ks22)), (5, .int .i64 ra27), (6, .imm q35 3 f35 (fcellss ks35)), (7, .imm q42 4 f42 (cellss ks42)), (8, .int .i64 ra47), (40, .bool true)] ⟨rfl, rfl, rfl, rfl, rfl, rfl, rfl, rfl, trivial⟩) ?_
      refine run_if rfl rfl (fun _ => ?_) (fun h => by cases h)
      refine run_seq ?_
      refine run_region ?_
      refine run_pu rfl (move_step (.inr rfl) rfl) rfl (ltb rfl) ?_
      refine run_ops_nil ?_
      refine run_ret_to ?_
      obtain rfl := some_t hM
      refine fin_x hG rfl rfl rfl (v' := .bool false) (by rfl) ⟨rfl, (show tk ≤ tk52 by omega), _, rfl, rfl⟩
    · replace hM := ite_f hb57 hM
      refine run_puG (on_of rfl rfl rfl rfl) (move_step (.inl rfl) rfl) rfl (ltb rfl) ?_
      refine run_puG (on_of rfl rfl rfl rfl) (move_step (.inl rfl) rfl) rfl (ltb rfl) ?_
      refine run_puG (on_of rfl rfl rfl rfl) (abin_step rfl rfl rfl rfl (fun _ h => by cases h)) rfl (ltb rfl) ?_
      refine run_pu rfl (pick_step rfl rfl rfl) rfl (ltb rfl) ?_
      refine run_ops_nil ?_
      refine run_sub_code (σ' := ⟨[(0, .imm q1 3 f1 (fcellss ks1)), (2, .bool false), (4, .imm q22 4 f22 (cellss ks22)), (5, .int .i64 ra27), (6, .imm q35 3 f35 (fcellss ks35)), (7, .imm q42 4 f42 (cellss ks42)), (8, .int .i64 ra47), (40, .bool (ra47 != ra27))], [], [], O, tk52⟩) (Sub.env [(0, .imm q1 3 f1 (fcellss ks1)), (2, .bool false), (4, .imm q22 4 f22 (cellss ks22)), (5, .int .i64 ra27), (6, .imm q35 3 f35 (fcellss ks35)), (7, .imm q42 4 f42 (cellss ks42)), (8, .int .i64 ra47), (40, .bool (ra47 != ra27))] ⟨rfl, rfl, rfl, rfl, rfl, rfl, rfl, rfl, trivial⟩) ?_
      refine run_ifb rfl rfl (fun hb58 => ?_) (fun hb58 => ?_)
      · replace hM := ite_t hb58 hM
        refine run_seq ?_
        refine run_region ?_
        refine run_pu rfl (move_step (.inr rfl) rfl) rfl (ltb rfl) ?_
        refine run_ops_nil ?_
        refine run_ret_to ?_
        obtain rfl := some_t hM
        refine fin_x hG rfl rfl rfl (v' := .bool false) (by rfl) ⟨rfl, (show tk ≤ tk52 by omega), _, rfl, rfl⟩
      · replace hM := ite_f hb58 hM
        refine run_skip ?_
        refine run_seq ?_
        refine run_seq ?_
        refine run_region ?_
        refine run_pu rfl (move_step (.inl rfl) rfl) rfl (ltb rfl) ?_
        refine run_pu rfl (move_step (.inl rfl) rfl) rfl (ltb rfl) ?_
        obtain ⟨r59, hg60, hM⟩ := bind_t hM
        refine run_call rfl rfl rfl (ltb rfl) rfl rfl rfl (fun _ h => absurd h List.not_mem_nil) (w_toTypeS_ok n q1 f1 ks1 hg60 _ _) (callK_retX (fun v tk61 (hle62 : tk52 ≤ tk61) h63 => ?_))
        obtain ⟨q64, f64, ks64, rfl, rfl, hf65⟩ := h63
        obtain ⟨r66, hg67, hM⟩ := bind_t hM
        refine run_call rfl rfl rfl (ltb rfl) rfl rfl rfl (fun _ h => absurd h List.not_mem_nil) (w_eqTypeS_ok n q35 f35 ks35 q64 f64 ks64 hg67 _ _) (callK_retX (fun v tk68 (hle69 : tk61 ≤ tk68) h70 => ?_))
        subst h70
        refine run_pu rfl (aun_step rfl rfl rfl) rfl (ltb rfl) ?_
        refine run_ops_nil ?_
        refine run_ifb rfl rfl (fun hb73 => ?_) (fun hb73 => ?_)
        · replace hM := ite_t hb73 hM
          refine run_seq ?_
          refine run_region ?_
          refine run_pu rfl (move_step (.inr rfl) rfl) rfl (ltb rfl) ?_
          refine run_ops_nil ?_
          refine run_ret_to ?_
          obtain rfl := some_t hM
          refine fin_x hG rfl rfl rfl (v' := .bool false) (by rfl) ⟨rfl, (show tk ≤ tk68 by omega), _, rfl, rfl⟩
        · replace hM := ite_f hb73 hM
          refine run_skip ?_
          refine run_seq ?_
          refine run_region ?_
          refine run_pu rfl (move_step (.inr rfl) rfl) rfl (ltb rfl) ?_
          refine run_ops_nil ?_
          refine run_seq ?_
          refine run_region ?_
          refine run_pu rfl (move_step (.inl rfl) rfl) rfl (ltb rfl) ?_
          refine run_pu rfl (move_step (.inl rfl) rfl) rfl (ltb rfl) ?_
          obtain ⟨r74, hg75, hM⟩ := bind_t hM
          refine run_callT rfl rfl rfl (ltb rfl) rfl rfl rfl rfl rfl hOn (fun x hx => by have := ((show Fr tk19 tk32 _ from (show Fr tk19 tk32 _ from hf36 rfl))).2 x hx; show S0.tk ≤ x; omega) (w_markTypeS_m q35 f35 ks35 1 _ (Fr.ge (show Fr tk19 tk32 _ from (show Fr tk19 tk32 _ from hf36 rfl)) (by omega)) ((show Fr tk19 tk32 _ from (show Fr tk19 tk32 _ from hf36 rfl))).1 hg75) (fun out S' hR (hle77 : tk68 ≤ S'.tk) => ?_)
          obtain ⟨ks78, k79, rfl, rfl, _, hst80, hln81, hu82⟩ := hR
          generalize S'.tk = tk76 at hle77 ⊢
          refine ⟨_, rfl, rfl, GF q35 f35 ks35 ks78, GF.turned (Fr.ge (show Fr tk19 tk32 _ from (show Fr tk19 tk32 _ from hf36 rfl)) (by omega)) hst80 hln81 hu82, [(0, .imm q1 3 f1 (fcellss ks1)), (2, .bool false), (4, .imm q22 4 f22 (cellss ks22)), (5, .int .i64 ra27), (6, .imm q35 3 f35 (fcellss ks78)), (7, .imm q42 4 f42 (cellss ks42)), (8, .int .i64 ra47), (40, .bool (ra47 != ra27)), (41, .imm q35 3 f35 (fcellss ks78)), (42, .imm q1 3 f1 (fcellss ks1)), (43, .imm q64 3 f64 (fcellss ks64)), (44, .bool r66), (45, .bool (!r66)), (9, .int .i64 1), (46, .imm q35 3 f35 (fcellss ks78)), (47, .int .i64 1)], [], (.cons _ _ _ _ rfl (Tn.av (fs_av (old_av ho0))) (.cons _ _ _ _ rfl (Tn.av (.bool _)) (.cons _ _ _ _ rfl (Tn.av (ts_av (fr_av (show Fr tk12 tk19 _ from (show Fr tk12 tk19 _ from hf23 rfl)) (show Fr tk19 tk32 _ from (show Fr tk19 tk32 _ from hf36 rfl)) (by omega) (by omega)))) (.cons _ _ _ _ rfl (Tn.av (.int _ _)) (.cons _ _ _ _ rfl (GF.tn hln81) (.cons _ _ _ _ rfl (Tn.av (ts_av (fr_av (show Fr tk32 tk39 _ from (show Fr tk32 tk39 _ from hf43 rfl)) (show Fr tk19 tk32 _ from (show Fr tk19 tk32 _ from hf36 rfl)) (by omega) (by omega)))) (.cons _ _ _ _ rfl (Tn.av (.int _ _)) (.cons _ _ _ _ rfl (Tn.av (.bool _)) (.cons _ _ _ _ rfl (GF.tn hln81) (.cons _ _ _ _ rfl (Tn.av (fs_av (old_av ho0))) (.cons _ _ _ _ rfl (Tn.av (fs_av (fr_av (show Fr tk52 tk61 _ from (show Fr tk52 tk61 _ from hf65 rfl)) (show Fr tk19 tk32 _ from (show Fr tk19 tk32 _ from hf36 rfl)) (by omega) (by omega)))) (.cons _ _ _ _ rfl (Tn.av (.bool _)) (.cons _ _ _ _ rfl (Tn.av (.bool _)) (.cons _ _ _ _ rfl (Tn.av (.int _ _)) (.cons _ _ _ _ rfl (GF.tn hln81) (.cons _ _ _ _ rfl (Tn.av (.int _ _)) .nil)))))))))))))))), .nil, ?_⟩
          refine run_pu rfl (move_step (.inr rfl) rfl) rfl (ltb rfl) ?_
          refine run_ops_nil ?_
          refine run_seq ?_
          refine run_seq ?_
          refine run_region ?_
          refine run_pu rfl (move_step (.inl rfl) rfl) rfl (ltb rfl) ?_
          refine run_pu rfl (abin_step rfl rfl rfl rfl (fun _ h => by cases h)) rfl (ltb rfl) ?_
          refine run_pu rfl (move_step (.inl rfl) rfl) rfl (ltb rfl) ?_
          refine run_splitd (i := 51) rfl (fun hb83 => ?_) (fun hb83 => ?_)
          · replace hM := ite_t hb83 hM
            refine run_off (on_of rfl rfl rfl rfl) rfl (ltb rfl) ?_
            refine run_off (on_of rfl rfl rfl rfl) rfl (ltb rfl) ?_
            refine run_off (on_of rfl rfl rfl rfl) rfl (ltb rfl) ?_
            refine run_off (on_of rfl rfl rfl rfl) rfl (ltb rfl) ?_
            refine run_pu rfl (pick_step rfl rfl rfl) rfl (ltb rfl) ?_
            refine run_pu rfl (move_step (.inl rfl) rfl) rfl (ltb rfl) ?_
            refine run_off (on_of rfl rfl rfl rfl) rfl (ltb rfl) ?_
            refine run_off (on_of rfl rfl rfl rfl) rfl (ltb rfl) ?_
            refine run_off (on_of rfl rfl rfl rfl) rfl (ltb rfl) ?_
            refine run_pu rfl (pick_step rfl rfl rfl) rfl (ltb rfl) ?_
            refine run_ops_nil ?_
            refine run_sub_code (σ' := ⟨[(0, .imm q1 3 f1 (fcellss ks1)), (2, .bool false), (4, .imm q22 4 f22 (cellss ks22)), (5, .int .i64 ra27), (7, .imm q42 4 f42 (cellss ks42)), (61, .bool true)], [], [], O, tk76⟩) (Sub.env [(0, .imm q1 3 f1 (fcellss ks1)), (2, .bool false), (4, .imm q22 4 f22 (cellss ks22)), (5, .int .i64 ra27), (7, .imm q42 4 f42 (cellss ks42)), (61, .bool true)] ⟨rfl, rfl, rfl, rfl, rfl, rfl, trivial⟩) ?_
            refine run_if rfl rfl (fun _ => ?_) (fun h => by cases h)
            refine run_seq ?_
            refine run_region ?_
            refine run_pu rfl (move_step (.inr rfl) rfl) rfl (ltb rfl) ?_
            refine run_ops_nil ?_
            refine run_ret_to ?_
            obtain rfl := some_t hM
            refine fin_x hG rfl rfl rfl (v' := .bool false) (by rfl) ⟨rfl, (show tk ≤ tk76 by omega), _, rfl, rfl⟩
          · replace hM := ite_f hb83 hM
            refine run_puG (on_of rfl rfl rfl rfl) (move_step (.inl rfl) rfl) rfl (ltb rfl) ?_
            refine run_puG (on_of rfl rfl rfl rfl) (move_step (.inl rfl) rfl) rfl (ltb rfl) ?_
            obtain ⟨r84, hg85, hM⟩ := bind_t hM
            refine run_callG (on_of rfl rfl rfl rfl) rfl rfl (ltb rfl) rfl rfl rfl (fun _ h => absurd h List.not_mem_nil) (w_eqTreeS_ok n q42 f42 ks42 q22 f22 ks22 hg85 _ _) (callK_retX (fun v tk86 (hle87 : tk76 ≤ tk86) h88 => ?_))
            subst h88
            refine run_puG (on_of rfl rfl rfl rfl) (aun_step rfl rfl rfl) rfl (ltb rfl) ?_
            refine run_pu rfl (pick_step rfl rfl rfl) rfl (ltb rfl) ?_
            refine run_pu rfl (move_step (.inl rfl) rfl) rfl (ltb rfl) ?_
            refine run_splitb (i := 57) rfl (fun hb91 => ?_) (fun hb91 => ?_)
            · replace hM := ite_t hb91 hM
              refine run_off (on_of rfl rfl rfl rfl) rfl (ltb rfl) ?_
              refine run_off (on_of rfl rfl rfl rfl) rfl (ltb rfl) ?_
              refine run_off (on_of rfl rfl rfl rfl) rfl (ltb rfl) ?_
              refine run_pu rfl (pick_step rfl rfl rfl) rfl (ltb rfl) ?_
              refine run_ops_nil ?_
              refine run_sub_code (σ' := ⟨[(0, .imm q1 3 f1 (fcellss ks1)), (2, .bool false), (4, .imm q22 4 f22 (cellss ks22)), (5, .int .i64 ra27), (7, .imm q42 4 f42 (cellss ks42)), (61, .bool true)], [], [], O, tk86⟩) (Sub.env [(0, .imm q1 3 f1 (fcellss ks1)), (2, .bool false), (4, .imm q22 4 f22 (cellss ks22)), (5, .int .i64 ra27), (7, .imm q42 4 f42 (cellss ks42)), (61, .bool true)] ⟨rfl, rfl, rfl, rfl, rfl, rfl, trivial⟩) ?_
              refine run_if rfl rfl (fun _ => ?_) (fun h => by cases h)
              refine run_seq ?_
              refine run_region ?_
              refine run_pu rfl (move_step (.inr rfl) rfl) rfl (ltb rfl) ?_
              refine run_ops_nil ?_
              refine run_ret_to ?_
              obtain rfl := some_t hM
              refine fin_x hG rfl rfl rfl (v' := .bool false) (by rfl) ⟨rfl, (show tk ≤ tk86 by omega), _, rfl, rfl⟩
            · replace hM := ite_f hb91 hM
              refine run_puG (on_of rfl rfl rfl rfl) (move_step (.inl rfl) rfl) rfl (ltb rfl) ?_
              refine run_puG (on_of rfl rfl rfl rfl) (move_step (.inl rfl) rfl) rfl (ltb rfl) ?_
              refine run_puG (on_of rfl rfl rfl rfl) (abin_step rfl rfl rfl rfl (fun _ h => by cases h)) rfl (ltb rfl) ?_
              refine run_pu rfl (pick_step rfl rfl rfl) rfl (ltb rfl) ?_
              refine run_ops_nil ?_
              refine run_sub_code (σ' := ⟨[(0, .imm q1 3 f1 (fcellss ks1)), (2, .bool false), (4, .imm q22 4 f22 (cellss ks22)), (5, .int .i64 ra27), (7, .imm q42 4 f42 (cellss ks42)), (61, .bool (ra47 != ra27))], [], [], O, tk86⟩) (Sub.env [(0, .imm q1 3 f1 (fcellss ks1)), (2, .bool false), (4, .imm q22 4 f22 (cellss ks22)), (5, .int .i64 ra27), (7, .imm q42 4 f42 (cellss ks42)), (61, .bool (ra47 != ra27))] ⟨rfl, rfl, rfl, rfl, rfl, rfl, trivial⟩) ?_
              refine run_ifb rfl rfl (fun hb92 => ?_) (fun hb92 => ?_)
              · replace hM := ite_t hb92 hM
                refine run_seq ?_
                refine run_region ?_
                refine run_pu rfl (move_step (.inr rfl) rfl) rfl (ltb rfl) ?_
                refine run_ops_nil ?_
                refine run_ret_to ?_
                obtain rfl := some_t hM
                refine fin_x hG rfl rfl rfl (v' := .bool false) (by rfl) ⟨rfl, (show tk ≤ tk86 by omega), _, rfl, rfl⟩
              · replace hM := ite_f hb92 hM
                refine run_skip ?_
                refine run_seq ?_
                refine run_region ?_
                refine run_pu rfl (move_step (.inr rfl) rfl) rfl (ltb rfl) ?_
                refine run_ops_nil ?_
                refine run_seq ?_
                refine run_region ?_
                refine run_pu rfl (move_step (.inl rfl) rfl) rfl (ltb rfl) ?_
                refine run_pu rfl (move_step (.inl rfl) rfl) rfl (ltb rfl) ?_
                obtain ⟨r93, hg94, hM⟩ := bind_t hM
                refine run_callT rfl rfl rfl (ltb rfl) rfl rfl rfl rfl rfl hOn (fun x hx => by have := ((show Fr tk32 tk39 _ from (show Fr tk32 tk39 _ from hf43 rfl))).2 x hx; show S0.tk ≤ x; omega) (w_markTreeS_m q42 f42 ks42 1 _ (Fr.ge (show Fr tk32 tk39 _ from (show Fr tk32 tk39 _ from hf43 rfl)) (by omega)) ((show Fr tk32 tk39 _ from (show Fr tk32 tk39 _ from hf43 rfl))).1 hg94) (fun out S' hR (hle96 : tk86 ≤ S'.tk) => ?_)
                obtain ⟨ks97, k98, rfl, rfl, _, hst99, hln100, hu101⟩ := hR
                generalize S'.tk = tk95 at hle96 ⊢
                refine ⟨_, rfl, rfl, GT q42 f42 ks42 ks97, GT.turned (Fr.ge (show Fr tk32 tk39 _ from (show Fr tk32 tk39 _ from hf43 rfl)) (by omega)) hst99 hln100 hu101, [(0, .imm q1 3 f1 (fcellss ks1)), (2, .bool false), (4, .imm q22 4 f22 (cellss ks22)), (5, .int .i64 ra27), (7, .imm q42 4 f42 (cellss ks97)), (61, .bool (ra47 != ra27)), (10, .int .i64 1), (62, .imm q42 4 f42 (cellss ks97)), (63, .int .i64 1)], [], (.cons _ _ _ _ rfl (Tn.av (fs_av (old_av ho0))) (.cons _ _ _ _ rfl (Tn.av (.bool _)) (.cons _ _ _ _ rfl (Tn.av (ts_av (fr_av (show Fr tk12 tk19 _ from (show Fr tk12 tk19 _ from hf23 rfl)) (show Fr tk32 tk39 _ from (show Fr tk32 tk39 _ from hf43 rfl)) (by omega) (by omega)))) (.cons _ _ _ _ rfl (Tn.av (.int _ _)) (.cons _ _ _ _ rfl (GT.tn hln100) (.cons _ _ _ _ rfl (Tn.av (.bool _)) (.cons _ _ _ _ rfl (Tn.av (.int _ _)) (.cons _ _ _ _ rfl (GT.tn hln100) (.cons _ _ _ _ rfl (Tn.av (.int _ _)) .nil))))))))), .nil, ?_⟩
                refine run_pu rfl (move_step (.inr rfl) rfl) rfl (ltb rfl) ?_
                refine run_ops_nil ?_
                refine run_seq ?_
                refine run_region ?_
                refine run_pu rfl (move_step (.inr rfl) rfl) rfl (ltb rfl) ?_
                refine run_ops_nil ?_
                refine run_seq ?_
                refine run_region ?_
                refine run_pu rfl (move_step (.inl rfl) rfl) rfl (ltb rfl) ?_
                refine run_pu rfl (move_step (.inl rfl) rfl) rfl (ltb rfl) ?_
                obtain ⟨r102, hg103, hM⟩ := bind_t hM
                refine run_call rfl rfl rfl (ltb rfl) rfl rfl rfl (fun _ h => absurd h List.not_mem_nil) (w_heldTreeS_ok n q42 f42 ks97 1 hg103 _ _) (callK_retX (fun v tk104 (hle105 : tk95 ≤ tk104) h106 => ?_))
                subst h106
                refine run_pu rfl (move_step (.inr rfl) rfl) rfl (ltb rfl) ?_
                refine run_ops_nil ?_
                refine run_seq ?_
                refine run_seq ?_
                refine run_region ?_
                refine run_pu rfl (move_step (.inl rfl) rfl) rfl (ltb rfl) ?_
                refine run_pu rfl (abin_step rfl rfl rfl rfl (fun _ h => by cases h)) rfl (ltb rfl) ?_
                refine run_ops_nil ?_
                refine run_ifd rfl rfl (fun hb109 => ?_) (fun hb109 => ?_)
                · replace hM := ite_t hb109 hM
                  refine run_seq ?_
                  refine run_region ?_
                  refine run_pu rfl (move_step (.inr rfl) rfl) rfl (ltb rfl) ?_
                  refine run_ops_nil ?_
                  refine run_ret_to ?_
                  obtain rfl := some_t hM
                  refine fin_x hG rfl rfl rfl (v' := .bool false) (by rfl) ⟨rfl, (show tk ≤ tk104 by omega), _, rfl, rfl⟩
                · replace hM := ite_f hb109 hM
                  refine run_skip ?_
                  refine run_seq ?_
                  refine run_seq ?_
                  refine run_region ?_
                  refine run_pu rfl (move_step (.inl rfl) rfl) rfl (ltb rfl) ?_
                  refine run_pu rfl (move_step (.inl rfl) rfl) rfl (ltb rfl) ?_
                  refine run_pu rfl (abin_step rfl rfl rfl rfl (fun _ h => by cases h)) rfl (ltb rfl) ?_
                  refine run_ops_nil ?_
                  refine run_sub_code (σ' := ⟨[(0, .imm q1 3 f1 (fcellss ks1)), (2, .bool false), (4, .imm q22 4 f22 (cellss ks22)), (5, .int .i64 ra27), (7, .imm q42 4 f42 (cellss ks97)), (10, .int .i64 k98), (11, .int .i64 r102), (72, .bool (r102 != k98))], [], [], O, tk104⟩) (Sub.env [(0, .imm q1 3 f1 (fcellss ks1)), (2, .bool false), (4, .imm q22 4 f22 (cellss ks22)), (5, .int .i64 ra27), (7, .imm q42 4 f42 (cellss ks97)), (10, .int .i64 k98), (11, .int .i64 r102), (72, .bool (r102 != k98))] ⟨rfl, rfl, rfl, rfl, rfl, rfl, rfl, rfl, trivial⟩) ?_
                  refine run_ifb rfl rfl (fun hb110 => ?_) (fun hb110 => ?_)
                  · replace hM := ite_t hb110 hM
                    refine run_seq ?_
                    refine run_region ?_
                    refine run_pu rfl (move_step (.inr rfl) rfl) rfl (ltb rfl) ?_
                    refine run_ops_nil ?_
                    refine run_ret_to ?_
                    obtain rfl := some_t hM
                    refine fin_x hG rfl rfl rfl (v' := .bool false) (by rfl) ⟨rfl, (show tk ≤ tk104 by omega), _, rfl, rfl⟩
                  · replace hM := ite_f hb110 hM
                    refine run_skip ?_
                    refine run_seq ?_
                    refine run_region ?_
                    refine run_pu rfl (move_step (.inl rfl) rfl) rfl (ltb rfl) ?_
                    obtain ⟨r111, hg112, hM⟩ := bind_t hM
                    refine run_call rfl rfl rfl (ltb rfl) rfl rfl rfl (fun _ h => absurd h List.not_mem_nil) (w_toTypeS_ok n q1 f1 ks1 hg112 _ _) (callK_retX (fun v tk113 (hle114 : tk104 ≤ tk113) h115 => ?_))
                    obtain ⟨q116, f116, ks116, rfl, rfl, hf117⟩ := h115
                    obtain ⟨r118, hg119, hM⟩ := bind_t hM
                    refine run_call rfl rfl rfl (ltb rfl) rfl rfl rfl (fun _ h => absurd h List.not_mem_nil) (i_EncodeVars_ok n q116 f116 ks116 hg119 _ _) (callK_retX (fun v tk120 (hle121 : tk113 ≤ tk120) h122 => ?_))
                    obtain ⟨ra127, ra128, va129, va130, rfl, rfl, ⟨q123, f123, ks123, rfl, rfl, hf124⟩, rfl⟩ := h122
                    refine run_pu rfl (move_step (.inl rfl) rfl) rfl (ltb rfl) ?_
                    refine run_pu rfl (extract_step rfl rfl rfl) rfl (ltb rfl) ?_
                    refine run_pu rfl (extract_step rfl rfl rfl) rfl (ltb rfl) ?_
                    refine run_pu rfl (move_step (.inr rfl) rfl) rfl (ltb rfl) ?_
                    refine run_pu rfl (move_step (.inr rfl) rfl) rfl (ltb rfl) ?_
                    refine run_ops_nil ?_
                    refine run_seq ?_
                    refine run_seq ?_
                    refine run_region ?_
                    refine run_pu rfl (move_step (.inl rfl) rfl) rfl (ltb rfl) ?_
                    refine run_pu rfl (move_step (.inl rfl) rfl) rfl (ltb rfl) ?_
                    obtain ⟨r131, hg132, hM⟩ := bind_t hM
                    refine run_call rfl rfl rfl (ltb rfl) rfl rfl rfl (fun _ h => absurd h List.not_mem_nil) (w_eqTreeS_ok n q123 f123 ks123 q22 f22 ks22 hg132 _ _) (callK_retX (fun v tk133 (hle134 : tk120 ≤ tk133) h135 => ?_))
                    subst h135
                    refine run_pu rfl (aun_step rfl rfl rfl) rfl (ltb rfl) ?_
                    refine run_pu rfl (move_step (.inl rfl) rfl) rfl (ltb rfl) ?_
                    refine run_splitb (i := 83) rfl (fun hb138 => ?_) (fun hb138 => ?_)
                    · replace hM := ite_t hb138 hM
                      refine run_off (on_of rfl rfl rfl rfl) rfl (ltb rfl) ?_
                      refine run_off (on_of rfl rfl rfl rfl) rfl (ltb rfl) ?_
                      refine run_off (on_of rfl rfl rfl rfl) rfl (ltb rfl) ?_
                      refine run_pu rfl (pick_step rfl rfl rfl) rfl (ltb rfl) ?_
                      refine run_ops_nil ?_
                      refine run_sub_code (σ' := ⟨[(2, .bool false), (7, .imm q42 4 f42 (cellss ks97)), (10, .int .i64 k98), (11, .int .i64 r102), (87, .bool true)], [], [], O, tk133⟩) (Sub.env [(2, .bool false), (7, .imm q42 4 f42 (cellss ks97)), (10, .int .i64 k98), (11, .int .i64 r102), (87, .bool true)] ⟨rfl, rfl, rfl, rfl, rfl, trivial⟩) ?_
                      refine run_if rfl rfl (fun _ => ?_) (fun h => by cases h)
                      refine run_seq ?_
                      refine run_region ?_
                      refine run_pu rfl (move_step (.inr rfl) rfl) rfl (ltb rfl) ?_
                      refine run_ops_nil ?_
                      refine run_ret_to ?_
                      obtain rfl := some_t hM
                      refine fin_x hG rfl rfl rfl (v' := .bool false) (by rfl) ⟨rfl, (show tk ≤ tk133 by omega), _, rfl, rfl⟩
                    · replace hM := ite_f hb138 hM
                      refine run_puG (on_of rfl rfl rfl rfl) (move_step (.inl rfl) rfl) rfl (ltb rfl) ?_
                      refine run_puG (on_of rfl rfl rfl rfl) (move_step (.inl rfl) rfl) rfl (ltb rfl) ?_
                      refine run_puG (on_of rfl rfl rfl rfl) (abin_step rfl rfl rfl rfl (fun _ h => by cases h)) rfl (ltb rfl) ?_
                      refine run_pu rfl (pick_step rfl rfl rfl) rfl (ltb rfl) ?_
                      refine run_ops_nil ?_
                      refine run_sub_code (σ' := ⟨[(2, .bool false), (7, .imm q42 4 f42 (cellss ks97)), (10, .int .i64 k98), (11, .int .i64 r102), (87, .bool (ra128 != ra27))], [], [], O, tk133⟩) (Sub.env [(2, .bool false), (7, .imm q42 4 f42 (cellss ks97)), (10, .int .i64 k98), (11, .int .i64 r102), (87, .bool (ra128 != ra27))] ⟨rfl, rfl, rfl, rfl, rfl, trivial⟩) ?_
                      refine run_ifb rfl rfl (fun hb139 => ?_) (fun hb139 => ?_)
                      · replace hM := ite_t hb139 hM
                        refine run_seq ?_
                        refine run_region ?_
                        refine run_pu rfl (move_step (.inr rfl) rfl) rfl (ltb rfl) ?_
                        refine run_ops_nil ?_
                        refine run_ret_to ?_
                        obtain rfl := some_t hM
                        refine fin_x hG rfl rfl rfl (v' := .bool false) (by rfl) ⟨rfl, (show tk ≤ tk133 by omega), _, rfl, rfl⟩
                      · replace hM := ite_f hb139 hM
                        refine run_skip ?_
                        refine run_seq ?_
                        refine run_region ?_
                        refine run_pu rfl (move_step (.inr rfl) rfl) rfl (ltb rfl) ?_
                        refine run_ops_nil ?_
                        refine run_seq ?_
                        refine run_region ?_
                        refine run_pu rfl (move_step (.inl rfl) rfl) rfl (ltb rfl) ?_
                        refine run_pu rfl (move_step (.inl rfl) rfl) rfl (ltb rfl) ?_
                        obtain ⟨r140, hg141, hM⟩ := bind_t hM
                        refine run_call rfl rfl rfl (ltb rfl) rfl rfl rfl (fun _ h => absurd h List.not_mem_nil) (w_heldTreeS_ok n q42 f42 ks97 1 hg141 _ _) (callK_retX (fun v tk142 (hle143 : tk133 ≤ tk142) h144 => ?_))
                        subst h144
                        refine run_pu rfl (move_step (.inr rfl) rfl) rfl (ltb rfl) ?_
                        refine run_ops_nil ?_
                        refine run_seq ?_
                        refine run_seq ?_
                        refine run_region ?_
                        refine run_pu rfl (move_step (.inl rfl) rfl) rfl (ltb rfl) ?_
                        refine run_pu rfl (abin_step rfl rfl rfl rfl (fun _ h => by cases h)) rfl (ltb rfl) ?_
                        refine run_ops_nil ?_
                        refine run_ifd rfl rfl (fun hb147 => ?_) (fun hb147 => ?_)
                        · replace hM := ite_t hb147 hM
                          refine run_seq ?_
                          refine run_region ?_
                          refine run_pu rfl (move_step (.inr rfl) rfl) rfl (ltb rfl) ?_
                          refine run_ops_nil ?_
                          refine run_ret_to ?_
                          obtain rfl := some_t hM
                          refine fin_x hG rfl rfl rfl (v' := .bool false) (by rfl) ⟨rfl, (show tk ≤ tk142 by omega), _, rfl, rfl⟩
                        · replace hM := ite_f hb147 hM
                          refine run_skip ?_
                          refine run_seq ?_
                          refine run_seq ?_
                          refine run_region ?_
                          refine run_pu rfl (move_step (.inl rfl) rfl) rfl (ltb rfl) ?_
                          refine run_pu rfl (move_step (.inl rfl) rfl) rfl (ltb rfl) ?_
                          refine run_pu rfl (abin_step rfl rfl rfl rfl (fun _ h => by cases h)) rfl (ltb rfl) ?_
                          refine run_ops_nil ?_
                          refine run_ifb rfl rfl (fun hb148 => ?_) (fun hb148 => ?_)
                          · replace hM := ite_t hb148 hM
                            refine run_seq ?_
                            refine run_region ?_
                            refine run_pu rfl (move_step (.inr rfl) rfl) rfl (ltb rfl) ?_
                            refine run_ops_nil ?_
                            refine run_ret_to ?_
                            obtain rfl := some_t hM
                            refine fin_x hG rfl rfl rfl (v' := .bool false) (by rfl) ⟨rfl, (show tk ≤ tk142 by omega), _, rfl, rfl⟩
                          · replace hM := ite_f hb148 hM
                            refine run_skip ?_
                            refine run_seq ?_
                            refine run_region ?_
                            refine run_pu rfl (move_step (.inr rfl) rfl) rfl (ltb rfl) ?_
                            refine run_ops_nil ?_
                            refine run_ret_to ?_
                            obtain rfl := some_t hM
                            refine fin_x hG rfl rfl rfl (v' := .bool true) (by rfl) ⟨rfl, (show tk ≤ tk142 by omega), _, rfl, rfl⟩

end Go.Am.Ytgbmcnmepfpjiaa
