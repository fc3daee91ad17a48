/- Printed by a program of ours: Lean functions that do what the Go functions do, and the contracts. -/
import Derived.Test.YtfjmdfipnmmboaaTypes
import Derived.Test.YtfjmdfipnmmboaaMsProof
import Derived.Test.YtfjmdfipnmmboaaMsTree
import Derived.Test.YtfjmdfipnmmboaaMxProof
import Derived.Test.YtfjmdfipnmmboaaMlProof
import Derived.Test.YtfjmdfipnmmboaaMeTree
import Derived.Test.YtfjmdfipnmmboaaMhTree
namespace Go.Am.Ytfjmdfipnmmboaa
open Go Go.Am

def w_FnExactEncodeProof (n : Nat) (x1 : Pf) : Option Bool :=
  (w_szProof n x1 1048576).bind fun r2 =>
  if r2 < 0 then
    some true
  else
    (w_toProof n x1).bind fun r10 =>
    (s_EncodeProof n r10).bind fun r17 =>
    (w_toProof n x1).bind fun r30 =>
    (i_EncodeProof n r30).bind fun r37 =>
    (w_eqTree n r37.1 r17.1).bind fun r50 =>
    if (!r50) = true then
      some false
    else
      if (r37.2 != r17.2) = true then
        some false
      else
        (w_toProof n x1).bind fun r59 =>
        (w_eqProof n r30 r59).bind fun r66 =>
        if (!r66) = true then
          some false
        else
          (w_markProof r30 1).bind fun r74 =>
          if r74.2 < 0 then
            some false
          else
            (w_eqTree n r37.1 r17.1).bind fun r88 =>
            if (!r88) = true then
              some false
            else
              if (r37.2 != r17.2) = true then
                some false
              else
                (w_markTree r37.1 1).bind fun r97 =>
                (w_heldTree n (T.mk r37.1.kind r37.1.n r37.1.name r97.1) 1).bind fun r106 =>
                if r106 < 0 then
                  some false
                else
                  if (r106 != r97.2) = true then
                    some false
                  else
                    (w_toProof n x1).bind fun r115 =>
                    (i_EncodeProof n r115).bind fun r122 =>
                    (w_eqTree n r122.1 r17.1).bind fun r135 =>
                    if (!r135) = true then
                      some false
                    else
                      if (r122.2 != r17.2) = true then
                        some false
                      else
                        (w_heldTree n (T.mk r37.1.kind r37.1.n r37.1.name r97.1) 1).bind fun r144 =>
                        if r144 < 0 then
                          some false
                        else
                          if (r144 != r97.2) = true then
                            some false
                          else
                            some true

set_option maxRecDepth 100000 in
theorem w_FnExactEncodeProof_ok (n : Nat) : ∀ (k1 : Int) (n1 : Int) (p1 : Nat) (e1 : Bool) (fs1 : List LF) (q1 : Nat) (f1 : Bool) (ks1 : List LP) {r : Bool}, w_FnExactEncodeProof n (Pf.mk k1 n1 (fers fs1) (pers ks1)) = some r → (∀ x ∈ fstoks p1 fs1, x = 0) → (∀ x ∈ pstoks q1 ks1, x = 0) → ∀ (O : Heap) (tk : Nat), O = (fun _ => none) → 2 ≤ tk → ACalls Go.Proofs.Try.prog 5 [.agg [.int .i64 k1, .int .i64 n1, .imm p1 3 e1 (fcellss fs1), .imm q1 4 f1 (pcellss ks1)]] O tk (RetX O tk (fun v tk' => v = .bool r)) := by
  intro k1 n1 p1 e1 fs1 q1 f1 ks1 r hM ho0 ho1 O tk hOn h2tk
  unfold w_FnExactEncodeProof at hM
  refine acalls_of_run Go.Proofs.Try.func5 rfl rfl [] [] (Bor.nil _) [(0, .agg [.int .i64 k1, .int .i64 n1, .imm p1 3 e1 (fcellss fs1), .imm q1 4 f1 (pcellss ks1)])] (.cons (.agg _) (.nil _)) (leb rfl) (fun _ h => by cases h) (fun S0 hO htk hfz => ?_)
  refine run_seq ?_
  refine run_region ?_
  refine run_op rfl (box_step (d := 1) rfl rfl rfl rfl rfl) rfl (ltb rfl) ?_
  refine run_pu rfl (move_step (.inr rfl) rfl) rfl (ltb rfl) ?_
  refine run_ops_nil ?_
  refine run_seq ?_
  refine run_region ?_
  refine run_pu rfl (move_step (.inr rfl) rfl) rfl (ltb rfl) ?_
  refine run_ops_nil ?_
  refine run_seq ?_
  refine run_region ?_
  refine run_rd rfl (aload_rd hG rfl rfl rfl (by simp [ldok])) rfl (ltb rfl) ?_
  refine run_pu rfl (move_step (.inl rfl) rfl) rfl (ltb rfl) ?_
  obtain ⟨r2, hg3, hM⟩ := bind_t hM
  refine run_call rfl rfl rfl (ltb rfl) rfl rfl rfl (fun _ h => absurd h List.not_mem_nil) (w_szProof_ok n k1 n1 p1 e1 fs1 q1 f1 ks1 1048576 hg3 _ _) (callK_retX (fun v tk4 (hle5 : tk ≤ tk4) h6 => ?_))
  subst h6
  refine run_pu rfl (move_step (.inr rfl) rfl) rfl (ltb rfl) ?_
  refine run_ops_nil ?_
  refine run_seq ?_
  refine run_seq ?_
  refine run_region ?_
  refine run_pu rfl (move_step (.inl rfl) rfl) rfl (ltb rfl) ?_
  refine run_pu rfl (abin_step rfl rfl rfl rfl (fun _ h => by cases h)) rfl (ltb rfl) ?_
  refine run_ops_nil ?_
  refine run_ifd rfl rfl (fun hb9 => ?_) (fun hb9 => ?_)
  · replace hM := ite_t hb9 hM
    refine run_seq ?_
    refine run_region ?_
    refine run_pu rfl (move_step (.inr rfl) rfl) rfl (ltb rfl) ?_
    refine run_ops_nil ?_
    refine run_ret_to ?_
    obtain rfl := some_t hM
    refine fin_x hG rfl rfl rfl (v' := .bool true) (by rfl) ⟨rfl, (show tk ≤ tk4 by omega), _, rfl, rfl⟩
  · replace hM := ite_f hb9 hM
    refine run_skip ?_
    refine run_seq ?_
    refine run_region ?_
    refine run_rd rfl (aload_rd hG rfl rfl rfl (by simp [ldok])) rfl (ltb rfl) ?_
    obtain ⟨r10, hg11, hM⟩ := bind_t hM
    refine run_call rfl rfl rfl (ltb rfl) rfl rfl rfl (fun _ h => absurd h List.not_mem_nil) (w_toProof_ok n k1 n1 p1 e1 fs1 q1 f1 ks1 hg11 _ _) (callK_retX (fun v tk12 (hle13 : tk4 ≤ tk12) h14 => ?_))
    obtain ⟨k15, n15, p15, e15, fs15, q15, f15, ks15, rfl, rfl, hf16⟩ := h14
    obtain ⟨r17, hg18, hM⟩ := bind_t hM
    refine run_call rfl rfl rfl (ltb rfl) rfl rfl rfl (fun _ h => absurd h List.not_mem_nil) (s_EncodeProof_ok n k15 n15 p15 e15 fs15 q15 f15 ks15 hg18 _ _) (callK_retX (fun v tk19 (hle20 : tk12 ≤ tk19) h21 => ?_))
    obtain ⟨ra26, ra27, va28, va29, rfl, rfl, ⟨k22, n22, s22, q22, f22, ks22, rfl, rfl, hf23⟩, rfl⟩ := h21
    refine run_pu rfl (move_step (.inl rfl) rfl) rfl (ltb rfl) ?_
    refine run_pu rfl (extract_step rfl rfl rfl) rfl (ltb rfl) ?_
    refine run_pu rfl (extract_step rfl rfl rfl) rfl (ltb rfl) ?_
    refine run_op rfl (alloc_step (d := 4) hG rfl rfl rfl) rfl (ltb rfl) ?_
    refine run_op0 rfl (store_step hG rfl rfl rfl rfl rfl rfl rfl rfl) rfl ?_
    refine run_pu rfl (move_step (.inr rfl) rfl) rfl (ltb rfl) ?_
    refine run_ops_nil ?_
    refine run_sub_code (σ' := ⟨[(1, .optr (.loc 1) 0 0), (2, .bool false), (4, .optr (.loc 4) 0 0), (5, .int .i64 ra27)], [(4, ⟨55, 4, true, [[.int .i64 k22, .int .i64 n22, .str s22, .imm q22 4 f22 (cellss ks22)]]⟩), (1, ⟨51, 4, true, [[.int .i64 k1, .int .i64 n1, .imm p1 3 e1 (fcellss fs1), .imm q1 4 f1 (pcellss ks1)]]⟩)], [], O, tk19⟩) (Sub.env [(1, .optr (.loc 1) 0 0), (2, .bool false), (4, .optr (.loc 4) 0 0), (5, .int .i64 ra27)] ⟨rfl, rfl, rfl, rfl, trivial⟩) ?_
    refine run_seq ?_
    refine run_region ?_
    refine run_rd rfl (aload_rd hG rfl rfl rfl (by simp [ldok])) rfl (ltb rfl) ?_
    obtain ⟨r30, hg31, hM⟩ := bind_t hM
    refine run_call rfl rfl rfl (ltb rfl) rfl rfl rfl (fun _ h => absurd h List.not_mem_nil) (w_toProof_ok n k1 n1 p1 e1 fs1 q1 f1 ks1 hg31 _ _) (callK_retX (fun v tk32 (hle33 : tk19 ≤ tk32) h34 => ?_))
    obtain ⟨k35, n35, p35, e35, fs35, q35, f35, ks35, rfl, rfl, hf36⟩ := h34
    refine run_op rfl (alloc_step (d := 6) hG rfl rfl rfl) rfl (ltb rfl) ?_
    refine run_op0 rfl (store_step hG rfl rfl rfl rfl rfl rfl rfl rfl) rfl ?_
    refine run_ops_nil ?_
    refine run_seq ?_
    refine run_region ?_
    refine run_rd rfl (aload_rd hG rfl rfl rfl (by simp [ldok])) rfl (ltb rfl) ?_
    obtain ⟨r37, hg38, hM⟩ := bind_t hM
    refine run_call rfl rfl rfl (ltb rfl) rfl rfl rfl (fun _ h => absurd h List.not_mem_nil) (i_EncodeProof_ok n k35 n35 p35 e35 fs35 q35 f35 ks35 hg38 _ _) (callK_retX (fun v tk39 (hle40 : tk32 ≤ tk39) h41 => ?_))
    obtain ⟨ra46, ra47, va48, va49, rfl, rfl, ⟨k42, n42, s42, q42, f42, ks42, rfl, rfl, hf43⟩, rfl⟩ := h41
    refine run_pu rfl (move_step (.inl rfl) rfl) rfl (ltb rfl) ?_
    refine run_pu rfl (extract_step rfl rfl rfl) rfl (ltb rfl) ?_
    refine run_pu rfl (extract_step rfl rfl rfl) rfl (ltb rfl) ?_
    refine run_op rfl (alloc_step (d := 7) hG rfl rfl rfl) rfl (ltb rfl) ?_
    refine run_op0 rfl (store_step hG rfl rfl rfl rfl rfl rfl rfl rfl) rfl ?_
    refine run_pu rfl (move_step (.inr rfl) rfl) rfl (ltb rfl) ?_
    refine run_ops_nil ?_
    refine run_seq ?_
    refine run_seq ?_
    refine run_region ?_
    refine run_rd rfl (aload_rd hG rfl rfl rfl (by simp [ldok])) rfl (ltb rfl) ?_
    refine run_rd rfl (aload_rd hG rfl rfl rfl (by simp [ldok])) rfl (ltb rfl) ?_
    obtain ⟨r50, hg51, hM⟩ := bind_t hM
    refine run_call rfl rfl rfl (ltb rfl) rfl rfl rfl (fun _ h => absurd h List.not_mem_nil) (w_eqTree_ok n k42 n42 s42 q42 f42 ks42 k22 n22 s22 q22 f22 ks22 hg51 _ _) (callK_retX (fun v tk52 (hle53 : tk39 ≤ tk52) h54 => ?_))
    subst h54
    refine run_pu rfl (aun_step rfl rfl rfl) rfl (ltb rfl) ?_
    refine run_pu rfl (move_step (.inl rfl) rfl) rfl (ltb rfl) ?_
    refine run_splitb (i := 36) rfl (fun hb57 => ?_) (fun hb57 => ?_)
    · replace hM := ite_t hb57 hM
      refine run_off (on_of rfl rfl rfl rfl) rfl (ltb rfl) ?_
      refine run_off (on_of rfl rfl rfl rfl) rfl (ltb rfl) ?_
      refine run_off (on_of rfl rfl rfl rfl) rfl (ltb rfl) ?_
      refine run_pu rfl (pick_step rfl rfl rfl) rfl (ltb rfl) ?_
      refine run_ops_nil ?_
      refine run_sub_code (σ' := ⟨[(1, .optr (.loc 1) 0 0), (2, .bool false), (4, .optr (.loc 4) 0 0), (5, .int .i64 ra27), (6, .optr (.loc 6) 0 0), (7, .optr (.loc 7) 0 0), (8, .int .i64 ra47), (40, .bool true)], [(7, ⟨55, 4, true, [[.int .i64 k42, .int .i64 n42, .str s42, .imm q42 4 f42 (cellss ks42)]]⟩), (6, ⟨61, 4, true, [[.int .i64 k35, .int .i64 n35, .imm p35 3 e35 (fcellss fs35), .imm q35 4 f35 (pcellss ks35)]]⟩), (4, ⟨55, 4, true, [[.int .i64 k22, .int .i64 n22, .str s22, .imm q22 4 f22 (cellss ks22)]]⟩), (1, ⟨51, 4, true, [[.int .i64 k1, .int .i64 n1, .imm p1 3 e1 (fcellss fs1), .imm q1 4 f1 (pcellss ks1)]]⟩)], [], O, tk52⟩) (Sub.env [(1, .optr (.loc 1) 0 0), (2, .bool false), (4, .optr (.loc 4) 0 0), (5, .int .i64 ra27), (6, .optr (.loc 6) 0 0), (7, .optr (.loc 7) 0 0), (8, .int .i64 ra47), (40, .bool true)] ⟨rfl, rfl, rfl, rfl, rfl, rfl, rfl, rfl, trivial⟩) ?_
      refine run_if rfl rfl (fun _ => ?_) (fun h => by cases h)
      refine run_seq ?_
      refine run_region ?_
      refine run_pu rfl (move_step (.inr rfl) rfl) rfl (ltb rfl) ?_
      refine run_ops_nil ?_
      refine run_ret_to ?_
      obtain rfl := some_t hM
      refine fin_x hG rfl rfl rfl (v' := .bool false) (by rfl) ⟨rfl, (show tk ≤ tk52 by omega), _, rfl, rfl⟩
    · replace hM := ite_f hb57 hM
      refine run_puG (on_of rfl rfl rfl rfl) (move_step (.inl rfl) rfl) rfl (ltb rfl) ?_
      refine run_puG (on_of rfl rfl rfl rfl) (move_step (.inl rfl) rfl) rfl (ltb rfl) ?_
      refine run_puG (on_of rfl rfl rfl rfl) (abin_step rfl rfl rfl rfl (fun _ h => by cases h)) rfl (ltb rfl) ?_
      refine run_pu rfl (pick_step rfl rfl rfl) rfl (ltb rfl) ?_
      refine run_ops_nil ?_
      refine run_sub_code (σ' := ⟨[(1, .optr (.loc 1) 0 0), (2, .bool false), (4, .optr (.loc 4) 0 0), (5, .int .i64 ra27), (6, .optr (.loc 6) 0 0), (7, .optr (.loc 7) 0 0), (8, .int .i64 ra47), (40, .bool (ra47 != ra27))], [(7, ⟨55, 4, true, [[.int .i64 k42, .int .i64 n42, .str s42, .imm q42 4 f42 (cellss ks42)]]⟩), (6, ⟨61, 4, true, [[.int .i64 k35, .int .i64 n35, .imm p35 3 e35 (fcellss fs35), .imm q35 4 f35 (pcellss ks35)]]⟩), (4, ⟨55, 4, true, [[.int .i64 k22, .int .i64 n22, .str s22, .imm q22 4 f22 (cellss ks22)]]⟩), (1, ⟨51, 4, true, [[.int .i64 k1, .int .i64 n1, .imm p1 3 e1 (fcellss fs1), .imm q1 4 f1 (pcellss ks1)]]⟩)], [], O, tk52⟩) (Sub.env [(1, .optr (.loc 1) 0 0), (2, .bool false), (4, .optr (.loc 4) 0 0), (5, .int .i64 ra27), (6, .optr (.loc 6) 0 0), (7, .optr (.loc 7) 0 0), (8, .int .i64 ra47), (40, .bool (ra47 != ra27))] ⟨rfl, rfl, rfl, rfl, rfl, rfl, rfl, rfl, trivial⟩) ?_
      refine run_ifb rfl rfl (fun hb58 => ?_) (fun hb58 => ?_)
      · replace hM := ite_t hb58 hM
        refine run_seq ?_
        refine run_region ?_
        refine run_pu rfl (move_step (.inr rfl) rfl) rfl (ltb rfl) ?_
        refine run_ops_nil ?_
        refine run_ret_to ?_
        obtain rfl := some_t hM
        refine fin_x hG rfl rfl rfl (v' := .bool false) (by rfl) ⟨rfl, (show tk ≤ tk52 by omega), _, rfl, rfl⟩
      · replace hM := ite_f hb58 hM
        refine run_skip ?_
        refine run_seq ?_
        refine run_seq ?_
        refine run_draw [] (n := 5) mixed rfl (fun _ h => absurd h List.not_mem_nil) ?_
        refine AAny.take (i := 0) rfl (by kernel_rfl) (by kernel_rfl) (by kernel_rfl) rfl rfl (ltb rfl) (aload_rd hG rfl rfl rfl (by simp [ldok])) ?_
        refine AAny.take (i := 1) rfl (by kernel_rfl) (by kernel_rfl) (by kernel_rfl) rfl rfl (ltb rfl) (aload_rd hG rfl rfl rfl (by simp [ldok])) ?_
        obtain ⟨r59, hg60, hM⟩ := bind_t hM
        refine AAny.one (i := 2) (by kernel_rfl) (AOp.call rfl rfl rfl rfl (ltb rfl) rfl rfl rfl (fun _ h => absurd h List.not_mem_nil) (fun _ h => absurd h List.not_mem_nil) (w_toProof_ok n k1 n1 p1 e1 fs1 q1 f1 ks1 hg60 _ _) (callK_retX (fun v tk61 (hle62 : tk52 ≤ tk61) h63 => ?_)))
        obtain ⟨k64, n64, p64, e64, fs64, q64, f64, ks64, rfl, rfl, hf65⟩ := h63
        obtain ⟨r66, hg67, hM⟩ := bind_t hM
        refine AAny.one (i := 3) (by kernel_rfl) (AOp.call rfl rfl rfl rfl (ltb rfl) rfl rfl rfl (fun _ h => absurd h List.not_mem_nil) (fun _ h => absurd h List.not_mem_nil) (w_eqProof_ok n k35 n35 p35 e35 fs35 q35 f35 ks35 k64 n64 p64 e64 fs64 q64 f64 ks64 hg67 _ _) (callK_retX (fun v tk68 (hle69 : tk61 ≤ tk68) h70 => ?_)))
        subst h70
        refine AAny.take (i := 4) rfl (by kernel_rfl) (by kernel_rfl) (by kernel_rfl) rfl rfl (ltb rfl) ((aun_step rfl rfl rfl).rd _) ?_
        refine AAny.done (by kernel_rfl) ?_
        refine run_ifb rfl rfl (fun hb73 => ?_) (fun hb73 => ?_)
        · replace hM := ite_t hb73 hM
          refine run_seq ?_
          refine run_region ?_
          refine run_pu rfl (move_step (.inr rfl) rfl) rfl (ltb rfl) ?_
          refine run_ops_nil ?_
          refine run_ret_to ?_
          obtain rfl := some_t hM
          refine fin_x hG rfl rfl rfl (v' := .bool false) (by rfl) ⟨rfl, (show tk ≤ tk68 by omega), _, rfl, rfl⟩
        · replace hM := ite_f hb73 hM
          refine run_skip ?_
          refine run_seq ?_
          refine run_region ?_
          refine run_pu rfl (move_step (.inr rfl) rfl) rfl (ltb rfl) ?_
          refine run_ops_nil ?_
          refine run_seq ?_
          refine run_region ?_
          refine run_rd rfl (aload_rd hG rfl rfl rfl (by simp [ldok])) rfl (ltb rfl) ?_
          refine run_pu rfl (move_step (.inl rfl) rfl) rfl (ltb rfl) ?_
          obtain ⟨r74, hg75, hM⟩ := bind_t hM
          refine run_callT rfl rfl rfl (ltb rfl) rfl rfl rfl rfl rfl hOn (fun x hx => by have := ((show Fr tk19 tk32 _ from (show Fr tk19 tk32 _ from hf36 rfl))).2 x hx; show S0.tk ≤ x; omega) (w_markProof_m k35 n35 p35 e35 fs35 q35 f35 ks35 1 _ (Fr.ge (show Fr tk19 tk32 _ from (show Fr tk19 tk32 _ from hf36 rfl)) (by omega)) ((show Fr tk19 tk32 _ from (show Fr tk19 tk32 _ from hf36 rfl))).1 hg75) (fun out S' hR (hle77 : tk68 ≤ S'.tk) => ?_)
          obtain ⟨fs83, ks78, k79, rfl, rfl, _, hst80, hln81, hst84, hln85, hu82, hu86⟩ := hR
          generalize S'.tk = tk76 at hle77 ⊢
          refine ⟨_, rfl, rfl, GQ p35 e35 fs35 fs83 q35 f35 ks35 ks78, GQ.turned (Fr.ge (show Fr tk19 tk32 _ from (show Fr tk19 tk32 _ from hf36 rfl)) (by omega)) hst80 hln81 hst84 hln85 hu82 hu86, [(1, .optr (.loc 1) 0 0), (2, .bool false), (4, .optr (.loc 4) 0 0), (5, .int .i64 ra27), (6, .optr (.loc 6) 0 0), (7, .optr (.loc 7) 0 0), (8, .int .i64 ra47), (40, .bool (ra47 != ra27)), (41, .agg [.int .i64 k35, .int .i64 n35, .imm p35 3 e35 (fcellss fs83), .imm q35 4 f35 (pcellss ks78)]), (42, .agg [.int .i64 k1, .int .i64 n1, .imm p1 3 e1 (fcellss fs1), .imm q1 4 f1 (pcellss ks1)]), (43, .agg [.int .i64 k64, .int .i64 n64, .imm p64 3 e64 (fcellss fs64), .imm q64 4 f64 (pcellss ks64)]), (44, .bool r66), (45, .bool (!r66)), (9, .int .i64 1), (46, .agg [.int .i64 k35, .int .i64 n35, .imm p35 3 e35 (fcellss fs83), .imm q35 4 f35 (pcellss ks78)]), (47, .int .i64 1)], [(7, ⟨55, 4, true, [[.int .i64 k42, .int .i64 n42, .str s42, .imm q42 4 f42 (cellss ks42)]]⟩), (6, ⟨61, 4, true, [[.int .i64 k35, .int .i64 n35, .imm p35 3 e35 (fcellss fs83), .imm q35 4 f35 (pcellss ks78)]]⟩), (4, ⟨55, 4, true, [[.int .i64 k22, .int .i64 n22, .str s22, .imm q22 4 f22 (cellss ks22)]]⟩), (1, ⟨51, 4, true, [[.int .i64 k1, .int .i64 n1, .imm p1 3 e1 (fcellss fs1), .imm q1 4 f1 (pcellss ks1)]]⟩)], (.cons _ _ _ _ rfl (.optr _ _ _) (.cons _ _ _ _ rfl (Tn.av (.bool _)) (.cons _ _ _ _ rfl (.optr _ _ _) (.cons _ _ _ _ rfl (Tn.av (.int _ _)) (.cons _ _ _ _ rfl (.optr _ _ _) (.cons _ _ _ _ rfl (.optr _ _ _) (.cons _ _ _ _ rfl (Tn.av (.int _ _)) (.cons _ _ _ _ rfl (Tn.av (.bool _)) (.cons _ _ _ _ rfl (TnCs.agg (.cons _ _ _ _ (Tn.av (.int _ _)) (.cons _ _ _ _ (Tn.av (.int _ _)) (.cons _ _ _ _ (GQ.tnf hln81) (.cons _ _ _ _ (GQ.tnp hln85) .nil)))) rfl) (.cons _ _ _ _ rfl (TnCs.agg (.cons _ _ _ _ (Tn.av (.int _ _)) (.cons _ _ _ _ (Tn.av (.int _ _)) (.cons _ _ _ _ (Tn.av (fs_av (old_av ho0))) (.cons _ _ _ _ (Tn.av (ps_av (old_av ho1))) .nil)))) rfl) (.cons _ _ _ _ rfl (TnCs.agg (.cons _ _ _ _ (Tn.av (.int _ _)) (.cons _ _ _ _ (Tn.av (.int _ _)) (.cons _ _ _ _ (Tn.av (fs_av (fun x hx => fr_av (show Fr tk52 tk61 _ from (show Fr tk52 tk61 _ from hf65 rfl)) (show Fr tk19 tk32 _ from (show Fr tk19 tk32 _ from hf36 rfl)) (by omega) (by omega) x (List.mem_append.2 (.inl hx))))) (.cons _ _ _ _ (Tn.av (ps_av (fun x hx => fr_av (show Fr tk52 tk61 _ from (show Fr tk52 tk61 _ from hf65 rfl)) (show Fr tk19 tk32 _ from (show Fr tk19 tk32 _ from hf36 rfl)) (by omega) (by omega) x (List.mem_append.2 (.inr hx))))) .nil)))) rfl) (.cons _ _ _ _ rfl (Tn.av (.bool _)) (.cons _ _ _ _ rfl (Tn.av (.bool _)) (.cons _ _ _ _ rfl (Tn.av (.int _ _)) (.cons _ _ _ _ rfl (TnCs.agg (.cons _ _ _ _ (Tn.av (.int _ _)) (.cons _ _ _ _ (Tn.av (.int _ _)) (.cons _ _ _ _ (GQ.tnf hln81) (.cons _ _ _ _ (GQ.tnp hln85) .nil)))) rfl) (.cons _ _ _ _ rfl (Tn.av (.int _ _)) .nil)))))))))))))))), (.cons _ _ _ _ _ (TnCs.box (.cons _ _ _ _ (Tn.av (.int _ _)) (.cons _ _ _ _ (Tn.av (.int _ _)) (.cons _ _ _ _ (Tn.av (.str _)) (.cons _ _ _ _ (Tn.av (ts_av (fr_av (show Fr tk32 tk39 _ from (show Fr tk32 tk39 _ from hf43 rfl)) (show Fr tk19 tk32 _ from (show Fr tk19 tk32 _ from hf36 rfl)) (by omega) (by omega)))) .nil)))) rfl) (.cons _ _ _ _ _ (TnCs.box (.cons _ _ _ _ (Tn.av (.int _ _)) (.cons _ _ _ _ (Tn.av (.int _ _)) (.cons _ _ _ _ (GQ.tnf hln81) (.cons _ _ _ _ (GQ.tnp hln85) .nil)))) rfl) (.cons _ _ _ _ _ (TnCs.box (.cons _ _ _ _ (Tn.av (.int _ _)) (.cons _ _ _ _ (Tn.av (.int _ _)) (.cons _ _ _ _ (Tn.av (.str _)) (.cons _ _ _ _ (Tn.av (ts_av (fr_av (show Fr tk12 tk19 _ from (show Fr tk12 tk19 _ from hf23 rfl)) (show Fr tk19 tk32 _ from (show Fr tk19 tk32 _ from hf36 rfl)) (by omega) (by omega)))) .nil)))) rfl) (.cons _ _ _ _ _ (TnCs.box (.cons _ _ _ _ (Tn.av (.int _ _)) (.cons _ _ _ _ (Tn.av (.int _ _)) (.cons _ _ _ _ (Tn.av (fs_av (old_av ho0))) (.cons _ _ _ _ (Tn.av (ps_av (old_av ho1))) .nil)))) rfl) .nil)))), ?_⟩
          refine run_pu rfl (move_step (.inr rfl) rfl) rfl (ltb rfl) ?_
          refine run_ops_nil ?_
          refine run_seq ?_
          refine run_seq ?_
          refine run_region ?_
          refine run_pu rfl (move_step (.inl rfl) rfl) rfl (ltb rfl) ?_
          refine run_pu rfl (abin_step rfl rfl rfl rfl (fun _ h => by cases h)) rfl (ltb rfl) ?_
          refine run_pu rfl (move_step (.inl rfl) rfl) rfl (ltb rfl) ?_
          refine run_splitd (i := 51) rfl (fun hb87 => ?_) (fun hb87 => ?_)
          · replace hM := ite_t hb87 hM
            refine run_off (on_of rfl rfl rfl rfl) rfl (ltb rfl) ?_
            refine run_off (on_of rfl rfl rfl rfl) rfl (ltb rfl) ?_
            refine run_off (on_of rfl rfl rfl rfl) rfl (ltb rfl) ?_
            refine run_off (on_of rfl rfl rfl rfl) rfl (ltb rfl) ?_
            refine run_pu rfl (pick_step rfl rfl rfl) rfl (ltb rfl) ?_
            refine run_pu rfl (move_step (.inl rfl) rfl) rfl (ltb rfl) ?_
            refine run_off (on_of rfl rfl rfl rfl) rfl (ltb rfl) ?_
            refine run_off (on_of rfl rfl rfl rfl) rfl (ltb rfl) ?_
            refine run_off (on_of rfl rfl rfl rfl) rfl (ltb rfl) ?_
            refine run_pu rfl (pick_step rfl rfl rfl) rfl (ltb rfl) ?_
            refine run_ops_nil ?_
            refine run_sub_code (σ' := ⟨[(1, .optr (.loc 1) 0 0), (2, .bool false), (4, .optr (.loc 4) 0 0), (5, .int .i64 ra27), (7, .optr (.loc 7) 0 0), (61, .bool true)], [(7, ⟨55, 4, true, [[.int .i64 k42, .int .i64 n42, .str s42, .imm q42 4 f42 (cellss ks42)]]⟩), (4, ⟨55, 4, true, [[.int .i64 k22, .int .i64 n22, .str s22, .imm q22 4 f22 (cellss ks22)]]⟩), (1, ⟨51, 4, true, [[.int .i64 k1, .int .i64 n1, .imm p1 3 e1 (fcellss fs1), .imm q1 4 f1 (pcellss ks1)]]⟩)], [], O, tk76⟩) (Sub.trans (Sub.drop (k := 6) rfl) (Sub.env [(1, .optr (.loc 1) 0 0), (2, .bool false), (4, .optr (.loc 4) 0 0), (5, .int .i64 ra27), (7, .optr (.loc 7) 0 0), (61, .bool true)] ⟨rfl, rfl, rfl, rfl, rfl, rfl, trivial⟩)) ?_
            refine run_if rfl rfl (fun _ => ?_) (fun h => by cases h)
            refine run_seq ?_
            refine run_region ?_
            refine run_pu rfl (move_step (.inr rfl) rfl) rfl (ltb rfl) ?_
            refine run_ops_nil ?_
            refine run_ret_to ?_
            obtain rfl := some_t hM
            refine fin_x hG rfl rfl rfl (v' := .bool false) (by rfl) ⟨rfl, (show tk ≤ tk76 by omega), _, rfl, rfl⟩
          · replace hM := ite_f hb87 hM
            refine run_rdG (on_of rfl rfl rfl rfl) (aload_rd hG rfl rfl rfl (by simp [ldok])) rfl (ltb rfl) ?_
            refine run_rdG (on_of rfl rfl rfl rfl) (aload_rd hG rfl rfl rfl (by simp [ldok])) rfl (ltb rfl) ?_
            obtain ⟨r88, hg89, hM⟩ := bind_t hM
            refine run_callG (on_of rfl rfl rfl rfl) rfl rfl (ltb rfl) rfl rfl rfl (fun _ h => absurd h List.not_mem_nil) (w_eqTree_ok n k42 n42 s42 q42 f42 ks42 k22 n22 s22 q22 f22 ks22 hg89 _ _) (callK_retX (fun v tk90 (hle91 : tk76 ≤ tk90) h92 => ?_))
            subst h92
            refine run_puG (on_of rfl rfl rfl rfl) (aun_step rfl rfl rfl) rfl (ltb rfl) ?_
            refine run_pu rfl (pick_step rfl rfl rfl) rfl (ltb rfl) ?_
            refine run_pu rfl (move_step (.inl rfl) rfl) rfl (ltb rfl) ?_
            refine run_splitb (i := 57) rfl (fun hb95 => ?_) (fun hb95 => ?_)
            · replace hM := ite_t hb95 hM
              refine run_off (on_of rfl rfl rfl rfl) rfl (ltb rfl) ?_
              refine run_off (on_of rfl rfl rfl rfl) rfl (ltb rfl) ?_
              refine run_off (on_of rfl rfl rfl rfl) rfl (ltb rfl) ?_
              refine run_pu rfl (pick_step rfl rfl rfl) rfl (ltb rfl) ?_
              refine run_ops_nil ?_
              refine run_sub_code (σ' := ⟨[(1, .optr (.loc 1) 0 0), (2, .bool false), (4, .optr (.loc 4) 0 0), (5, .int .i64 ra27), (7, .optr (.loc 7) 0 0), (61, .bool true)], [(7, ⟨55, 4, true, [[.int .i64 k42, .int .i64 n42, .str s42, .imm q42 4 f42 (cellss ks42)]]⟩), (4, ⟨55, 4, true, [[.int .i64 k22, .int .i64 n22, .str s22, .imm q22 4 f22 (cellss ks22)]]⟩), (1, ⟨51, 4, true, [[.int .i64 k1, .int .i64 n1, .imm p1 3 e1 (fcellss fs1), .imm q1 4 f1 (pcellss ks1)]]⟩)], [], O, tk90⟩) (Sub.trans (Sub.drop (k := 6) rfl) (Sub.env [(1, .optr (.loc 1) 0 0), (2, .bool false), (4, .optr (.loc 4) 0 0), (5, .int .i64 ra27), (7, .optr (.loc 7) 0 0), (61, .bool true)] ⟨rfl, rfl, rfl, rfl, rfl, rfl, trivial⟩)) ?_
              refine run_if rfl rfl (fun _ => ?_) (fun h => by cases h)
              refine run_seq ?_
              refine run_region ?_
              refine run_pu rfl (move_step (.inr rfl) rfl) rfl (ltb rfl) ?_
              refine run_ops_nil ?_
              refine run_ret_to ?_
              obtain rfl := some_t hM
              refine fin_x hG rfl rfl rfl (v' := .bool false) (by rfl) ⟨rfl, (show tk ≤ tk90 by omega), _, rfl, rfl⟩
            · replace hM := ite_f hb95 hM
              refine run_puG (on_of rfl rfl rfl rfl) (move_step (.inl rfl) rfl) rfl (ltb rfl) ?_
              refine run_puG (on_of rfl rfl rfl rfl) (move_step (.inl rfl) rfl) rfl (ltb rfl) ?_
              refine run_puG (on_of rfl rfl rfl rfl) (abin_step rfl rfl rfl rfl (fun _ h => by cases h)) rfl (ltb rfl) ?_
              refine run_pu rfl (pick_step rfl rfl rfl) rfl (ltb rfl) ?_
              refine run_ops_nil ?_
              refine run_sub_code (σ' := ⟨[(1, .optr (.loc 1) 0 0), (2, .bool false), (4, .optr (.loc 4) 0 0), (5, .int .i64 ra27), (7, .optr (.loc 7) 0 0), (61, .bool (ra47 != ra27))], [(7, ⟨55, 4, true, [[.int .i64 k42, .int .i64 n42, .str s42, .imm q42 4 f42 (cellss ks42)]]⟩), (4, ⟨55, 4, true, [[.int .i64 k22, .int .i64 n22, .str s22, .imm q22 4 f22 (cellss ks22)]]⟩), (1, ⟨51, 4, true, [[.int .i64 k1, .int .i64 n1, .imm p1 3 e1 (fcellss fs1), .imm q1 4 f1 (pcellss ks1)]]⟩)], [], O, tk90⟩) (Sub.trans (Sub.drop (k := 6) rfl) (Sub.env [(1, .optr (.loc 1) 0 0), (2, .bool false), (4, .optr (.loc 4) 0 0), (5, .int .i64 ra27), (7, .optr (.loc 7) 0 0), (61, .bool (ra47 != ra27))] ⟨rfl, rfl, rfl, rfl, rfl, rfl, trivial⟩)) ?_
              refine run_ifb rfl rfl (fun hb96 => ?_) (fun hb96 => ?_)
              · replace hM := ite_t hb96 hM
                refine run_seq ?_
                refine run_region ?_
                refine run_pu rfl (move_step (.inr rfl) rfl) rfl (ltb rfl) ?_
                refine run_ops_nil ?_
                refine run_ret_to ?_
                obtain rfl := some_t hM
                refine fin_x hG rfl rfl rfl (v' := .bool false) (by rfl) ⟨rfl, (show tk ≤ tk90 by omega), _, rfl, rfl⟩
              · replace hM := ite_f hb96 hM
                refine run_skip ?_
                refine run_seq ?_
                refine run_region ?_
                refine run_pu rfl (move_step (.inr rfl) rfl) rfl (ltb rfl) ?_
                refine run_ops_nil ?_
                refine run_seq ?_
                refine run_region ?_
                refine run_rd rfl (aload_rd hG rfl rfl rfl (by simp [ldok])) rfl (ltb rfl) ?_
                refine run_pu rfl (move_step (.inl rfl) rfl) rfl (ltb rfl) ?_
                obtain ⟨r97, hg98, hM⟩ := bind_t hM
                refine run_callT rfl rfl rfl (ltb rfl) rfl rfl rfl rfl rfl hOn (fun x hx => by have := ((show Fr tk32 tk39 _ from (show Fr tk32 tk39 _ from hf43 rfl))).2 x hx; show S0.tk ≤ x; omega) (w_markTree_m k42 n42 s42 q42 f42 ks42 1 _ (Fr.ge (show Fr tk32 tk39 _ from (show Fr tk32 tk39 _ from hf43 rfl)) (by omega)) ((show Fr tk32 tk39 _ from (show Fr tk32 tk39 _ from hf43 rfl))).1 hg98) (fun out S' hR (hle100 : tk90 ≤ S'.tk) => ?_)
                obtain ⟨ks101, k102, rfl, rfl, _, hst103, hln104, hu105⟩ := hR
                generalize S'.tk = tk99 at hle100 ⊢
                refine ⟨_, rfl, rfl, GT q42 f42 ks42 ks101, GT.turned (Fr.ge (show Fr tk32 tk39 _ from (show Fr tk32 tk39 _ from hf43 rfl)) (by omega)) hst103 hln104 hu105, [(1, .optr (.loc 1) 0 0), (2, .bool false), (4, .optr (.loc 4) 0 0), (5, .int .i64 ra27), (7, .optr (.loc 7) 0 0), (61, .bool (ra47 != ra27)), (10, .int .i64 1), (62, .agg [.int .i64 k42, .int .i64 n42, .str s42, .imm q42 4 f42 (cellss ks101)]), (63, .int .i64 1)], [(7, ⟨55, 4, true, [[.int .i64 k42, .int .i64 n42, .str s42, .imm q42 4 f42 (cellss ks101)]]⟩), (4, ⟨55, 4, true, [[.int .i64 k22, .int .i64 n22, .str s22, .imm q22 4 f22 (cellss ks22)]]⟩), (1, ⟨51, 4, true, [[.int .i64 k1, .int .i64 n1, .imm p1 3 e1 (fcellss fs1), .imm q1 4 f1 (pcellss ks1)]]⟩)], (.cons _ _ _ _ rfl (.optr _ _ _) (.cons _ _ _ _ rfl (Tn.av (.bool _)) (.cons _ _ _ _ rfl (.optr _ _ _) (.cons _ _ _ _ rfl (Tn.av (.int _ _)) (.cons _ _ _ _ rfl (.optr _ _ _) (.cons _ _ _ _ rfl (Tn.av (.bool _)) (.cons _ _ _ _ rfl (Tn.av (.int _ _)) (.cons _ _ _ _ rfl (TnCs.agg (.cons _ _ _ _ (Tn.av (.int _ _)) (.cons _ _ _ _ (Tn.av (.int _ _)) (.cons _ _ _ _ (Tn.av (.str _)) (.cons _ _ _ _ (GT.tn hln104) .nil)))) rfl) (.cons _ _ _ _ rfl (Tn.av (.int _ _)) .nil))))))))), (.cons _ _ _ _ _ (TnCs.box (.cons _ _ _ _ (Tn.av (.int _ _)) (.cons _ _ _ _ (Tn.av (.int _ _)) (.cons _ _ _ _ (Tn.av (.str _)) (.cons _ _ _ _ (GT.tn hln104) .nil)))) rfl) (.cons _ _ _ _ _ (TnCs.box (.cons _ _ _ _ (Tn.av (.int _ _)) (.cons _ _ _ _ (Tn.av (.int _ _)) (.cons _ _ _ _ (Tn.av (.str _)) (.cons _ _ _ _ (Tn.av (ts_av (fr_av (show Fr tk12 tk19 _ from (show Fr tk12 tk19 _ from hf23 rfl)) (show Fr tk32 tk39 _ from (show Fr tk32 tk39 _ from hf43 rfl)) (by omega) (by omega)))) .nil)))) rfl) (.cons _ _ _ _ _ (TnCs.box (.cons _ _ _ _ (Tn.av (.int _ _)) (.cons _ _ _ _ (Tn.av (.int _ _)) (.cons _ _ _ _ (Tn.av (fs_av (old_av ho0))) (.cons _ _ _ _ (Tn.av (ps_av (old_av ho1))) .nil)))) rfl) .nil))), ?_⟩
                refine run_pu rfl (move_step (.inr rfl) rfl) rfl (ltb rfl) ?_
                refine run_ops_nil ?_
                refine run_seq ?_
                refine run_region ?_
                refine run_pu rfl (move_step (.inr rfl) rfl) rfl (ltb rfl) ?_
                refine run_ops_nil ?_
                refine run_seq ?_
                refine run_region ?_
                refine run_rd rfl (aload_rd hG rfl rfl rfl (by simp [ldok])) rfl (ltb rfl) ?_
                refine run_pu rfl (move_step (.inl rfl) rfl) rfl (ltb rfl) ?_
                obtain ⟨r106, hg107, hM⟩ := bind_t hM
                refine run_call rfl rfl rfl (ltb rfl) rfl rfl rfl (fun _ h => absurd h List.not_mem_nil) (w_heldTree_ok n k42 n42 s42 q42 f42 ks101 1 hg107 _ _) (callK_retX (fun v tk108 (hle109 : tk99 ≤ tk108) h110 => ?_))
                subst h110
                refine run_pu rfl (move_step (.inr rfl) rfl) rfl (ltb rfl) ?_
                refine run_ops_nil ?_
                refine run_seq ?_
                refine run_seq ?_
                refine run_region ?_
                refine run_pu rfl (move_step (.inl rfl) rfl) rfl (ltb rfl) ?_
                refine run_pu rfl (abin_step rfl rfl rfl rfl (fun _ h => by cases h)) rfl (ltb rfl) ?_
                refine run_ops_nil ?_
                refine run_ifd rfl rfl (fun hb113 => ?_) (fun hb113 => ?_)
                · replace hM := ite_t hb113 hM
                  refine run_seq ?_
                  refine run_region ?_
                  refine run_pu rfl (move_step (.inr rfl) rfl) rfl (ltb rfl) ?_
                  refine run_ops_nil ?_
                  refine run_ret_to ?_
                  obtain rfl := some_t hM
                  refine fin_x hG rfl rfl rfl (v' := .bool false) (by rfl) ⟨rfl, (show tk ≤ tk108 by omega), _, rfl, rfl⟩
                · replace hM := ite_f hb113 hM
                  refine run_skip ?_
                  refine run_seq ?_
                  refine run_seq ?_
                  refine run_region ?_
                  refine run_pu rfl (move_step (.inl rfl) rfl) rfl (ltb rfl) ?_
                  refine run_pu rfl (move_step (.inl rfl) rfl) rfl (ltb rfl) ?_
                  refine run_pu rfl (abin_step rfl rfl rfl rfl (fun _ h => by cases h)) rfl (ltb rfl) ?_
                  refine run_ops_nil ?_
                  refine run_sub_code (σ' := ⟨[(1, .optr (.loc 1) 0 0), (2, .bool false), (4, .optr (.loc 4) 0 0), (5, .int .i64 ra27), (7, .optr (.loc 7) 0 0), (10, .int .i64 k102), (11, .int .i64 r106), (72, .bool (r106 != k102))], [(7, ⟨55, 4, true, [[.int .i64 k42, .int .i64 n42, .str s42, .imm q42 4 f42 (cellss ks101)]]⟩), (4, ⟨55, 4, true, [[.int .i64 k22, .int .i64 n22, .str s22, .imm q22 4 f22 (cellss ks22)]]⟩), (1, ⟨51, 4, true, [[.int .i64 k1, .int .i64 n1, .imm p1 3 e1 (fcellss fs1), .imm q1 4 f1 (pcellss ks1)]]⟩)], [], O, tk108⟩) (Sub.env [(1, .optr (.loc 1) 0 0), (2, .bool false), (4, .optr (.loc 4) 0 0), (5, .int .i64 ra27), (7, .optr (.loc 7) 0 0), (10, .int .i64 k102), (11, .int .i64 r106), (72, .bool (r106 != k102))] ⟨rfl, rfl, rfl, rfl, rfl, rfl, rfl, rfl, trivial⟩) ?_
                  refine run_ifb rfl rfl (fun hb114 => ?_) (fun hb114 => ?_)
                  · replace hM := ite_t hb114 hM
                    refine run_seq ?_
                    refine run_region ?_
                    refine run_pu rfl (move_step (.inr rfl) rfl) rfl (ltb rfl) ?_
                    refine run_ops_nil ?_
                    refine run_ret_to ?_
                    obtain rfl := some_t hM
                    refine fin_x hG rfl rfl rfl (v' := .bool false) (by rfl) ⟨rfl, (show tk ≤ tk108 by omega), _, rfl, rfl⟩
                  · replace hM := ite_f hb114 hM
                    refine run_skip ?_
                    refine run_seq ?_
                    refine run_region ?_
                    refine run_rd rfl (aload_rd hG rfl rfl rfl (by simp [ldok])) rfl (ltb rfl) ?_
                    obtain ⟨r115, hg116, hM⟩ := bind_t hM
                    refine run_call rfl rfl rfl (ltb rfl) rfl rfl rfl (fun _ h => absurd h List.not_mem_nil) (w_toProof_ok n k1 n1 p1 e1 fs1 q1 f1 ks1 hg116 _ _) (callK_retX (fun v tk117 (hle118 : tk108 ≤ tk117) h119 => ?_))
                    obtain ⟨k120, n120, p120, e120, fs120, q120, f120, ks120, rfl, rfl, hf121⟩ := h119
                    obtain ⟨r122, hg123, hM⟩ := bind_t hM
                    refine run_call rfl rfl rfl (ltb rfl) rfl rfl rfl (fun _ h => absurd h List.not_mem_nil) (i_EncodeProof_ok n k120 n120 p120 e120 fs120 q120 f120 ks120 hg123 _ _) (callK_retX (fun v tk124 (hle125 : tk117 ≤ tk124) h126 => ?_))
                    obtain ⟨ra131, ra132, va133, va134, rfl, rfl, ⟨k127, n127, s127, q127, f127, ks127, rfl, rfl, hf128⟩, rfl⟩ := h126
                    refine run_pu rfl (move_step (.inl rfl) rfl) rfl (ltb rfl) ?_
                    refine run_pu rfl (extract_step rfl rfl rfl) rfl (ltb rfl) ?_
                    refine run_pu rfl (extract_step rfl rfl rfl) rfl (ltb rfl) ?_
                    refine run_op rfl (alloc_step (d := 12) hG rfl rfl rfl) rfl (ltb rfl) ?_
                    refine run_op0 rfl (store_step hG rfl rfl rfl rfl rfl rfl rfl rfl) rfl ?_
                    refine run_pu rfl (move_step (.inr rfl) rfl) rfl (ltb rfl) ?_
                    refine run_ops_nil ?_
                    refine run_seq ?_
                    refine run_seq ?_
                    refine run_region ?_
                    refine run_rd rfl (aload_rd hG rfl rfl rfl (by simp [ldok])) rfl (ltb rfl) ?_
                    refine run_rd rfl (aload_rd hG rfl rfl rfl (by simp [ldok])) rfl (ltb rfl) ?_
                    obtain ⟨r135, hg136, hM⟩ := bind_t hM
                    refine run_call rfl rfl rfl (ltb rfl) rfl rfl rfl (fun _ h => absurd h List.not_mem_nil) (w_eqTree_ok n k127 n127 s127 q127 f127 ks127 k22 n22 s22 q22 f22 ks22 hg136 _ _) (callK_retX (fun v tk137 (hle138 : tk124 ≤ tk137) h139 => ?_))
                    subst h139
                    refine run_pu rfl (aun_step rfl rfl rfl) rfl (ltb rfl) ?_
                    refine run_pu rfl (move_step (.inl rfl) rfl) rfl (ltb rfl) ?_
                    refine run_splitb (i := 83) rfl (fun hb142 => ?_) (fun hb142 => ?_)
                    · replace hM := ite_t hb142 hM
                      refine run_off (on_of rfl rfl rfl rfl) rfl (ltb rfl) ?_
                      refine run_off (on_of rfl rfl rfl rfl) rfl (ltb rfl) ?_
                      refine run_off (on_of rfl rfl rfl rfl) rfl (ltb rfl) ?_
                      refine run_pu rfl (pick_step rfl rfl rfl) rfl (ltb rfl) ?_
                      refine run_ops_nil ?_
                      refine run_sub_code (σ' := ⟨[(2, .bool false), (7, .optr (.loc 7) 0 0), (10, .int .i64 k102), (11, .int .i64 r106), (87, .bool true)], [(7, ⟨55, 4, true, [[.int .i64 k42, .int .i64 n42, .str s42, .imm q42 4 f42 (cellss ks101)]]⟩)], [], O, tk137⟩) (Sub.trans (Sub.drop (k := 12) rfl) (Sub.trans (Sub.drop (k := 4) rfl) (Sub.trans (Sub.drop (k := 1) rfl) (Sub.env [(2, .bool false), (7, .optr (.loc 7) 0 0), (10, .int .i64 k102), (11, .int .i64 r106), (87, .bool true)] ⟨rfl, rfl, rfl, rfl, rfl, trivial⟩)))) ?_
                      refine run_if rfl rfl (fun _ => ?_) (fun h => by cases h)
                      refine run_seq ?_
                      refine run_region ?_
                      refine run_pu rfl (move_step (.inr rfl) rfl) rfl (ltb rfl) ?_
                      refine run_ops_nil ?_
                      refine run_ret_to ?_
                      obtain rfl := some_t hM
                      refine fin_x hG rfl rfl rfl (v' := .bool false) (by rfl) ⟨rfl, (show tk ≤ tk137 by omega), _, rfl, rfl⟩
                    · replace hM := ite_f hb142 hM
                      refine run_puG (on_of rfl rfl rfl rfl) (move_step (.inl rfl) rfl) rfl (ltb rfl) ?_
                      refine run_puG (on_of rfl rfl rfl rfl) (move_step (.inl rfl) rfl) rfl (ltb rfl) ?_
                      refine run_puG (on_of rfl rfl rfl rfl) (abin_step rfl rfl rfl rfl (fun _ h => by cases h)) rfl (ltb rfl) ?_
                      refine run_pu rfl (pick_step rfl rfl rfl) rfl (ltb rfl) ?_
                      refine run_ops_nil ?_
                      refine run_sub_code (σ' := ⟨[(2, .bool false), (7, .optr (.loc 7) 0 0), (10, .int .i64 k102), (11, .int .i64 r106), (87, .bool (ra132 != ra27))], [(7, ⟨55, 4, true, [[.int .i64 k42, .int .i64 n42, .str s42, .imm q42 4 f42 (cellss ks101)]]⟩)], [], O, tk137⟩) (Sub.trans (Sub.drop (k := 12) rfl) (Sub.trans (Sub.drop (k := 4) rfl) (Sub.trans (Sub.drop (k := 1) rfl) (Sub.env [(2, .bool false), (7, .optr (.loc 7) 0 0), (10, .int .i64 k102), (11, .int .i64 r106), (87, .bool (ra132 != ra27))] ⟨rfl, rfl, rfl, rfl, rfl, trivial⟩)))) ?_
                      refine run_ifb rfl rfl (fun hb143 => ?_) (fun hb143 => ?_)
                      · replace hM := ite_t hb143 hM
                        refine run_seq ?_
                        refine run_region ?_
                        refine run_pu rfl (move_step (.inr rfl) rfl) rfl (ltb rfl) ?_
                        refine run_ops_nil ?_
                        refine run_ret_to ?_
                        obtain rfl := some_t hM
                        refine fin_x hG rfl rfl rfl (v' := .bool false) (by rfl) ⟨rfl, (show tk ≤ tk137 by omega), _, rfl, rfl⟩
                      · replace hM := ite_f hb143 hM
                        refine run_skip ?_
                        refine run_seq ?_
                        refine run_region ?_
                        refine run_pu rfl (move_step (.inr rfl) rfl) rfl (ltb rfl) ?_
                        refine run_ops_nil ?_
                        refine run_seq ?_
                        refine run_region ?_
                        refine run_rd rfl (aload_rd hG rfl rfl rfl (by simp [ldok])) rfl (ltb rfl) ?_
                        refine run_pu rfl (move_step (.inl rfl) rfl) rfl (ltb rfl) ?_
                        obtain ⟨r144, hg145, hM⟩ := bind_t hM
                        refine run_call rfl rfl rfl (ltb rfl) rfl rfl rfl (fun _ h => absurd h List.not_mem_nil) (w_heldTree_ok n k42 n42 s42 q42 f42 ks101 1 hg145 _ _) (callK_retX (fun v tk146 (hle147 : tk137 ≤ tk146) h148 => ?_))
                        subst h148
                        refine run_pu rfl (move_step (.inr rfl) rfl) rfl (ltb rfl) ?_
                        refine run_ops_nil ?_
                        refine run_seq ?_
                        refine run_seq ?_
                        refine run_region ?_
                        refine run_pu rfl (move_step (.inl rfl) rfl) rfl (ltb rfl) ?_
                        refine run_pu rfl (abin_step rfl rfl rfl rfl (fun _ h => by cases h)) rfl (ltb rfl) ?_
                        refine run_ops_nil ?_
                        refine run_ifd rfl rfl (fun hb151 => ?_) (fun hb151 => ?_)
                        · replace hM := ite_t hb151 hM
                          refine run_seq ?_
                          refine run_region ?_
                          refine run_pu rfl (move_step (.inr rfl) rfl) rfl (ltb rfl) ?_
                          refine run_ops_nil ?_
                          refine run_ret_to ?_
                          obtain rfl := some_t hM
                          refine fin_x hG rfl rfl rfl (v' := .bool false) (by rfl) ⟨rfl, (show tk ≤ tk146 by omega), _, rfl, rfl⟩
                        · replace hM := ite_f hb151 hM
                          refine run_skip ?_
                          refine run_seq ?_
                          refine run_seq ?_
                          refine run_region ?_
                          refine run_pu rfl (move_step (.inl rfl) rfl) rfl (ltb rfl) ?_
                          refine run_pu rfl (move_step (.inl rfl) rfl) rfl (ltb rfl) ?_
                          refine run_pu rfl (abin_step rfl rfl rfl rfl (fun _ h => by cases h)) rfl (ltb rfl) ?_
                          refine run_ops_nil ?_
                          refine run_ifb rfl rfl (fun hb152 => ?_) (fun hb152 => ?_)
                          · replace hM := ite_t hb152 hM
                            refine run_seq ?_
                            refine run_region ?_
                            refine run_pu rfl (move_step (.inr rfl) rfl) rfl (ltb rfl) ?_
                            refine run_ops_nil ?_
                            refine run_ret_to ?_
                            obtain rfl := some_t hM
                            refine fin_x hG rfl rfl rfl (v' := .bool false) (by rfl) ⟨rfl, (show tk ≤ tk146 by omega), _, rfl, rfl⟩
                          · replace hM := ite_f hb152 hM
                            refine run_skip ?_
                            refine run_seq ?_
                            refine run_region ?_
                            refine run_pu rfl (move_step (.inr rfl) rfl) rfl (ltb rfl) ?_
                            refine run_ops_nil ?_
                            refine run_ret_to ?_
                            obtain rfl := some_t hM
                            refine fin_x hG rfl rfl rfl (v' := .bool true) (by rfl) ⟨rfl, (show tk ≤ tk146 by omega), _, rfl, rfl⟩

end Go.Am.Ytfjmdfipnmmboaa
