/- Printed by a program of ours: Lean functions that do what the Go functions do, and the contracts. -/
import Derived.Test.YtlbofhoehollfaaDoorMl0
import Derived.Test.YtlbofhoehollfaaDoorTypes
import Derived.Test.YtlbofhoehollfaaDoorDkTerm
import Derived.Test.YtlbofhoehollfaaDoorDlTree
-- packed
namespace Go.Am.YtlbofhoehollfaaDoor
open Go Go.Am

def w_FnExactTermOK (n : Nat) (x1 : T) : Option Bool :=
 (w_szTree n x1 1048576).bind fun r2 =>
 if r2 < 0 then
  some true
 else
  (w_toTree n x1).bind fun r10 =>
  (s_TermOK n r10).bind fun r17 =>
  (w_toTree n x1).bind fun r24 =>
  (i_TermOK n r24).bind fun r31 =>
  if (!(r31 == r17)) = true then
   some false
  else
   (w_toTree n x1).bind fun r39 =>
   (w_eqTree n r24 r39).bind fun r46 =>
   if (!r46) = true then
    some false
   else
    some true

set_option maxRecDepth 100000 in
theorem w_FnExactTermOK_ok (n : Nat) : ∀ (k1 : Int) (n1 : Int) (s1 : ByteArray) (q1 : Nat) (f1 : Bool) (ks1 : List LT) {r : Bool}, w_FnExactTermOK n (T.mk k1 n1 s1 (ers ks1)) = some r → ∀ (O : Heap) (tk : Nat), ACalls Go.Proofs.Tryd.prog 7 [.agg [.int .i64 k1, .int .i64 n1, .str s1, .imm q1 4 f1 (cellss ks1)]] O tk (RetX O tk (fun v tk' => v = .bool r)) := by
 intro k1 n1 s1 q1 f1 ks1 r hM O tk
 unfold w_FnExactTermOK at hM
 refine acalls_of_run Go.Proofs.Tryd.func7 rfl rfl [] [] (Bor.nil _) [(0, .agg [.int .i64 k1, .int .i64 n1, .str s1, .imm q1 4 f1 (cellss ks1)])] (.cons (.agg _) (.nil _)) (leb rfl) (fun _ h => by cases h) (fun S0 hO htk hfz => ?_)
 refine run_sr ?_
 refine run_op rfl (box_step (d := 1) rfl rfl rfl rfl rfl) rfl (ltb rfl) ?_
 refine mvR rfl rfl rfl rfl (ltb rfl) ?_
 refine run_ops_nil ?_
 refine run_sr ?_
 refine mvR rfl rfl rfl rfl (ltb rfl) ?_
 refine run_ops_nil ?_
 refine run_sr ?_
 refine run_ld hG rfl rfl rfl rfl rfl (ltb rfl) ?_
 refine mvL rfl rfl rfl rfl (ltb rfl) ?_
 obtain ⟨r2, hg3, hM⟩ := bind_t hM
 refine run_call rfl rfl rfl (ltb rfl) rfl rfl rfl (fun _ h => absurd h List.not_mem_nil) (w_szTree_ok n k1 n1 s1 q1 f1 ks1 1048576 hg3 _ _) (callK_retX (fun v tk4 (hle5 : tk ≤ tk4) h6 => ?_))
 subst h6
 refine mvR rfl rfl rfl rfl (ltb rfl) ?_
 refine run_ops_nil ?_
 refine run_seq ?_
 refine run_sr ?_
 refine mvL rfl rfl rfl rfl (ltb rfl) ?_
 refine run_bin rfl rfl rfl rfl rfl rfl rfl (ltb rfl) ?_
 refine run_ops_nil ?_
 refine run_ifd rfl rfl (fun hb9 => ?_) (fun hb9 => ?_)
 ·replace hM := ite_t hb9 hM
  refine run_sr ?_
  refine mvR rfl rfl rfl rfl (ltb rfl) ?_
  refine run_ops_nil ?_
  refine run_ret_to ?_
  obtain rfl := some_t hM
  refine fin_x hG rfl rfl rfl (v' := .bool true) (by rfl) ⟨rfl, (show tk ≤ tk4 by omega), _, rfl, rfl⟩
 ·replace hM := ite_f hb9 hM
  refine run_skip ?_
  refine run_sr ?_
  refine run_ld hG rfl rfl rfl rfl rfl (ltb rfl) ?_
  obtain ⟨r10, hg11, hM⟩ := bind_t hM
  refine run_call rfl rfl rfl (ltb rfl) rfl rfl rfl (fun _ h => absurd h List.not_mem_nil) (w_toTree_ok n k1 n1 s1 q1 f1 ks1 hg11 _ _) (callK_retX (fun v tk12 (hle13 : tk4 ≤ tk12) h14 => ?_))
  obtain ⟨k15, n15, s15, q15, f15, ks15, rfl, rfl, hf16⟩ := h14
  obtain ⟨r17, hg18, hM⟩ := bind_t hM
  refine run_call rfl rfl rfl (ltb rfl) rfl rfl rfl (fun _ h => absurd h List.not_mem_nil) (s_TermOK_ok n k15 n15 s15 q15 f15 ks15 hg18 _ _) (callK_retX (fun v tk19 (hle20 : tk12 ≤ tk19) h21 => ?_))
  subst h21
  refine mvR rfl rfl rfl rfl (ltb rfl) ?_
  refine run_ops_nil ?_
  refine run_sr ?_
  refine run_ld hG rfl rfl rfl rfl rfl (ltb rfl) ?_
  obtain ⟨r24, hg25, hM⟩ := bind_t hM
  refine run_call rfl rfl rfl (ltb rfl) rfl rfl rfl (fun _ h => absurd h List.not_mem_nil) (w_toTree_ok n k1 n1 s1 q1 f1 ks1 hg25 _ _) (callK_retX (fun v tk26 (hle27 : tk19 ≤ tk26) h28 => ?_))
  obtain ⟨k29, n29, s29, q29, f29, ks29, rfl, rfl, hf30⟩ := h28
  refine run_op rfl (alloc_step (d := 5) hG rfl rfl rfl) rfl (ltb rfl) ?_
  refine run_op0 rfl (store_step hG rfl rfl rfl rfl rfl rfl rfl rfl) rfl ?_
  refine run_ops_nil ?_
  refine run_sub_code (σ' := ⟨[(1, .optr (.loc 1) 0 0), (2, .bool false), (4, .bool r17), (5, .optr (.loc 5) 0 0)], [(5, ⟨33, 4, true, [[.int .i64 k29, .int .i64 n29, .str s29, .imm q29 4 f29 (cellss ks29)]]⟩), (1, ⟨28, 4, true, [[.int .i64 k1, .int .i64 n1, .str s1, .imm q1 4 f1 (cellss ks1)]]⟩)], [], O, tk26⟩) (Sub.env _ ⟨rfl, rfl, rfl, rfl, trivial⟩) ?_
  refine run_sr ?_
  refine run_ld hG rfl rfl rfl rfl rfl (ltb rfl) ?_
  obtain ⟨r31, hg32, hM⟩ := bind_t hM
  refine run_call rfl rfl rfl (ltb rfl) rfl rfl rfl (fun _ h => absurd h List.not_mem_nil) (i_TermOK_ok n k29 n29 s29 q29 f29 ks29 hg32 _ _) (callK_retX (fun v tk33 (hle34 : tk26 ≤ tk33) h35 => ?_))
  subst h35
  refine mvR rfl rfl rfl rfl (ltb rfl) ?_
  refine run_ops_nil ?_
  refine run_seq ?_
  refine run_sr ?_
  refine mvL rfl rfl rfl rfl (ltb rfl) ?_
  refine mvL rfl rfl rfl rfl (ltb rfl) ?_
  refine run_pu rfl (bool_step hG rfl rfl rfl rfl rfl rfl) rfl (ltb rfl) ?_
  refine run_ops_nil ?_
  refine run_ifb rfl rfl (fun hb38 => ?_) (fun hb38 => ?_)
  ·replace hM := ite_t hb38 hM
   refine run_sr ?_
   refine mvR rfl rfl rfl rfl (ltb rfl) ?_
   refine run_ops_nil ?_
   refine run_ret_to ?_
   obtain rfl := some_t hM
   refine fin_x hG rfl rfl rfl (v' := .bool false) (by rfl) ⟨rfl, (show tk ≤ tk33 by omega), _, rfl, rfl⟩
  ·replace hM := ite_f hb38 hM
   refine run_skip ?_
   refine run_seq ?_
   refine run_seq ?_
   refine run_draw [] (n := 5) mixed rfl (fun _ h => absurd h List.not_mem_nil) ?_
   refine AAny.take (i := 0) rfl (by kernel_rfl) (by kernel_rfl) (by kernel_rfl) rfl rfl (ltb rfl) (aload_rd hG rfl rfl rfl (by first | (simp [ldok]; done) | exact List.not_mem_nil | trivial)) ?_
   refine AAny.take (i := 1) rfl (by kernel_rfl) (by kernel_rfl) (by kernel_rfl) rfl rfl (ltb rfl) (aload_rd hG rfl rfl rfl (by first | (simp [ldok]; done) | exact List.not_mem_nil | trivial)) ?_
   obtain ⟨r39, hg40, hM⟩ := bind_t hM
   refine AAny.one (i := 2) (by kernel_rfl) (AOp.call rfl rfl rfl rfl (ltb rfl) rfl rfl rfl (fun _ h => absurd h List.not_mem_nil) (fun _ h => absurd h List.not_mem_nil) (w_toTree_ok n k1 n1 s1 q1 f1 ks1 hg40 _ _) (callK_retX (fun v tk41 (hle42 : tk33 ≤ tk41) h43 => ?_)))
   obtain ⟨k44, n44, s44, q44, f44, ks44, rfl, rfl, hf45⟩ := h43
   obtain ⟨r46, hg47, hM⟩ := bind_t hM
   refine AAny.one (i := 3) (by kernel_rfl) (AOp.call rfl rfl rfl rfl (ltb rfl) rfl rfl rfl (fun _ h => absurd h List.not_mem_nil) (fun _ h => absurd h List.not_mem_nil) (w_eqTree_ok n k29 n29 s29 q29 f29 ks29 k44 n44 s44 q44 f44 ks44 hg47 _ _) (callK_retX (fun v tk48 (hle49 : tk41 ≤ tk48) h50 => ?_)))
   subst h50
   refine AAny.take (i := 4) rfl (by kernel_rfl) (by kernel_rfl) (by kernel_rfl) rfl rfl (ltb rfl) ((aun_step rfl rfl rfl).rd _) ?_
   refine AAny.done (by kernel_rfl) ?_
   refine run_ifb rfl rfl (fun hb53 => ?_) (fun hb53 => ?_)
   ·replace hM := ite_t hb53 hM
    refine run_sr ?_
    refine mvR rfl rfl rfl rfl (ltb rfl) ?_
    refine run_ops_nil ?_
    refine run_ret_to ?_
    obtain rfl := some_t hM
    refine fin_x hG rfl rfl rfl (v' := .bool false) (by rfl) ⟨rfl, (show tk ≤ tk48 by omega), _, rfl, rfl⟩
   ·replace hM := ite_f hb53 hM
    refine run_skip ?_
    refine run_sr ?_
    refine mvR rfl rfl rfl rfl (ltb rfl) ?_
    refine run_ops_nil ?_
    refine run_ret_to ?_
    obtain rfl := some_t hM
    refine fin_x hG rfl rfl rfl (v' := .bool true) (by rfl) ⟨rfl, (show tk ≤ tk48 by omega), _, rfl, rfl⟩

end Go.Am.YtlbofhoehollfaaDoor
