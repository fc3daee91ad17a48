/- The law FnExactSize: its contract: it returns true. -/
import Derived.Test.YtklchmkanhpeeaaISize
import Derived.Test.YtklchmkanhpeeaaRead
namespace Go.Am.Ytklchmkanhpeeaa
open Go Go.Am

theorem toTree_e (t : LT) (h : t.er.sm) (O : Heap) (tk : Nat) : ACalls Go.Proofs.Try.prog 11 [.agg t.cells] O tk (RetE O (fun v => ∃ t' : LT, t'.er = t.er ∧ v = .agg t'.cells)) :=
  (toTree_ok t h O tk).retE ⟨_, lab_er _ _, rfl⟩

set_option maxRecDepth 100000 in
theorem lawSize_ok (t : LT) (hok : t.er.ok) : ∀ O tk, ACalls Go.Proofs.Try.prog 4 [.agg t.cells] O tk (RetE O (fun v => v = .bool true)) := by
  intro O tk
  have hsz0 := szTree_ok t hok
  have hrange := sz_range t.er 1048576 (by omega)
  have hsm := sz_sm t.er 1048576 (by omega) (by omega)
  have hsize := sz_size t.er 1048576 (by omega)
  have hto := toTree_e t
  obtain ⟨k, n, s, tok, f, ks⟩ := t
  generalize hL : (LT.mk k n s tok f ks).er = L at *
  refine acalls_of_run Go.Proofs.Try.func4 rfl rfl [] [] (Bor.nil _) [(0, .agg [.int .i64 k, .int .i64 n, .str s, .imm tok 4 f (cellss ks)])]
    (.cons (.agg _) (.nil _)) (leb rfl) (fun _ h => by cases h) (fun S0 hO htk hfz => ?_)
  refine run_seq ?_
  refine run_region ?_
  refine run_op rfl (box_step (d := 1) rfl rfl rfl rfl rfl) rfl (ltb rfl) ?_   -- t1 = box 25 t0
  refine run_pu rfl (move_step (.inr rfl) rfl) rfl (ltb rfl) ?_   -- t2 = assign (const (bool false))
  refine run_ops_nil ?_
  refine run_seq ?_
  refine run_region ?_
  refine run_pu rfl (move_step (.inr rfl) rfl) rfl (ltb rfl) ?_   -- t3 = assign 1048576
  refine run_ops_nil ?_
  refine run_seq ?_
  refine run_region ?_
  refine run_rd rfl (aload_rd hG rfl rfl rfl (by simp [ldok])) rfl (ltb rfl) ?_   -- t7 = load 25 t1
  refine run_pu rfl (move_step (.inl rfl) rfl) rfl (ltb rfl) ?_   -- t8 = move t3
  refine run_call rfl rfl rfl (ltb rfl) rfl rfl rfl (fun _ h => absurd h List.not_mem_nil) (hsz0 1048576 _ _ (by omega) (by omega)) (callK_ret1 fun v hv => ?_)
  subst hv
  refine run_pu rfl (move_step (.inr rfl) rfl) rfl (ltb rfl) ?_   -- t3 = assign t9
  refine run_ops_nil ?_
  refine run_seq ?_
  refine run_seq ?_
  refine run_region ?_
  refine run_pu rfl (move_step (.inl rfl) rfl) rfl (ltb rfl) ?_   -- t10 = move t3
  refine run_pu rfl (abin_step rfl rfl rfl rfl (fun _ h => by cases h)) rfl (ltb rfl) ?_   -- t11 = binOp lss 3 t10 0 3
  refine run_ops_nil ?_
  refine run_if rfl rfl (fun hb => ?_) (fun hb => ?_)
  · refine run_seq ?_
    refine run_region ?_
    refine run_pu rfl (move_step (.inr rfl) rfl) rfl (ltb rfl) ?_   -- t2 = assign (const (bool true))
    refine run_ops_nil ?_
    refine run_ret_to ?_
    exact fin_ret hG rfl rfl rfl ⟨rfl, _, rfl, rfl⟩
  · have hb := of_decide_eq_false hb
    have hsm := hsm (by omega)
    have hsize := hsize (by omega)
    refine run_skip ?_
    refine run_seq ?_
    refine run_region ?_
    refine run_rd rfl (aload_rd hG rfl rfl rfl (by simp [ldok])) rfl (ltb rfl) ?_   -- t12 = load 25 t1
    refine run_call rfl rfl rfl (ltb rfl) rfl rfl rfl (fun _ h => absurd h List.not_mem_nil) (hto hsm _ _) (callK_retE fun v tk1 hv => ?_)
    obtain ⟨t1, ht1, rfl⟩ := hv
    refine run_call rfl rfl rfl (ltb rfl) rfl rfl (argok_tree t1 rfl) (fun _ h => absurd h List.not_mem_nil) (specSize_ok t1 (by rw [ht1]; omega) _ _) (callK_retN ?_)
    rw [ht1]
    refine run_pu rfl (move_step (.inr rfl) rfl) rfl (ltb rfl) ?_   -- t4 = assign t14
    refine run_ops_nil ?_
    refine run_seq ?_
    refine run_region ?_
    refine run_rd rfl (aload_rd hG rfl rfl rfl (by simp [ldok])) rfl (ltb rfl) ?_   -- t15 = load 25 t1
    refine run_call rfl rfl rfl (ltb rfl) rfl rfl rfl (fun _ h => absurd h List.not_mem_nil) (hto hsm _ _) (callK_retE fun v tk2 hv => ?_)
    obtain ⟨⟨k2, n2, s2, tok2, f2, ks2⟩, ht2, rfl⟩ := hv
    have hi2 := implSize_ok (.mk k2 n2 s2 tok2 f2 ks2) (by rw [ht2]; omega)
    have he2 := eqTree_ok (.mk k2 n2 s2 tok2 f2 ks2)
    unfold EqTreeOK at he2
    rw [ht2] at hi2 he2
    refine run_op rfl (alloc_step (d := 5) hG rfl rfl rfl) rfl (ltb rfl) ?_   -- t5 = alloc 30
    refine run_op0 rfl (store_step hG rfl rfl rfl rfl rfl rfl rfl rfl) rfl ?_   -- none = store 30 t5 t16
    refine run_ops_nil ?_
    refine run_seq ?_
    refine run_region ?_
    refine run_rd rfl (aload_rd hG rfl rfl rfl (by simp [ldok])) rfl (ltb rfl) ?_   -- t17 = load 30 t5
    refine run_call rfl rfl rfl (ltb rfl) rfl rfl rfl (fun _ h => absurd h List.not_mem_nil) (hi2 _ _) (callK_retN ?_)   -- t18 = call {value (func 12), [t17], argTypes := #[30] }
    refine run_pu rfl (move_step (.inr rfl) rfl) rfl (ltb rfl) ?_   -- t6 = assign t18
    refine run_ops_nil ?_
    refine run_seq ?_
    refine run_seq ?_
    refine run_region ?_
    refine run_pu rfl (move_step (.inl rfl) rfl) rfl (ltb rfl) ?_   -- t19 = move t6
    refine run_pu rfl (move_step (.inl rfl) rfl) rfl (ltb rfl) ?_   -- t20 = move t4
    refine run_pu rfl (abin_step rfl rfl rfl rfl (fun _ h => by cases h)) rfl (ltb rfl) ?_   -- t21 = binOp neq 3 t19 t20 3
    refine run_ops_nil ?_
    refine run_if rfl rfl (fun hb => by simp at hb) (fun _ => ?_)
    refine run_skip ?_
    refine run_seq ?_
    refine run_seq ?_
    refine run_draw [] (n := 5) mixed rfl (fun _ h => absurd h List.not_mem_nil) ?_   -- DRAW region 10
    refine AAny.take (i := 0) rfl (by kernel_rfl) (by kernel_rfl) (by kernel_rfl) rfl rfl (ltb rfl) (aload_rd hG rfl rfl rfl (by simp [ldok])) ?_   -- t22 = load 30 t5  []
    refine AAny.take (i := 1) rfl (by kernel_rfl) (by kernel_rfl) (by kernel_rfl) rfl rfl (ltb rfl) (aload_rd hG rfl rfl rfl (by simp [ldok])) ?_   -- t23 = load 25 t1  []
    refine AAny.one (i := 2) (by kernel_rfl) (AOp.call rfl rfl rfl rfl (ltb rfl) rfl rfl rfl (fun _ h => absurd h List.not_mem_nil) (fun _ h => absurd h List.not_mem_nil) (hto hsm _ _) (callK_retE fun v tk3 hv => ?_))
    obtain ⟨t3, ht3, rfl⟩ := hv
    refine AAny.one (i := 3) (by kernel_rfl) (AOp.call rfl rfl rfl rfl (ltb rfl) rfl rfl (show ([AV.agg (LT.mk k2 n2 s2 tok2 f2 ks2).cells, .agg t3.cells] : List AV).all argok = true from argok_tree _ (argok_tree t3 rfl)) (fun _ h => absurd h List.not_mem_nil) (fun _ h => absurd h List.not_mem_nil) (he2 t3 ht3.symm hsm _ _) (callK_retN ?_))
    refine AAny.take (i := 4) rfl (by kernel_rfl) (by kernel_rfl) (by kernel_rfl) rfl rfl (ltb rfl) ((aun_step rfl rfl rfl).rd _) ?_   -- t26 = unOp UnOp.not 4 t25  [3d]
    refine AAny.done (by kernel_rfl) ?_
    refine run_if rfl rfl (fun hb => by simp at hb) (fun _ => ?_)
    refine run_skip ?_
    refine run_seq ?_
    refine run_region ?_
    refine run_pu rfl (move_step (.inr rfl) rfl) rfl (ltb rfl) ?_   -- t2 = assign (const (bool true))
    refine run_ops_nil ?_
    refine run_ret_to ?_
    exact fin_ret hG rfl rfl rfl ⟨rfl, _, rfl, rfl⟩

end Go.Am.Ytklchmkanhpeeaa
