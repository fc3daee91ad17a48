/- The law FnExactFormOK: its contract: it returns true. -/
import Derived.Test.YtklchmkanhpeeaaFmImpl
import Derived.Test.YtklchmkanhpeeaaFRead
namespace Go.Am.Ytklchmkanhpeeaa
open Go Go.Am

theorem toForm_e (t : LF) (h : t.er.sm) (O : Heap) (tk : Nat) : ACalls Go.Proofs.Try.prog 21 [.agg t.cells] O tk (RetE O (fun v => ∃ t' : LF, t'.er = t.er ∧ v = .agg t'.cells)) :=
  (toForm_ok t h O tk).retE ⟨_, flab_er _ _, rfl⟩

set_option maxRecDepth 100000 in
theorem lawFormOK_ok (t : LF) (hok : t.er.ok) : ∀ O tk, ACalls Go.Proofs.Try.prog 6 [.agg t.cells] O tk (RetE O (fun v => v = .bool true)) := by
  intro O tk
  have hsz0 := szForm_ok t hok
  have hrange := fsz_range t.er 1048576 (by omega)
  have hsm := fsz_sm t.er 1048576 (by omega) (by omega)
  have hto := toForm_e t
  obtain ⟨k, n, tok, f, ks⟩ := t
  generalize hL : (LF.mk k n tok f ks).er = L at *
  refine acalls_of_run Go.Proofs.Try.func6 rfl rfl [] [] (Bor.nil _) [(0, .agg [.int .i64 k, .int .i64 n, .imm tok 3 f (fcellss ks)])]
    (.cons (.agg _) (.nil _)) (leb rfl) (fun _ h => by cases h) (fun S0 hO htk hfz => ?_)
  refine run_seq ?_
  refine run_region ?_
  refine run_op rfl (box_step (d := 1) rfl rfl rfl rfl rfl) rfl (ltb rfl) ?_   -- t1 = box 47 t0
  refine run_pu rfl (move_step (.inr rfl) rfl) rfl (ltb rfl) ?_   -- t2 = assign (const (bool false))
  refine run_ops_nil ?_
  refine run_seq ?_
  refine run_region ?_
  refine run_pu rfl (move_step (.inr rfl) rfl) rfl (ltb rfl) ?_   -- t3 = assign 1048576
  refine run_ops_nil ?_
  refine run_seq ?_
  refine run_region ?_
  refine run_rd rfl (aload_rd hG rfl rfl rfl (by simp [ldok])) rfl (ltb rfl) ?_   -- t7 = load 47 t1
  refine run_pu rfl (move_step (.inl rfl) rfl) rfl (ltb rfl) ?_   -- t8 = move t3
  refine run_call rfl rfl rfl (ltb rfl) rfl rfl rfl (fun _ h => absurd h List.not_mem_nil) (hsz0 1048576 _ _ (by omega) (by omega)) (callK_ret1 fun v hv => ?_)
  subst hv
  refine run_pu rfl (move_step (.inr rfl) rfl) rfl (ltb rfl) ?_   -- t3 = assign t9
  refine run_ops_nil ?_
  refine run_seq ?_
  refine run_seq ?_
  refine run_region ?_
  refine run_pu rfl (move_step (.inl rfl) rfl) rfl (ltb rfl) ?_   -- t10 = move t3
  refine run_pu rfl (abin_step rfl rfl rfl rfl (fun _ h => by cases h)) rfl (ltb rfl) ?_   -- t11 = binOp lss 3 t10 0 3
  refine run_ops_nil ?_
  refine run_if rfl rfl (fun hb => ?_) (fun hb => ?_)
  · refine run_seq ?_
    refine run_region ?_
    refine run_pu rfl (move_step (.inr rfl) rfl) rfl (ltb rfl) ?_   -- t2 = assign (const (bool true))
    refine run_ops_nil ?_
    refine run_ret_to ?_
    exact fin_ret hG rfl rfl rfl ⟨rfl, _, rfl, rfl⟩
  · have hb := of_decide_eq_false hb
    have hsm := hsm (by omega)
    refine run_skip ?_
    refine run_seq ?_
    refine run_region ?_
    refine run_rd rfl (aload_rd hG rfl rfl rfl (by simp [ldok])) rfl (ltb rfl) ?_   -- t12 = load 47 t1
    refine run_call rfl rfl rfl (ltb rfl) rfl rfl rfl (fun _ h => absurd h List.not_mem_nil) (hto hsm _ _) (callK_retE fun v tk1 hv => ?_)
    obtain ⟨t1, ht1, rfl⟩ := hv
    refine run_call rfl rfl rfl (ltb rfl) rfl rfl (argok_Form t1 rfl) (fun _ h => absurd h List.not_mem_nil) (specFormOK_ok t1 (by rw [ht1]; exact hsm) _ _) (callK_retN ?_)
    rw [ht1]
    refine run_pu rfl (move_step (.inr rfl) rfl) rfl (ltb rfl) ?_   -- t4 = assign t14
    refine run_ops_nil ?_
    refine run_seq ?_
    refine run_region ?_
    refine run_rd rfl (aload_rd hG rfl rfl rfl (by simp [ldok])) rfl (ltb rfl) ?_   -- t15 = load 47 t1
    refine run_call rfl rfl rfl (ltb rfl) rfl rfl rfl (fun _ h => absurd h List.not_mem_nil) (hto hsm _ _) (callK_retE fun v tk2 hv => ?_)
    obtain ⟨⟨k2, n2, tok2, f2, ks2⟩, ht2, rfl⟩ := hv
    have hi2 := implFormOK_ok (.mk k2 n2 tok2 f2 ks2) (by rw [ht2]; exact hsm)
    have he2 := eqForm_ok (.mk k2 n2 tok2 f2 ks2)
    unfold EqFormOK at he2
    rw [ht2] at hi2 he2
    refine run_op rfl (alloc_step (d := 5) hG rfl rfl rfl) rfl (ltb rfl) ?_   -- t5 = alloc 52
    refine run_op0 rfl (store_step hG rfl rfl rfl rfl rfl rfl rfl rfl) rfl ?_   -- none = store 52 t5 t16
    refine run_ops_nil ?_
    refine run_seq ?_
    refine run_region ?_
    refine run_rd rfl (aload_rd hG rfl rfl rfl (by simp [ldok])) rfl (ltb rfl) ?_   -- t17 = load 52 t5
    refine run_call rfl rfl rfl (ltb rfl) rfl rfl rfl (fun _ h => absurd h List.not_mem_nil) (hi2 _ _) (callK_retN ?_)   -- t18 = call {value (func 22), [t17], argTypes := #[52] }
    refine run_pu rfl (move_step (.inr rfl) rfl) rfl (ltb rfl) ?_   -- t6 = assign t18
    refine run_ops_nil ?_
    refine run_seq ?_
    refine run_seq ?_
    refine run_region ?_
    refine run_pu rfl (move_step (.inl rfl) rfl) rfl (ltb rfl) ?_   -- t19 = move t6
    refine run_pu rfl (move_step (.inl rfl) rfl) rfl (ltb rfl) ?_   -- t20 = move t4
    refine run_pu rfl (bool_step hG rfl rfl rfl rfl rfl rfl) rfl (ltb rfl) ?_   -- t21
    refine run_ops_nil ?_
    refine run_if rfl rfl (fun hb => by simp at hb) (fun _ => ?_)
    refine run_skip ?_
    refine run_seq ?_
    refine run_seq ?_
    refine run_draw [] (n := 5) mixed rfl (fun _ h => absurd h List.not_mem_nil) ?_   -- DRAW region 10
    refine AAny.take (i := 0) rfl (by kernel_rfl) (by kernel_rfl) (by kernel_rfl) rfl rfl (ltb rfl) (aload_rd hG rfl rfl rfl (by simp [ldok])) ?_   -- t22 = load 52 t5  []
    refine AAny.take (i := 1) rfl (by kernel_rfl) (by kernel_rfl) (by kernel_rfl) rfl rfl (ltb rfl) (aload_rd hG rfl rfl rfl (by simp [ldok])) ?_   -- t23 = load 47 t1  []
    refine AAny.one (i := 2) (by kernel_rfl) (AOp.call rfl rfl rfl rfl (ltb rfl) rfl rfl rfl (fun _ h => absurd h List.not_mem_nil) (fun _ h => absurd h List.not_mem_nil) (hto hsm _ _) (callK_retE fun v tk3 hv => ?_))
    obtain ⟨t3, ht3, rfl⟩ := hv
    refine AAny.one (i := 3) (by kernel_rfl) (AOp.call rfl rfl rfl rfl (ltb rfl) rfl rfl (show ([AV.agg (LF.mk k2 n2 tok2 f2 ks2).cells, .agg t3.cells] : List AV).all argok = true from argok_Form _ (argok_Form t3 rfl)) (fun _ h => absurd h List.not_mem_nil) (fun _ h => absurd h List.not_mem_nil) (he2 t3 ht3.symm hsm _ _) (callK_retN ?_))
    refine AAny.take (i := 4) rfl (by kernel_rfl) (by kernel_rfl) (by kernel_rfl) rfl rfl (ltb rfl) ((aun_step rfl rfl rfl).rd _) ?_   -- t26 = unOp UnOp.not 4 t25  [3d]
    refine AAny.done (by kernel_rfl) ?_
    refine run_if rfl rfl (fun hb => by simp at hb) (fun _ => ?_)
    refine run_skip ?_
    refine run_seq ?_
    refine run_region ?_
    refine run_pu rfl (move_step (.inr rfl) rfl) rfl (ltb rfl) ?_   -- t2 = assign (const (bool true))
    refine run_ops_nil ?_
    refine run_ret_to ?_
    exact fin_ret hG rfl rfl rfl ⟨rfl, _, rfl, rfl⟩

end Go.Am.Ytklchmkanhpeeaa
