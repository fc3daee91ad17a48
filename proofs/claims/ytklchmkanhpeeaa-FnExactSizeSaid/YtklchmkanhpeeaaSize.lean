/- The contracts of spec.Size: how many nodes a tree has. -/
import Derived.Test.YtklchmkanhpeeaaEqTree
import Derived.Test.YtklchmkanhpeeaaAmV
namespace Go.Am.Ytklchmkanhpeeaa
open Go Go.Am

def L01SizeOK (t : LT) : Prop := t.er.size ≤ 1048577 → ∀ O tk, ACalls Go.Proofs.Try.prog 35 [.agg t.cells] O tk (RetN O (.int .i64 (t.er.size : Nat)) tk)

set_option maxRecDepth 100000 in
theorem l01Size_of {k n : Int} {s : ByteArray} {tok : Nat} {f : Bool} {ks : List LT} (hk : ∀ t ∈ ks, L01SizeOK t) : L01SizeOK (.mk k n s tok f ks) := by
  intro hsz O tk
  rw [er_size_kids] at hsz
  have hlen := cellss_length ks
  have hlk := length_sizes (ers ks)
  rw [ers_length] at hlk
  refine acalls_of_run Go.Proofs.Try.func35 rfl rfl [] [] (Bor.nil _) [(0, .agg [.int .i64 k, .int .i64 n, .str s, .imm tok 4 f (cellss ks)])]
    (.cons (.agg _) (.nil _)) (leb rfl) (fun _ h => by cases h) (fun S0 hO htk hfz => ?_)
  refine run_seq ?_
  refine run_region ?_
  refine run_op rfl (box_step (d := 1) rfl rfl rfl rfl rfl) rfl (ltb rfl) ?_   -- t1 = box 30 t0
  refine run_pu rfl (move_step (.inr rfl) rfl) rfl (ltb rfl) ?_   -- t2 = assign 0
  refine run_ops_nil ?_
  refine run_seq ?_
  refine run_region ?_
  refine run_pu rfl (move_step (.inr rfl) rfl) rfl (ltb rfl) ?_   -- t3 = assign 1
  refine run_ops_nil ?_
  refine run_seq ?_
  refine run_seq ?_
  refine run_region ?_
  refine run_pu rfl (move_step (.inr rfl) rfl) rfl (ltb rfl) ?_   -- t4 = assign 0
  refine run_ops_nil ?_
  refine run_block ?_   -- 0
  refine run_rounds (fun m σ => ∃ i, i + m = ks.length ∧
      σ = ⟨[(4, .int .i64 (i : Nat)), (3, .int .i64 ((1 + sizes ((ers ks).take i) : Nat) : Int)), (1, .optr (.loc 1) 0 0)],
        [(1, ⟨30, 4, true, [[.int .i64 k, .int .i64 n, .str s, .imm tok 4 f (cellss ks)]]⟩)], [], O, tk⟩) ks.length
    (Sub.env [(4, .int .i64 (0 : Nat)), (3, .int .i64 (1 : Nat)), (1, .optr (.loc 1) 0 0)] ⟨rfl, rfl, rfl, trivial⟩)
    ⟨0, by omega, rfl⟩ (fun m σ ⟨i, hi, hσ⟩ => ?_)
  subst hσ
  refine run_seq ?_
  refine run_seq ?_
  refine run_region ?_
  refine run_pu rfl (move_step (.inl rfl) rfl) rfl (ltb rfl) ?_   -- t5 = move t4
  refine run_pu rfl (fieldAddr_step hG rfl rfl rfl rfl rfl) rfl (ltb rfl) ?_   -- t6 = fieldAddr 30 t1 3
  refine run_rd rfl (aload_rd hG rfl rfl rfl (by simp [ldok])) rfl (ltb rfl) ?_   -- t7 = load 28 t6
  refine run_pu rfl (len_step hG rfl rfl rfl rfl) rfl (ltb rfl) ?_   -- t8 = call {builtin len, [t7], argTypes := #[28] }
  refine run_pu rfl (abin_step rfl rfl rfl rfl (fun _ h => by cases h)) rfl (ltb rfl) ?_   -- t9 = binOp lss 3 t5 t8 3
  refine run_ops_nil ?_
  refine run_if rfl rfl (fun hb2 => ?_) (fun hb2 => ?_)
  · have hb2 := of_decide_eq_true hb2
    rw [hlen] at hb2
    have hil : i < ks.length := by omega
    have hget : ks[i]? = some ks[i] := List.getElem?_eq_getElem hil
    have hmem : ks[i] ∈ ks := List.getElem_mem hil
    have heri : (ers ks)[i]? = some ks[i].er := by simp [ers_map, hget]
    have hst := sizes_take heri
    have hsl := sizes_take_le (ers ks) (i + 1)
    have hsm : ks[i].er.size ≤ 1048577 := by omega
    refine run_skip ?_
    refine run_seq ?_
    refine run_block ?_   -- 1
    refine run_region ?_
    refine run_pu rfl (move_step (.inl rfl) rfl) rfl (ltb rfl) ?_   -- t12 = move t3
    refine run_pu rfl (fieldAddr_step hG rfl rfl rfl rfl rfl) rfl (ltb rfl) ?_   -- t13 = fieldAddr 30 t1 3
    refine run_rd rfl (aload_rd hG rfl rfl rfl (by simp [ldok])) rfl (ltb rfl) ?_   -- t14 = load 28 t13
    refine run_pu rfl (move_step (.inl rfl) rfl) rfl (ltb rfl) ?_   -- t15 = move t4
    refine run_pu rfl (indexAddr_step hG rfl rfl rfl rfl rfl rfl rfl (aindex_imm (cellss_get hget))) rfl (ltb rfl) ?_   -- t16 = indexAddr 28 t14 t15
    refine run_rd rfl (aload_rd hG rfl rfl (load_tree' ks[i]) (by simp [ldok])) rfl (ltb rfl) ?_   -- t17 = load 30 t16
    refine run_call rfl rfl rfl (ltb rfl) rfl rfl (argok_tree ks[i] rfl) (fun _ h => absurd h List.not_mem_nil) (hk _ hmem hsm _ _) (callK_retN ?_)   -- t18 = call {value (func 35), [t17], argTypes := #[30] }
    refine run_pu rfl (abin_step rfl rfl rfl rfl (fun _ h => by cases h)) rfl (ltb rfl) ?_   -- t19 = binOp add 3 t12 t18 3
    refine run_pu rfl (move_step (.inr rfl) rfl) rfl (ltb rfl) ?_   -- t3 = assign t19
    refine run_ops_nil ?_
    rw [show IntKind.i64.wrap (((1 + sizes ((ers ks).take i) : Nat) : Int) + (ks[i].er.size : Nat)) = ((1 + sizes ((ers ks).take (i + 1)) : Nat) : Int) by rw [IntWalk.i64_in _ (by omega)]; omega]
    refine run_blk ?_   -- 1
    refine run_region ?_
    refine run_pu rfl (move_step (.inl rfl) rfl) rfl (ltb rfl) ?_   -- t10 = move t4
    refine run_pu rfl (abin_step rfl rfl rfl rfl (fun _ h => by cases h)) rfl (ltb rfl) ?_   -- t11 = binOp add 3 t10 1 3
    refine run_pu rfl (move_step (.inr rfl) rfl) rfl (ltb rfl) ?_   -- t4 = assign t11
    refine run_ops_nil ?_
    rw [show IntKind.i64.wrap ((i : Int) + 1) = ((i + 1 : Nat) : Int) by rw [IntWalk.i64_in _ (by omega)]; rfl]
    exact run_loop_end ⟨m - 1, _, by omega, ⟨i + 1, by omega, rfl⟩, Sub.env _ ⟨rfl, rfl, rfl, trivial⟩⟩
  · have hb2 := of_decide_eq_false hb2
    rw [hlen] at hb2
    rw [List.take_of_length_le (by rw [ers_length]; omega)]
    refine run_exit_to rfl ?_   -- 0
    refine run_seq ?_
    refine run_region ?_
    refine run_pu rfl (move_step (.inl rfl) rfl) rfl (ltb rfl) ?_   -- t20 = move t3
    refine run_pu rfl (move_step (.inr rfl) rfl) rfl (ltb rfl) ?_   -- t2 = assign t20
    refine run_ops_nil ?_
    refine run_ret_to ?_
    exact fin_ret hG rfl rfl rfl ⟨rfl, by rw [er_size_kids]; rfl, rfl⟩

theorem l01Size_ok (t : LT) : L01SizeOK t := by
  induction t using LT.ind with
  | _ k n s tok f ks ih => exact l01Size_of ih

set_option maxRecDepth 100000 in
theorem specSize_ok (t : LT) (hsz : t.er.size ≤ 1048577) : ∀ O tk, ACalls Go.Proofs.Try.prog 10 [.agg t.cells] O tk (RetN O (.int .i64 (t.er.size : Nat)) tk) := by
  intro O tk
  have h0 := l01Size_ok t hsz
  obtain ⟨k, n, s, tok, f, ks⟩ := t
  refine acalls_of_run Go.Proofs.Try.func10 rfl rfl [] [] (Bor.nil _) [(0, .agg [.int .i64 k, .int .i64 n, .str s, .imm tok 4 f (cellss ks)])]
    (.cons (.agg _) (.nil _)) (leb rfl) (fun _ h => by cases h) (fun S0 hO htk hfz => ?_)
  refine run_seq ?_
  refine run_region ?_
  refine run_op rfl (box_step (d := 1) rfl rfl rfl rfl rfl) rfl (ltb rfl) ?_   -- t1 = box 30 t0
  refine run_pu rfl (move_step (.inr rfl) rfl) rfl (ltb rfl) ?_   -- t2 = assign 0
  refine run_ops_nil ?_
  refine run_seq ?_
  refine run_region ?_
  refine run_rd rfl (aload_rd hG rfl rfl rfl (by simp [ldok])) rfl (ltb rfl) ?_   -- t3 = load 30 t1
  refine run_call rfl rfl rfl (ltb rfl) rfl rfl rfl (fun _ h => absurd h List.not_mem_nil) (h0 _ _) (callK_retN ?_)   -- t4 = call {value (func 35), [t3], argTypes := #[30] }
  refine run_pu rfl (move_step (.inr rfl) rfl) rfl (ltb rfl) ?_   -- t2 = assign t4
  refine run_ops_nil ?_
  refine run_ret_to ?_
  exact fin_ret hG rfl rfl rfl ⟨rfl, rfl, rfl⟩

end Go.Am.Ytklchmkanhpeeaa
