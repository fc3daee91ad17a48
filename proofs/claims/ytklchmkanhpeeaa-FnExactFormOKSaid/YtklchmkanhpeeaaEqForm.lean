/- The contracts of eqForm, eqFormS at equal trees. -/
import Derived.Test.YtklchmkanhpeeaaToForm
namespace Go.Am.Ytklchmkanhpeeaa
open Go Go.Am

def EqFormOK (a : LF) : Prop := ∀ b : LF, a.er = b.er → a.er.sm → ∀ O tk, ACalls Go.Proofs.Try.prog 23 [.agg a.cells, .agg b.cells] O tk (RetN O (.bool true) tk)

set_option maxRecDepth 100000 in
theorem eqForm_of {k n : Int} {tok tok' : Nat} {f f' : Bool} {ks ks' : List LF}
    (hS : ∀ O tk, ACalls Go.Proofs.Try.prog 50 [.imm tok 3 f (fcellss ks), .imm tok' 3 f' (fcellss ks')] O tk (RetN O (.bool true) tk)) :
    ∀ O tk, ACalls Go.Proofs.Try.prog 23 [.agg (LF.mk k n tok f ks).cells, .agg (LF.mk k n tok' f' ks').cells] O tk (RetN O (.bool true) tk) := by
  intro O tk
  refine acalls_of_run Go.Proofs.Try.func23 rfl rfl [] [] (Bor.nil _) [(0, .agg [.int .i64 k, .int .i64 n, .imm tok 3 f (fcellss ks)]), (1, .agg [.int .i64 k, .int .i64 n, .imm tok' 3 f' (fcellss ks')])]
    (.cons (.agg _) (.cons (.agg _) (.nil _))) (leb rfl) (fun _ h => by cases h) (fun S0 hO htk hfz => ?_)
  refine run_seq ?_
  refine run_region ?_
  refine run_op rfl (box_step (d := 2) rfl rfl rfl rfl rfl) rfl (ltb rfl) ?_   -- t2 = box 52 t0
  refine run_op rfl (box_step (d := 3) rfl rfl rfl rfl rfl) rfl (ltb rfl) ?_   -- t3 = box 52 t1
  refine run_pu rfl (move_step (.inr rfl) rfl) rfl (ltb rfl) ?_   -- t4 = assign (const (bool false))
  refine run_ops_nil ?_
  refine run_seq ?_
  refine run_seq ?_
  refine run_region ?_
  refine run_pu rfl (fieldAddr_step hG rfl rfl rfl rfl rfl) rfl (ltb rfl) ?_   -- t5 = fieldAddr 52 t2 0
  refine run_rd rfl (aload_rd hG rfl rfl rfl (by simp [ldok])) rfl (ltb rfl) ?_   -- t6 = load 3 t5
  refine run_pu rfl (fieldAddr_step hG rfl rfl rfl rfl rfl) rfl (ltb rfl) ?_   -- t7 = fieldAddr 52 t3 0
  refine run_rd rfl (aload_rd hG rfl rfl rfl (by simp [ldok])) rfl (ltb rfl) ?_   -- t8 = load 3 t7
  refine run_pu rfl (abin_step rfl rfl rfl rfl (fun _ h => by cases h)) rfl (ltb rfl) ?_   -- t9 = binOp neq 3 t6 t8 3
  refine run_ops_nil ?_
  refine run_if rfl rfl (fun hb => by simp at hb) (fun hb => ?_)
  refine run_skip ?_
  refine run_seq ?_
  refine run_seq ?_
  refine run_region ?_
  refine run_pu rfl (fieldAddr_step hG rfl rfl rfl rfl rfl) rfl (ltb rfl) ?_   -- t10 = fieldAddr 52 t2 1
  refine run_rd rfl (aload_rd hG rfl rfl rfl (by simp [ldok])) rfl (ltb rfl) ?_   -- t11 = load 3 t10
  refine run_pu rfl (fieldAddr_step hG rfl rfl rfl rfl rfl) rfl (ltb rfl) ?_   -- t12 = fieldAddr 52 t3 1
  refine run_rd rfl (aload_rd hG rfl rfl rfl (by simp [ldok])) rfl (ltb rfl) ?_   -- t13 = load 3 t12
  refine run_pu rfl (abin_step rfl rfl rfl rfl (fun _ h => by cases h)) rfl (ltb rfl) ?_   -- t14 = binOp neq 3 t11 t13 3
  refine run_ops_nil ?_
  refine run_if rfl rfl (fun hb => by simp at hb) (fun hb => ?_)
  refine run_skip ?_
  refine run_seq ?_
  refine run_seq ?_
  refine run_region ?_
  refine run_pu rfl (fieldAddr_step hG rfl rfl rfl rfl rfl) rfl (ltb rfl) ?_   -- t15 = fieldAddr 52 t2 2
  refine run_rd rfl (aload_rd hG rfl rfl rfl (by simp [ldok])) rfl (ltb rfl) ?_   -- t16 = load 50 t15
  refine run_pu rfl (fieldAddr_step hG rfl rfl rfl rfl rfl) rfl (ltb rfl) ?_   -- t17 = fieldAddr 52 t3 2
  refine run_rd rfl (aload_rd hG rfl rfl rfl (by simp [ldok])) rfl (ltb rfl) ?_   -- t18 = load 50 t17
  refine run_call rfl rfl rfl (ltb rfl) rfl rfl rfl (fun _ h => absurd h List.not_mem_nil) (hS _ _) (callK_retN ?_)   -- t19 = call {value (func 50), [t16, t18], argTypes := #[50, 50] }
  refine run_pu rfl (aun_step rfl rfl rfl) rfl (ltb rfl) ?_   -- t20 = unOp UnOp.not 4 t19
  refine run_ops_nil ?_
  refine run_if rfl rfl (fun hb => by simp at hb) (fun hb => ?_)
  refine run_skip ?_
  refine run_seq ?_
  refine run_region ?_
  refine run_pu rfl (move_step (.inr rfl) rfl) rfl (ltb rfl) ?_   -- t4 = assign (const (bool true))
  refine run_ops_nil ?_
  refine run_ret_to ?_
  exact fin_ret hG rfl rfl rfl ⟨rfl, rfl, rfl⟩
set_option maxRecDepth 100000 in
theorem eqFormS_of {ks ks' : List LF} (hk : ∀ t ∈ ks, EqFormOK t) (he : fers ks = fers ks') (hok : ∀ t ∈ ks, t.er.sm) (hl : ks.length ≤ 1048576) (tok tok' : Nat) (f f' : Bool) :
    ∀ O tk, ACalls Go.Proofs.Try.prog 50 [.imm tok 3 f (fcellss ks), .imm tok' 3 f' (fcellss ks')] O tk (RetN O (.bool true) tk) := by
  intro O tk
  have hlen := fcellss_length ks
  have hle : ks'.length = ks.length := by have := congrArg List.length he; simp only [fers_length] at this; omega
  have hlen' : (fcellss ks').length = ks.length := by rw [fcellss_length]; exact hle
  refine acalls_of_run Go.Proofs.Try.func50 rfl rfl [] [] (Bor.nil _) [(0, .imm tok 3 f (fcellss ks)), (1, .imm tok' 3 f' (fcellss ks'))]
    (.cons (ent0 rfl) (.cons (ent0 rfl) (.nil _))) (leb rfl) (fun _ h => by cases h) (fun S0 hO htk hfz => ?_)
  refine run_seq ?_
  refine run_region ?_
  refine run_pu rfl (move_step (.inr rfl) rfl) rfl (ltb rfl) ?_   -- t4 = assign (const (bool false))
  refine run_ops_nil ?_
  refine run_seq ?_
  refine run_seq ?_
  refine run_region ?_
  refine run_pu rfl (move_step (.inl rfl) rfl) rfl (ltb rfl) ?_   -- t6 = move t0
  refine run_pu rfl (len_step hG rfl rfl rfl rfl) rfl (ltb rfl) ?_   -- t7 = call {builtin len, [t6], argTypes := #[50] }
  refine run_pu rfl (move_step (.inl rfl) rfl) rfl (ltb rfl) ?_   -- t8 = move t1
  refine run_pu rfl (len_step hG rfl rfl rfl rfl) rfl (ltb rfl) ?_   -- t9 = call {builtin len, [t8], argTypes := #[50] }
  refine run_pu rfl (abin_step rfl rfl rfl rfl (fun _ h => by cases h)) rfl (ltb rfl) ?_   -- t10 = binOp neq 3 t7 t9 3
  refine run_ops_nil ?_
  refine run_if rfl rfl (fun hb => by simp [hlen, hlen'] at hb) (fun _ => ?_)
  refine run_skip ?_
  refine run_seq ?_
  refine run_seq ?_
  refine run_region ?_
  refine run_pu rfl (move_step (.inr rfl) rfl) rfl (ltb rfl) ?_   -- t5 = assign 0
  refine run_ops_nil ?_
  refine run_block ?_   -- 0
  refine run_rounds (fun m σ => ∃ i, i + m = ks.length ∧
      σ = ⟨[(5, .int .i64 (i : Nat)), (0, .imm tok 3 f (fcellss ks)), (1, .imm tok' 3 f' (fcellss ks'))], [], [], O, tk⟩) ks.length
    (Sub.env [(5, .int .i64 (0 : Nat)), (0, .imm tok 3 f (fcellss ks)), (1, .imm tok' 3 f' (fcellss ks'))] ⟨rfl, rfl, rfl, trivial⟩)
    ⟨0, by omega, rfl⟩ (fun m σ ⟨i, hi, hσ⟩ => ?_)
  subst hσ
  refine run_seq ?_
  refine run_seq ?_
  refine run_region ?_
  refine run_pu rfl (move_step (.inl rfl) rfl) rfl (ltb rfl) ?_   -- t11 = move t5
  refine run_pu rfl (move_step (.inl rfl) rfl) rfl (ltb rfl) ?_   -- t12 = move t0
  refine run_pu rfl (len_step hG rfl rfl rfl rfl) rfl (ltb rfl) ?_   -- t13 = call {builtin len, [t12], argTypes := #[50] }
  refine run_pu rfl (abin_step rfl rfl rfl rfl (fun _ h => by cases h)) rfl (ltb rfl) ?_   -- t14 = binOp lss 3 t11 t13 3
  refine run_ops_nil ?_
  refine run_if rfl rfl (fun hb2 => ?_) (fun hb2 => ?_)
  · have hb2 := of_decide_eq_true hb2
    rw [hlen] at hb2
    have hil : i < ks.length := by omega
    have hil' : i < ks'.length := by omega
    have hget : ks[i]? = some ks[i] := List.getElem?_eq_getElem hil
    have hget' : ks'[i]? = some ks'[i] := List.getElem?_eq_getElem hil'
    have hmem : ks[i] ∈ ks := List.getElem_mem hil
    have hei : ks[i].er = ks'[i].er := by
      have h1 : (fers ks)[i]? = some ks[i].er := by simp [fers_map, hget]
      have h2 : (fers ks')[i]? = some ks'[i].er := by simp [fers_map, hget']
      rw [he, h2] at h1
      exact (Option.some.inj h1).symm
    refine run_skip ?_
    refine run_seq ?_
    refine run_block ?_   -- 1
    refine run_seq ?_
    refine run_draw [] (n := 10) mixed rfl (fun _ h => absurd h List.not_mem_nil) ?_   -- DRAW region 6
    refine AAny.take (i := 0) rfl (by kernel_rfl) (by kernel_rfl) (by kernel_rfl) rfl rfl (ltb rfl) ((move_step (.inl rfl) rfl).rd _) ?_   -- t17 = move t0  []
    refine AAny.take (i := 1) rfl (by kernel_rfl) (by kernel_rfl) (by kernel_rfl) rfl rfl (ltb rfl) ((move_step (.inl rfl) rfl).rd _) ?_   -- t18 = move t5  []
    refine AAny.take (i := 2) rfl (by kernel_rfl) (by kernel_rfl) (by kernel_rfl) rfl rfl (ltb rfl) ((indexAddr_step hG rfl rfl rfl rfl rfl rfl rfl (aindex_imm (fcellss_get hget))).rd _) ?_   -- t19 = indexAddr 50 t17 t18  [0d 1d]
    refine AAny.take (i := 3) rfl (by kernel_rfl) (by kernel_rfl) (by kernel_rfl) rfl rfl (ltb rfl) (aload_rd hG rfl rfl (load_iForm ks[i]) (by simp [ldok])) ?_   -- t20 = load 52 t19  [2d]
    refine AAny.take (i := 4) rfl (by kernel_rfl) (by kernel_rfl) (by kernel_rfl) rfl rfl (ltb rfl) ((move_step (.inl rfl) rfl).rd _) ?_   -- t21 = move t1  []
    refine AAny.take (i := 5) rfl (by kernel_rfl) (by kernel_rfl) (by kernel_rfl) rfl rfl (ltb rfl) ((move_step (.inl rfl) rfl).rd _) ?_   -- t22 = move t5  []
    refine AAny.take (i := 6) rfl (by kernel_rfl) (by kernel_rfl) (by kernel_rfl) rfl rfl (ltb rfl) ((indexAddr_step hG rfl rfl rfl rfl rfl rfl rfl (aindex_imm (fcellss_get hget'))).rd _) ?_   -- t23 = indexAddr 50 t21 t22  [4d 5d]
    refine AAny.take (i := 7) rfl (by kernel_rfl) (by kernel_rfl) (by kernel_rfl) rfl rfl (ltb rfl) (aload_rd hG rfl rfl (load_iForm ks'[i]) (by simp [ldok])) ?_   -- t24 = load 52 t23  [6d]
    refine AAny.one (i := 8) (by kernel_rfl) (AOp.call rfl rfl rfl rfl (ltb rfl) rfl rfl (argok_Form ks[i] (argok_Form ks'[i] rfl)) (fun _ h => absurd h List.not_mem_nil) (fun _ h => absurd h List.not_mem_nil) (hk _ hmem _ hei (hok _ hmem) _ _) (callK_retN ?_))   -- t25 = call {value (func 23), [t20, t24], argTypes := #[52, 52] }  [3d 7d]
    refine AAny.take (i := 9) rfl (by kernel_rfl) (by kernel_rfl) (by kernel_rfl) rfl rfl (ltb rfl) ((aun_step rfl rfl rfl).rd _) ?_   -- t26 = unOp UnOp.not 4 t25  [8d]
    refine AAny.done (by kernel_rfl) ?_
    refine run_if rfl rfl (fun hb => by simp at hb) (fun _ => ?_)
    refine run_skip ?_
    refine run_blk ?_   -- 1
    refine run_region ?_
    refine run_pu rfl (move_step (.inl rfl) rfl) rfl (ltb rfl) ?_   -- t15 = move t5
    refine run_pu rfl (abin_step rfl rfl rfl rfl (fun _ h => by cases h)) rfl (ltb rfl) ?_   -- t16 = binOp add 3 t15 1 3
    refine run_pu rfl (move_step (.inr rfl) rfl) rfl (ltb rfl) ?_   -- t5 = assign t16
    refine run_ops_nil ?_
    rw [show IntKind.i64.wrap ((i : Int) + 1) = ((i + 1 : Nat) : Int) by rw [IntWalk.i64_in _ (by omega)]; rfl]
    exact run_loop_end ⟨m - 1, _, by omega, ⟨i + 1, by omega, rfl⟩, Sub.env _ ⟨rfl, rfl, rfl, trivial⟩⟩
  · have hb2 := of_decide_eq_false hb2
    refine run_exit_to rfl ?_   -- 0
    refine run_seq ?_
    refine run_region ?_
    refine run_pu rfl (move_step (.inr rfl) rfl) rfl (ltb rfl) ?_   -- t4 = assign (const (bool true))
    refine run_ops_nil ?_
    refine run_ret_to ?_
    exact fin_ret hG rfl rfl rfl ⟨rfl, rfl, rfl⟩

theorem eqForm_ok (a : LF) : EqFormOK a := by
  induction a using LF.ind with
  | _ k n tok f ks ih =>
    intro b he hsm
    obtain ⟨k', n', tok', f', ks'⟩ := b
    have h := hsm
    unfold LF.er at h
    obtain ⟨h2, h3⟩ := fsm_kids h
    rw [fers_length] at h2
    simp only [LF.er, F.mk.injEq] at he
    obtain ⟨rfl, rfl, he⟩ := he
    exact eqForm_of (eqFormS_of ih he (fun t ht => h3 _ (by rw [fers_map]; exact List.mem_map_of_mem ht)) h2 tok tok' f f')

end Go.Am.Ytklchmkanhpeeaa
