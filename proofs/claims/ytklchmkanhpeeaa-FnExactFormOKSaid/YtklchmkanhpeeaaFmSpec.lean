/- The contracts of spec.FormOK. -/
import Derived.Test.YtklchmkanhpeeaaEqForm
import Derived.Test.YtklchmkanhpeeaaTSpec
namespace Go.Am.Ytklchmkanhpeeaa
open Go Go.Am

def CountFormOK (t : LF) : Prop := t.er.sm → ∀ (left : Int) O tk, 0 ≤ left → left ≤ 1000 → ACalls Go.Proofs.Try.prog 46 [.agg t.cells, .int .i64 left] O tk (RetN O (.int .i64 (t.er.cnt left)) tk)

set_option maxRecDepth 100000 in
theorem countForm_of {k n : Int} {tok : Nat} {f : Bool} {ks : List LF} (hk : ∀ t ∈ ks, CountFormOK t) : CountFormOK (.mk k n tok f ks) := by
  intro hsm left O tk h0 h1
  have h := hsm
  unfold LF.er at h
  obtain ⟨hl, hsk⟩ := fsm_kids h
  rw [fers_length] at hl
  have hlen := fcellss_length ks
  refine acalls_of_run Go.Proofs.Try.func46 rfl rfl [] [] (Bor.nil _) [(0, .agg [.int .i64 k, .int .i64 n, .imm tok 3 f (fcellss ks)]), (1, .int .i64 left)]
    (.cons (.agg _) (.cons (ent0 rfl) (.nil _))) (leb rfl) (fun _ h => by cases h) (fun S0 hO htk hfz => ?_)
  refine run_seq ?_
  refine run_region ?_
  refine run_op rfl (box_step (d := 2) rfl rfl rfl rfl rfl) rfl (ltb rfl) ?_   -- t2 = box 52 t0
  refine run_pu rfl (move_step (.inr rfl) rfl) rfl (ltb rfl) ?_   -- t4 = assign 0
  refine run_ops_nil ?_
  refine run_seq ?_
  refine run_region ?_
  refine run_pu rfl (move_step (.inl rfl) rfl) rfl (ltb rfl) ?_   -- t6 = move t1
  refine run_pu rfl (abin_step rfl rfl rfl rfl (fun _ h => by cases h)) rfl (ltb rfl) ?_   -- t7 = binOp sub 3 t6 1 3
  rw [show IntKind.i64.wrap (left - 1) = left - 1 from IntWalk.i64_in _ (by omega)]
  refine run_pu rfl (move_step (.inr rfl) rfl) rfl (ltb rfl) ?_   -- t1 = assign t7
  refine run_ops_nil ?_
  refine run_seq ?_
  refine run_seq ?_
  refine run_region ?_
  refine run_pu rfl (move_step (.inr rfl) rfl) rfl (ltb rfl) ?_   -- t5 = assign 0
  refine run_ops_nil ?_
  refine run_block ?_   -- 0
  refine run_rounds (fun m σ => ∃ i l, i + m = ks.length ∧ -1 ≤ l ∧ l ≤ 1000 ∧ fcnts (fers ks) (left - 1) = fcnts ((fers ks).drop i) l ∧
      σ = ⟨[(5, .int .i64 (i : Nat)), (1, .int .i64 l), (2, .optr (.loc 2) 0 0)], [(2, ⟨52, 3, true, [[.int .i64 k, .int .i64 n, .imm tok 3 f (fcellss ks)]]⟩)], [], O, tk⟩) ks.length
    (Sub.env [(5, .int .i64 (0 : Nat)), (1, .int .i64 (left - 1)), (2, .optr (.loc 2) 0 0)] ⟨rfl, rfl, rfl, trivial⟩)
    ⟨0, left - 1, by omega, by omega, by omega, rfl, rfl⟩ (fun m σ ⟨i, l, hi, hl0, hl1, hs, hσ⟩ => ?_)
  subst hσ
  refine run_seq ?_
  refine run_seq ?_
  refine run_region ?_
  refine run_pu rfl (move_step (.inl rfl) rfl) rfl (ltb rfl) ?_   -- t8 = move t5
  refine run_pu rfl (fieldAddr_step hG rfl rfl rfl rfl rfl) rfl (ltb rfl) ?_   -- t9 = fieldAddr 52 t2 2
  refine run_rd rfl (aload_rd hG rfl rfl rfl (by simp [ldok])) rfl (ltb rfl) ?_   -- t10 = load 50 t9
  refine run_pu rfl (len_step hG rfl rfl rfl rfl) rfl (ltb rfl) ?_   -- t11 = call {builtin len, [t10], argTypes := #[50] }
  refine run_pu rfl (abin_step rfl rfl rfl rfl (fun _ h => by cases h)) rfl (ltb rfl) ?_   -- t12 = binOp lss 3 t8 t11 3
  refine run_pu rfl (move_step (.inl rfl) rfl) rfl (ltb rfl) ?_   -- t13 = move t12
  refine run_split (i := 13) rfl (fun hb => ?_) (fun hb => ?_)
  · have hb := of_decide_eq_true hb
    rw [hlen] at hb
    have hil : i < ks.length := by omega
    obtain ⟨kt, hkt⟩ : ∃ kt, ks[i]? = some kt := ⟨_, List.getElem?_eq_getElem hil⟩
    have hmem : kt ∈ ks := List.mem_of_getElem? hkt
    have hmem' : kt.er ∈ fers ks := by rw [fers_map]; exact List.mem_map_of_mem hmem
    rw [fdrop hkt] at hs
    refine run_puG (on_of rfl rfl rfl rfl) (move_step (.inl rfl) rfl) rfl (ltb rfl) ?_   -- t14 = move t1
    refine run_puG (on_of rfl rfl rfl rfl) (abin_step rfl rfl rfl rfl (fun _ h => by cases h)) rfl (ltb rfl) ?_   -- t15 = binOp geq 3 t14 0 3
    refine run_pu rfl (pick_step rfl rfl rfl) rfl (ltb rfl) ?_   -- t16 = pick t13 t15 (const (bool false))
    refine run_ops_nil ?_
    refine run_if rfl rfl (fun hb2 => ?_) (fun hb2 => ?_)
    · have hb2 := of_decide_eq_true hb2
      simp only [fcnts] at hs
      rw [if_pos hb2] at hs
      have hr := cnt_range kt.er l hb2
      refine run_skip ?_
      refine run_seq ?_
      refine run_block ?_   -- 1
      refine run_region ?_
      refine run_pu rfl (fieldAddr_step hG rfl rfl rfl rfl rfl) rfl (ltb rfl) ?_   -- t19 = fieldAddr 52 t2 2
      refine run_rd rfl (aload_rd hG rfl rfl rfl (by simp [ldok])) rfl (ltb rfl) ?_   -- t20 = load 50 t19
      refine run_pu rfl (move_step (.inl rfl) rfl) rfl (ltb rfl) ?_   -- t21 = move t5
      refine run_pu rfl (indexAddr_step hG rfl rfl rfl rfl rfl rfl rfl (aindex_imm (fcellss_get hkt))) rfl (ltb rfl) ?_   -- t22 = indexAddr 50 t20 t21
      refine run_rd rfl (aload_rd hG rfl rfl (load_iForm kt) (by simp [ldok])) rfl (ltb rfl) ?_   -- t23 = load 52 t22
      refine run_pu rfl (move_step (.inl rfl) rfl) rfl (ltb rfl) ?_   -- t24 = move t1
      refine run_call rfl rfl rfl (ltb rfl) rfl rfl (argok_Form kt rfl) (fun _ h => absurd h List.not_mem_nil) (hk _ hmem (hsk _ hmem') l _ _ hb2 hl1) (callK_retN ?_)   -- t25 = call {value (func 46), [t23, t24], argTypes := #[52, 3] }
      refine run_pu rfl (move_step (.inr rfl) rfl) rfl (ltb rfl) ?_   -- t1 = assign t25
      refine run_ops_nil ?_
      refine run_blk ?_   -- 1
      refine run_region ?_
      refine run_pu rfl (move_step (.inl rfl) rfl) rfl (ltb rfl) ?_   -- t17 = move t5
      refine run_pu rfl (abin_step rfl rfl rfl rfl (fun _ h => by cases h)) rfl (ltb rfl) ?_   -- t18 = binOp add 3 t17 1 3
      refine run_pu rfl (move_step (.inr rfl) rfl) rfl (ltb rfl) ?_   -- t5 = assign t18
      refine run_ops_nil ?_
      rw [show IntKind.i64.wrap ((i : Int) + 1) = ((i + 1 : Nat) : Int) by rw [IntWalk.i64_in _ (by omega)]; rfl]
      exact run_loop_end ⟨m - 1, _, by omega, ⟨i + 1, kt.er.cnt l, by omega, by omega, by omega, hs, rfl⟩, Sub.env _ ⟨rfl, rfl, rfl, trivial⟩⟩
    · have hb2 := of_decide_eq_false hb2
      rw [fcnts_neg (l := l) _ (by omega)] at hs
      refine run_exit_to rfl ?_   -- 0
      refine run_seq ?_
      refine run_region ?_
      refine run_pu rfl (move_step (.inl rfl) rfl) rfl (ltb rfl) ?_   -- t26 = move t1
      refine run_pu rfl (move_step (.inr rfl) rfl) rfl (ltb rfl) ?_   -- t4 = assign t26
      refine run_ops_nil ?_
      refine run_ret_to ?_
      exact fin_ret hG rfl rfl rfl ⟨rfl, by simp only [LF.er, F.cnt, hs]; rfl, rfl⟩
  · have hb := of_decide_eq_false hb
    rw [hlen] at hb
    rw [List.drop_of_length_le (by rw [fers_length]; omega)] at hs
    refine run_off (on_of rfl rfl rfl rfl) rfl (ltb rfl) ?_   -- t14 = move t1
    refine run_off (on_of rfl rfl rfl rfl) rfl (ltb rfl) ?_   -- t15 = binOp geq 3 t14 0 3
    refine run_pu rfl (pick_step rfl rfl rfl) rfl (ltb rfl) ?_   -- t16 = pick t13 t15 (const (bool false))
    refine run_ops_nil ?_
    refine run_if rfl rfl (fun hb2 => by cases hb2) (fun _ => ?_)
    refine run_exit_to rfl ?_   -- 0
    refine run_seq ?_
    refine run_region ?_
    refine run_pu rfl (move_step (.inl rfl) rfl) rfl (ltb rfl) ?_   -- t26 = move t1
    refine run_pu rfl (move_step (.inr rfl) rfl) rfl (ltb rfl) ?_   -- t4 = assign t26
    refine run_ops_nil ?_
    refine run_ret_to ?_
    exact fin_ret hG rfl rfl rfl ⟨rfl, by simp only [LF.er, F.cnt, hs]; rfl, rfl⟩

theorem countForm_ok (t : LF) : CountFormOK t := by
  induction t using LF.ind with
  | _ k n tok f ks ih => exact countForm_of ih

def SpecFmOK (t : LF) : Prop := t.er.sm → ∀ O tk, ACalls Go.Proofs.Try.prog 47 [.agg t.cells] O tk (RetN O (.bool t.er.fmok) tk)

set_option maxRecDepth 100000 in
theorem specFm_of {k n : Int} {tok : Nat} {f : Bool} {ks : List LF} (hk : ∀ t ∈ ks, SpecFmOK t) : SpecFmOK (.mk k n tok f ks) := by
  intro hsm O tk
  have h := hsm
  unfold LF.er at h
  obtain ⟨hl, hsk⟩ := fsm_kids h
  rw [fers_length] at hl
  have hlen := fcellss_length ks
  have hty : (LF.mk k n tok f ks).er.fmok = if k = 1 then (decide (0 ≤ n) && (decide (n ≤ 5) && decide (ks.length = 0))) else if k = 2 ∨ k = 3 then (decide (n = 0) && (decide (ks.length = 2) && ffmoks (fers ks))) else if k = 4 then (decide (n = 0) && decide (ks.length = 0)) else false := by
    simp only [LF.er, F.fmok, fers_length]
  generalize (LF.mk k n tok f ks).er.fmok = B at hty
  refine acalls_of_run Go.Proofs.Try.func47 rfl rfl [] [] (Bor.nil _) [(0, .agg [.int .i64 k, .int .i64 n, .imm tok 3 f (fcellss ks)])]
    (.cons (.agg _) (.nil _)) (leb rfl) (fun _ h => by cases h) (fun S0 hO htk hfz => ?_)
  refine run_seq ?_
  refine run_region ?_
  refine run_op rfl (box_step (d := 1) rfl rfl rfl rfl rfl) rfl (ltb rfl) ?_   -- t1 = box 52 t0
  refine run_pu rfl (move_step (.inr rfl) rfl) rfl (ltb rfl) ?_   -- t2 = assign (const (bool false))
  refine run_ops_nil ?_
  refine run_seq ?_
  refine run_region ?_
  refine run_pu rfl (move_step (.inr rfl) rfl) rfl (ltb rfl) ?_   -- t3 = assign 0
  refine run_ops_nil ?_
  refine run_seq ?_
  refine run_seq ?_
  refine run_region ?_
  refine run_pu rfl (fieldAddr_step hG rfl rfl rfl rfl rfl) rfl (ltb rfl) ?_   -- t5 = fieldAddr 52 t1 0
  refine run_rd rfl (aload_rd hG rfl rfl rfl (by simp [ldok])) rfl (ltb rfl) ?_   -- t6 = load 3 t5
  refine run_ops_nil ?_
  refine run_cut (fun σ' => ∃ need : Nat, ((k = 1 ∧ 0 ≤ n ∧ n ≤ 5 ∧ need = 0) ∨ ((k = 2 ∨ k = 3) ∧ need = 2) ∨ (k = 4 ∧ need = 0)) ∧ Sub ⟨Go.Proofs.Try.prog, S0, Go.Proofs.Try.f47.ntmps, []⟩ σ'
    ⟨[(3, .int .i64 (need : Nat)), (1, .optr (.loc 1) 0 0)], [(1, ⟨52, 3, true, [[.int .i64 k, .int .i64 n, .imm tok 3 f (fcellss ks)]]⟩)], [], O, tk⟩) ?_ (fun σ' ⟨need, hneed, hsub⟩ => ?_)
  · refine run_block ?_   -- 0
    refine run_seq ?_
    refine run_region ?_
    refine run_pu rfl (abin_step rfl rfl rfl rfl (fun _ h => by cases h)) rfl (ltb rfl) ?_   -- t8 = binOp eql 3 t6 1 3
    refine run_pu rfl (move_step (.inr rfl) rfl) rfl (ltb rfl) ?_   -- t7 = assign t8
    refine run_ops_nil ?_
    refine run_if rfl rfl (fun hb => ?_) (fun hb => ?_)
    · have hk1 : k = 1 := by simpa using hb
      rw [if_pos hk1] at hty
      refine run_seq ?_
      refine run_region ?_
      refine run_pu rfl (fieldAddr_step hG rfl rfl rfl rfl rfl) rfl (ltb rfl) ?_   -- t9 = fieldAddr 52 t1 1
      refine run_rd rfl (aload_rd hG rfl rfl rfl (by simp [ldok])) rfl (ltb rfl) ?_   -- t10 = load 3 t9
      refine run_pu rfl (abin_step rfl rfl rfl rfl (fun _ h => by cases h)) rfl (ltb rfl) ?_   -- t11 = binOp lss 3 t10 0 3
      refine run_pu rfl (move_step (.inl rfl) rfl) rfl (ltb rfl) ?_   -- t12 = move t11
      refine run_split (i := 12) rfl (fun hb1 => ?_) (fun hb1 => ?_)
      · have hn := of_decide_eq_true hb1
        refine run_off (on_of rfl rfl rfl rfl) rfl (ltb rfl) ?_   -- t13 = fieldAddr 52 t1 1
        refine run_off (on_of rfl rfl rfl rfl) rfl (ltb rfl) ?_   -- t14 = load 3 t13
        refine run_off (on_of rfl rfl rfl rfl) rfl (ltb rfl) ?_   -- t15 = binOp geq 3 t14 6 3
        refine run_pu rfl (pick_step rfl rfl rfl) rfl (ltb rfl) ?_   -- t16 = pick t12 (const (bool true)) t15
        refine run_ops_nil ?_
        refine run_if rfl rfl (fun _ => ?_) (fun h => by cases h)
        refine run_seq ?_
        refine run_region ?_
        refine run_pu rfl (move_step (.inr rfl) rfl) rfl (ltb rfl) ?_   -- t2 = assign (const (bool false))
        refine run_ops_nil ?_
        refine run_ret_to ?_
        refine run_ret_at (fin_ret hG rfl rfl rfl ⟨rfl, ?_, rfl⟩)
        rw [hty, decide_eq_false (show ¬ 0 ≤ n by omega)]; rfl
      · have hn := of_decide_eq_false hb1
        refine run_puG (on_of rfl rfl rfl rfl) (fieldAddr_step hG rfl rfl rfl rfl rfl) rfl (ltb rfl) ?_   -- t13 = fieldAddr 52 t1 1
        refine run_rdG (on_of rfl rfl rfl rfl) (aload_rd hG rfl rfl rfl (by simp [ldok])) rfl (ltb rfl) ?_   -- t14 = load 3 t13
        refine run_puG (on_of rfl rfl rfl rfl) (abin_step rfl rfl rfl rfl (fun _ h => by cases h)) rfl (ltb rfl) ?_   -- t15 = binOp geq 3 t14 6 3
        refine run_pu rfl (pick_step rfl rfl rfl) rfl (ltb rfl) ?_   -- t16 = pick t12 (const (bool true)) t15
        refine run_ops_nil ?_
        refine run_if rfl rfl (fun hb2 => ?_) (fun hb2 => ?_)
        · have hn2 := of_decide_eq_true hb2
          refine run_seq ?_
          refine run_region ?_
          refine run_pu rfl (move_step (.inr rfl) rfl) rfl (ltb rfl) ?_   -- t2 = assign (const (bool false))
          refine run_ops_nil ?_
          refine run_ret_to ?_
          refine run_ret_at (fin_ret hG rfl rfl rfl ⟨rfl, ?_, rfl⟩)
          rw [hty, decide_eq_false (show ¬ n ≤ 5 by omega), decide_eq_true (show 0 ≤ n by omega)]; rfl
        · have hn2 := of_decide_eq_false hb2
          refine run_skip ?_
          refine run_blk ?_
          exact ⟨0, .inl ⟨hk1, by omega, by omega, rfl⟩, Sub.env _ ⟨rfl, rfl, trivial⟩⟩
    · have hk1 : ¬ k = 1 := by simpa using hb
      rw [if_neg hk1] at hty
      refine run_seq ?_
      refine run_seq ?_
      refine run_region ?_
      refine run_pu rfl (abin_step rfl rfl rfl rfl (fun _ h => by cases h)) rfl (ltb rfl) ?_   -- t18 = binOp eql 3 t6 2 3
      refine run_pu rfl (move_step (.inr rfl) rfl) rfl (ltb rfl) ?_   -- t17 = assign t18
      refine run_ops_nil ?_
      refine run_cut (fun σ' => Sub ⟨Go.Proofs.Try.prog, S0, Go.Proofs.Try.f47.ntmps, []⟩ σ'
        ⟨[(17, .bool (decide (k = 2 ∨ k = 3))), (6, .int .i64 k), (3, .int .i64 (0 : Nat)), (1, .optr (.loc 1) 0 0)], [(1, ⟨52, 3, true, [[.int .i64 k, .int .i64 n, .imm tok 3 f (fcellss ks)]]⟩)], [], O, tk⟩) ?_ (fun σ' hsub => ?_)
      · refine run_if rfl rfl (fun hb => ?_) (fun hb => ?_)
        · have hk2 : k = 2 := by simpa using hb
          refine run_skip ?_
          exact Sub.env _ ⟨by rw [decide_eq_true (show k = 2 ∨ k = 3 from .inl hk2), hk2]; rfl, rfl, rfl, rfl, trivial⟩
        · have hk2 : ¬ k = 2 := by simpa using hb
          refine run_region ?_
          refine run_pu rfl (abin_step rfl rfl rfl rfl (fun _ h => by cases h)) rfl (ltb rfl) ?_   -- t19 = binOp eql 3 t6 3 3
          refine run_pu rfl (move_step (.inr rfl) rfl) rfl (ltb rfl) ?_   -- t17 = assign t19
          refine run_ops_nil ?_
          exact Sub.env _ ⟨by rw [show decide (k = 2 ∨ k = 3) = (k == 3) by by_cases q : k = 3 <;> simp [hk2, q]]; rfl, rfl, rfl, rfl, trivial⟩
      · refine run_sub_code hsub ?_
        refine run_if rfl rfl (fun hb => ?_) (fun hb => ?_)
        · have hk2 := of_decide_eq_true hb
          refine run_region ?_
          refine run_pu rfl (move_step (.inr rfl) rfl) rfl (ltb rfl) ?_   -- t3 = assign 2
          refine run_ops_nil ?_
          refine run_blk ?_
          exact ⟨2, .inr (.inl ⟨hk2, rfl⟩), Sub.env _ ⟨rfl, rfl, trivial⟩⟩
        · have hk2 := of_decide_eq_false hb
          rw [if_neg hk2] at hty
          refine run_seq ?_
          refine run_region ?_
          refine run_pu rfl (abin_step rfl rfl rfl rfl (fun _ h => by cases h)) rfl (ltb rfl) ?_   -- t21 = binOp eql 3 t6 4 3
          refine run_pu rfl (move_step (.inr rfl) rfl) rfl (ltb rfl) ?_   -- t20 = assign t21
          refine run_ops_nil ?_
          refine run_if rfl rfl (fun hb => ?_) (fun hb => ?_)
          · have hk4 : k = 4 := by simpa using hb
            refine run_skip ?_
            refine run_blk ?_
            exact ⟨0, .inr (.inr ⟨hk4, rfl⟩), Sub.env _ ⟨rfl, rfl, trivial⟩⟩
          · have hk4 : ¬ k = 4 := by simpa using hb
            rw [if_neg hk4] at hty
            refine run_seq ?_
            refine run_region ?_
            refine run_pu rfl (move_step (.inr rfl) rfl) rfl (ltb rfl) ?_   -- t2 = assign (const (bool false))
            refine run_ops_nil ?_
            refine run_ret_to ?_
            refine run_ret_at (fin_ret hG rfl rfl rfl ⟨rfl, ?_, rfl⟩)
            rw [hty]; rfl
  · refine run_sub_code hsub ?_
    refine run_seq ?_
    have hB : need = ks.length → (k ≠ 1 → n = 0) → B = ffmoks (fers ks) := by
      intro q1 q2
      rcases hneed with ⟨a1, a2, a3, a4⟩ | ⟨a1, a2⟩ | ⟨a1, a2⟩
      · have : ks = [] := List.length_eq_zero_iff.1 (by omega)
        subst this
        rw [hty, if_pos a1, decide_eq_true a2, decide_eq_true a3]; rfl
      · rw [hty, if_neg (by omega), if_pos a1, decide_eq_true (q2 (by omega)), decide_eq_true (show ks.length = 2 by omega)]; rfl
      · have : ks = [] := List.length_eq_zero_iff.1 (by omega)
        subst this
        rw [hty, if_neg (by omega), if_neg (by omega), if_pos a1, decide_eq_true (q2 (by omega))]; rfl
    have hF : ¬ (need = ks.length ∧ (k ≠ 1 → n = 0)) → B = false := by
      intro q
      rcases hneed with ⟨a1, a2, a3, a4⟩ | ⟨a1, a2⟩ | ⟨a1, a2⟩
      · rw [hty, if_pos a1, decide_eq_false (show ¬ ks.length = 0 from fun e => q ⟨by omega, fun h => absurd a1 h⟩)]; simp
      · rw [hty, if_neg (by omega), if_pos a1]
        by_cases e : n = 0
        · rw [decide_eq_false (show ¬ ks.length = 2 from fun e' => q ⟨by omega, fun _ => e⟩)]; simp
        · rw [decide_eq_false e]; rfl
      · rw [hty, if_neg (by omega), if_neg (by omega), if_pos a1]
        by_cases e : n = 0
        · rw [decide_eq_false (show ¬ ks.length = 0 from fun e' => q ⟨by omega, fun _ => e⟩)]; simp
        · rw [decide_eq_false e]; rfl
    refine run_cut (fun σ' => (need = ks.length ∧ (k ≠ 1 → n = 0)) ∧ Sub ⟨Go.Proofs.Try.prog, S0, Go.Proofs.Try.f47.ntmps, []⟩ σ'
      ⟨[(3, .int .i64 (need : Nat)), (1, .optr (.loc 1) 0 0)], [(1, ⟨52, 3, true, [[.int .i64 k, .int .i64 n, .imm tok 3 f (fcellss ks)]]⟩)], [], O, tk⟩) ?_ (fun σ' ⟨hc, hsub⟩ => ?_)
    · refine run_seq ?_
      refine run_region ?_
      refine run_pu rfl (fieldAddr_step hG rfl rfl rfl rfl rfl) rfl (ltb rfl) ?_   -- t22 = fieldAddr 52 t1 2
      refine run_rd rfl (aload_rd hG rfl rfl rfl (by simp [ldok])) rfl (ltb rfl) ?_   -- t23 = load 50 t22
      refine run_pu rfl (len_step hG rfl rfl rfl rfl) rfl (ltb rfl) ?_   -- t24 = call {builtin len, [t23], argTypes := #[50] }
      refine run_pu rfl (move_step (.inl rfl) rfl) rfl (ltb rfl) ?_   -- t25 = move t3
      refine run_pu rfl (abin_step rfl rfl rfl rfl (fun _ h => by cases h)) rfl (ltb rfl) ?_   -- t26 = binOp neq 3 t24 t25 3
      refine run_pu rfl (move_step (.inl rfl) rfl) rfl (ltb rfl) ?_   -- t27 = move t26
      refine run_split (i := 27) rfl (fun hb1 => ?_) (fun hb1 => ?_)
      · have h1 : ¬ need = ks.length := by
          intro e; rw [hlen, e] at hb1; simp at hb1
        refine run_off (on_of rfl rfl rfl rfl) rfl (ltb rfl) ?_   -- t28 = fieldAddr 52 t1 0
        refine run_off (on_of rfl rfl rfl rfl) rfl (ltb rfl) ?_   -- t29 = load 3 t28
        refine run_off (on_of rfl rfl rfl rfl) rfl (ltb rfl) ?_   -- t30 = binOp neq 3 t29 1 3
        refine run_off (on_of rfl rfl rfl rfl) rfl (ltb rfl) ?_   -- t31 = move t30
        refine run_off (off_un rfl rfl rfl) rfl (ltb rfl) ?_   -- t32 = fieldAddr 52 t1 1
        refine run_off (off_un rfl rfl rfl) rfl (ltb rfl) ?_   -- t33 = load 3 t32
        refine run_off (off_un rfl rfl rfl) rfl (ltb rfl) ?_   -- t34 = binOp neq 3 t33 0 3
        refine run_off (on_of rfl rfl rfl rfl) rfl (ltb rfl) ?_   -- t35 = pick t31 t34 (const (bool false))
        refine run_pu rfl (pick_step rfl rfl rfl) rfl (ltb rfl) ?_   -- t36 = pick t27 (const (bool true)) t35
        refine run_ops_nil ?_
        refine run_if rfl rfl (fun _ => ?_) (fun h => by cases h)
        refine run_seq ?_
        refine run_region ?_
        refine run_pu rfl (move_step (.inr rfl) rfl) rfl (ltb rfl) ?_   -- t2 = assign (const (bool false))
        refine run_ops_nil ?_
        refine run_ret_to ?_
        refine run_ret_at (fin_ret hG rfl rfl rfl ⟨rfl, ?_, rfl⟩)
        rw [hF (fun q => h1 q.1)]; rfl
      · have h1 : need = ks.length := by
          rw [hlen] at hb1
          have : (ks.length : Int) = (need : Int) := by simpa using hb1
          omega
        refine run_puG (on_of rfl rfl rfl rfl) (fieldAddr_step hG rfl rfl rfl rfl rfl) rfl (ltb rfl) ?_   -- t28 = fieldAddr 52 t1 0
        refine run_rdG (on_of rfl rfl rfl rfl) (aload_rd hG rfl rfl rfl (by simp [ldok])) rfl (ltb rfl) ?_   -- t29 = load 3 t28
        refine run_puG (on_of rfl rfl rfl rfl) (abin_step rfl rfl rfl rfl (fun _ h => by cases h)) rfl (ltb rfl) ?_   -- t30 = binOp neq 3 t29 1 3
        refine run_puG (on_of rfl rfl rfl rfl) (move_step (.inl rfl) rfl) rfl (ltb rfl) ?_   -- t31 = move t30
        refine run_split (i := 31) rfl (fun hb2 => ?_) (fun hb2 => ?_)
        · have hk1 : ¬ k = 1 := by simpa using hb2
          refine run_puG (on_of rfl rfl rfl rfl) (fieldAddr_step hG rfl rfl rfl rfl rfl) rfl (ltb rfl) ?_   -- t32 = fieldAddr 52 t1 1
          refine run_rdG (on_of rfl rfl rfl rfl) (aload_rd hG rfl rfl rfl (by simp [ldok])) rfl (ltb rfl) ?_   -- t33 = load 3 t32
          refine run_puG (on_of rfl rfl rfl rfl) (abin_step rfl rfl rfl rfl (fun _ h => by cases h)) rfl (ltb rfl) ?_   -- t34 = binOp neq 3 t33 0 3
          refine run_puG (on_of rfl rfl rfl rfl) (pick_step rfl rfl rfl) rfl (ltb rfl) ?_   -- t35 = pick t31 t34 (const (bool false))
          refine run_pu rfl (pick_step rfl rfl rfl) rfl (ltb rfl) ?_   -- t36 = pick t27 (const (bool true)) t35
          refine run_ops_nil ?_
          refine run_if rfl rfl (fun hb3 => ?_) (fun hb3 => ?_)
          · have hn : ¬ n = 0 := by simpa using hb3
            refine run_seq ?_
            refine run_region ?_
            refine run_pu rfl (move_step (.inr rfl) rfl) rfl (ltb rfl) ?_   -- t2 = assign (const (bool false))
            refine run_ops_nil ?_
            refine run_ret_to ?_
            refine run_ret_at (fin_ret hG rfl rfl rfl ⟨rfl, ?_, rfl⟩)
            rw [hF (fun q => hn (q.2 hk1))]; rfl
          · have hn : n = 0 := by simpa using hb3
            refine run_skip ?_
            exact ⟨⟨h1, fun _ => hn⟩, Sub.env _ ⟨rfl, rfl, trivial⟩⟩
        · have hk1 : k = 1 := by simpa using hb2
          refine run_off (on_of rfl rfl rfl rfl) rfl (ltb rfl) ?_   -- t32 = fieldAddr 52 t1 1
          refine run_off (on_of rfl rfl rfl rfl) rfl (ltb rfl) ?_   -- t33 = load 3 t32
          refine run_off (on_of rfl rfl rfl rfl) rfl (ltb rfl) ?_   -- t34 = binOp neq 3 t33 0 3
          refine run_puG (on_of rfl rfl rfl rfl) (pick_step rfl rfl rfl) rfl (ltb rfl) ?_   -- t35 = pick t31 t34 (const (bool false))
          refine run_pu rfl (pick_step rfl rfl rfl) rfl (ltb rfl) ?_   -- t36 = pick t27 (const (bool true)) t35
          refine run_ops_nil ?_
          refine run_if rfl rfl (fun h => by cases h) (fun _ => ?_)
          refine run_skip ?_
          exact ⟨⟨h1, fun h => absurd hk1 h⟩, Sub.env _ ⟨rfl, rfl, trivial⟩⟩
    · refine run_sub_code hsub ?_
      have hB := hB hc.1 hc.2
      have hneedl := hc.1
      refine run_seq ?_
      refine run_seq ?_
      refine run_region ?_
      refine run_pu rfl (move_step (.inr rfl) rfl) rfl (ltb rfl) ?_   -- t4 = assign 0
      refine run_ops_nil ?_
      refine run_block ?_   -- 1
      refine run_rounds (fun m σ => ∃ i, i + m = need ∧ ffmoks (fers ks) = ffmoks ((fers ks).drop i) ∧
          σ = ⟨[(4, .int .i64 (i : Nat)), (3, .int .i64 (need : Nat)), (1, .optr (.loc 1) 0 0)], [(1, ⟨52, 3, true, [[.int .i64 k, .int .i64 n, .imm tok 3 f (fcellss ks)]]⟩)], [], O, tk⟩) need
        (Sub.env [(4, .int .i64 (0 : Nat)), (3, .int .i64 (need : Nat)), (1, .optr (.loc 1) 0 0)] ⟨rfl, rfl, rfl, trivial⟩)
        ⟨0, by omega, rfl, rfl⟩ (fun m σ ⟨i, hi, hs, hσ⟩ => ?_)
      subst hσ
      refine run_seq ?_
      refine run_seq ?_
      refine run_region ?_
      refine run_pu rfl (move_step (.inl rfl) rfl) rfl (ltb rfl) ?_   -- t37 = move t4
      refine run_pu rfl (move_step (.inl rfl) rfl) rfl (ltb rfl) ?_   -- t38 = move t3
      refine run_pu rfl (abin_step rfl rfl rfl rfl (fun _ h => by cases h)) rfl (ltb rfl) ?_   -- t39 = binOp lss 3 t37 t38 3
      refine run_ops_nil ?_
      refine run_if rfl rfl (fun hb2 => ?_) (fun hb2 => ?_)
      · have hb2 := of_decide_eq_true hb2
        have hil : i < ks.length := by omega
        obtain ⟨kt, hkt⟩ : ∃ kt, ks[i]? = some kt := ⟨_, List.getElem?_eq_getElem hil⟩
        have hmem : kt ∈ ks := List.mem_of_getElem? hkt
        have hmem' : kt.er ∈ fers ks := by rw [fers_map]; exact List.mem_map_of_mem hmem
        rw [fdrop hkt] at hs
        refine run_skip ?_
        refine run_seq ?_
        refine run_block ?_   -- 2
        refine run_seq ?_
        refine run_region ?_
        refine run_pu rfl (fieldAddr_step hG rfl rfl rfl rfl rfl) rfl (ltb rfl) ?_   -- t42 = fieldAddr 52 t1 2
        refine run_rd rfl (aload_rd hG rfl rfl rfl (by simp [ldok])) rfl (ltb rfl) ?_   -- t43 = load 50 t42
        refine run_pu rfl (move_step (.inl rfl) rfl) rfl (ltb rfl) ?_   -- t44 = move t4
        refine run_pu rfl (indexAddr_step hG rfl rfl rfl rfl rfl rfl rfl (aindex_imm (fcellss_get hkt))) rfl (ltb rfl) ?_   -- t45 = indexAddr 50 t43 t44
        refine run_rd rfl (aload_rd hG rfl rfl (load_iForm kt) (by simp [ldok])) rfl (ltb rfl) ?_   -- t46 = load 52 t45
        refine run_call rfl rfl rfl (ltb rfl) rfl rfl (argok_Form kt rfl) (fun _ h => absurd h List.not_mem_nil) (hk _ hmem (hsk _ hmem') _ _) (callK_retN ?_)   -- t47 = call {value (func 47), [t46], argTypes := #[52] }
        refine run_pu rfl (aun_step rfl rfl rfl) rfl (ltb rfl) ?_   -- t48 = unOp UnOp.not 4 t47
        refine run_ops_nil ?_
        refine run_if rfl rfl (fun hb3 => ?_) (fun hb3 => ?_)
        · have hb3 : kt.er.fmok = false := by simpa using hb3
          refine run_seq ?_
          refine run_region ?_
          refine run_pu rfl (move_step (.inr rfl) rfl) rfl (ltb rfl) ?_   -- t2 = assign (const (bool false))
          refine run_ops_nil ?_
          refine run_ret_to ?_
          refine fin_ret hG rfl rfl rfl ⟨rfl, ?_, rfl⟩
          rw [hB, hs]; simp [ffmoks, hb3, outOf]
        · have hb3 : kt.er.fmok = true := by simpa using hb3
          simp only [ffmoks, hb3, Bool.true_and] at hs
          refine run_skip ?_
          refine run_blk ?_   -- 2
          refine run_region ?_
          refine run_pu rfl (move_step (.inl rfl) rfl) rfl (ltb rfl) ?_   -- t40 = move t4
          refine run_pu rfl (abin_step rfl rfl rfl rfl (fun _ h => by cases h)) rfl (ltb rfl) ?_   -- t41 = binOp add 3 t40 1 3
          refine run_pu rfl (move_step (.inr rfl) rfl) rfl (ltb rfl) ?_   -- t4 = assign t41
          refine run_ops_nil ?_
          rw [show IntKind.i64.wrap ((i : Int) + 1) = ((i + 1 : Nat) : Int) by rw [IntWalk.i64_in _ (by omega)]; rfl]
          exact run_loop_end ⟨m - 1, _, by omega, ⟨i + 1, by omega, hs, rfl⟩, Sub.env _ ⟨rfl, rfl, rfl, trivial⟩⟩
      · have hb2 := of_decide_eq_false hb2
        rw [List.drop_of_length_le (by rw [fers_length]; omega)] at hs
        refine run_exit_to rfl ?_   -- 1
        refine run_seq ?_
        refine run_region ?_
        refine run_pu rfl (move_step (.inr rfl) rfl) rfl (ltb rfl) ?_   -- t2 = assign (const (bool true))
        refine run_ops_nil ?_
        refine run_ret_to ?_
        exact fin_ret hG rfl rfl rfl ⟨rfl, by rw [hB, hs]; rfl, rfl⟩

theorem specFm_ok (t : LF) : SpecFmOK t := by
  induction t using LF.ind with
  | _ k n tok f ks ih => exact specFm_of ih

set_option maxRecDepth 100000 in
theorem specFormOK_ok (t : LF) (hsm : t.er.sm) : ∀ O tk, ACalls Go.Proofs.Try.prog 20 [.agg t.cells] O tk (RetN O (.bool (decide (t.er.size ≤ 150) && t.er.fmok)) tk) := by
  intro O tk
  have h1 := countForm_ok t hsm
  have h2 := specFm_ok t hsm
  have hc := cnt_eq t.er 150 (by omega)
  obtain ⟨k, n, tok, f, ks⟩ := t
  generalize hT : (LF.mk k n tok f ks).er = T at *
  refine acalls_of_run Go.Proofs.Try.func20 rfl rfl [] [] (Bor.nil _) [(0, .agg [.int .i64 k, .int .i64 n, .imm tok 3 f (fcellss ks)])]
    (.cons (.agg _) (.nil _)) (leb rfl) (fun _ h => by cases h) (fun S0 hO htk hfz => ?_)
  refine run_seq ?_
  refine run_region ?_
  refine run_op rfl (box_step (d := 1) rfl rfl rfl rfl rfl) rfl (ltb rfl) ?_   -- t1 = box 52 t0
  refine run_pu rfl (move_step (.inr rfl) rfl) rfl (ltb rfl) ?_   -- t2 = assign (const (bool false))
  refine run_ops_nil ?_
  refine run_seq ?_
  refine run_region ?_
  refine run_rd rfl (aload_rd hG rfl rfl rfl (by simp [ldok])) rfl (ltb rfl) ?_   -- t3 = load 52 t1
  refine run_call rfl rfl rfl (ltb rfl) rfl rfl rfl (fun _ h => absurd h List.not_mem_nil) (h1 150 _ _ (by omega) (by omega)) (callK_retN ?_)   -- t4 = call {value (func 46), [t3, const (int i64 150)], argTypes := #[52, 3] }
  refine run_pu rfl (abin_step rfl rfl rfl rfl (fun _ h => by cases h)) rfl (ltb rfl) ?_   -- t5 = binOp geq 3 t4 0 3
  refine run_pu rfl (move_step (.inl rfl) rfl) rfl (ltb rfl) ?_   -- t6 = move t5
  refine run_split (i := 6) rfl (fun hb => ?_) (fun hb => ?_)
  · refine run_rdG (on_of rfl rfl rfl rfl) (aload_rd hG rfl rfl rfl (by simp [ldok])) rfl (ltb rfl) ?_   -- t7 = load 52 t1
    refine run_callG (on_of rfl rfl rfl rfl) rfl rfl (ltb rfl) rfl rfl rfl (fun _ h => absurd h List.not_mem_nil) (h2 _ _) (callK_retN ?_)   -- t8 = call {value (func 47), [t7], argTypes := #[52] }
    refine run_pu rfl (pick_step rfl rfl rfl) rfl (ltb rfl) ?_   -- t9 = pick t6 t8 (const (bool false))
    refine run_pu rfl (move_step (.inr rfl) rfl) rfl (ltb rfl) ?_   -- t2 = assign t9
    refine run_ops_nil ?_
    refine run_ret_to ?_
    refine fin_ret hG rfl rfl rfl ⟨rfl, ?_, rfl⟩
    have hb := of_decide_eq_true hb
    rw [decide_eq_true (show T.size ≤ 150 from by
      by_cases q : (T.size : Int) ≤ 150
      · omega
      · have := hc.2 (by omega); omega)]
    simp [outOf]
  · refine run_off (on_of rfl rfl rfl rfl) rfl (ltb rfl) ?_   -- t7 = load 52 t1
    refine run_off (on_of rfl rfl rfl rfl) rfl (ltb rfl) ?_   -- t8 = call {value (func 47), [t7], argTypes := #[52] }
    refine run_pu rfl (pick_step rfl rfl rfl) rfl (ltb rfl) ?_   -- t9 = pick t6 t8 (const (bool false))
    refine run_pu rfl (move_step (.inr rfl) rfl) rfl (ltb rfl) ?_   -- t2 = assign t9
    refine run_ops_nil ?_
    refine run_ret_to ?_
    refine fin_ret hG rfl rfl rfl ⟨rfl, ?_, rfl⟩
    have hb := of_decide_eq_false hb
    rw [decide_eq_false (show ¬ T.size ≤ 150 from fun q => by have := hc.1 (by omega); omega)]
    simp [outOf]

end Go.Am.Ytklchmkanhpeeaa
