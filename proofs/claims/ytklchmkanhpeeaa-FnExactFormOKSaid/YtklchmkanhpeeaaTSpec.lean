/- The contracts of spec.TypeOK. -/
import Derived.Test.YtklchmkanhpeeaaEqType
import Derived.Test.YtklchmkanhpeeaaLook
import Derived.Test.YtklchmkanhpeeaaFOk
namespace Go.Am.Ytklchmkanhpeeaa
open Go Go.Am

theorem fcnts_neg (ks : List F) {l : Int} (h : l < 0) : fcnts ks l = l := by
  cases ks with
  | nil => rfl
  | cons t r => simp only [fcnts]; rw [if_neg (by omega)]

theorem fdrop {ks : List LF} {i : Nat} {t : LF} (h : ks[i]? = some t) : (fers ks).drop i = t.er :: (fers ks).drop (i + 1) := by
  have hil : i < ks.length := (List.getElem?_eq_some_iff.1 h).1
  rw [List.drop_eq_getElem_cons (by rw [fers_length]; exact hil)]
  have := List.getElem?_eq_getElem (l := fers ks) (i := i) (by rw [fers_length]; exact hil)
  rw [show (fers ks)[i]? = some t.er by simp [fers_map, h]] at this
  rw [← Option.some.inj this]

def CountTypeOK (t : LF) : Prop := t.er.sm → ∀ (left : Int) O tk, 0 ≤ left → left ≤ 1000 → ACalls Go.Proofs.Try.prog 39 [.agg t.cells, .int .i64 left] O tk (RetN O (.int .i64 (t.er.cnt left)) tk)

set_option maxRecDepth 100000 in
theorem countType_of {k n : Int} {tok : Nat} {f : Bool} {ks : List LF} (hk : ∀ t ∈ ks, CountTypeOK t) : CountTypeOK (.mk k n tok f ks) := by
  intro hsm left O tk h0 h1
  have h := hsm
  unfold LF.er at h
  obtain ⟨hl, hsk⟩ := fsm_kids h
  rw [fers_length] at hl
  have hlen := fcellss_length ks
  refine acalls_of_run Go.Proofs.Try.func39 rfl rfl [] [] (Bor.nil _) [(0, .agg [.int .i64 k, .int .i64 n, .imm tok 3 f (fcellss ks)]), (1, .int .i64 left)]
    (.cons (.agg _) (.cons (ent0 rfl) (.nil _))) (leb rfl) (fun _ h => by cases h) (fun S0 hO htk hfz => ?_)
  refine run_seq ?_
  refine run_region ?_
  refine run_op rfl (box_step (d := 2) rfl rfl rfl rfl rfl) rfl (ltb rfl) ?_   -- t2 = box 41 t0
  refine run_pu rfl (move_step (.inr rfl) rfl) rfl (ltb rfl) ?_   -- t4 = assign 0
  refine run_ops_nil ?_
  refine run_seq ?_
  refine run_region ?_
  refine run_pu rfl (move_step (.inl rfl) rfl) rfl (ltb rfl) ?_   -- t6 = move t1
  refine run_pu rfl (abin_step rfl rfl rfl rfl (fun _ h => by cases h)) rfl (ltb rfl) ?_   -- t7 = binOp sub 3 t6 1 3
  rw [show IntKind.i64.wrap (left - 1) = left - 1 from IntWalk.i64_in _ (by omega)]
  refine run_pu rfl (move_step (.inr rfl) rfl) rfl (ltb rfl) ?_   -- t1 = assign t7
  refine run_ops_nil ?_
  refine run_seq ?_
  refine run_seq ?_
  refine run_region ?_
  refine run_pu rfl (move_step (.inr rfl) rfl) rfl (ltb rfl) ?_   -- t5 = assign 0
  refine run_ops_nil ?_
  refine run_block ?_   -- 0
  refine run_rounds (fun m σ => ∃ i l, i + m = ks.length ∧ -1 ≤ l ∧ l ≤ 1000 ∧ fcnts (fers ks) (left - 1) = fcnts ((fers ks).drop i) l ∧
      σ = ⟨[(5, .int .i64 (i : Nat)), (1, .int .i64 l), (2, .optr (.loc 2) 0 0)], [(2, ⟨41, 3, true, [[.int .i64 k, .int .i64 n, .imm tok 3 f (fcellss ks)]]⟩)], [], O, tk⟩) ks.length
    (Sub.env [(5, .int .i64 (0 : Nat)), (1, .int .i64 (left - 1)), (2, .optr (.loc 2) 0 0)] ⟨rfl, rfl, rfl, trivial⟩)
    ⟨0, left - 1, by omega, by omega, by omega, rfl, rfl⟩ (fun m σ ⟨i, l, hi, hl0, hl1, hs, hσ⟩ => ?_)
  subst hσ
  refine run_seq ?_
  refine run_seq ?_
  refine run_region ?_
  refine run_pu rfl (move_step (.inl rfl) rfl) rfl (ltb rfl) ?_   -- t8 = move t5
  refine run_pu rfl (fieldAddr_step hG rfl rfl rfl rfl rfl) rfl (ltb rfl) ?_   -- t9 = fieldAddr 41 t2 2
  refine run_rd rfl (aload_rd hG rfl rfl rfl (by simp [ldok])) rfl (ltb rfl) ?_   -- t10 = load 39 t9
  refine run_pu rfl (len_step hG rfl rfl rfl rfl) rfl (ltb rfl) ?_   -- t11 = call {builtin len, [t10], argTypes := #[39] }
  refine run_pu rfl (abin_step rfl rfl rfl rfl (fun _ h => by cases h)) rfl (ltb rfl) ?_   -- t12 = binOp lss 3 t8 t11 3
  refine run_pu rfl (move_step (.inl rfl) rfl) rfl (ltb rfl) ?_   -- t13 = move t12
  refine run_split (i := 13) rfl (fun hb => ?_) (fun hb => ?_)
  · have hb := of_decide_eq_true hb
    rw [hlen] at hb
    have hil : i < ks.length := by omega
    obtain ⟨kt, hkt⟩ : ∃ kt, ks[i]? = some kt := ⟨_, List.getElem?_eq_getElem hil⟩
    have hmem : kt ∈ ks := List.mem_of_getElem? hkt
    have hmem' : kt.er ∈ fers ks := by rw [fers_map]; exact List.mem_map_of_mem hmem
    rw [fdrop hkt] at hs
    refine run_puG (on_of rfl rfl rfl rfl) (move_step (.inl rfl) rfl) rfl (ltb rfl) ?_   -- t14 = move t1
    refine run_puG (on_of rfl rfl rfl rfl) (abin_step rfl rfl rfl rfl (fun _ h => by cases h)) rfl (ltb rfl) ?_   -- t15 = binOp geq 3 t14 0 3
    refine run_pu rfl (pick_step rfl rfl rfl) rfl (ltb rfl) ?_   -- t16 = pick t13 t15 (const (bool false))
    refine run_ops_nil ?_
    refine run_if rfl rfl (fun hb2 => ?_) (fun hb2 => ?_)
    · have hb2 := of_decide_eq_true hb2
      simp only [fcnts] at hs
      rw [if_pos hb2] at hs
      have hr := cnt_range kt.er l hb2
      refine run_skip ?_
      refine run_seq ?_
      refine run_block ?_   -- 1
      refine run_region ?_
      refine run_pu rfl (fieldAddr_step hG rfl rfl rfl rfl rfl) rfl (ltb rfl) ?_   -- t19 = fieldAddr 41 t2 2
      refine run_rd rfl (aload_rd hG rfl rfl rfl (by simp [ldok])) rfl (ltb rfl) ?_   -- t20 = load 39 t19
      refine run_pu rfl (move_step (.inl rfl) rfl) rfl (ltb rfl) ?_   -- t21 = move t5
      refine run_pu rfl (indexAddr_step hG rfl rfl rfl rfl rfl rfl rfl (aindex_imm (fcellss_get hkt))) rfl (ltb rfl) ?_   -- t22 = indexAddr 39 t20 t21
      refine run_rd rfl (aload_rd hG rfl rfl (load_iType kt) (by simp [ldok])) rfl (ltb rfl) ?_   -- t23 = load 41 t22
      refine run_pu rfl (move_step (.inl rfl) rfl) rfl (ltb rfl) ?_   -- t24 = move t1
      refine run_call rfl rfl rfl (ltb rfl) rfl rfl (argok_Type kt rfl) (fun _ h => absurd h List.not_mem_nil) (hk _ hmem (hsk _ hmem') l _ _ hb2 hl1) (callK_retN ?_)   -- t25 = call {value (func 39), [t23, t24], argTypes := #[41, 3] }
      refine run_pu rfl (move_step (.inr rfl) rfl) rfl (ltb rfl) ?_   -- t1 = assign t25
      refine run_ops_nil ?_
      refine run_blk ?_   -- 1
      refine run_region ?_
      refine run_pu rfl (move_step (.inl rfl) rfl) rfl (ltb rfl) ?_   -- t17 = move t5
      refine run_pu rfl (abin_step rfl rfl rfl rfl (fun _ h => by cases h)) rfl (ltb rfl) ?_   -- t18 = binOp add 3 t17 1 3
      refine run_pu rfl (move_step (.inr rfl) rfl) rfl (ltb rfl) ?_   -- t5 = assign t18
      refine run_ops_nil ?_
      rw [show IntKind.i64.wrap ((i : Int) + 1) = ((i + 1 : Nat) : Int) by rw [IntWalk.i64_in _ (by omega)]; rfl]
      exact run_loop_end ⟨m - 1, _, by omega, ⟨i + 1, kt.er.cnt l, by omega, by omega, by omega, hs, rfl⟩, Sub.env _ ⟨rfl, rfl, rfl, trivial⟩⟩
    · have hb2 := of_decide_eq_false hb2
      rw [fcnts_neg (l := l) _ (by omega)] at hs
      refine run_exit_to rfl ?_   -- 0
      refine run_seq ?_
      refine run_region ?_
      refine run_pu rfl (move_step (.inl rfl) rfl) rfl (ltb rfl) ?_   -- t26 = move t1
      refine run_pu rfl (move_step (.inr rfl) rfl) rfl (ltb rfl) ?_   -- t4 = assign t26
      refine run_ops_nil ?_
      refine run_ret_to ?_
      exact fin_ret hG rfl rfl rfl ⟨rfl, by simp only [LF.er, F.cnt, hs]; rfl, rfl⟩
  · have hb := of_decide_eq_false hb
    rw [hlen] at hb
    rw [List.drop_of_length_le (by rw [fers_length]; omega)] at hs
    refine run_off (on_of rfl rfl rfl rfl) rfl (ltb rfl) ?_   -- t14 = move t1
    refine run_off (on_of rfl rfl rfl rfl) rfl (ltb rfl) ?_   -- t15 = binOp geq 3 t14 0 3
    refine run_pu rfl (pick_step rfl rfl rfl) rfl (ltb rfl) ?_   -- t16 = pick t13 t15 (const (bool false))
    refine run_ops_nil ?_
    refine run_if rfl rfl (fun hb2 => by cases hb2) (fun _ => ?_)
    refine run_exit_to rfl ?_   -- 0
    refine run_seq ?_
    refine run_region ?_
    refine run_pu rfl (move_step (.inl rfl) rfl) rfl (ltb rfl) ?_   -- t26 = move t1
    refine run_pu rfl (move_step (.inr rfl) rfl) rfl (ltb rfl) ?_   -- t4 = assign t26
    refine run_ops_nil ?_
    refine run_ret_to ?_
    exact fin_ret hG rfl rfl rfl ⟨rfl, by simp only [LF.er, F.cnt, hs]; rfl, rfl⟩

theorem countType_ok (t : LF) : CountTypeOK t := by
  induction t using LF.ind with
  | _ k n tok f ks ih => exact countType_of ih

def SpecTyOK (t : LF) : Prop := t.er.sm → ∀ O tk, ACalls Go.Proofs.Try.prog 40 [.agg t.cells] O tk (RetN O (.bool t.er.tyok) tk)

theorem len_eqz {α : Type} (l : List α) (n : Nat) : ((l.length : Int) == (n : Int)) = decide (l.length = n) := by
  by_cases h : l.length = n
  · simp [h]
  · have : ¬ ((l.length : Int) = (n : Int)) := by omega
    simp [h, this]

set_option maxRecDepth 100000 in
theorem specTy_of {k n : Int} {tok : Nat} {f : Bool} {ks : List LF} (hk : ∀ t ∈ ks, SpecTyOK t) : SpecTyOK (.mk k n tok f ks) := by
  intro hsm O tk
  have h := hsm
  unfold LF.er at h
  obtain ⟨hl, hsk⟩ := fsm_kids h
  rw [fers_length] at hl
  have hlen := fcellss_length ks
  have hty : (LF.mk k n tok f ks).er.tyok = if k = 1 then (decide (0 ≤ n) && (decide (n ≤ 5) && decide (ks.length = 0))) else if k = 2 then (decide (n = 0) && (decide (ks.length = 2) && ftyoks (fers ks))) else false := by
    simp only [LF.er, F.tyok, fers_length]
  generalize (LF.mk k n tok f ks).er.tyok = B at hty
  refine acalls_of_run Go.Proofs.Try.func40 rfl rfl [] [] (Bor.nil _) [(0, .agg [.int .i64 k, .int .i64 n, .imm tok 3 f (fcellss ks)])]
    (.cons (.agg _) (.nil _)) (leb rfl) (fun _ h => by cases h) (fun S0 hO htk hfz => ?_)
  refine run_seq ?_
  refine run_region ?_
  refine run_op rfl (box_step (d := 1) rfl rfl rfl rfl rfl) rfl (ltb rfl) ?_   -- t1 = box 41 t0
  refine run_pu rfl (move_step (.inr rfl) rfl) rfl (ltb rfl) ?_   -- t2 = assign (const (bool false))
  refine run_ops_nil ?_
  refine run_seq ?_
  refine run_seq ?_
  refine run_region ?_
  refine run_pu rfl (fieldAddr_step hG rfl rfl rfl rfl rfl) rfl (ltb rfl) ?_   -- t3 = fieldAddr 41 t1 0
  refine run_rd rfl (aload_rd hG rfl rfl rfl (by simp [ldok])) rfl (ltb rfl) ?_   -- t4 = load 3 t3
  refine run_ops_nil ?_
  refine run_block ?_   -- 0
  refine run_seq ?_
  refine run_region ?_
  refine run_pu rfl (abin_step rfl rfl rfl rfl (fun _ h => by cases h)) rfl (ltb rfl) ?_   -- t6 = binOp eql 3 t4 1 3
  refine run_pu rfl (move_step (.inr rfl) rfl) rfl (ltb rfl) ?_   -- t5 = assign t6
  refine run_ops_nil ?_
  refine run_if rfl rfl (fun hb => ?_) (fun hb => ?_)
  · have hb : k = 1 := by simpa using hb
    rw [if_pos hb] at hty
    refine run_seq ?_
    refine run_region ?_
    refine run_pu rfl (fieldAddr_step hG rfl rfl rfl rfl rfl) rfl (ltb rfl) ?_   -- t7 = fieldAddr 41 t1 1
    refine run_rd rfl (aload_rd hG rfl rfl rfl (by simp [ldok])) rfl (ltb rfl) ?_   -- t8 = load 3 t7
    refine run_pu rfl (abin_step rfl rfl rfl rfl (fun _ h => by cases h)) rfl (ltb rfl) ?_   -- t9 = binOp geq 3 t8 0 3
    refine run_pu rfl (move_step (.inl rfl) rfl) rfl (ltb rfl) ?_   -- t10 = move t9
    refine run_split (i := 10) rfl (fun hb1 => ?_) (fun hb1 => ?_)
    · refine run_puG (on_of rfl rfl rfl rfl) (fieldAddr_step hG rfl rfl rfl rfl rfl) rfl (ltb rfl) ?_   -- t11 = fieldAddr 41 t1 1
      refine run_rdG (on_of rfl rfl rfl rfl) (aload_rd hG rfl rfl rfl (by simp [ldok])) rfl (ltb rfl) ?_   -- t12 = load 3 t11
      refine run_puG (on_of rfl rfl rfl rfl) (abin_step rfl rfl rfl rfl (fun _ h => by cases h)) rfl (ltb rfl) ?_   -- t13 = binOp lss 3 t12 6 3
      refine run_pu rfl (pick_step rfl rfl rfl) rfl (ltb rfl) ?_   -- t14 = pick t10 t13 (const (bool false))
      refine run_pu rfl (move_step (.inl rfl) rfl) rfl (ltb rfl) ?_   -- t15 = move t14
      refine run_split (i := 15) rfl (fun hb2 => ?_) (fun hb2 => ?_)
      · refine run_puG (on_of rfl rfl rfl rfl) (fieldAddr_step hG rfl rfl rfl rfl rfl) rfl (ltb rfl) ?_   -- t16 = fieldAddr 41 t1 2
        refine run_rdG (on_of rfl rfl rfl rfl) (aload_rd hG rfl rfl rfl (by simp [ldok])) rfl (ltb rfl) ?_   -- t17 = load 39 t16
        refine run_puG (on_of rfl rfl rfl rfl) (len_step hG rfl rfl rfl rfl) rfl (ltb rfl) ?_   -- t18 = call {builtin len, [t17], argTypes := #[39] }
        refine run_puG (on_of rfl rfl rfl rfl) (abin_step rfl rfl rfl rfl (fun _ h => by cases h)) rfl (ltb rfl) ?_   -- t19 = binOp eql 3 t18 0 3
        refine run_pu rfl (pick_step rfl rfl rfl) rfl (ltb rfl) ?_   -- t20 = pick t15 t19 (const (bool false))
        refine run_pu rfl (move_step (.inr rfl) rfl) rfl (ltb rfl) ?_   -- t2 = assign t20
        refine run_ops_nil ?_
        refine run_ret_to ?_
        refine fin_ret hG rfl rfl rfl ⟨rfl, ?_, rfl⟩
        have h1 := of_decide_eq_true hb1
        have h2 := of_decide_eq_true hb2
        rw [hty, decide_eq_true (show 0 ≤ n by omega), decide_eq_true (show n ≤ 5 by omega), show ((fcellss ks).length : Int) = ((fcellss ks).length : Nat) from rfl]
        simp only [outOf, hlen, Bool.true_and]
        rw [← len_eqz ks 0]
        rfl
      · refine run_off (on_of rfl rfl rfl rfl) rfl (ltb rfl) ?_   -- t16 = fieldAddr 41 t1 2
        refine run_off (on_of rfl rfl rfl rfl) rfl (ltb rfl) ?_   -- t17 = load 39 t16
        refine run_off (on_of rfl rfl rfl rfl) rfl (ltb rfl) ?_   -- t18 = call {builtin len, [t17], argTypes := #[39] }
        refine run_off (on_of rfl rfl rfl rfl) rfl (ltb rfl) ?_   -- t19 = binOp eql 3 t18 0 3
        refine run_pu rfl (pick_step rfl rfl rfl) rfl (ltb rfl) ?_   -- t20 = pick t15 t19 (const (bool false))
        refine run_pu rfl (move_step (.inr rfl) rfl) rfl (ltb rfl) ?_   -- t2 = assign t20
        refine run_ops_nil ?_
        refine run_ret_to ?_
        refine fin_ret hG rfl rfl rfl ⟨rfl, ?_, rfl⟩
        have h2 := of_decide_eq_false hb2
        rw [hty, decide_eq_false (show ¬ n ≤ 5 by omega)]
        simp [outOf]
    · refine run_off (on_of rfl rfl rfl rfl) rfl (ltb rfl) ?_   -- t11 = fieldAddr 41 t1 1
      refine run_off (on_of rfl rfl rfl rfl) rfl (ltb rfl) ?_   -- t12 = load 3 t11
      refine run_off (on_of rfl rfl rfl rfl) rfl (ltb rfl) ?_   -- t13 = binOp lss 3 t12 6 3
      refine run_pu rfl (pick_step rfl rfl rfl) rfl (ltb rfl) ?_   -- t14 = pick t10 t13 (const (bool false))
      refine run_pu rfl (move_step (.inl rfl) rfl) rfl (ltb rfl) ?_   -- t15 = move t14
      refine run_off (on_of rfl rfl rfl rfl) rfl (ltb rfl) ?_   -- t16 = fieldAddr 41 t1 2
      refine run_off (on_of rfl rfl rfl rfl) rfl (ltb rfl) ?_   -- t17 = load 39 t16
      refine run_off (on_of rfl rfl rfl rfl) rfl (ltb rfl) ?_   -- t18 = call {builtin len, [t17], argTypes := #[39] }
      refine run_off (on_of rfl rfl rfl rfl) rfl (ltb rfl) ?_   -- t19 = binOp eql 3 t18 0 3
      refine run_pu rfl (pick_step rfl rfl rfl) rfl (ltb rfl) ?_   -- t20 = pick t15 t19 (const (bool false))
      refine run_pu rfl (move_step (.inr rfl) rfl) rfl (ltb rfl) ?_   -- t2 = assign t20
      refine run_ops_nil ?_
      refine run_ret_to ?_
      refine fin_ret hG rfl rfl rfl ⟨rfl, ?_, rfl⟩
      have h1 := of_decide_eq_false hb1
      rw [hty, decide_eq_false (show ¬ 0 ≤ n by omega)]
      simp [outOf]
  · have hb : ¬ k = 1 := by simpa using hb
    rw [if_neg hb] at hty
    refine run_seq ?_
    refine run_region ?_
    refine run_pu rfl (abin_step rfl rfl rfl rfl (fun _ h => by cases h)) rfl (ltb rfl) ?_   -- t22 = binOp eql 3 t4 2 3
    refine run_pu rfl (move_step (.inr rfl) rfl) rfl (ltb rfl) ?_   -- t21 = assign t22
    refine run_ops_nil ?_
    refine run_if rfl rfl (fun hb => ?_) (fun hb => ?_)
    · have hb : k = 2 := by simpa using hb
      rw [if_pos hb] at hty
      refine run_seq ?_
      refine run_region ?_
      refine run_pu rfl (fieldAddr_step hG rfl rfl rfl rfl rfl) rfl (ltb rfl) ?_   -- t23 = fieldAddr 41 t1 1
      refine run_rd rfl (aload_rd hG rfl rfl rfl (by simp [ldok])) rfl (ltb rfl) ?_   -- t24 = load 3 t23
      refine run_pu rfl (abin_step rfl rfl rfl rfl (fun _ h => by cases h)) rfl (ltb rfl) ?_   -- t25 = binOp eql 3 t24 0 3
      refine run_pu rfl (move_step (.inl rfl) rfl) rfl (ltb rfl) ?_   -- t26 = move t25
      refine run_split (i := 26) rfl (fun hb1 => ?_) (fun hb1 => ?_)
      · have h1 : n = 0 := by simpa using hb1
        refine run_puG (on_of rfl rfl rfl rfl) (fieldAddr_step hG rfl rfl rfl rfl rfl) rfl (ltb rfl) ?_   -- t27 = fieldAddr 41 t1 2
        refine run_rdG (on_of rfl rfl rfl rfl) (aload_rd hG rfl rfl rfl (by simp [ldok])) rfl (ltb rfl) ?_   -- t28 = load 39 t27
        refine run_puG (on_of rfl rfl rfl rfl) (len_step hG rfl rfl rfl rfl) rfl (ltb rfl) ?_   -- t29 = call {builtin len, [t28], argTypes := #[39] }
        refine run_puG (on_of rfl rfl rfl rfl) (abin_step rfl rfl rfl rfl (fun _ h => by cases h)) rfl (ltb rfl) ?_   -- t30 = binOp eql 3 t29 2 3
        refine run_pu rfl (pick_step rfl rfl rfl) rfl (ltb rfl) ?_   -- t31 = pick t26 t30 (const (bool false))
        refine run_pu rfl (move_step (.inl rfl) rfl) rfl (ltb rfl) ?_   -- t32 = move t31
        refine run_split (i := 32) rfl (fun hb2 => ?_) (fun hb2 => ?_)
        · have h2 : ks.length = 2 := by
            have : ((fcellss ks).length : Int) = 2 := by simpa using hb2
            omega
          match ks, h2 with
          | [a, b], _ =>
          have ha := hk a (List.mem_cons_self ..) (hsk _ (by simp [fers]))
          have hb' := hk b (by simp) (hsk _ (by simp [fers]))
          simp only [fers, ftyoks, List.length_cons, List.length_nil] at hty
          refine run_puG (on_of rfl rfl rfl rfl) (fieldAddr_step hG rfl rfl rfl rfl rfl) rfl (ltb rfl) ?_   -- t33 = fieldAddr 41 t1 2
          refine run_rdG (on_of rfl rfl rfl rfl) (aload_rd hG rfl rfl rfl (by simp [ldok])) rfl (ltb rfl) ?_   -- t34 = load 39 t33
          refine run_puG (on_of rfl rfl rfl rfl) (indexAddr_step (n := 0) hG rfl rfl rfl rfl rfl rfl rfl (aindex_imm (fcellss_get (ks := [a, b]) (t := a) rfl))) rfl (ltb rfl) ?_   -- t35 = indexAddr 39 t34 0
          refine run_rdG (on_of rfl rfl rfl rfl) (aload_rd hG rfl rfl (load_iType a) (by simp [ldok])) rfl (ltb rfl) ?_   -- t36 = load 41 t35
          refine run_callG (on_of rfl rfl rfl rfl) rfl rfl (ltb rfl) rfl rfl (argok_Type a rfl) (fun _ h => absurd h List.not_mem_nil) (ha _ _) (callK_retN ?_)   -- t37 = call {value (func 40), [t36], argTypes := #[41] }
          refine run_pu rfl (pick_step rfl rfl rfl) rfl (ltb rfl) ?_   -- t38 = pick t32 t37 (const (bool false))
          refine run_pu rfl (move_step (.inl rfl) rfl) rfl (ltb rfl) ?_   -- t39 = move t38
          refine run_split (i := 39) rfl (fun hb3 => ?_) (fun hb3 => ?_)
          · refine run_puG (on_of rfl rfl rfl rfl) (fieldAddr_step hG rfl rfl rfl rfl rfl) rfl (ltb rfl) ?_   -- t40 = fieldAddr 41 t1 2
            refine run_rdG (on_of rfl rfl rfl rfl) (aload_rd hG rfl rfl rfl (by simp [ldok])) rfl (ltb rfl) ?_   -- t41 = load 39 t40
            refine run_puG (on_of rfl rfl rfl rfl) (indexAddr_step (n := 1) hG rfl rfl rfl rfl rfl rfl rfl (aindex_imm (fcellss_get (ks := [a, b]) (t := b) rfl))) rfl (ltb rfl) ?_   -- t42 = indexAddr 39 t41 1
            refine run_rdG (on_of rfl rfl rfl rfl) (aload_rd hG rfl rfl (load_iType b) (by simp [ldok])) rfl (ltb rfl) ?_   -- t43 = load 41 t42
            refine run_callG (on_of rfl rfl rfl rfl) rfl rfl (ltb rfl) rfl rfl (argok_Type b rfl) (fun _ h => absurd h List.not_mem_nil) (hb' _ _) (callK_retN ?_)   -- t44 = call {value (func 40), [t43], argTypes := #[41] }
            refine run_pu rfl (pick_step rfl rfl rfl) rfl (ltb rfl) ?_   -- t45 = pick t39 t44 (const (bool false))
            refine run_pu rfl (move_step (.inr rfl) rfl) rfl (ltb rfl) ?_   -- t2 = assign t45
            refine run_ops_nil ?_
            refine run_ret_to ?_
            refine fin_ret hG rfl rfl rfl ⟨rfl, ?_, rfl⟩
            rw [hty]
            simp [outOf, h1, hb3]
          · refine run_off (on_of rfl rfl rfl rfl) rfl (ltb rfl) ?_   -- t40 = fieldAddr 41 t1 2
            refine run_off (on_of rfl rfl rfl rfl) rfl (ltb rfl) ?_   -- t41 = load 39 t40
            refine run_off (on_of rfl rfl rfl rfl) rfl (ltb rfl) ?_   -- t42 = indexAddr 39 t41 1
            refine run_off (on_of rfl rfl rfl rfl) rfl (ltb rfl) ?_   -- t43 = load 41 t42
            refine run_off (on_of rfl rfl rfl rfl) rfl (ltb rfl) ?_   -- t44 = call {value (func 40), [t43], argTypes := #[41] }
            refine run_pu rfl (pick_step rfl rfl rfl) rfl (ltb rfl) ?_   -- t45 = pick t39 t44 (const (bool false))
            refine run_pu rfl (move_step (.inr rfl) rfl) rfl (ltb rfl) ?_   -- t2 = assign t45
            refine run_ops_nil ?_
            refine run_ret_to ?_
            refine fin_ret hG rfl rfl rfl ⟨rfl, ?_, rfl⟩
            rw [hty]
            simp [outOf, hb3]
        · have h2 : ¬ ks.length = 2 := by
            have : ¬ ((fcellss ks).length : Int) = 2 := by simpa using hb2
            omega
          refine run_off (on_of rfl rfl rfl rfl) rfl (ltb rfl) ?_   -- t33 = fieldAddr 41 t1 2
          refine run_off (on_of rfl rfl rfl rfl) rfl (ltb rfl) ?_   -- t34 = load 39 t33
          refine run_off (on_of rfl rfl rfl rfl) rfl (ltb rfl) ?_   -- t35 = indexAddr 39 t34 0
          refine run_off (on_of rfl rfl rfl rfl) rfl (ltb rfl) ?_   -- t36 = load 41 t35
          refine run_off (on_of rfl rfl rfl rfl) rfl (ltb rfl) ?_   -- t37 = call {value (func 40), [t36], argTypes := #[41] }
          refine run_pu rfl (pick_step rfl rfl rfl) rfl (ltb rfl) ?_   -- t38 = pick t32 t37 (const (bool false))
          refine run_pu rfl (move_step (.inl rfl) rfl) rfl (ltb rfl) ?_   -- t39 = move t38
          refine run_off (on_of rfl rfl rfl rfl) rfl (ltb rfl) ?_   -- t40 = fieldAddr 41 t1 2
          refine run_off (on_of rfl rfl rfl rfl) rfl (ltb rfl) ?_   -- t41 = load 39 t40
          refine run_off (on_of rfl rfl rfl rfl) rfl (ltb rfl) ?_   -- t42 = indexAddr 39 t41 1
          refine run_off (on_of rfl rfl rfl rfl) rfl (ltb rfl) ?_   -- t43 = load 41 t42
          refine run_off (on_of rfl rfl rfl rfl) rfl (ltb rfl) ?_   -- t44 = call {value (func 40), [t43], argTypes := #[41] }
          refine run_pu rfl (pick_step rfl rfl rfl) rfl (ltb rfl) ?_   -- t45 = pick t39 t44 (const (bool false))
          refine run_pu rfl (move_step (.inr rfl) rfl) rfl (ltb rfl) ?_   -- t2 = assign t45
          refine run_ops_nil ?_
          refine run_ret_to ?_
          refine fin_ret hG rfl rfl rfl ⟨rfl, ?_, rfl⟩
          rw [hty]
          simp [outOf, h2]
      · have h1 : ¬ n = 0 := by simpa using hb1
        refine run_off (on_of rfl rfl rfl rfl) rfl (ltb rfl) ?_   -- t27 = fieldAddr 41 t1 2
        refine run_off (on_of rfl rfl rfl rfl) rfl (ltb rfl) ?_   -- t28 = load 39 t27
        refine run_off (on_of rfl rfl rfl rfl) rfl (ltb rfl) ?_   -- t29 = call {builtin len, [t28], argTypes := #[39] }
        refine run_off (on_of rfl rfl rfl rfl) rfl (ltb rfl) ?_   -- t30 = binOp eql 3 t29 2 3
        refine run_pu rfl (pick_step rfl rfl rfl) rfl (ltb rfl) ?_   -- t31 = pick t26 t30 (const (bool false))
        refine run_pu rfl (move_step (.inl rfl) rfl) rfl (ltb rfl) ?_   -- t32 = move t31
        refine run_off (on_of rfl rfl rfl rfl) rfl (ltb rfl) ?_   -- t33 = fieldAddr 41 t1 2
        refine run_off (on_of rfl rfl rfl rfl) rfl (ltb rfl) ?_   -- t34 = load 39 t33
        refine run_off (on_of rfl rfl rfl rfl) rfl (ltb rfl) ?_   -- t35 = indexAddr 39 t34 0
        refine run_off (on_of rfl rfl rfl rfl) rfl (ltb rfl) ?_   -- t36 = load 41 t35
        refine run_off (on_of rfl rfl rfl rfl) rfl (ltb rfl) ?_   -- t37 = call {value (func 40), [t36], argTypes := #[41] }
        refine run_pu rfl (pick_step rfl rfl rfl) rfl (ltb rfl) ?_   -- t38 = pick t32 t37 (const (bool false))
        refine run_pu rfl (move_step (.inl rfl) rfl) rfl (ltb rfl) ?_   -- t39 = move t38
        refine run_off (on_of rfl rfl rfl rfl) rfl (ltb rfl) ?_   -- t40 = fieldAddr 41 t1 2
        refine run_off (on_of rfl rfl rfl rfl) rfl (ltb rfl) ?_   -- t41 = load 39 t40
        refine run_off (on_of rfl rfl rfl rfl) rfl (ltb rfl) ?_   -- t42 = indexAddr 39 t41 1
        refine run_off (on_of rfl rfl rfl rfl) rfl (ltb rfl) ?_   -- t43 = load 41 t42
        refine run_off (on_of rfl rfl rfl rfl) rfl (ltb rfl) ?_   -- t44 = call {value (func 40), [t43], argTypes := #[41] }
        refine run_pu rfl (pick_step rfl rfl rfl) rfl (ltb rfl) ?_   -- t45 = pick t39 t44 (const (bool false))
        refine run_pu rfl (move_step (.inr rfl) rfl) rfl (ltb rfl) ?_   -- t2 = assign t45
        refine run_ops_nil ?_
        refine run_ret_to ?_
        refine fin_ret hG rfl rfl rfl ⟨rfl, ?_, rfl⟩
        rw [hty]
        simp [outOf, h1]
    · have hb : ¬ k = 2 := by simpa using hb
      rw [if_neg hb] at hty
      refine run_skip ?_
      refine run_blk ?_   -- 0
      refine run_seq ?_
      refine run_region ?_
      refine run_pu rfl (move_step (.inr rfl) rfl) rfl (ltb rfl) ?_   -- t2 = assign (const (bool false))
      refine run_ops_nil ?_
      refine run_ret_to ?_
      exact fin_ret hG rfl rfl rfl ⟨rfl, by rw [hty]; rfl, rfl⟩

theorem specTy_ok (t : LF) : SpecTyOK t := by
  induction t using LF.ind with
  | _ k n tok f ks ih => exact specTy_of ih

set_option maxRecDepth 100000 in
theorem specTypeOK_ok (t : LF) (hsm : t.er.sm) : ∀ O tk, ACalls Go.Proofs.Try.prog 15 [.agg t.cells] O tk (RetN O (.bool (decide (t.er.size ≤ 150) && t.er.tyok)) tk) := by
  intro O tk
  have h1 := countType_ok t hsm
  have h2 := specTy_ok t hsm
  have hc := cnt_eq t.er 150 (by omega)
  obtain ⟨k, n, tok, f, ks⟩ := t
  generalize hT : (LF.mk k n tok f ks).er = T at *
  refine acalls_of_run Go.Proofs.Try.func15 rfl rfl [] [] (Bor.nil _) [(0, .agg [.int .i64 k, .int .i64 n, .imm tok 3 f (fcellss ks)])]
    (.cons (.agg _) (.nil _)) (leb rfl) (fun _ h => by cases h) (fun S0 hO htk hfz => ?_)
  refine run_seq ?_
  refine run_region ?_
  refine run_op rfl (box_step (d := 1) rfl rfl rfl rfl rfl) rfl (ltb rfl) ?_   -- t1 = box 41 t0
  refine run_pu rfl (move_step (.inr rfl) rfl) rfl (ltb rfl) ?_   -- t2 = assign (const (bool false))
  refine run_ops_nil ?_
  refine run_seq ?_
  refine run_region ?_
  refine run_rd rfl (aload_rd hG rfl rfl rfl (by simp [ldok])) rfl (ltb rfl) ?_   -- t3 = load 41 t1
  refine run_call rfl rfl rfl (ltb rfl) rfl rfl rfl (fun _ h => absurd h List.not_mem_nil) (h1 150 _ _ (by omega) (by omega)) (callK_retN ?_)   -- t4 = call {value (func 39), [t3, const (int i64 150)], argTypes := #[41, 3] }
  refine run_pu rfl (abin_step rfl rfl rfl rfl (fun _ h => by cases h)) rfl (ltb rfl) ?_   -- t5 = binOp geq 3 t4 0 3
  refine run_pu rfl (move_step (.inl rfl) rfl) rfl (ltb rfl) ?_   -- t6 = move t5
  refine run_split (i := 6) rfl (fun hb => ?_) (fun hb => ?_)
  · refine run_rdG (on_of rfl rfl rfl rfl) (aload_rd hG rfl rfl rfl (by simp [ldok])) rfl (ltb rfl) ?_   -- t7 = load 41 t1
    refine run_callG (on_of rfl rfl rfl rfl) rfl rfl (ltb rfl) rfl rfl rfl (fun _ h => absurd h List.not_mem_nil) (h2 _ _) (callK_retN ?_)   -- t8 = call {value (func 40), [t7], argTypes := #[41] }
    refine run_pu rfl (pick_step rfl rfl rfl) rfl (ltb rfl) ?_   -- t9 = pick t6 t8 (const (bool false))
    refine run_pu rfl (move_step (.inr rfl) rfl) rfl (ltb rfl) ?_   -- t2 = assign t9
    refine run_ops_nil ?_
    refine run_ret_to ?_
    refine fin_ret hG rfl rfl rfl ⟨rfl, ?_, rfl⟩
    have hb := of_decide_eq_true hb
    rw [decide_eq_true (show T.size ≤ 150 from by
      by_cases q : (T.size : Int) ≤ 150
      · omega
      · have := hc.2 (by omega); omega)]
    simp [outOf]
  · refine run_off (on_of rfl rfl rfl rfl) rfl (ltb rfl) ?_   -- t7 = load 41 t1
    refine run_off (on_of rfl rfl rfl rfl) rfl (ltb rfl) ?_   -- t8 = call {value (func 40), [t7], argTypes := #[41] }
    refine run_pu rfl (pick_step rfl rfl rfl) rfl (ltb rfl) ?_   -- t9 = pick t6 t8 (const (bool false))
    refine run_pu rfl (move_step (.inr rfl) rfl) rfl (ltb rfl) ?_   -- t2 = assign t9
    refine run_ops_nil ?_
    refine run_ret_to ?_
    refine fin_ret hG rfl rfl rfl ⟨rfl, ?_, rfl⟩
    have hb := of_decide_eq_false hb
    rw [decide_eq_false (show ¬ T.size ≤ 150 from fun q => by have := hc.1 (by omega); omega)]
    simp [outOf]

end Go.Am.Ytklchmkanhpeeaa
