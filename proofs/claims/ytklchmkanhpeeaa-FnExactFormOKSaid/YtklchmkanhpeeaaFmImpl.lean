/- The contracts of (*looker).form, impl.FormOK. -/
import Derived.Test.YtklchmkanhpeeaaFmSpec
import Derived.Test.YtklchmkanhpeeaaTImpl
namespace Go.Am.Ytklchmkanhpeeaa
open Go Go.Am

def FmP (T : F) (left : Int) (om : Bool) (v : AV) (o : Obj) : Prop := v = .bool (decide ((T.size : Int) ≤ left) && T.fmok) ∧ ∃ l' : Int, o = lookO l' om ∧ -1 ≤ l' ∧ l' ≤ 150 ∧ ((T.size : Int) ≤ left → T.fmok = true → l' = left - T.size)

theorem fmP_up {T : F} {left : Int} {om : Bool} {v : AV} {o : Obj} (h : FmP T left om v o) : o.up = o := by
  obtain ⟨_, l', rfl, _⟩ := h
  rfl

def FmOK (t : LF) : Prop := t.er.sm → ∀ (x : ID) (left : Int) (om : Bool) O tk, 0 ≤ left → left ≤ 150 → O x = some (lookO left om) →
  ACalls Go.Proofs.Try.prog 49 [.optr x 0 0, .agg t.cells] O tk (RetU O x tk (FmP t.er left om))

set_option maxRecDepth 100000 in
theorem form_of {k n : Int} {tok : Nat} {f : Bool} {ks : List LF} (hk : ∀ t ∈ ks, FmOK t) : FmOK (.mk k n tok f ks) := by
  intro hsm x left om O tk h0 h1 hx
  have h := hsm
  unfold LF.er at h
  obtain ⟨hl, hsk⟩ := fsm_kids h
  rw [fers_length] at hl
  have hlen := fcellss_length ks
  have hty : (LF.mk k n tok f ks).er.fmok = if k = 1 then (decide (0 ≤ n) && (decide (n ≤ 5) && decide (ks.length = 0))) else if k = 2 ∨ k = 3 then (decide (n = 0) && (decide (ks.length = 2) && ffmoks (fers ks))) else if k = 4 then (decide (n = 0) && decide (ks.length = 0)) else false := by
    simp only [LF.er, F.fmok, fers_length]
  have hsz := fer_size_kids k n tok f ks
  generalize (LF.mk k n tok f ks).er = T at hty hsz
  refine acalls_of_run Go.Proofs.Try.func49 rfl rfl [x] [lookO left om] (Bor.one hx rfl) [(0, .optr (.bor 0) 0 0), (1, .agg [.int .i64 k, .int .i64 n, .imm tok 3 f (fcellss ks)])]
    (.cons (.bor 0 _ _ _ rfl) (.cons (.agg _) (.nil _))) (leb rfl) (fun y h => by rw [List.mem_singleton] at h; subst h; exact List.mem_cons_self ..) (fun S0 hO htk hfz => ?_)
  refine run_seq ?_
  refine run_region ?_
  refine run_op rfl (box_step (d := 3) rfl rfl rfl rfl rfl) rfl (ltb rfl) ?_   -- t3 = box 52 t1
  refine run_pu rfl (move_step (.inr rfl) rfl) rfl (ltb rfl) ?_   -- t4 = assign (const (bool false))
  refine run_ops_nil ?_
  refine run_seq ?_
  refine run_seq ?_
  refine run_region ?_
  refine run_pu rfl (move_step (.inl rfl) rfl) rfl (ltb rfl) ?_   -- t5 = move t0
  refine run_call rfl rfl rfl (ltb rfl) rfl rfl rfl (fun _ h => absurd h List.not_mem_nil) (node_ok (.bor 0) left om (by omega) (by omega) _ _ rfl) (callK_retU_bor (k := 0) (o := lookO left om) rfl (fun v o' h => by rw [h.2]; rfl) (fun v o' h => ?_))
  obtain ⟨rfl, rfl⟩ := h
  refine run_pu rfl (aun_step rfl rfl rfl) rfl (ltb rfl) ?_   -- t7 = unOp UnOp.not 4 t6
  refine run_ops_nil ?_
  refine run_if rfl rfl (fun hb => ?_) (fun hb => ?_)
  · have hb0 : left < 1 := by simpa using hb
    have hb : left - 1 < 0 := by omega
    refine run_seq ?_
    refine run_region ?_
    refine run_pu rfl (move_step (.inr rfl) rfl) rfl (ltb rfl) ?_   -- t4 = assign (const (bool false))
    refine run_ops_nil ?_
    refine run_ret_to ?_
    refine fin_ret hG rfl rfl rfl ⟨_, lookO (left - 1) om, rfl, rfl, rfl, ?_, left - 1, rfl, by omega, by omega, fun q => by omega⟩
    rw [decide_eq_false (show ¬ (T.size : Int) ≤ left by omega)]; rfl
  · have hb : 0 ≤ left - 1 := by simpa using hb
    refine run_skip ?_
    refine run_seq ?_
    refine run_seq ?_
    refine run_region ?_
    refine run_pu rfl (fieldAddr_step hG rfl rfl rfl rfl rfl) rfl (ltb rfl) ?_   -- t8 = fieldAddr 52 t3 0
    refine run_rd rfl (aload_rd hG rfl rfl rfl (by simp [ldok])) rfl (ltb rfl) ?_   -- t9 = load 3 t8
    refine run_ops_nil ?_
    refine run_block ?_   -- 0
    refine run_seq ?_
    refine run_region ?_
    refine run_pu rfl (abin_step rfl rfl rfl rfl (fun _ h => by cases h)) rfl (ltb rfl) ?_   -- t11 = binOp eql 3 t9 1 3
    refine run_pu rfl (move_step (.inr rfl) rfl) rfl (ltb rfl) ?_   -- t10 = assign t11
    refine run_ops_nil ?_
    refine run_if rfl rfl (fun hb => ?_) (fun hb => ?_)
    · have hk1 : k = 1 := by simpa using hb
      rw [if_pos hk1] at hty
      refine run_seq ?_
      refine run_region ?_
      refine run_pu rfl (fieldAddr_step hG rfl rfl rfl rfl rfl) rfl (ltb rfl) ?_   -- t12 = fieldAddr 52 t3 1
      refine run_rd rfl (aload_rd hG rfl rfl rfl (by simp [ldok])) rfl (ltb rfl) ?_   -- t13 = load 3 t12
      refine run_call rfl rfl rfl (ltb rfl) rfl rfl rfl (fun _ h => absurd h List.not_mem_nil) (in_ok n 0 5 _ _) (callK_retN ?_)   -- t14 = call {value (func 64), [t13, const (int i64 0), const (int i64 5)], argTypes := #[3, 3, 3] }
      refine run_pu rfl (move_step (.inl rfl) rfl) rfl (ltb rfl) ?_   -- t15 = move t14
      refine run_split (i := 15) rfl (fun hb1 => ?_) (fun hb1 => ?_)
      · have hn : 0 ≤ n ∧ n ≤ 5 := by simpa using hb1
        refine run_puG (on_of rfl rfl rfl rfl) (fieldAddr_step hG rfl rfl rfl rfl rfl) rfl (ltb rfl) ?_   -- t16 = fieldAddr 52 t3 2
        refine run_rdG (on_of rfl rfl rfl rfl) (aload_rd hG rfl rfl rfl (by simp [ldok])) rfl (ltb rfl) ?_   -- t17 = load 50 t16
        refine run_puG (on_of rfl rfl rfl rfl) (len_step hG rfl rfl rfl rfl) rfl (ltb rfl) ?_   -- t18 = call {builtin len, [t17], argTypes := #[50] }
        refine run_puG (on_of rfl rfl rfl rfl) (abin_step rfl rfl rfl rfl (fun _ h => by cases h)) rfl (ltb rfl) ?_   -- t19 = binOp eql 3 t18 0 3
        refine run_pu rfl (pick_step rfl rfl rfl) rfl (ltb rfl) ?_   -- t20 = pick t15 t19 (const (bool false))
        refine run_pu rfl (move_step (.inr rfl) rfl) rfl (ltb rfl) ?_   -- t4 = assign t20
        refine run_ops_nil ?_
        refine run_ret_to ?_
        refine fin_ret hG rfl rfl rfl ⟨_, lookO (left - 1) om, rfl, rfl, rfl, ?_, left - 1, rfl, by omega, by omega, fun q1 q2 => ?_⟩
        · rw [hty, decide_eq_true hn.1, decide_eq_true hn.2, ← len_eqz ks 0, ← hlen]
          cases ks with
          | nil => rw [decide_eq_true (show (T.size : Int) ≤ left by rw [hsz]; simp [fers, fsizes]; omega)]; rfl
          | cons a r => simp [outOf, fcellss]; omega
        · rw [hty] at q2
          simp only [Bool.and_eq_true, decide_eq_true_eq] at q2
          have : ks = [] := List.length_eq_zero_iff.1 q2.2.2
          subst this
          simp only [fers, fsizes] at hsz
          omega
      · have hn : ¬ (0 ≤ n ∧ n ≤ 5) := by simpa using hb1
        have hf : T.fmok = false := by
          rw [hty]
          by_cases q : 0 ≤ n
          · rw [decide_eq_false (show ¬ n ≤ 5 by omega)]; simp
          · rw [decide_eq_false q]; simp
        refine run_off (on_of rfl rfl rfl rfl) rfl (ltb rfl) ?_   -- t16 = fieldAddr 52 t3 2
        refine run_off (on_of rfl rfl rfl rfl) rfl (ltb rfl) ?_   -- t17 = load 50 t16
        refine run_off (on_of rfl rfl rfl rfl) rfl (ltb rfl) ?_   -- t18 = call {builtin len, [t17], argTypes := #[50] }
        refine run_off (on_of rfl rfl rfl rfl) rfl (ltb rfl) ?_   -- t19 = binOp eql 3 t18 0 3
        refine run_pu rfl (pick_step rfl rfl rfl) rfl (ltb rfl) ?_   -- t20 = pick t15 t19 (const (bool false))
        refine run_pu rfl (move_step (.inr rfl) rfl) rfl (ltb rfl) ?_   -- t4 = assign t20
        refine run_ops_nil ?_
        refine run_ret_to ?_
        refine fin_ret hG rfl rfl rfl ⟨_, lookO (left - 1) om, rfl, rfl, rfl, ?_, left - 1, rfl, by omega, by omega, fun q1 q2 => by rw [hf] at q2; cases q2⟩
        rw [hf, Bool.and_false]; rfl
    · have hk1 : ¬ k = 1 := by simpa using hb
      rw [if_neg hk1] at hty
      refine run_seq ?_
      refine run_region ?_
      refine run_pu rfl (abin_step rfl rfl rfl rfl (fun _ h => by cases h)) rfl (ltb rfl) ?_   -- t22 = binOp eql 3 t9 4 3
      refine run_pu rfl (move_step (.inr rfl) rfl) rfl (ltb rfl) ?_   -- t21 = assign t22
      refine run_ops_nil ?_
      refine run_if rfl rfl (fun hb => ?_) (fun hb => ?_)
      · have hk4 : k = 4 := by simpa using hb
        rw [if_neg (by omega), if_pos hk4] at hty
        refine run_seq ?_
        refine run_region ?_
        refine run_pu rfl (fieldAddr_step hG rfl rfl rfl rfl rfl) rfl (ltb rfl) ?_   -- t23 = fieldAddr 52 t3 1
        refine run_rd rfl (aload_rd hG rfl rfl rfl (by simp [ldok])) rfl (ltb rfl) ?_   -- t24 = load 3 t23
        refine run_pu rfl (abin_step rfl rfl rfl rfl (fun _ h => by cases h)) rfl (ltb rfl) ?_   -- t25 = binOp eql 3 t24 0 3
        refine run_pu rfl (move_step (.inl rfl) rfl) rfl (ltb rfl) ?_   -- t26 = move t25
        refine run_split (i := 26) rfl (fun hb1 => ?_) (fun hb1 => ?_)
        · have hn : n = 0 := by simpa using hb1
          rw [decide_eq_true hn, Bool.true_and] at hty
          refine run_puG (on_of rfl rfl rfl rfl) (fieldAddr_step hG rfl rfl rfl rfl rfl) rfl (ltb rfl) ?_   -- t27 = fieldAddr 52 t3 2
          refine run_rdG (on_of rfl rfl rfl rfl) (aload_rd hG rfl rfl rfl (by simp [ldok])) rfl (ltb rfl) ?_   -- t28 = load 50 t27
          refine run_puG (on_of rfl rfl rfl rfl) (len_step hG rfl rfl rfl rfl) rfl (ltb rfl) ?_   -- t29 = call {builtin len, [t28], argTypes := #[50] }
          refine run_puG (on_of rfl rfl rfl rfl) (abin_step rfl rfl rfl rfl (fun _ h => by cases h)) rfl (ltb rfl) ?_   -- t30 = binOp eql 3 t29 0 3
          refine run_pu rfl (pick_step rfl rfl rfl) rfl (ltb rfl) ?_   -- t31 = pick t26 t30 (const (bool false))
          refine run_pu rfl (move_step (.inr rfl) rfl) rfl (ltb rfl) ?_   -- t4 = assign t31
          refine run_ops_nil ?_
          refine run_ret_to ?_
          refine fin_ret hG rfl rfl rfl ⟨_, lookO (left - 1) om, rfl, rfl, rfl, ?_, left - 1, rfl, by omega, by omega, fun q1 q2 => ?_⟩
          · rw [hty, ← len_eqz ks 0, ← hlen]
            cases ks with
            | nil => rw [decide_eq_true (show (T.size : Int) ≤ left by rw [hsz]; simp [fers, fsizes]; omega)]; rfl
            | cons a r => simp [outOf, fcellss]; omega
          · rw [hty] at q2
            have : ks = [] := List.length_eq_zero_iff.1 (of_decide_eq_true q2)
            subst this
            simp only [fers, fsizes] at hsz
            omega
        · have hn : ¬ n = 0 := by simpa using hb1
          have hf : T.fmok = false := by rw [hty, decide_eq_false hn]; rfl
          refine run_off (on_of rfl rfl rfl rfl) rfl (ltb rfl) ?_   -- t27 = fieldAddr 52 t3 2
          refine run_off (on_of rfl rfl rfl rfl) rfl (ltb rfl) ?_   -- t28 = load 50 t27
          refine run_off (on_of rfl rfl rfl rfl) rfl (ltb rfl) ?_   -- t29 = call {builtin len, [t28], argTypes := #[50] }
          refine run_off (on_of rfl rfl rfl rfl) rfl (ltb rfl) ?_   -- t30 = binOp eql 3 t29 0 3
          refine run_pu rfl (pick_step rfl rfl rfl) rfl (ltb rfl) ?_   -- t31 = pick t26 t30 (const (bool false))
          refine run_pu rfl (move_step (.inr rfl) rfl) rfl (ltb rfl) ?_   -- t4 = assign t31
          refine run_ops_nil ?_
          refine run_ret_to ?_
          refine fin_ret hG rfl rfl rfl ⟨_, lookO (left - 1) om, rfl, rfl, rfl, by rw [hf, Bool.and_false]; rfl, left - 1, rfl, by omega, by omega, fun q1 q2 => by rw [hf] at q2; cases q2⟩
      · have hk4 : ¬ k = 4 := by simpa using hb
        rw [if_neg hk4] at hty
        refine run_seq ?_
        refine run_seq ?_
        refine run_region ?_
        refine run_pu rfl (abin_step rfl rfl rfl rfl (fun _ h => by cases h)) rfl (ltb rfl) ?_   -- t33 = binOp eql 3 t9 2 3
        refine run_pu rfl (move_step (.inr rfl) rfl) rfl (ltb rfl) ?_   -- t32 = assign t33
        refine run_ops_nil ?_
        refine run_cut (fun σ' => Sub ⟨Go.Proofs.Try.prog, S0, Go.Proofs.Try.f49.ntmps, [x]⟩ σ'
          ⟨[(32, .bool (decide (k = 2 ∨ k = 3))), (0, .optr (.bor 0) 0 0), (3, .optr (.loc 3) 0 0)], [(3, ⟨52, 3, true, [[.int .i64 k, .int .i64 n, .imm tok 3 f (fcellss ks)]]⟩)], [lookO (left - 1) om], O, tk⟩) ?_ (fun σ' hsub => ?_)
        · refine run_if rfl rfl (fun hb => ?_) (fun hb => ?_)
          · have hk2 : k = 2 := by simpa using hb
            refine run_skip ?_
            exact Sub.env _ ⟨by rw [decide_eq_true (show k = 2 ∨ k = 3 from .inl hk2), hk2]; rfl, rfl, rfl, trivial⟩
          · have hk2 : ¬ k = 2 := by simpa using hb
            refine run_region ?_
            refine run_pu rfl (abin_step rfl rfl rfl rfl (fun _ h => by cases h)) rfl (ltb rfl) ?_   -- t34 = binOp eql 3 t9 3 3
            refine run_pu rfl (move_step (.inr rfl) rfl) rfl (ltb rfl) ?_   -- t32 = assign t34
            refine run_ops_nil ?_
            exact Sub.env _ ⟨by rw [show decide (k = 2 ∨ k = 3) = (k == 3) by by_cases q : k = 3 <;> simp [hk2, q]]; rfl, rfl, rfl, trivial⟩
        · refine run_sub_code hsub ?_
          refine run_if rfl rfl (fun hb => ?_) (fun hb => ?_)
          · have hk2 := of_decide_eq_true hb
            rw [if_pos hk2] at hty
            refine run_seq ?_
            refine run_region ?_
            refine run_pu rfl (fieldAddr_step hG rfl rfl rfl rfl rfl) rfl (ltb rfl) ?_   -- t35 = fieldAddr 52 t3 1
            refine run_rd rfl (aload_rd hG rfl rfl rfl (by simp [ldok])) rfl (ltb rfl) ?_   -- t36 = load 3 t35
            refine run_pu rfl (abin_step rfl rfl rfl rfl (fun _ h => by cases h)) rfl (ltb rfl) ?_   -- t37 = binOp eql 3 t36 0 3
            refine run_pu rfl (move_step (.inl rfl) rfl) rfl (ltb rfl) ?_   -- t38 = move t37
            refine run_split (i := 38) rfl (fun hb1 => ?_) (fun hb1 => ?_)
            · have hn : n = 0 := by simpa using hb1
              rw [decide_eq_true hn, Bool.true_and] at hty
              refine run_puG (on_of rfl rfl rfl rfl) (fieldAddr_step hG rfl rfl rfl rfl rfl) rfl (ltb rfl) ?_   -- t39 = fieldAddr 52 t3 2
              refine run_rdG (on_of rfl rfl rfl rfl) (aload_rd hG rfl rfl rfl (by simp [ldok])) rfl (ltb rfl) ?_   -- t40 = load 50 t39
              refine run_puG (on_of rfl rfl rfl rfl) (len_step hG rfl rfl rfl rfl) rfl (ltb rfl) ?_   -- t41 = call {builtin len, [t40], argTypes := #[50] }
              refine run_puG (on_of rfl rfl rfl rfl) (abin_step rfl rfl rfl rfl (fun _ h => by cases h)) rfl (ltb rfl) ?_   -- t42 = binOp eql 3 t41 2 3
              refine run_pu rfl (pick_step rfl rfl rfl) rfl (ltb rfl) ?_   -- t43 = pick t38 t42 (const (bool false))
              refine run_pu rfl (move_step (.inl rfl) rfl) rfl (ltb rfl) ?_   -- t44 = move t43
              refine run_split (i := 44) rfl (fun hb2 => ?_) (fun hb2 => ?_)
              · have h2 : ks.length = 2 := by
                  have : ((fcellss ks).length : Int) = 2 := by simpa using hb2
                  omega
                match ks, h2 with
                | [a, b], _ =>
                have ha := hk a (List.mem_cons_self ..) (hsk _ (by simp [fers]))
                have hb' := hk b (by simp) (hsk _ (by simp [fers]))
                simp only [fers, ffmoks, fsizes, List.length_cons, List.length_nil, Bool.and_true, decide_true, Bool.true_and] at hty hsz
                have hpa := fsize_pos a.er
                have hpb := fsize_pos b.er
                refine run_puG (on_of rfl rfl rfl rfl) (move_step (.inl rfl) rfl) rfl (ltb rfl) ?_   -- t45 = move t0
                refine run_puG (on_of rfl rfl rfl rfl) (fieldAddr_step hG rfl rfl rfl rfl rfl) rfl (ltb rfl) ?_   -- t46 = fieldAddr 52 t3 2
                refine run_rdG (on_of rfl rfl rfl rfl) (aload_rd hG rfl rfl rfl (by simp [ldok])) rfl (ltb rfl) ?_   -- t47 = load 50 t46
                refine run_puG (on_of rfl rfl rfl rfl) (indexAddr_step (n := 0) hG rfl rfl rfl rfl rfl rfl rfl (aindex_imm (fcellss_get (ks := [a, b]) (t := a) rfl))) rfl (ltb rfl) ?_   -- t48 = indexAddr 50 t47 0
                refine run_rdG (on_of rfl rfl rfl rfl) (aload_rd hG rfl rfl (load_iForm a) (by simp [ldok])) rfl (ltb rfl) ?_   -- t49 = load 52 t48
                refine run_callG (on_of rfl rfl rfl rfl) rfl rfl (ltb rfl) rfl rfl (show ([AV.optr (.bor 0) 0 0, .agg a.cells] : List AV).all argok = true from argok_Form a (l := [.optr (.bor 0) 0 0]) rfl) (fun _ h => absurd h List.not_mem_nil) (ha (.bor 0) (left - 1) om _ _ (by omega) (by omega) rfl) (callK_retU_bor (k := 0) (o := lookO (left - 1) om) rfl (fun v o' h => fmP_up h) (fun v o' h => ?_))
                obtain ⟨rfl, l1, rfl, hl1, hl1', he1⟩ := h
                refine run_pu rfl (pick_step rfl rfl rfl) rfl (ltb rfl) ?_   -- t51 = pick t44 t50 (const (bool false))
                refine run_pu rfl (move_step (.inl rfl) rfl) rfl (ltb rfl) ?_   -- t52 = move t51
                refine run_split (i := 52) rfl (fun hb3 => ?_) (fun hb3 => ?_)
                · have hb3 := hb3
                  simp only [Bool.and_eq_true, decide_eq_true_eq] at hb3
                  have he1 := he1 hb3.1 hb3.2
                  refine run_puG (on_of rfl rfl rfl rfl) (move_step (.inl rfl) rfl) rfl (ltb rfl) ?_   -- t53 = move t0
                  refine run_puG (on_of rfl rfl rfl rfl) (fieldAddr_step hG rfl rfl rfl rfl rfl) rfl (ltb rfl) ?_   -- t54 = fieldAddr 52 t3 2
                  refine run_rdG (on_of rfl rfl rfl rfl) (aload_rd hG rfl rfl rfl (by simp [ldok])) rfl (ltb rfl) ?_   -- t55 = load 50 t54
                  refine run_puG (on_of rfl rfl rfl rfl) (indexAddr_step (n := 1) hG rfl rfl rfl rfl rfl rfl rfl (aindex_imm (fcellss_get (ks := [a, b]) (t := b) rfl))) rfl (ltb rfl) ?_   -- t56 = indexAddr 50 t55 1
                  refine run_rdG (on_of rfl rfl rfl rfl) (aload_rd hG rfl rfl (load_iForm b) (by simp [ldok])) rfl (ltb rfl) ?_   -- t57 = load 52 t56
                  refine run_callG (on_of rfl rfl rfl rfl) rfl rfl (ltb rfl) rfl rfl (show ([AV.optr (.bor 0) 0 0, .agg b.cells] : List AV).all argok = true from argok_Form b (l := [.optr (.bor 0) 0 0]) rfl) (fun _ h => absurd h List.not_mem_nil) (hb' (.bor 0) l1 om _ _ (by omega) (by omega) rfl) (callK_retU_bor (k := 0) (o := lookO l1 om) rfl (fun v o' h => fmP_up h) (fun v o' h => ?_))
                  obtain ⟨rfl, l2, rfl, hl2, hl2', he2⟩ := h
                  refine run_pu rfl (pick_step rfl rfl rfl) rfl (ltb rfl) ?_   -- t59 = pick t52 t58 (const (bool false))
                  refine run_pu rfl (move_step (.inr rfl) rfl) rfl (ltb rfl) ?_   -- t4 = assign t59
                  refine run_ops_nil ?_
                  refine run_ret_to ?_
                  refine fin_ret hG rfl rfl rfl ⟨_, lookO l2 om, rfl, rfl, rfl, ?_, l2, rfl, by omega, by omega, fun q1 q2 => ?_⟩
                  · rw [hty, hb3.2, Bool.true_and, show decide ((T.size : Int) ≤ left) = decide ((b.er.size : Int) ≤ l1) from decide_eq_decide.2 (by omega)]; rfl
                  · rw [hty, hb3.2, Bool.true_and] at q2
                    have := he2 (by omega) q2
                    omega
                · have hf : (decide ((T.size : Int) ≤ left) && T.fmok) = false := by
                    rw [hty]
                    simp only [Bool.and_eq_false_iff, decide_eq_false_iff_not] at hb3 ⊢
                    rcases hb3 with q | q
                    · exact .inl (by omega)
                    · exact .inr (.inl q)
                  refine run_off (on_of rfl rfl rfl rfl) rfl (ltb rfl) ?_   -- t53 = move t0
                  refine run_off (on_of rfl rfl rfl rfl) rfl (ltb rfl) ?_   -- t54 = fieldAddr 52 t3 2
                  refine run_off (on_of rfl rfl rfl rfl) rfl (ltb rfl) ?_   -- t55 = load 50 t54
                  refine run_off (on_of rfl rfl rfl rfl) rfl (ltb rfl) ?_   -- t56 = indexAddr 50 t55 1
                  refine run_off (on_of rfl rfl rfl rfl) rfl (ltb rfl) ?_   -- t57 = load 52 t56
                  refine run_off (on_of rfl rfl rfl rfl) rfl (ltb rfl) ?_   -- t58 = call {value (func 49), [t53, t57], argTypes := #[85, 52] }
                  refine run_pu rfl (pick_step rfl rfl rfl) rfl (ltb rfl) ?_   -- t59 = pick t52 t58 (const (bool false))
                  refine run_pu rfl (move_step (.inr rfl) rfl) rfl (ltb rfl) ?_   -- t4 = assign t59
                  refine run_ops_nil ?_
                  refine run_ret_to ?_
                  refine fin_ret hG rfl rfl rfl ⟨_, lookO l1 om, rfl, rfl, rfl, by rw [hf]; rfl, l1, rfl, by omega, by omega, fun q1 q2 => ?_⟩
                  rw [decide_eq_true q1, q2] at hf; cases hf
              · have h2 : ¬ ks.length = 2 := by
                  have : ¬ ((fcellss ks).length : Int) = 2 := by simpa using hb2
                  omega
                have hf : T.fmok = false := by rw [hty, decide_eq_false h2]; rfl
                refine run_off (on_of rfl rfl rfl rfl) rfl (ltb rfl) ?_   -- t45 = move t0
                refine run_off (on_of rfl rfl rfl rfl) rfl (ltb rfl) ?_   -- t46 = fieldAddr 52 t3 2
                refine run_off (on_of rfl rfl rfl rfl) rfl (ltb rfl) ?_   -- t47 = load 50 t46
                refine run_off (on_of rfl rfl rfl rfl) rfl (ltb rfl) ?_   -- t48 = indexAddr 50 t47 0
                refine run_off (on_of rfl rfl rfl rfl) rfl (ltb rfl) ?_   -- t49 = load 52 t48
                refine run_off (on_of rfl rfl rfl rfl) rfl (ltb rfl) ?_   -- t50 = call {value (func 49), [t45, t49], argTypes := #[85, 52] }
                refine run_pu rfl (pick_step rfl rfl rfl) rfl (ltb rfl) ?_   -- t51 = pick t44 t50 (const (bool false))
                refine run_pu rfl (move_step (.inl rfl) rfl) rfl (ltb rfl) ?_   -- t52 = move t51
                refine run_off (on_of rfl rfl rfl rfl) rfl (ltb rfl) ?_   -- t53 = move t0
                refine run_off (on_of rfl rfl rfl rfl) rfl (ltb rfl) ?_   -- t54 = fieldAddr 52 t3 2
                refine run_off (on_of rfl rfl rfl rfl) rfl (ltb rfl) ?_   -- t55 = load 50 t54
                refine run_off (on_of rfl rfl rfl rfl) rfl (ltb rfl) ?_   -- t56 = indexAddr 50 t55 1
                refine run_off (on_of rfl rfl rfl rfl) rfl (ltb rfl) ?_   -- t57 = load 52 t56
                refine run_off (on_of rfl rfl rfl rfl) rfl (ltb rfl) ?_   -- t58 = call {value (func 49), [t53, t57], argTypes := #[85, 52] }
                refine run_pu rfl (pick_step rfl rfl rfl) rfl (ltb rfl) ?_   -- t59 = pick t52 t58 (const (bool false))
                refine run_pu rfl (move_step (.inr rfl) rfl) rfl (ltb rfl) ?_   -- t4 = assign t59
                refine run_ops_nil ?_
                refine run_ret_to ?_
                refine fin_ret hG rfl rfl rfl ⟨_, lookO (left - 1) om, rfl, rfl, rfl, by rw [hf, Bool.and_false]; rfl, left - 1, rfl, by omega, by omega, fun q1 q2 => by rw [hf] at q2; cases q2⟩
            · have hn : ¬ n = 0 := by simpa using hb1
              have hf : T.fmok = false := by rw [hty, decide_eq_false hn]; rfl
              refine run_off (on_of rfl rfl rfl rfl) rfl (ltb rfl) ?_   -- t39 = fieldAddr 52 t3 2
              refine run_off (on_of rfl rfl rfl rfl) rfl (ltb rfl) ?_   -- t40 = load 50 t39
              refine run_off (on_of rfl rfl rfl rfl) rfl (ltb rfl) ?_   -- t41 = call {builtin len, [t40], argTypes := #[50] }
              refine run_off (on_of rfl rfl rfl rfl) rfl (ltb rfl) ?_   -- t42 = binOp eql 3 t41 2 3
              refine run_pu rfl (pick_step rfl rfl rfl) rfl (ltb rfl) ?_   -- t43 = pick t38 t42 (const (bool false))
              refine run_pu rfl (move_step (.inl rfl) rfl) rfl (ltb rfl) ?_   -- t44 = move t43
              refine run_off (on_of rfl rfl rfl rfl) rfl (ltb rfl) ?_   -- t45 = move t0
              refine run_off (on_of rfl rfl rfl rfl) rfl (ltb rfl) ?_   -- t46 = fieldAddr 52 t3 2
              refine run_off (on_of rfl rfl rfl rfl) rfl (ltb rfl) ?_   -- t47 = load 50 t46
              refine run_off (on_of rfl rfl rfl rfl) rfl (ltb rfl) ?_   -- t48 = indexAddr 50 t47 0
              refine run_off (on_of rfl rfl rfl rfl) rfl (ltb rfl) ?_   -- t49 = load 52 t48
              refine run_off (on_of rfl rfl rfl rfl) rfl (ltb rfl) ?_   -- t50 = call {value (func 49), [t45, t49], argTypes := #[85, 52] }
              refine run_pu rfl (pick_step rfl rfl rfl) rfl (ltb rfl) ?_   -- t51 = pick t44 t50 (const (bool false))
              refine run_pu rfl (move_step (.inl rfl) rfl) rfl (ltb rfl) ?_   -- t52 = move t51
              refine run_off (on_of rfl rfl rfl rfl) rfl (ltb rfl) ?_   -- t53 = move t0
              refine run_off (on_of rfl rfl rfl rfl) rfl (ltb rfl) ?_   -- t54 = fieldAddr 52 t3 2
              refine run_off (on_of rfl rfl rfl rfl) rfl (ltb rfl) ?_   -- t55 = load 50 t54
              refine run_off (on_of rfl rfl rfl rfl) rfl (ltb rfl) ?_   -- t56 = indexAddr 50 t55 1
              refine run_off (on_of rfl rfl rfl rfl) rfl (ltb rfl) ?_   -- t57 = load 52 t56
              refine run_off (on_of rfl rfl rfl rfl) rfl (ltb rfl) ?_   -- t58 = call {value (func 49), [t53, t57], argTypes := #[85, 52] }
              refine run_pu rfl (pick_step rfl rfl rfl) rfl (ltb rfl) ?_   -- t59 = pick t52 t58 (const (bool false))
              refine run_pu rfl (move_step (.inr rfl) rfl) rfl (ltb rfl) ?_   -- t4 = assign t59
              refine run_ops_nil ?_
              refine run_ret_to ?_
              refine fin_ret hG rfl rfl rfl ⟨_, lookO (left - 1) om, rfl, rfl, rfl, by rw [hf, Bool.and_false]; rfl, left - 1, rfl, by omega, by omega, fun q1 q2 => by rw [hf] at q2; cases q2⟩
          · have hk2 := of_decide_eq_false hb
            rw [if_neg hk2] at hty
            refine run_skip ?_
            refine run_blk ?_   -- 0
            refine run_seq ?_
            refine run_region ?_
            refine run_pu rfl (move_step (.inr rfl) rfl) rfl (ltb rfl) ?_   -- t4 = assign (const (bool false))
            refine run_ops_nil ?_
            refine run_ret_to ?_
            refine fin_ret hG rfl rfl rfl ⟨_, lookO (left - 1) om, rfl, rfl, rfl, by rw [hty, Bool.and_false]; rfl, left - 1, rfl, by omega, by omega, fun q1 q2 => by rw [hty] at q2; cases q2⟩

theorem form_ok (t : LF) : FmOK t := by
  induction t using LF.ind with
  | _ k n tok f ks ih => exact form_of ih

set_option maxRecDepth 100000 in
theorem implFormOK_ok (t : LF) (hsm : t.er.sm) : ∀ O tk, ACalls Go.Proofs.Try.prog 22 [.agg t.cells] O tk (RetN O (.bool (decide (t.er.size ≤ 150) && t.er.fmok)) tk) := by
  intro O tk
  have h1 := form_ok t hsm
  obtain ⟨k, n, tok, f, ks⟩ := t
  generalize hT : (LF.mk k n tok f ks).er = T at *
  refine acalls_of_run Go.Proofs.Try.func22 rfl rfl [] [] (Bor.nil _) [(0, .agg [.int .i64 k, .int .i64 n, .imm tok 3 f (fcellss ks)])]
    (.cons (.agg _) (.nil _)) (leb rfl) (fun _ h => by cases h) (fun S0 hO htk hfz => ?_)
  refine run_seq ?_
  refine run_region ?_
  refine run_op rfl (box_step (d := 1) rfl rfl rfl rfl rfl) rfl (ltb rfl) ?_   -- t1 = box 52 t0
  refine run_pu rfl (move_step (.inr rfl) rfl) rfl (ltb rfl) ?_   -- t2 = assign (const (bool false))
  refine run_ops_nil ?_
  refine run_seq ?_
  refine run_draw [] (n := 4) mixed rfl (fun _ h => absurd h List.not_mem_nil) ?_   -- DRAW region 1
  refine AAny.take (i := 1) rfl (by kernel_rfl) (by kernel_rfl) (by kernel_rfl) rfl rfl (ltb rfl) (aload_rd hG rfl rfl rfl (by simp [ldok])) ?_   -- t4 = load 52 t1  []
  refine AAny.callBox (i := 0) (ob := lookO 150 false) (by kernel_rfl) rfl rfl rfl rfl (ltb rfl) rfl rfl rfl rfl (fresh_ok _ _) rfl (fun out O' tk' h => h) ?_
  refine AAny.one (i := 2) (by kernel_rfl) (AOp.call rfl rfl rfl rfl (ltb rfl) rfl rfl rfl (fun _ h => absurd h List.not_mem_nil) (fun x h => h) (h1 (.loc 3) 150 false _ _ (by omega) (by omega) rfl) (callK_retU_loc (k := 3) (o := lookO 150 false) rfl (fun v o' h => ?_)))
  obtain ⟨rfl, l1, rfl, _⟩ := h
  refine AAny.take (i := 3) rfl (by kernel_rfl) (by kernel_rfl) (by kernel_rfl) rfl rfl (ltb rfl) ((move_step (.inr rfl) rfl).rd _) ?_   -- t2 = assign t5  [2d 2c 0p 1p 2p]
  refine AAny.done (by kernel_rfl) ?_
  refine run_ret_to ?_
  refine fin_ret hG rfl rfl rfl ⟨rfl, ?_, rfl⟩
  rw [show decide (T.size ≤ 150) = decide ((T.size : Int) ≤ 150) from decide_eq_decide.2 (by omega)]
  rfl

end Go.Am.Ytklchmkanhpeeaa
