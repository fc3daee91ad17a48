/- The contracts of szForm, szFormS. -/
import Derived.Test.YtklchmkanhpeeaaSz
import Derived.Test.YtklchmkanhpeeaaFTree
namespace Go.Am.Ytklchmkanhpeeaa
open Go Go.Am

theorem load_lForm {H : Heap} (t : LF) : aload Γ H 47 (.cptr t.cells) = some (.agg t.cells) := by
  cases t; rfl
theorem load_iForm {H : Heap} (t : LF) : aload Γ H 52 (.cptr t.cells) = some (.agg t.cells) := by
  cases t; rfl
theorem argok_Form (t : LF) {l : List AV} (h : l.all argok = true) : (AV.agg t.cells :: l).all argok = true := by
  cases t
  simpa [argok, LF.cells, cl] using h

def SzFormOK (t : LF) : Prop := t.er.ok → ∀ (left : Int) O tk, 0 ≤ left → left ≤ 1048576 →
  ACalls Go.Proofs.Try.prog 19 [.agg t.cells, .int .i64 left] O tk (Ret1 O tk (fun v => v = .int .i64 (t.er.sz left)))

set_option maxRecDepth 100000 in
theorem szForm_of {k n : Int} {tok : Nat} {f : Bool} {ks : List LF}
    (hS : ∀ (left : Int) O tk, 0 ≤ left → left ≤ 1048576 → ACalls Go.Proofs.Try.prog 45 [.imm tok 3 f (fcellss ks), .int .i64 left] O tk (Ret1 O tk (fun v => v = .int .i64 (fszS (fers ks) left)))) :
    SzFormOK (.mk k n tok f ks) := by
  intro hok left O tk h0 h1
  refine acalls_of_run Go.Proofs.Try.func19 rfl rfl [] [] (Bor.nil _) [(0, .agg [.int .i64 k, .int .i64 n, .imm tok 3 f (fcellss ks)]), (1, .int .i64 left)]
    (.cons (.agg _) (.cons (ent0 rfl) (.nil _))) (leb rfl) (fun _ h => by cases h) (fun S0 hO htk hfz => ?_)
  refine run_seq ?_
  refine run_region ?_
  refine run_op rfl (box_step (d := 2) rfl rfl rfl rfl rfl) rfl (ltb rfl) ?_   -- t2 = box 47 t0
  refine run_pu rfl (move_step (.inr rfl) rfl) rfl (ltb rfl) ?_   -- t4 = assign 0
  refine run_ops_nil ?_
  refine run_seq ?_
  refine run_region ?_
  refine run_pu rfl (fieldAddr_step hG rfl rfl rfl rfl rfl) rfl (ltb rfl) ?_   -- t5 = fieldAddr 47 t2 2
  refine run_rd rfl (aload_rd hG rfl rfl rfl (by simp [ldok])) rfl (ltb rfl) ?_   -- t6 = load 45 t5
  refine run_pu rfl (move_step (.inl rfl) rfl) rfl (ltb rfl) ?_   -- t7 = move t1
  refine run_call rfl rfl rfl (ltb rfl) rfl rfl rfl (fun _ h => absurd h List.not_mem_nil) (hS left _ _ (by omega) (by omega)) (callK_ret1 fun v hv => ?_)
  subst hv
  refine run_pu rfl (move_step (.inr rfl) rfl) rfl (ltb rfl) ?_   -- t1 = assign t8
  refine run_ops_nil ?_
  refine run_seq ?_
  refine run_seq ?_
  refine run_region ?_
  refine run_pu rfl (move_step (.inl rfl) rfl) rfl (ltb rfl) ?_   -- t9 = move t1
  refine run_pu rfl (abin_step rfl rfl rfl rfl (fun _ h => by cases h)) rfl (ltb rfl) ?_   -- t10 = binOp lss 3 t9 0 3
  refine run_ops_nil ?_
  have hr := fszS_range (fers ks) left (by omega)
  refine run_if rfl rfl (fun hb2 => ?_) (fun hb2 => ?_)
  · have hb2 := of_decide_eq_true hb2
    refine run_seq ?_
    refine run_region ?_
    refine run_pu rfl (move_step (.inr rfl) rfl) rfl (ltb rfl) ?_   -- t4 = assign -1
    refine run_ops_nil ?_
    refine run_ret_to ?_
    refine fin_ret hG rfl rfl rfl ⟨rfl, _, rfl, rfl, ?_⟩
    simp [LF.er, fsz_eq, outOf]
    omega
  · refine run_skip ?_
    refine run_seq ?_
    refine run_region ?_
    refine run_pu rfl (move_step (.inl rfl) rfl) rfl (ltb rfl) ?_   -- t11 = move t1
    refine run_pu rfl (move_step (.inr rfl) rfl) rfl (ltb rfl) ?_   -- t4 = assign t11
    refine run_ops_nil ?_
    refine run_ret_to ?_
    refine fin_ret hG rfl rfl rfl ⟨rfl, _, rfl, rfl, ?_⟩
    simp [LF.er, fsz_eq, outOf]

set_option maxRecDepth 100000 in
theorem szFormS_of {ks : List LF} (hk : ∀ t ∈ ks, SzFormOK t) (hok : ∀ t ∈ ks, t.er.ok) (hl : ks.length ≤ 9223372036854775807) (tok : Nat) (f : Bool) :
    ∀ (left : Int) O tk, 0 ≤ left → left ≤ 1048576 → ACalls Go.Proofs.Try.prog 45 [.imm tok 3 f (fcellss ks), .int .i64 left] O tk (Ret1 O tk (fun v => v = .int .i64 (fszS (fers ks) left))) := by
  intro left O tk h0 h1
  have hlen := fcellss_length ks
  refine acalls_of_run Go.Proofs.Try.func45 rfl rfl [] [] (Bor.nil _) [(0, .imm tok 3 f (fcellss ks)), (1, .int .i64 left)]
    (.cons (ent0 rfl) (.cons (ent0 rfl) (.nil _))) (leb rfl) (fun _ h => by cases h) (fun S0 hO htk hfz => ?_)
  refine run_seq ?_
  refine run_region ?_
  refine run_pu rfl (move_step (.inr rfl) rfl) rfl (ltb rfl) ?_   -- t4 = assign 0
  refine run_ops_nil ?_
  refine run_seq ?_
  refine run_region ?_
  refine run_pu rfl (move_step (.inl rfl) rfl) rfl (ltb rfl) ?_   -- t6 = move t1
  refine run_pu rfl (move_step (.inl rfl) rfl) rfl (ltb rfl) ?_   -- t7 = move t0
  refine run_pu rfl (len_step hG rfl rfl rfl rfl) rfl (ltb rfl) ?_   -- t8 = call {builtin len, [t7], argTypes := #[23] }
  refine run_pu rfl (abin_step rfl rfl rfl rfl (fun _ h => by cases h)) rfl (ltb rfl) ?_   -- t9 = binOp sub 3 t6 t8 3
  refine run_pu rfl (move_step (.inr rfl) rfl) rfl (ltb rfl) ?_   -- t1 = assign t9
  refine run_ops_nil ?_
  rw [show IntKind.i64.wrap (left - ↑(fcellss ks).length) = left - ks.length by rw [hlen]; exact IntWalk.i64_in _ (by omega)]
  refine run_seq ?_
  refine run_seq ?_
  refine run_region ?_
  refine run_pu rfl (move_step (.inl rfl) rfl) rfl (ltb rfl) ?_   -- t10 = move t1
  refine run_pu rfl (abin_step rfl rfl rfl rfl (fun _ h => by cases h)) rfl (ltb rfl) ?_   -- t11 = binOp lss 3 t10 0 3
  refine run_ops_nil ?_
  refine run_if rfl rfl (fun hb => ?_) (fun hb => ?_)
  · have hb := of_decide_eq_true hb
    refine run_seq ?_
    refine run_region ?_
    refine run_pu rfl (move_step (.inr rfl) rfl) rfl (ltb rfl) ?_   -- t4 = assign -1
    refine run_ops_nil ?_
    refine run_ret_to ?_
    refine fin_ret hG rfl rfl rfl ⟨rfl, _, rfl, rfl, ?_⟩
    simp [fszS, hb, outOf, fers_length]
  · have hb := of_decide_eq_false hb
    refine run_skip ?_
    refine run_seq ?_
    refine run_seq ?_
    refine run_region ?_
    refine run_pu rfl (move_step (.inr rfl) rfl) rfl (ltb rfl) ?_   -- t5 = assign 0
    refine run_ops_nil ?_
    refine run_block ?_   -- 0
    refine run_rounds (fun m σ => ∃ i l, i + m = ks.length ∧ 0 ≤ l ∧ l ≤ 1048576 ∧ fszS (fers ks) left = fszs ((fers ks).drop i) l ∧
      σ = ⟨[(5, .int .i64 (i : Nat)), (1, .int .i64 l), (0, .imm tok 3 f (fcellss ks))], [], [], O, tk⟩) ks.length (Sub.env [(5, .int .i64 (0 : Nat)), (1, .int .i64 (left - ks.length)), (0, .imm tok 3 f (fcellss ks))] ⟨rfl, rfl, rfl, trivial⟩)
      ⟨0, left - ks.length, by omega, by omega, by omega, by simp [fszS, fers_length, hb], rfl⟩ (fun m σ ⟨i, l, hi, hl0, hl1, hs, hσ⟩ => ?_)
    subst hσ
    refine run_seq ?_
    refine run_seq ?_
    refine run_region ?_
    refine run_pu rfl (move_step (.inl rfl) rfl) rfl (ltb rfl) ?_   -- t12 = move t5
    refine run_pu rfl (move_step (.inl rfl) rfl) rfl (ltb rfl) ?_   -- t13 = move t0
    refine run_pu rfl (len_step hG rfl rfl rfl rfl) rfl (ltb rfl) ?_   -- t14 = len
    refine run_pu rfl (abin_step rfl rfl rfl rfl (fun _ h => by cases h)) rfl (ltb rfl) ?_   -- t15 = binOp lss 3 t12 t14 3
    refine run_ops_nil ?_
    refine run_if rfl rfl (fun hb2 => ?_) (fun hb2 => ?_)
    · have hb2 := of_decide_eq_true hb2
      rw [hlen] at hb2
      have hil : i < ks.length := by omega
      have hget : ks[i]? = some ks[i] := List.getElem?_eq_getElem hil
      have hmem : ks[i] ∈ ks := List.getElem_mem hil
      have hdrop : (fers ks).drop i = ks[i].er :: (fers ks).drop (i + 1) := by
        rw [List.drop_eq_getElem_cons (by rw [fers_length]; exact hil)]
        simp [fers_map]
      rw [hdrop] at hs
      simp only [fszs] at hs
      have hr := fsz_range ks[i].er l hl0
      refine run_skip ?_
      refine run_seq ?_
      refine run_block ?_   -- 1
      refine run_seq ?_
      refine run_region ?_
      refine run_pu rfl (move_step (.inl rfl) rfl) rfl (ltb rfl) ?_   -- t18 = move t0
      refine run_pu rfl (move_step (.inl rfl) rfl) rfl (ltb rfl) ?_   -- t19 = move t5
      refine run_pu rfl (indexAddr_step hG rfl rfl rfl rfl rfl rfl rfl (aindex_imm (fcellss_get hget))) rfl (ltb rfl) ?_   -- t20 = indexAddr 23 t18 t19
      refine run_rd rfl (aload_rd hG rfl rfl (load_lForm ks[i]) (by simp [ldok])) rfl (ltb rfl) ?_   -- t21 = load 25 t20
      refine run_pu rfl (move_step (.inl rfl) rfl) rfl (ltb rfl) ?_   -- t22 = move t1
      refine run_call rfl rfl rfl (ltb rfl) rfl rfl (argok_Form ks[i] rfl) (fun _ h => absurd h List.not_mem_nil) (hk _ hmem (hok _ hmem) l _ _ hl0 hl1) (callK_ret1 fun v hv => ?_)   -- t23 = call
      subst hv
      refine run_pu rfl (move_step (.inr rfl) rfl) rfl (ltb rfl) ?_   -- t1 = assign t23
      refine run_ops_nil ?_
      refine run_seq ?_
      refine run_region ?_
      refine run_pu rfl (move_step (.inl rfl) rfl) rfl (ltb rfl) ?_   -- t24 = move t1
      refine run_pu rfl (abin_step rfl rfl rfl rfl (fun _ h => by cases h)) rfl (ltb rfl) ?_   -- t25 = binOp lss 3 t24 0 3
      refine run_ops_nil ?_
      refine run_if rfl rfl (fun hb3 => ?_) (fun hb3 => ?_)
      · have hb3 := of_decide_eq_true hb3
        refine run_seq ?_
        refine run_region ?_
        refine run_pu rfl (move_step (.inr rfl) rfl) rfl (ltb rfl) ?_   -- t4 = assign -1
        refine run_ops_nil ?_
        refine run_ret_to ?_
        refine fin_ret hG rfl rfl rfl ⟨rfl, _, rfl, rfl, ?_⟩
        simp [outOf, hs, hb3]
      · have hb3 := of_decide_eq_false hb3
        refine run_skip ?_
        refine run_blk ?_   -- 1
        refine run_region ?_
        refine run_pu rfl (move_step (.inl rfl) rfl) rfl (ltb rfl) ?_   -- t16 = move t5
        refine run_pu rfl (abin_step rfl rfl rfl rfl (fun _ h => by cases h)) rfl (ltb rfl) ?_   -- t17 = binOp add 3 t16 1 3
        refine run_pu rfl (move_step (.inr rfl) rfl) rfl (ltb rfl) ?_   -- t5 = assign t17
        refine run_ops_nil ?_
        rw [show IntKind.i64.wrap ((i : Int) + 1) = ((i + 1 : Nat) : Int) by rw [IntWalk.i64_in _ (by omega)]; rfl]
        rw [if_neg hb3] at hs
        exact run_loop_end ⟨m - 1, _, by omega, ⟨i + 1, ks[i].er.sz l, by omega, by omega, by omega, hs, rfl⟩, Sub.env _ ⟨rfl, rfl, rfl, trivial⟩⟩
    · have hb2 := of_decide_eq_false hb2
      rw [hlen] at hb2
      have hi' : i = ks.length := by omega
      refine run_exit_to rfl ?_   -- 0
      refine run_seq ?_
      refine run_region ?_
      refine run_pu rfl (move_step (.inl rfl) rfl) rfl (ltb rfl) ?_   -- t26 = move t1
      refine run_pu rfl (move_step (.inr rfl) rfl) rfl (ltb rfl) ?_   -- t4 = assign t26
      refine run_ops_nil ?_
      refine run_ret_to ?_
      refine fin_ret hG rfl rfl rfl ⟨rfl, _, rfl, rfl, ?_⟩
      rw [List.drop_of_length_le (by rw [fers_length]; omega)] at hs
      simp [outOf, hs, fszs]

theorem szForm_ok (t : LF) : SzFormOK t := by
  induction t using LF.ind with
  | _ k n tok f ks ih =>
    intro hok
    have hk := fer_ok hok
    have hl : ks.length ≤ 9223372036854775807 := by unfold LF.er at hok; have := (fok_kids hok).2.2.1; rwa [fers_length] at this
    exact szForm_of (szFormS_of ih hk hl tok f) hok

end Go.Am.Ytklchmkanhpeeaa
