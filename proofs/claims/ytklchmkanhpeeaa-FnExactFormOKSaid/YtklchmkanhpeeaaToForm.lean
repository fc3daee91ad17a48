/- The contracts of toForm, toFormS: a copy in new memory. -/
import Derived.Test.YtklchmkanhpeeaaSzForm
import Derived.Test.YtklchmkanhpeeaaToTree
namespace Go.Am.Ytklchmkanhpeeaa
open Go Go.Am

def ToFormOK (t : LF) : Prop := t.er.sm → ∀ O tk, ACalls Go.Proofs.Try.prog 21 [.agg t.cells] O tk (RetN O (.agg (flab t.er tk).1.cells) (flab t.er tk).2)

set_option maxRecDepth 100000 in
theorem toForm_of {k n : Int} {tok : Nat} {f : Bool} {ks : List LF}
    (hS : ∀ O tk, ACalls Go.Proofs.Try.prog 48 [.imm tok 3 f (fcellss ks)] O tk (RetN O (.imm (flabs (fers ks) tk).2 3 false (fcellss (flabs (fers ks) tk).1)) ((flabs (fers ks) tk).2 + 1))) :
    ToFormOK (.mk k n tok f ks) := by
  intro hsm O tk
  refine acalls_of_run Go.Proofs.Try.func21 rfl rfl [] [] (Bor.nil _) [(0, .agg [.int .i64 k, .int .i64 n, .imm tok 3 f (fcellss ks)])]
    (.cons (.agg _) (.nil _)) (leb rfl) (fun _ h => by cases h) (fun S0 hO htk hfz => ?_)
  refine run_seq ?_
  refine run_region ?_
  refine run_op rfl (box_step (d := 1) rfl rfl rfl rfl rfl) rfl (ltb rfl) ?_   -- t1 = box 47 t0
  refine run_op rfl (alloc_step (d := 2) hG rfl rfl rfl) rfl (ltb rfl) ?_   -- t2 = alloc 52
  refine run_ops_nil ?_
  refine run_seq ?_
  refine run_region ?_
  refine run_op rfl (alloc_step (d := 3) hG rfl rfl rfl) rfl (ltb rfl) ?_   -- t3 = alloc 52
  refine run_ops_nil ?_
  refine run_seq ?_
  refine run_region ?_
  refine run_pu rfl (fieldAddr_step hG rfl rfl rfl rfl rfl) rfl (ltb rfl) ?_   -- t4 = fieldAddr 47 t1 0
  refine run_rd rfl (aload_rd hG rfl rfl rfl (by simp [ldok])) rfl (ltb rfl) ?_   -- t5 = load 3 t4
  refine run_pu rfl (fieldAddr_step hG rfl rfl rfl rfl rfl) rfl (ltb rfl) ?_   -- t6 = fieldAddr 52 t3 0
  refine run_op0 rfl (store_step hG rfl rfl rfl rfl rfl rfl rfl rfl) rfl ?_   -- none = store 3 t6 t5
  refine run_ops_nil ?_
  refine run_seq ?_
  refine run_region ?_
  refine run_pu rfl (fieldAddr_step hG rfl rfl rfl rfl rfl) rfl (ltb rfl) ?_   -- t7 = fieldAddr 47 t1 1
  refine run_rd rfl (aload_rd hG rfl rfl rfl (by simp [ldok])) rfl (ltb rfl) ?_   -- t8 = load 3 t7
  refine run_pu rfl (fieldAddr_step hG rfl rfl rfl rfl rfl) rfl (ltb rfl) ?_   -- t9 = fieldAddr 52 t3 1
  refine run_op0 rfl (store_step hG rfl rfl rfl rfl rfl rfl rfl rfl) rfl ?_   -- none = store 3 t9 t8
  refine run_ops_nil ?_
  refine run_seq ?_
  refine run_region ?_
  refine run_pu rfl (fieldAddr_step hG rfl rfl rfl rfl rfl) rfl (ltb rfl) ?_   -- t10 = fieldAddr 47 t1 2
  refine run_rd rfl (aload_rd hG rfl rfl rfl (by simp [ldok])) rfl (ltb rfl) ?_   -- t11 = load 45 t10
  refine run_call rfl rfl rfl (ltb rfl) rfl rfl rfl (fun _ h => absurd h List.not_mem_nil) (hS _ _) (callK_retN ?_)
  refine run_pu rfl (fieldAddr_step hG rfl rfl rfl rfl rfl) rfl (ltb rfl) ?_   -- t13 = fieldAddr 52 t3 2
  refine run_op0 rfl (store_step hG rfl rfl rfl rfl rfl rfl rfl rfl) rfl ?_   -- none = store 50 t13 t12
  refine run_ops_nil ?_
  refine run_seq ?_
  refine run_region ?_
  refine run_rd rfl (aload_rd hG rfl rfl rfl (by simp [ldok])) rfl (ltb rfl) ?_   -- t14 = load 52 t3
  refine run_op0 rfl (store_step hG rfl rfl rfl rfl rfl rfl rfl rfl) rfl ?_   -- none = store 52 t2 t14
  refine run_ops_nil ?_
  refine run_ret_to ?_
  exact fin_ret hG rfl rfl rfl ⟨rfl, rfl, rfl⟩

set_option maxRecDepth 100000 in
theorem toFormS_of {ks : List LF} (hk : ∀ t ∈ ks, ToFormOK t) (hok : ∀ t ∈ ks, t.er.sm) (hl : ks.length ≤ 1048576) (tok : Nat) (f : Bool) :
    ∀ O tk, ACalls Go.Proofs.Try.prog 48 [.imm tok 3 f (fcellss ks)] O tk (RetN O (.imm (flabs (fers ks) tk).2 3 false (fcellss (flabs (fers ks) tk).1)) ((flabs (fers ks) tk).2 + 1)) := by
  intro O tk
  have hlen := fcellss_length ks
  refine acalls_of_run Go.Proofs.Try.func48 rfl rfl [] [] (Bor.nil _) [(0, .imm tok 3 f (fcellss ks))]
    (.cons (ent0 rfl) (.nil _)) (leb rfl) (fun _ h => by cases h) (fun S0 hO htk hfz => ?_)
  refine run_seq ?_
  refine run_region ?_
  refine run_pu rfl (move_step (.inr rfl) rfl) rfl (ltb rfl) ?_   -- t2 = assign (const (slice none 0 0))
  refine run_ops_nil ?_
  refine run_seq ?_
  refine run_region ?_
  refine run_pu rfl (move_step (.inl rfl) rfl) rfl (ltb rfl) ?_   -- t5 = move t0
  refine run_pu rfl (len_step hG rfl rfl rfl rfl) rfl (ltb rfl) ?_   -- t6 = call {builtin len, [t5], argTypes := #[45] }
  rw [hlen]
  refine run_op rfl (makeSlice_step (d := 7) hG rfl rfl rfl rfl rfl rfl rfl (by show 40 * ks.length ≤ _; omega) (by have : maxLen = 9223372036854775807 := rfl; omega)) rfl (ltb rfl) ?_   -- t7 = makeSlice
  refine run_pu rfl (move_step (.inr rfl) rfl) rfl (ltb rfl) ?_   -- t3 = assign t7
  refine run_ops_nil ?_
  refine run_seq ?_
  refine run_seq ?_
  refine run_region ?_
  refine run_pu rfl (move_step (.inr rfl) rfl) rfl (ltb rfl) ?_   -- t4 = assign 0
  refine run_ops_nil ?_
  refine run_block ?_   -- 0
  refine run_rounds (fun m σ => ∃ i, i + m = ks.length ∧
      σ = ⟨[(4, .int .i64 (i : Nat)), (3, .osl (.loc 7)), (0, .imm tok 3 f (fcellss ks))],
        [(7, ⟨52, 3, false, fcellss (flabs ((fers ks).take i) tk).1 ++ List.replicate m ti52.zero⟩)], [], O, (flabs ((fers ks).take i) tk).2⟩) ks.length
    (Sub.env [(4, .int .i64 (0 : Nat)), (3, .osl (.loc 7)), (0, .imm tok 3 f (fcellss ks))] ⟨rfl, rfl, rfl, trivial⟩)
    ⟨0, by omega, rfl⟩ (fun m σ ⟨i, hi, hσ⟩ => ?_)
  subst hσ
  refine run_seq ?_
  refine run_seq ?_
  refine run_region ?_
  refine run_pu rfl (move_step (.inl rfl) rfl) rfl (ltb rfl) ?_   -- t8 = move t4
  refine run_pu rfl (move_step (.inl rfl) rfl) rfl (ltb rfl) ?_   -- t9 = move t0
  refine run_pu rfl (len_step hG rfl rfl rfl rfl) rfl (ltb rfl) ?_   -- t10 = call {builtin len, [t9], argTypes := #[45] }
  refine run_pu rfl (abin_step rfl rfl rfl rfl (fun _ h => by cases h)) rfl (ltb rfl) ?_   -- t11 = binOp lss 3 t8 t10 3
  refine run_ops_nil ?_
  refine run_if rfl rfl (fun hb2 => ?_) (fun hb2 => ?_)
  · have hb2 := of_decide_eq_true hb2
    rw [hlen] at hb2
    have hil : i < ks.length := by omega
    obtain ⟨m, rfl⟩ : ∃ m', m = m' + 1 := ⟨m - 1, by omega⟩
    have hget : ks[i]? = some ks[i] := List.getElem?_eq_getElem hil
    have hmem : ks[i] ∈ ks := List.getElem_mem hil
    have htake : (fers ks).take (i + 1) = (fers ks).take i ++ [ks[i].er] := by
      rw [List.take_add_one, show (fers ks)[i]? = some ks[i].er by simp [fers_map, hget]]; rfl
    have hdl : (fcellss (flabs ((fers ks).take i) tk).1).length = i := by rw [fcellss_length, flabs_length]; simp [fers_length]; omega
    refine run_skip ?_
    refine run_seq ?_
    refine run_block ?_   -- 1
    refine run_region ?_
    refine run_pu rfl (move_step (.inl rfl) rfl) rfl (ltb rfl) ?_   -- t14 = move t3
    refine run_pu rfl (move_step (.inl rfl) rfl) rfl (ltb rfl) ?_   -- t15 = move t4
    refine run_pu rfl (move_step (.inl rfl) rfl) rfl (ltb rfl) ?_   -- t16 = move t0
    refine run_pu rfl (move_step (.inl rfl) rfl) rfl (ltb rfl) ?_   -- t17 = move t4
    refine run_pu rfl (indexAddr_step hG rfl rfl rfl rfl rfl rfl rfl (aindex_imm (fcellss_get hget))) rfl (ltb rfl) ?_   -- t18 = indexAddr 23 t16 t17
    refine run_rd rfl (aload_rd hG rfl rfl (load_lForm ks[i]) (by simp [ldok])) rfl (ltb rfl) ?_   -- t19 = load 25 t18
    refine run_call rfl rfl rfl (ltb rfl) rfl rfl (argok_Form ks[i] rfl) (fun _ h => absurd h List.not_mem_nil) (hk _ hmem (hok _ hmem) _ _) (callK_retN ?_)   -- t20 = call
    refine run_pu rfl (indexAddr_step hG rfl rfl rfl rfl rfl rfl (fun ob h => by cases h; rfl) (aindex_osl (o := ⟨52, 3, false, fcellss (flabs ((fers ks).take i) tk).1 ++ List.replicate (m + 1) ti52.zero⟩) rfl (by simp [hdl]))) rfl (ltb rfl) ?_   -- t21 = indexAddr 28 t14 t15
    refine run_op0 rfl (store_step hG rfl rfl rfl rfl rfl (fcells_length _) (fcells_d1 _) (astore_row rfl (e := ti52.zero) (by simp [hdl]) (fcells_length _) (fcells_force _) (fcells_cl _) (set_mid _ _ _ _ _ hdl))) rfl ?_   -- none = store 30 t21 t20
    refine run_ops_nil ?_
    refine run_blk ?_   -- 1
    refine run_region ?_
    refine run_pu rfl (move_step (.inl rfl) rfl) rfl (ltb rfl) ?_   -- t12 = move t4
    refine run_pu rfl (abin_step rfl rfl rfl rfl (fun _ h => by cases h)) rfl (ltb rfl) ?_   -- t13 = binOp add 3 t12 1 3
    refine run_pu rfl (move_step (.inr rfl) rfl) rfl (ltb rfl) ?_   -- t4 = assign t13
    refine run_ops_nil ?_
    rw [show IntKind.i64.wrap ((i : Int) + 1) = ((i + 1 : Nat) : Int) by rw [IntWalk.i64_in _ (by omega)]; rfl]
    refine run_loop_end ⟨m, _, by omega, ⟨i + 1, by omega, rfl⟩, ?_⟩
    rw [htake, flabs_snoc, fcellss_append]
    exact Sub.env _ ⟨rfl, rfl, rfl, trivial⟩
  · have hb2 := of_decide_eq_false hb2
    rw [hlen] at hb2
    have hi' : i = ks.length := by omega
    have hm : m = 0 := by omega
    subst hm
    subst hi'
    rw [List.take_of_length_le (by rw [fers_length]; omega)]
    refine run_exit_to rfl ?_   -- 0
    refine run_seq ?_
    refine run_region ?_
    refine run_pu rfl (move_step (.inl rfl) rfl) rfl (ltb rfl) ?_   -- t22 = move t3
    refine run_pu rfl (move_step (.inr rfl) rfl) rfl (ltb rfl) ?_   -- t2 = assign t22
    refine run_ops_nil ?_
    refine run_sub_code (Sub.freeze (k := 7) rfl rfl) ?_
    refine run_ret_to ?_
    refine fin_ret hG rfl rfl rfl ⟨rfl, ?_, rfl⟩
    simp only [List.replicate_zero, List.append_nil]
    rfl

theorem toForm_ok (t : LF) : ToFormOK t := by
  induction t using LF.ind with
  | _ k n tok f ks ih =>
    intro hsm
    have h := hsm
    unfold LF.er at h
    obtain ⟨h2, h3⟩ := fsm_kids h
    rw [fers_length] at h2
    exact toForm_of (toFormS_of ih (fun t ht => h3 _ (by rw [fers_map]; exact List.mem_map_of_mem ht)) h2 tok f) hsm

end Go.Am.Ytklchmkanhpeeaa
