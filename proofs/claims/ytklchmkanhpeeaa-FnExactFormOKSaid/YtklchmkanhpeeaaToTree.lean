/- The contracts of toTree, toTreeS: a copy in new memory. -/
import Derived.Test.YtklchmkanhpeeaaSz
namespace Go.Am.Ytklchmkanhpeeaa
open Go Go.Am

def ToTreeOK (t : LT) : Prop := t.er.sm → ∀ O tk, ACalls Go.Proofs.Try.prog 11 [.agg t.cells] O tk (RetN O (.agg (lab t.er tk).1.cells) (lab t.er tk).2)

set_option maxRecDepth 100000 in
theorem toTree_of {k n : Int} {s : ByteArray} {tok : Nat} {f : Bool} {ks : List LT}
    (hS : ∀ O tk, ACalls Go.Proofs.Try.prog 36 [.imm tok 4 f (cellss ks)] O tk (RetN O (.imm (labs (ers ks) tk).2 4 false (cellss (labs (ers ks) tk).1)) ((labs (ers ks) tk).2 + 1))) :
    ToTreeOK (.mk k n s tok f ks) := by
  intro hsm O tk
  refine acalls_of_run Go.Proofs.Try.func11 rfl rfl [] [] (Bor.nil _) [(0, .agg [.int .i64 k, .int .i64 n, .str s, .imm tok 4 f (cellss ks)])]
    (.cons (.agg _) (.nil _)) (leb rfl) (fun _ h => by cases h) (fun S0 hO htk hfz => ?_)
  refine run_seq ?_
  refine run_region ?_
  refine run_op rfl (box_step (d := 1) rfl rfl rfl rfl rfl) rfl (ltb rfl) ?_   -- t1 = box 25 t0
  refine run_op rfl (alloc_step (d := 2) hG rfl rfl rfl) rfl (ltb rfl) ?_   -- t2 = alloc 30
  refine run_ops_nil ?_
  refine run_seq ?_
  refine run_region ?_
  refine run_op rfl (alloc_step (d := 3) hG rfl rfl rfl) rfl (ltb rfl) ?_   -- t3 = alloc 30
  refine run_ops_nil ?_
  refine run_seq ?_
  refine run_region ?_
  refine run_pu rfl (fieldAddr_step hG rfl rfl rfl rfl rfl) rfl (ltb rfl) ?_   -- t4 = fieldAddr 25 t1 0
  refine run_rd rfl (aload_rd hG rfl rfl rfl (by simp [ldok])) rfl (ltb rfl) ?_   -- t5 = load 3 t4
  refine run_pu rfl (fieldAddr_step hG rfl rfl rfl rfl rfl) rfl (ltb rfl) ?_   -- t6 = fieldAddr 30 t3 0
  refine run_op0 rfl (store_step hG rfl rfl rfl rfl rfl rfl rfl rfl) rfl ?_   -- none = store 3 t6 t5
  refine run_ops_nil ?_
  refine run_seq ?_
  refine run_region ?_
  refine run_pu rfl (fieldAddr_step hG rfl rfl rfl rfl rfl) rfl (ltb rfl) ?_   -- t7 = fieldAddr 25 t1 1
  refine run_rd rfl (aload_rd hG rfl rfl rfl (by simp [ldok])) rfl (ltb rfl) ?_   -- t8 = load 3 t7
  refine run_pu rfl (fieldAddr_step hG rfl rfl rfl rfl rfl) rfl (ltb rfl) ?_   -- t9 = fieldAddr 30 t3 1
  refine run_op0 rfl (store_step hG rfl rfl rfl rfl rfl rfl rfl rfl) rfl ?_   -- none = store 3 t9 t8
  refine run_ops_nil ?_
  refine run_seq ?_
  refine run_region ?_
  refine run_pu rfl (fieldAddr_step hG rfl rfl rfl rfl rfl) rfl (ltb rfl) ?_   -- t10 = fieldAddr 25 t1 2
  refine run_rd rfl (aload_rd hG rfl rfl rfl (by simp [ldok])) rfl (ltb rfl) ?_   -- t11 = load 9 t10
  refine run_pu rfl (fieldAddr_step hG rfl rfl rfl rfl rfl) rfl (ltb rfl) ?_   -- t12 = fieldAddr 30 t3 2
  refine run_op0 rfl (store_step hG rfl rfl rfl rfl rfl rfl rfl rfl) rfl ?_   -- none = store 9 t12 t11
  refine run_ops_nil ?_
  refine run_seq ?_
  refine run_region ?_
  refine run_pu rfl (fieldAddr_step hG rfl rfl rfl rfl rfl) rfl (ltb rfl) ?_   -- t13 = fieldAddr 25 t1 3
  refine run_rd rfl (aload_rd hG rfl rfl rfl (by simp [ldok])) rfl (ltb rfl) ?_   -- t14 = load 23 t13
  refine run_call rfl rfl rfl (ltb rfl) rfl rfl rfl (fun _ h => absurd h List.not_mem_nil) (hS _ _) (callK_retN ?_)
  refine run_pu rfl (fieldAddr_step hG rfl rfl rfl rfl rfl) rfl (ltb rfl) ?_   -- t16 = fieldAddr 30 t3 3
  refine run_op0 rfl (store_step hG rfl rfl rfl rfl rfl rfl rfl rfl) rfl ?_   -- none = store 28 t16 t15
  refine run_ops_nil ?_
  refine run_seq ?_
  refine run_region ?_
  refine run_rd rfl (aload_rd hG rfl rfl rfl (by simp [ldok])) rfl (ltb rfl) ?_   -- t17 = load 30 t3
  refine run_op0 rfl (store_step hG rfl rfl rfl rfl rfl rfl rfl rfl) rfl ?_   -- none = store 30 t2 t17
  refine run_ops_nil ?_
  refine run_ret_to ?_
  exact fin_ret hG rfl rfl rfl ⟨rfl, rfl, rfl⟩

theorem set_mid {α : Type} (a : List α) (x y : α) (n m : Nat) (h : a.length = n) : (a ++ List.replicate (m + 1) x).set n y = (a ++ [y]) ++ List.replicate m x := by
  subst h
  rw [List.set_append_right _ _ (Nat.le_refl _)]
  simp [List.replicate_succ]

set_option maxRecDepth 100000 in
theorem toTreeS_of {ks : List LT} (hk : ∀ t ∈ ks, ToTreeOK t) (hok : ∀ t ∈ ks, t.er.sm) (hl : ks.length ≤ 1048576) (tok : Nat) (f : Bool) :
    ∀ O tk, ACalls Go.Proofs.Try.prog 36 [.imm tok 4 f (cellss ks)] O tk (RetN O (.imm (labs (ers ks) tk).2 4 false (cellss (labs (ers ks) tk).1)) ((labs (ers ks) tk).2 + 1)) := by
  intro O tk
  have hlen := cellss_length ks
  refine acalls_of_run Go.Proofs.Try.func36 rfl rfl [] [] (Bor.nil _) [(0, .imm tok 4 f (cellss ks))]
    (.cons (ent0 rfl) (.nil _)) (leb rfl) (fun _ h => by cases h) (fun S0 hO htk hfz => ?_)
  refine run_seq ?_
  refine run_region ?_
  refine run_pu rfl (move_step (.inr rfl) rfl) rfl (ltb rfl) ?_   -- t2 = assign (const (slice none 0 0))
  refine run_ops_nil ?_
  refine run_seq ?_
  refine run_region ?_
  refine run_pu rfl (move_step (.inl rfl) rfl) rfl (ltb rfl) ?_   -- t5 = move t0
  refine run_pu rfl (len_step hG rfl rfl rfl rfl) rfl (ltb rfl) ?_   -- t6 = call {builtin len, [t5], argTypes := #[23] }
  rw [hlen]
  refine run_op rfl (makeSlice_step (d := 7) hG rfl rfl rfl rfl rfl rfl rfl (by show 56 * ks.length ≤ _; omega) (by have : maxLen = 9223372036854775807 := rfl; omega)) rfl (ltb rfl) ?_   -- t7 = makeSlice
  refine run_pu rfl (move_step (.inr rfl) rfl) rfl (ltb rfl) ?_   -- t3 = assign t7
  refine run_ops_nil ?_
  refine run_seq ?_
  refine run_seq ?_
  refine run_region ?_
  refine run_pu rfl (move_step (.inr rfl) rfl) rfl (ltb rfl) ?_   -- t4 = assign 0
  refine run_ops_nil ?_
  refine run_block ?_   -- 0
  refine run_rounds (fun m σ => ∃ i, i + m = ks.length ∧
      σ = ⟨[(4, .int .i64 (i : Nat)), (3, .osl (.loc 7)), (0, .imm tok 4 f (cellss ks))],
        [(7, ⟨30, 4, false, cellss (labs ((ers ks).take i) tk).1 ++ List.replicate m ti30.zero⟩)], [], O, (labs ((ers ks).take i) tk).2⟩) ks.length
    (Sub.env [(4, .int .i64 (0 : Nat)), (3, .osl (.loc 7)), (0, .imm tok 4 f (cellss ks))] ⟨rfl, rfl, rfl, trivial⟩)
    ⟨0, by omega, rfl⟩ (fun m σ ⟨i, hi, hσ⟩ => ?_)
  subst hσ
  refine run_seq ?_
  refine run_seq ?_
  refine run_region ?_
  refine run_pu rfl (move_step (.inl rfl) rfl) rfl (ltb rfl) ?_   -- t8 = move t4
  refine run_pu rfl (move_step (.inl rfl) rfl) rfl (ltb rfl) ?_   -- t9 = move t0
  refine run_pu rfl (len_step hG rfl rfl rfl rfl) rfl (ltb rfl) ?_   -- t10 = call {builtin len, [t9], argTypes := #[23] }
  refine run_pu rfl (abin_step rfl rfl rfl rfl (fun _ h => by cases h)) rfl (ltb rfl) ?_   -- t11 = binOp lss 3 t8 t10 3
  refine run_ops_nil ?_
  refine run_if rfl rfl (fun hb2 => ?_) (fun hb2 => ?_)
  · have hb2 := of_decide_eq_true hb2
    rw [hlen] at hb2
    have hil : i < ks.length := by omega
    obtain ⟨m, rfl⟩ : ∃ m', m = m' + 1 := ⟨m - 1, by omega⟩
    have hget : ks[i]? = some ks[i] := List.getElem?_eq_getElem hil
    have hmem : ks[i] ∈ ks := List.getElem_mem hil
    have htake : (ers ks).take (i + 1) = (ers ks).take i ++ [ks[i].er] := by
      rw [List.take_add_one, show (ers ks)[i]? = some ks[i].er by simp [ers_map, hget]]; rfl
    have hdl : (cellss (labs ((ers ks).take i) tk).1).length = i := by rw [cellss_length, labs_length]; simp [ers_length]; omega
    refine run_skip ?_
    refine run_seq ?_
    refine run_block ?_   -- 1
    refine run_region ?_
    refine run_pu rfl (move_step (.inl rfl) rfl) rfl (ltb rfl) ?_   -- t14 = move t3
    refine run_pu rfl (move_step (.inl rfl) rfl) rfl (ltb rfl) ?_   -- t15 = move t4
    refine run_pu rfl (move_step (.inl rfl) rfl) rfl (ltb rfl) ?_   -- t16 = move t0
    refine run_pu rfl (move_step (.inl rfl) rfl) rfl (ltb rfl) ?_   -- t17 = move t4
    refine run_pu rfl (indexAddr_step hG rfl rfl rfl rfl rfl rfl rfl (aindex_imm (cellss_get hget))) rfl (ltb rfl) ?_   -- t18 = indexAddr 23 t16 t17
    refine run_rd rfl (aload_rd hG rfl rfl (load_tree ks[i]) (by simp [ldok])) rfl (ltb rfl) ?_   -- t19 = load 25 t18
    refine run_call rfl rfl rfl (ltb rfl) rfl rfl (argok_tree ks[i] rfl) (fun _ h => absurd h List.not_mem_nil) (hk _ hmem (hok _ hmem) _ _) (callK_retN ?_)   -- t20 = call
    refine run_pu rfl (indexAddr_step hG rfl rfl rfl rfl rfl rfl (fun ob h => by cases h; rfl) (aindex_osl (o := ⟨30, 4, false, cellss (labs ((ers ks).take i) tk).1 ++ List.replicate (m + 1) ti30.zero⟩) rfl (by simp [hdl]))) rfl (ltb rfl) ?_   -- t21 = indexAddr 28 t14 t15
    refine run_op0 rfl (store_step hG rfl rfl rfl rfl rfl (cells_length _) (cells_d1 _) (astore_row rfl (e := ti30.zero) (by simp [hdl]) (cells_length _) (cells_force _) (cells_cl _) (set_mid _ _ _ _ _ hdl))) rfl ?_   -- none = store 30 t21 t20
    refine run_ops_nil ?_
    refine run_blk ?_   -- 1
    refine run_region ?_
    refine run_pu rfl (move_step (.inl rfl) rfl) rfl (ltb rfl) ?_   -- t12 = move t4
    refine run_pu rfl (abin_step rfl rfl rfl rfl (fun _ h => by cases h)) rfl (ltb rfl) ?_   -- t13 = binOp add 3 t12 1 3
    refine run_pu rfl (move_step (.inr rfl) rfl) rfl (ltb rfl) ?_   -- t4 = assign t13
    refine run_ops_nil ?_
    rw [show IntKind.i64.wrap ((i : Int) + 1) = ((i + 1 : Nat) : Int) by rw [IntWalk.i64_in _ (by omega)]; rfl]
    refine run_loop_end ⟨m, _, by omega, ⟨i + 1, by omega, rfl⟩, ?_⟩
    rw [htake, labs_snoc, cellss_append]
    exact Sub.env _ ⟨rfl, rfl, rfl, trivial⟩
  · have hb2 := of_decide_eq_false hb2
    rw [hlen] at hb2
    have hi' : i = ks.length := by omega
    have hm : m = 0 := by omega
    subst hm
    subst hi'
    rw [List.take_of_length_le (by rw [ers_length]; omega)]
    refine run_exit_to rfl ?_   -- 0
    refine run_seq ?_
    refine run_region ?_
    refine run_pu rfl (move_step (.inl rfl) rfl) rfl (ltb rfl) ?_   -- t22 = move t3
    refine run_pu rfl (move_step (.inr rfl) rfl) rfl (ltb rfl) ?_   -- t2 = assign t22
    refine run_ops_nil ?_
    refine run_sub_code (Sub.freeze (k := 7) rfl rfl) ?_
    refine run_ret_to ?_
    refine fin_ret hG rfl rfl rfl ⟨rfl, ?_, rfl⟩
    simp only [List.replicate_zero, List.append_nil]
    rfl

theorem toTree_ok (t : LT) : ToTreeOK t := by
  induction t using LT.ind with
  | _ k n s tok f ks ih =>
    intro hsm
    have h := hsm
    unfold LT.er at h
    obtain ⟨_, h2, h3⟩ := sm_kids h
    rw [ers_length] at h2
    exact toTree_of (toTreeS_of ih (fun t ht => h3 _ (by rw [ers_map]; exact List.mem_map_of_mem ht)) h2 tok f) hsm

end Go.Am.Ytklchmkanhpeeaa
