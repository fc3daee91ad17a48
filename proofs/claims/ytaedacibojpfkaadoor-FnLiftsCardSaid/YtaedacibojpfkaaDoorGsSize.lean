/- The contract of impl.Size: how many nodes a tree has, with a stack. -/
import Derived.Test.YtaedacibojpfkaaDoorTypes
import Derived.Test.YtaedacibojpfkaaDoorMi3
namespace Go.Am.YtaedacibojpfkaaDoor
open Go Go.Am

abbrev Lst := Nat × Bool × List LT
def stk : List Lst → List (List AV)
  | [] => []
  | p :: r => [.imm p.1 4 p.2.1 (cellss p.2.2)] :: stk r
def ssz : List Lst → Nat
  | [] => 0
  | p :: r => sizes (ers p.2.2) + ssz r
def smm : List Lst → Nat
  | [] => 0
  | p :: r => 1 + 2 * sizes (ers p.2.2) + smm r
theorem stk_append : ∀ a b : List Lst, stk (a ++ b) = stk a ++ stk b
  | [], b => rfl
  | p :: r, b => by simp [stk, stk_append r b]
theorem ssz_append : ∀ a b : List Lst, ssz (a ++ b) = ssz a + ssz b
  | [], b => by simp [ssz]
  | p :: r, b => by simp [ssz, ssz_append r b]; omega
theorem smm_append : ∀ a b : List Lst, smm (a ++ b) = smm a + smm b
  | [], b => by simp [smm]
  | p :: r, b => by simp [smm, smm_append r b]; omega
theorem stk_length : ∀ a : List Lst, (stk a).length = a.length
  | [] => rfl
  | p :: r => by simp [stk, stk_length r]
theorem smm_length : ∀ a : List Lst, a.length ≤ smm a
  | [] => Nat.le_refl _
  | p :: r => by have := smm_length r; simp [smm]; omega
theorem sizes_drop {ks : List LT} {i : Nat} {t : LT} (h : ks[i]? = some t) : sizes ((ers ks).drop i) = t.er.size + sizes ((ers ks).drop (i + 1)) := by
  have hlt : i < ks.length := (List.getElem?_eq_some_iff.1 h).1
  rw [List.drop_eq_getElem_cons (by rw [ers_length]; exact hlt)]
  have : (ers ks)[i]'(by rw [ers_length]; exact hlt) = t.er := by
    have := List.getElem?_eq_getElem (l := ers ks) (i := i) (by rw [ers_length]; exact hlt)
    rw [show (ers ks)[i]? = some t.er by simp [ers_map, h]] at this
    exact (Option.some.inj this).symm
  rw [this]
  simp [sizes]

set_option maxRecDepth 100000 in
theorem implSize_ok (t : LT) (hsz : t.er.size ≤ 1048577) : ∀ O tk, ACalls Go.Proofs.Tryd.prog 14 [.agg t.cells] O tk (RetN O (.int .i64 (t.er.size : Nat)) tk) := by
  intro O tk
  obtain ⟨k, n, s, tok, f, ks⟩ := t
  have hN := er_size_kids k n s tok f ks
  generalize (LT.mk k n s tok f ks).er.size = N at hsz hN
  refine acalls_of_run Go.Proofs.Tryd.func14 rfl rfl [] [] (Bor.nil _) [(0, .agg [.int .i64 k, .int .i64 n, .str s, .imm tok 4 f (cellss ks)])]
    (.cons (.agg _) (.nil _)) (leb rfl) (fun _ h => by cases h) (fun S0 hO htk hfz => ?_)
  refine run_seq ?_
  refine run_region ?_
  refine run_op rfl (box_step (d := 1) rfl rfl rfl rfl rfl) rfl (ltb rfl) ?_   -- t1 = box 30 t0
  refine run_pu rfl (move_step (.inr rfl) rfl) rfl (ltb rfl) ?_   -- t2 = assign 0
  refine run_ops_nil ?_
  refine run_seq ?_
  refine run_draw [] (n := 5) mixed rfl (fun _ h => absurd h List.not_mem_nil) ?_   -- DRAW region 1
  refine AAny.take (i := 0) rfl (by kernel_rfl) (by kernel_rfl) (by kernel_rfl) rfl rfl (ltb rfl) ((fieldAddr_step hG rfl rfl rfl rfl rfl).rd _) ?_   -- t8 = fieldAddr 30 t1 3  [3G]
  refine AAny.take (i := 1) rfl (by kernel_rfl) (by kernel_rfl) (by kernel_rfl) rfl rfl (ltb rfl) (aload_rd hG rfl rfl rfl (by simp [ldok])) ?_   -- t9 = load 28 t8  [0d 3G]
  refine AAny.take (i := 3) rfl (by kernel_rfl) (by kernel_rfl) (by kernel_rfl) rfl rfl (ltb rfl) ((move_step (.inr rfl) rfl).rd _) ?_   -- t3 = assign 1  [0T 1T 2T]
  refine AAny.one (i := 2) (by kernel_rfl) (AOp.step rfl rfl rfl (ltb rfl) (buildSlice_step (d := 10) hG rfl rfl rfl rfl rfl rfl (by rfl) (by rfl) (by decide)) (fun _ h => absurd h List.not_mem_nil) ?_)
  refine AAny.take (i := 4) rfl (by kernel_rfl) (by kernel_rfl) (by kernel_rfl) rfl rfl (ltb rfl) ((move_step (.inr rfl) rfl).rd _) ?_   -- t4 = assign t10  [2d 3c 0p 1p 2p 3p]
  refine AAny.done (by kernel_rfl) ?_
  refine run_seq ?_
  refine run_block ?_   -- 0
  refine run_rounds (fun m σ => ∃ (S : List Lst) (many : Nat), m = smm S ∧ m ≤ 4194304 ∧ many + ssz S = N ∧
      σ = ⟨[(4, .osl (.loc 10)), (3, .int .i64 (many : Nat))], [(10, ⟨23, 1, false, stk S⟩), (1, ⟨25, 4, true, [[.int .i64 k, .int .i64 n, .str s, .imm tok 4 f (cellss ks)]]⟩)], [], O, tk⟩)
    (smm [(tok, f, ks)]) (Sub.env [(4, .osl (.loc 10)), (3, .int .i64 (1 : Nat))] ⟨rfl, rfl, trivial⟩)
    ⟨[(tok, f, ks)], 1, rfl, by simp [smm]; omega, by simp [ssz]; omega, rfl⟩ (fun m σ ⟨S, many, hm, hmb, hmany, hσ⟩ => ?_)
  subst hσ
  refine run_seq ?_
  refine run_seq ?_
  refine run_region ?_
  refine run_pu rfl (move_step (.inl rfl) rfl) rfl (ltb rfl) ?_   -- t11 = move t4
  refine run_pu rfl (len_step hG rfl rfl rfl rfl) rfl (ltb rfl) ?_   -- t12 = call {builtin len, [t11], argTypes := #[80] }
  refine run_pu rfl (abin_step rfl rfl rfl rfl (fun _ h => by cases h)) rfl (ltb rfl) ?_   -- t13 = binOp gtr 3 t12 0 3
  refine run_ops_nil ?_
  refine run_if rfl rfl (fun hb2 => ?_) (fun hb2 => ?_)
  · have hb2 := of_decide_eq_true hb2
    rw [stk_length] at hb2
    obtain ⟨S0, p, rfl⟩ : ∃ S0 p, S = S0 ++ [p] := ⟨S.dropLast, S.getLast (fun h => by subst h; simp at hb2), (List.dropLast_concat_getLast _).symm⟩
    obtain ⟨tk1, f1, L⟩ := p
    have hsl : (stk (S0 ++ [(tk1, f1, L)])).length = S0.length + 1 := by rw [stk_length]; simp
    have hget : (stk (S0 ++ [(tk1, f1, L)]))[S0.length]? = some [.imm tk1 4 f1 (cellss L)] := by
      rw [stk_append, List.getElem?_append_right (by rw [stk_length]; exact Nat.le_refl _), stk_length, Nat.sub_self]; rfl
    have htake : (stk (S0 ++ [(tk1, f1, L)])).take S0.length = stk S0 := by
      rw [stk_append, ← stk_length S0]; simp
    rw [smm_append] at hm
    rw [ssz_append] at hmany
    simp only [smm, ssz, Nat.add_zero] at hm hmany
    have hS0 := smm_length S0
    have hLl := length_sizes (ers L)
    rw [ers_length] at hLl
    refine run_skip ?_
    refine run_block ?_   -- 1
    refine run_seq ?_
    refine run_region ?_
    refine run_pu rfl (move_step (.inl rfl) rfl) rfl (ltb rfl) ?_   -- t14 = move t4
    refine run_pu rfl (move_step (.inl rfl) rfl) rfl (ltb rfl) ?_   -- t15 = move t4
    refine run_pu rfl (len_step hG rfl rfl rfl rfl) rfl (ltb rfl) ?_   -- t16 = call {builtin len, [t15], argTypes := #[80] }
    refine run_pu rfl (abin_step rfl rfl rfl rfl (fun _ h => by cases h)) rfl (ltb rfl) ?_   -- t17 = binOp sub 3 t16 1 3
    rw [hsl, show IntKind.i64.wrap (((S0.length + 1 : Nat) : Int) - 1) = ((S0.length : Nat) : Int) by rw [IntWalk.i64_in _ (by omega)]; omega]
    refine run_pu rfl (indexAddr_step hG rfl rfl rfl rfl rfl rfl (fun ob h => by cases h; rfl) (aindex_osl (o := ⟨23, 1, false, stk (S0 ++ [(tk1, f1, L)])⟩) rfl (by show S0.length < (stk (S0 ++ [(tk1, f1, L)])).length; omega))) rfl (ltb rfl) ?_   -- t18
    refine run_rd rfl (aload_rd hG rfl rfl (aload_one rfl rfl rfl hget rfl) (by simp [ldok])) rfl (ltb rfl) ?_   -- t19
    refine run_pu rfl (move_step (.inr rfl) rfl) rfl (ltb rfl) ?_   -- t5 = assign t19
    refine run_ops_nil ?_
    refine run_seq ?_
    refine run_region ?_
    refine run_pu rfl (move_step (.inl rfl) rfl) rfl (ltb rfl) ?_   -- t20 = move t4
    refine run_pu rfl (move_step (.inl rfl) rfl) rfl (ltb rfl) ?_   -- t21 = move t4
    refine run_pu rfl (len_step hG rfl rfl rfl rfl) rfl (ltb rfl) ?_   -- t22 = call {builtin len, [t21], argTypes := #[80] }
    refine run_pu rfl (abin_step rfl rfl rfl rfl (fun _ h => by cases h)) rfl (ltb rfl) ?_   -- t23 = binOp sub 3 t22 1 3
    rw [hsl, show IntKind.i64.wrap (((S0.length + 1 : Nat) : Int) - 1) = ((S0.length : Nat) : Int) by rw [IntWalk.i64_in _ (by omega)]; omega]
    refine run_op rfl (cut_step (k := 10) hG rfl rfl rfl rfl rfl rfl rfl rfl (by show S0.length ≤ (stk (S0 ++ [(tk1, f1, L)])).length; omega) (by show 0 < (stk (S0 ++ [(tk1, f1, L)])).length; omega) htake) rfl (ltb rfl) ?_   -- t24
    refine run_pu rfl (move_step (.inr rfl) rfl) rfl (ltb rfl) ?_   -- t4 = assign t24
    refine run_ops_nil ?_
    refine run_seq ?_
    refine run_region ?_
    refine run_pu rfl (move_step (.inl rfl) rfl) rfl (ltb rfl) ?_   -- t25 = move t3
    refine run_pu rfl (move_step (.inl rfl) rfl) rfl (ltb rfl) ?_   -- t26 = move t5
    refine run_pu rfl (len_step hG rfl rfl rfl rfl) rfl (ltb rfl) ?_   -- t27 = call {builtin len, [t26], argTypes := #[28] }
    refine run_pu rfl (abin_step rfl rfl rfl rfl (fun _ h => by cases h)) rfl (ltb rfl) ?_   -- t28 = binOp add 3 t25 t27 3
    rw [cellss_length, show IntKind.i64.wrap ((many : Int) + (L.length : Nat)) = ((many + L.length : Nat) : Int) by rw [IntWalk.i64_in _ (by omega)]; omega]
    refine run_pu rfl (move_step (.inr rfl) rfl) rfl (ltb rfl) ?_   -- t3 = assign t28
    refine run_ops_nil ?_
    refine run_seq ?_
    refine run_region ?_
    refine run_pu rfl (move_step (.inl rfl) rfl) rfl (ltb rfl) ?_   -- t29 = move t5
    refine run_pu rfl (len_step hG rfl rfl rfl rfl) rfl (ltb rfl) ?_   -- t30 = call {builtin len, [t29], argTypes := #[28] }
    refine run_pu rfl (move_step (.inl rfl) rfl) rfl (ltb rfl) ?_   -- t31 = move 0
    refine run_ops_nil ?_
    refine run_block ?_   -- 2
    refine run_rounds (fun m σ => ∃ (i : Nat) (S : List Lst), i + m = L.length ∧ ssz S + sizes ((ers L).drop i) + i = ssz S0 + sizes (ers L) ∧ smm S + 2 * sizes ((ers L).drop i) ≤ smm S0 + 2 * sizes (ers L) ∧
        σ = ⟨[(31, .int .i64 (i : Nat)), (30, .int .i64 (L.length : Nat)), (29, .imm tk1 4 f1 (cellss L)), (4, .osl (.loc 10)), (3, .int .i64 ((many + L.length : Nat) : Int))], [(10, ⟨23, 1, false, stk S⟩), (1, ⟨25, 4, true, [[.int .i64 k, .int .i64 n, .str s, .imm tok 4 f (cellss ks)]]⟩)], [], O, tk⟩)
      L.length (Sub.env [(31, .int .i64 (0 : Nat)), (30, .int .i64 (L.length : Nat)), (29, .imm tk1 4 f1 (cellss L)), (4, .osl (.loc 10)), (3, .int .i64 ((many + L.length : Nat) : Int))] ⟨rfl, (by rw [← cellss_length L]; rfl), rfl, rfl, rfl, trivial⟩)
      ⟨0, S0, by omega, rfl, Nat.le_refl _, rfl⟩ (fun m σ ⟨i, S, hi, hs1, hs2, hσ⟩ => ?_)
    subst hσ
    refine run_seq ?_
    refine run_region ?_
    refine run_pu rfl (abin_step rfl rfl rfl rfl (fun _ h => by cases h)) rfl (ltb rfl) ?_   -- t32 = binOp lss 3 t31 t30 3
    refine run_ops_nil ?_
    refine run_seq ?_
    refine run_if rfl rfl (fun hb3 => ?_) (fun hb3 => ?_)
    · have hb3 := of_decide_eq_true hb3
      have hil : i < L.length := by omega
      obtain ⟨kt, hkt⟩ : ∃ kt, L[i]? = some kt := ⟨_, List.getElem?_eq_getElem hil⟩
      obtain ⟨k', n', s', tok', f', ks'⟩ := kt
      have hsd := sizes_drop hkt
      rw [er_size_kids] at hsd
      have hSl := smm_length S
      have hdl := length_sizes ((ers L).drop (i + 1))
      refine run_skip ?_
      refine run_seq ?_
      refine run_block ?_   -- 3
      refine run_seq ?_
      refine run_region ?_
      refine run_pu rfl (indexAddr_step hG rfl rfl rfl rfl rfl rfl rfl (aindex_imm (cellss_get hkt))) rfl (ltb rfl) ?_   -- t33 = indexAddr 28 t29 t31
      refine run_rd rfl (aload_rd hG rfl rfl rfl (by simp [ldok])) rfl (ltb rfl) ?_   -- t34 = load 30 t33
      refine run_op rfl (alloc_step (d := 7) hG rfl rfl rfl) rfl (ltb rfl) ?_   -- t7 = alloc 30
      refine run_op0 rfl (store_step hG rfl rfl rfl rfl rfl rfl rfl rfl) rfl ?_   -- none = store 30 t7 t34
      refine run_ops_nil ?_
      refine run_seq ?_
      refine run_region ?_
      refine run_pu rfl (fieldAddr_step hG rfl rfl rfl rfl rfl) rfl (ltb rfl) ?_   -- t35 = fieldAddr 30 t7 3
      refine run_rd rfl (aload_rd hG rfl rfl rfl (by simp [ldok])) rfl (ltb rfl) ?_   -- t36 = load 28 t35
      refine run_pu rfl (len_step hG rfl rfl rfl rfl) rfl (ltb rfl) ?_   -- t37 = call {builtin len, [t36], argTypes := #[28] }
      refine run_pu rfl (abin_step rfl rfl rfl rfl (fun _ h => by cases h)) rfl (ltb rfl) ?_   -- t38 = binOp gtr 3 t37 0 3
      refine run_ops_nil ?_
      refine run_if rfl rfl (fun hb4 => ?_) (fun hb4 => ?_)
      · refine run_region ?_
        refine run_pu rfl (move_step (.inl rfl) rfl) rfl (ltb rfl) ?_   -- t39 = move t4
        refine run_pu rfl (fieldAddr_step hG rfl rfl rfl rfl rfl) rfl (ltb rfl) ?_   -- t40 = fieldAddr 30 t7 3
        refine run_rd rfl (aload_rd hG rfl rfl rfl (by simp [ldok])) rfl (ltb rfl) ?_   -- t41 = load 28 t40
        refine run_op rfl (buildSlice_step (d := 42) hG rfl rfl rfl rfl rfl rfl (by rfl) (by rfl) (by decide)) rfl (ltb rfl) ?_
        refine run_op rfl (append_step' (k := 10) hG rfl rfl rfl rfl rfl rfl rfl rfl rfl rfl rfl (fun e he => by simp at he; subst he; rfl) (by show ((stk S).length + 1) * 24 ≤ _; rw [stk_length]; omega) (by show (stk S).length + 1 ≤ _; rw [stk_length]; omega) (stk_append S [(tok', f', ks')]).symm) rfl (ltb rfl) ?_
        refine run_pu rfl (move_step (.inr rfl) rfl) rfl (ltb rfl) ?_   -- t4 = assign t43
        refine run_ops_nil ?_
        refine run_blk ?_   -- 3
        refine run_sub_code ((Sub.drop (k := 42) rfl).trans (Sub.drop (k := 7) rfl)) ?_
        refine run_region ?_
        refine run_pu rfl (abin_step rfl rfl rfl rfl (fun _ h => by cases h)) rfl (ltb rfl) ?_   -- t44 = binOp add 3 t31 1 3
        refine run_pu rfl (move_step (.inl rfl) rfl) rfl (ltb rfl) ?_   -- t31 = move t44
        refine run_ops_nil ?_
        rw [show IntKind.i64.wrap ((i : Int) + 1) = ((i + 1 : Nat) : Int) by rw [IntWalk.i64_in _ (by omega)]; rfl]
        exact run_loop_end ⟨m - 1, _, by omega, ⟨i + 1, S ++ [(tok', f', ks')], by omega, by rw [ssz_append]; simp only [ssz]; omega, by rw [smm_append]; simp only [smm]; omega, rfl⟩, Sub.env _ ⟨rfl, rfl, rfl, rfl, rfl, trivial⟩⟩
      · have hb4 := of_decide_eq_false hb4
        rw [cellss_length] at hb4
        have hk0 : ks' = [] := List.length_eq_zero_iff.1 (by omega)
        subst hk0
        simp only [ers, sizes, Nat.add_zero] at hsd
        refine run_skip ?_
        refine run_blk ?_   -- 3
        refine run_sub_code (Sub.drop (k := 7) rfl) ?_
        refine run_region ?_
        refine run_pu rfl (abin_step rfl rfl rfl rfl (fun _ h => by cases h)) rfl (ltb rfl) ?_   -- t44 = binOp add 3 t31 1 3
        refine run_pu rfl (move_step (.inl rfl) rfl) rfl (ltb rfl) ?_   -- t31 = move t44
        refine run_ops_nil ?_
        rw [show IntKind.i64.wrap ((i : Int) + 1) = ((i + 1 : Nat) : Int) by rw [IntWalk.i64_in _ (by omega)]; rfl]
        exact run_loop_end ⟨m - 1, _, by omega, ⟨i + 1, S, by omega, by omega, by omega, rfl⟩, Sub.env _ ⟨rfl, rfl, rfl, rfl, rfl, trivial⟩⟩
    · have hb3 := of_decide_eq_false hb3
      have hi' : i = L.length := by omega
      subst hi'
      rw [List.drop_of_length_le (by rw [ers_length]; omega)] at hs1 hs2
      simp only [sizes] at hs1 hs2
      refine run_exit_to rfl ?_   -- 2
      refine run_blk ?_
      exact run_loop_end ⟨smm S, _, by omega, ⟨S, many + L.length, rfl, by omega, by omega, rfl⟩, Sub.env _ ⟨rfl, rfl, trivial⟩⟩
  · have hb2 := of_decide_eq_false hb2
    rw [stk_length] at hb2
    have hS : S = [] := List.length_eq_zero_iff.1 (by omega)
    subst hS
    simp only [ssz, Nat.add_zero] at hmany
    subst hmany
    refine run_exit_to rfl ?_   -- 0
    refine run_seq ?_
    refine run_region ?_
    refine run_pu rfl (move_step (.inl rfl) rfl) rfl (ltb rfl) ?_   -- t45 = move t3
    refine run_pu rfl (move_step (.inr rfl) rfl) rfl (ltb rfl) ?_   -- t2 = assign t45
    refine run_ops_nil ?_
    refine run_ret_to ?_
    exact fin_ret hG rfl rfl rfl ⟨rfl, rfl, rfl⟩


/-- As printed contracts have it. -/
def i_Size (x : T) : Option Int := if x.size ≤ 1048577 then some (x.size : Int) else none
theorem i_Size_ok (k n : Int) (s : ByteArray) (q : Nat) (f : Bool) (ks : List LT) {r : Int} (hM : i_Size (T.mk k n s (ers ks)) = some r) (O : Heap) (tk : Nat) :
    ACalls Go.Proofs.Tryd.prog 14 [.agg [.int .i64 k, .int .i64 n, .str s, .imm q 4 f (cellss ks)]] O tk (RetX O tk (fun v _ => v = .int .i64 r)) := by
  unfold i_Size at hM
  split at hM
  · rename_i h
    cases hM
    exact (implSize_ok (.mk k n s q f ks) (by simpa [LT.er] using h) O tk).mono fun out O' tk' ⟨h1, h2, h3⟩ => ⟨h1, by omega, _, h2, rfl⟩
  · cases hM

end Go.Am.YtaedacibojpfkaaDoor
