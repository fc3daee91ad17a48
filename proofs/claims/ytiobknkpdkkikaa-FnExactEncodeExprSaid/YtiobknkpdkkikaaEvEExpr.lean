/- Plain laws: the law of EncodeExpr. -/
import Derived.Test.YtiobknkpdkkikaaEpsEnc
import Derived.Test.YtiobknkpdkkikaaPuMarkP
import Derived.Test.YtiobknkpdkkikaaEpwEExpr
namespace Go.Am.Ytiobknkpdkkikaa
open Go Go.Am

theorem in12_eq (i : Int) : i_in i 0 12 = some (decide (0 ≤ i) && decide (i ≤ 12)) := by
  unfold i_in
  by_cases h1 : 0 ≤ i <;> by_cases h2 : i ≤ 12 <;> simp [h1, h2]
theorem encBoth (x : Pf) (hsm : x.sm) (i : Int) : ∃ v : T × Int, T.nodes v.1 ≤ 150 ∧ Ev fun n => s_EncodeExpr n x i = some v ∧ i_EncodeExpr n x i = some v := by
  have h0 : T.nodes (T.mk 0 0 ⟨#[]⟩ []) ≤ 150 := by decide
  by_cases hok : (decide (x.size ≤ 150) && x.exok) = true
  · have hk := hok
    simp only [Bool.and_eq_true, decide_eq_true_eq] at hk
    by_cases hi : 0 ≤ i ∧ i ≤ 12
    · obtain ⟨K, rfl⟩ : ∃ K : Nat, i = (K : Int) := ⟨i.toNat, by omega⟩
      obtain ⟨o, so, eo⟩ := lev_ev x hk.2 (lv K) K (lv_lev K) (by omega) (by omega)
      have lvl := levels_ev K (by omega)
      cases o with
      | none =>
        refine ⟨(T.mk 0 0 ⟨#[]⟩ [], 7), h0, ((specExprOK_ev x hsm).and ((implExprOK_ev x).and (lvl.and eo))).mp fun n ⟨h1, h2, ⟨h3, h4⟩, h5, h6, _⟩ => ⟨?_, ?_⟩⟩
        · unfold s_EncodeExpr
          rw [h1, hok, bind_some', if_neg (by decide), if_neg (by omega), if_neg (by omega), h6]; rfl
        · unfold i_EncodeExpr i_result__fn_i_EncodeExpr_c1kk i_result_c1__of_i_EncodeExpr_c1_kv i_EncodeExpr_c1__kk
          rw [h2, hok, bind_some', if_neg (by decide), in12_eq, decide_eq_true hi.1, decide_eq_true hi.2, h3, bind_some', bind_some', h5]; rfl
      | some t =>
        have ht := so t rfl
        have hfit : T.fits t := nodes_fits _ (by omega)
        by_cases hb : T.nodes t ≤ 150
        · refine ⟨(t, 0), hb, ((specExprOK_ev x hsm).and ((implExprOK_ev x).and (lvl.and (eo.and ((tooBig_ev t ht.2 hfit).and ((bigS_ev t ht.2 hfit).and (clone_ev t (by omega)))))))).mp fun n ⟨h1, h2, ⟨h3, h4⟩, ⟨h5, h6, h7⟩, h8, h9, h10⟩ => ⟨?_, ?_⟩⟩
          · unfold s_EncodeExpr
            rw [h1, hok, bind_some', if_neg (by decide), if_neg (by omega), if_neg (by omega), h6, bind_some', if_neg (by simp), h4, bind_some', h7 t rfl, bind_some', h9, bind_some', if_neg (by simp [hb])]
          · unfold i_EncodeExpr i_result__fn_i_EncodeExpr_c1kk i_result_c1__of_i_EncodeExpr_c1_kv i_EncodeExpr_c1__kk
            have hf : i_formed n t = some (.ok t) := by unfold i_formed; rw [h8, bind_some', if_neg (by simp [hb])]
            rw [h2, hok, bind_some', if_neg (by decide), in12_eq, decide_eq_true hi.1, decide_eq_true hi.2, h3, bind_some', bind_some', h5]
            show (if (!(true && true)) = true then _ else (((zb (zb (some (Rz.ok t)) fun r10 => zb (i_formed n r10) fun r19 => some (.ok r19)) fun r4 => some (.ok r4)) : Option (Rz T)).bind _).bind _) = _
            rw [zb_ok, hf, zb_ok, zb_ok, bind_some']
            show (((i_clone n t).bind fun r15 => some (r15, (0 : Int))).bind fun r19 => some (r19.1, r19.2)) = _
            rw [h10]; rfl
        · refine ⟨(T.mk 0 0 ⟨#[]⟩ [], 11), h0, ((specExprOK_ev x hsm).and ((implExprOK_ev x).and (lvl.and (eo.and ((tooBig_ev t ht.2 hfit).and (bigS_ev t ht.2 hfit)))))).mp fun n ⟨h1, h2, ⟨h3, h4⟩, ⟨h5, h6, h7⟩, h8, h9⟩ => ⟨?_, ?_⟩⟩
          · unfold s_EncodeExpr
            rw [h1, hok, bind_some', if_neg (by decide), if_neg (by omega), if_neg (by omega), h6, bind_some', if_neg (by simp), h4, bind_some', h7 t rfl, bind_some', h9, bind_some', if_pos (by simpa using hb)]
          · unfold i_EncodeExpr i_result__fn_i_EncodeExpr_c1kk i_result_c1__of_i_EncodeExpr_c1_kv i_EncodeExpr_c1__kk
            have hf : i_formed n t = some (.stop 11 0) := by unfold i_formed; rw [h8, bind_some', if_pos (by simpa using hb)]
            rw [h2, hok, bind_some', if_neg (by decide), in12_eq, decide_eq_true hi.1, decide_eq_true hi.2, h3, bind_some', bind_some', h5]
            show (if (!(true && true)) = true then _ else (((zb (zb (some (Rz.ok t)) fun r10 => zb (i_formed n r10) fun r19 => some (.ok r19)) fun r4 => some (.ok r4)) : Option (Rz T)).bind _).bind _) = _
            rw [zb_ok, hf, zb_stop, zb_stop]; rfl
    · refine ⟨(T.mk 0 0 ⟨#[]⟩ [], 16), h0, ((specExprOK_ev x hsm).and (implExprOK_ev x)).mp fun n ⟨h1, h2⟩ => ?_⟩
      unfold s_EncodeExpr i_EncodeExpr
      rw [h1, h2, bind_some', bind_some', in12_eq, hok]
      by_cases h : i < 0
      · rw [if_pos h, decide_eq_false (show ¬ 0 ≤ i by omega)]; exact ⟨rfl, rfl⟩
      · rw [if_neg h, if_pos (show i > 12 by omega), decide_eq_false (show ¬ i ≤ 12 by omega), Bool.and_false]; exact ⟨rfl, rfl⟩
  · refine ⟨(T.mk 0 0 ⟨#[]⟩ [], 1), h0, ((specExprOK_ev x hsm).and (implExprOK_ev x)).mp fun n ⟨h1, h2⟩ => ?_⟩
    have hok' : (decide (x.size ≤ 150) && x.exok) = false := by simpa using hok
    unfold s_EncodeExpr i_EncodeExpr
    rw [h1, h2, bind_some', bind_some', hok']
    exact ⟨rfl, rfl⟩

theorem lawEncodeExpr_ev (x : Pf) (hok : x.ok) (i : Int) : Ev fun n => w_FnExactEncodeExpr n x i = some true := by
  by_cases hb : x.sz 1048576 < 0
  · refine (szExpr_ev x hok).mp fun n h => ?_
    unfold w_FnExactEncodeExpr
    rw [h 1048576 (by omega) (by omega), bind_some', if_pos hb]
  · have hsm := psz_sm x 1048576 (by omega) (by omega) (by omega)
    obtain ⟨v, hn, ev⟩ := encBoth x hsm i
    refine ((szExpr_ev x hok).and ((toExpr_ev x hsm).and (ev.and ((eqExpr_ev x hsm).and ((eqTree_ev v.1 (nodes_fits _ (by omega))).and (heldTree_ev v.1 (by omega))))))).mp fun n h => ?_
    obtain ⟨h1, h2, ⟨h3, h4⟩, h5, h6, h7, h8⟩ := h
    unfold w_FnExactEncodeExpr
    rw [h1 1048576 (by omega) (by omega), bind_some', if_neg hb]
    have hm : ∃ p, w_markExpr x 1 = some p ∧ ¬ p.2 < 0 := ⟨_, rfl, pmark_pos x (by omega)⟩
    obtain ⟨p, hp1, hp2⟩ := hm
    have hneg : ¬ (1 + 3 * (tnodes v.1.kids : Int)) < 0 := by omega
    simp only [h2, h3, h4, h5, h6, h7, h8, hp1, bind_some', Bool.not_true, Bool.false_eq_true, if_false, bne_self_eq_false, if_neg hp2, if_neg hneg]

theorem lawEncodeExpr_ok (t : LP) (hok : t.er.ok) (hold : old t.toks) (i : Int) (_ : -9223372036854775808 ≤ i ∧ i ≤ 9223372036854775807) : ∀ tk, 2 ≤ tk → ACalls Go.Proofs.Try.prog 4 [.agg t.cells, .int .i64 i] (fun _ => none) tk (RetX (fun _ => none) tk (fun v _ => v = .bool true)) := by
  intro tk h2
  obtain ⟨n, hn⟩ := (lawEncodeExpr_ev t.er hok i).get
  obtain ⟨k, m, p, e, fs, q, f, ks⟩ := t
  rw [LP.toks_eq] at hold
  exact w_FnExactEncodeExpr_ok n k m p e fs q f ks i hn (fun x hx => hold x (List.mem_append.2 (.inl hx))) (fun x hx => hold x (List.mem_append.2 (.inr hx))) _ tk rfl h2

end Go.Am.Ytiobknkpdkkikaa
