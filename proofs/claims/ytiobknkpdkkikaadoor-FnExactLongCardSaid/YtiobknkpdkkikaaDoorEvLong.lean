/- Plain laws: the law of Long. -/
import Derived.Test.YtiobknkpdkkikaaDoorPsLong
import Derived.Test.YtiobknkpdkkikaaDoorPsNod
import Derived.Test.YtiobknkpdkkikaaDoorEwLong
namespace Go.Am.YtiobknkpdkkikaaDoor
open Go Go.Am

def inB (v : Int) : Bool := decide (0 ≤ v) && decide (v ≤ 100)
theorem inB_lt {v : Int} (h : v < 0) : inB v = false := by unfold inB; rw [decide_eq_false (by omega)]; rfl
theorem inB_gt {v : Int} (h : v > 100) : inB v = false := by unfold inB; rw [decide_eq_false (show ¬ v ≤ 100 by omega), Bool.and_false]
theorem inB_in {v : Int} (h0 : ¬ v < 0) (h : ¬ v > 100) : inB v = true := by unfold inB; rw [decide_eq_true (show 0 ≤ v by omega), decide_eq_true (show v ≤ 100 by omega)]; rfl
theorem in100 (n : Int) : i_in n 0 100 = some (inB n) := by
  unfold i_in inB
  by_cases h : n ≥ 0
  · rw [if_pos h, decide_eq_true (show 0 ≤ n from h)]; rfl
  · rw [if_neg h, decide_eq_false (show ¬ 0 ≤ n from h)]; rfl
/-- What Long answers. -/
def longV (v : Int) (t : T) : T × Int := if (decide (t.size ≤ 150) && t.simok) = false then (T.mk 0 0 ⟨#[]⟩ [], 1) else if inB v = true then (if bigB (t.long v) = true then (T.mk 0 0 ⟨#[]⟩ [], 11) else (t.long v, 0)) else (T.mk 0 0 ⟨#[]⟩ [], 16)
theorem longV_size (v : Int) (t : T) : (longV v t).1.size ≤ 150 := by
  unfold longV
  split
  · decide
  · split
    · split
      · decide
      · rename_i h
        have : (t.long v).size ≤ 150 := by
          unfold bigB at h
          simp only [Bool.or_eq_true, decide_eq_true_eq, not_or] at h
          omega
        exact this
    · decide
/-- Trees of a bounded size without names beyond bounds are small. -/
theorem long_sm (t : T) (h : t.simok = true) (hs : t.size ≤ 150) : ∀ v, (t.long v).sm := by
  have lam_sm : ∀ (k : Nat) (x : T), x.sm → (lams k x).sm := by
    intro k
    induction k with
    | zero => intro x hx; exact hx
    | succ k ih =>
      intro x hx
      refine ih _ ?_
      unfold T.sm
      exact ⟨by decide, by simp, fun t ht => by rw [List.mem_singleton.1 ht]; exact hx⟩
  have key : ∀ t : T, t.simok = true → t.size ≤ 150 → (∀ v, (t.long v).sm) ∧ ∀ j, ∀ x ∈ t.lngs j, x.sm := by
    refine simok_ind (p := fun t => t.size ≤ 150 → (∀ v, (t.long v).sm) ∧ ∀ j, ∀ x ∈ t.lngs j, x.sm) (fun n s a b ha' hb' ha hb hs => ?_) (fun n s hs => ?_)
    · have hsz : (T.mk 10 n s [a, b]).size = 1 + (a.size + (b.size + 0)) := by simp only [T.size, sizes]
      rw [hsz] at hs
      have hok : (T.mk 10 n s [a, b]).lngs = fun j => a.long j :: b.lngs (j - 1) := funext fun j => lngs_arr j
      have hmem : ∀ j, ∀ x ∈ (T.mk 10 n s [a, b]).lngs j, x.sm := by
        intro j x hx
        rw [lngs_arr] at hx
        rcases List.mem_cons.1 hx with rfl | hx
        · exact (ha (by omega)).1 j
        · exact (hb (by omega)).2 _ x hx
      refine ⟨fun v => ?_, hmem⟩
      show (lams _ (T.mk 5 _ ⟨#[]⟩ _)).sm
      refine lam_sm _ _ ?_
      unfold T.sm
      refine ⟨by decide, ?_, fun t ht => hmem _ t ht⟩
      rw [lngs_arr, List.length_cons, lngs_argf b hb', argf_len, tks_len b hb']
      have := ary_size b hb'
      omega
    · refine ⟨fun v => ?_, fun j x hx => ?_⟩
      · show (lams _ (T.mk 5 _ ⟨#[]⟩ _)).sm
        refine lam_sm _ _ ?_
        unfold T.sm
        rw [lngs_no (by decide)]
        exact ⟨by decide, by decide, fun t ht => by cases ht⟩
      · rw [lngs_no (by decide)] at hx; cases hx
  exact (key t h hs).1

theorem longBoth_ev (v : Int) (t : T) (hsm : t.sm) : Ev fun n => s_Long n v t = some (longV v t) ∧ i_Long n v t = some (longV v t) := by
  cases hr : (decide (t.size ≤ 150) && t.simok) with
  | false =>
    refine ((specSimpleOK_ev t hsm).and (implSimpleOK_ev t hsm)).mp fun n ⟨h1, h2⟩ => ?_
    unfold longV s_Long i_Long i_badSimple
    rw [h1, h2, bind_some', bind_some', hr]
    exact ⟨rfl, rfl⟩
  | true =>
    have hh : t.size ≤ 150 ∧ t.simok = true := by simpa using hr
    have hL := long_size t hh.2
    by_cases hv : v < 0 ∨ v > 100
    · refine ((specSimpleOK_ev t hsm).and (implSimpleOK_ev t hsm)).mp fun n ⟨h1, h2⟩ => ?_
      unfold longV s_Long i_Long i_badSimple
      rw [h1, h2, bind_some', bind_some', hr, in100]
      rcases hv with h0 | h0
      · rw [inB_lt h0, if_neg (by decide), if_pos h0]; exact ⟨rfl, rfl⟩
      · rw [inB_gt h0, if_neg (by decide), if_neg (show ¬ v < 0 by omega), if_pos h0]; exact ⟨rfl, rfl⟩
    · have h0 : ¬ v < 0 := fun q => hv (.inl q)
      have h1 : ¬ v > 100 := fun q => hv (.inr q)
      have hlsm := long_sm t hh.2 hh.1 v
      refine ((specSimpleOK_ev t hsm).and ((implSimpleOK_ev t hsm).and ((long_ev t.size t (Nat.le_refl _) hh.2 hh.1).and ((formed_ev (t.long v) (by rw [hL]; omega)).and ((small_ev (t.long v) hlsm).and ((shigh_ev (t.long v) (by rw [hL]; omega)).and (clone_ev (t.long v) hlsm))))))).mp fun n ⟨a1, a2, a3, a4, a5, a6, a7⟩ => ?_
      obtain ⟨a8, a9⟩ := a3 v (by omega) (by omega)
      have hbig : s_l03Big n (t.long v) = some (bigB (t.long v)) := by
        unfold s_l03Big bigB
        rw [a5, a6, bind_some', bind_some', hL, decide_eq_true hh.1, decide_eq_false (show ¬ t.size > 150 by omega)]; rfl
      have hcap : i_Long_c1__kk n v t = some (if bigB (t.long v) = true then .stop 11 0 else .ok (t.long v)) := by
        unfold i_Long_c1__kk i_long
        rw [a8, bind_some', a4]
        cases bigB (t.long v) <;> rfl
      have hres : i_result__fn_i_Long_c1kk n v t = some (if bigB (t.long v) = true then (T.mk 0 0 ⟨#[]⟩ [], 11) else (t.long v, 0)) := by
        unfold i_result__fn_i_Long_c1kk i_result_c1__of_i_Long_c1_kv
        rw [hcap]
        cases bigB (t.long v) with
        | true => rfl
        | false =>
          show (i_clone n (t.long v)).bind _ = _
          rw [a7]; rfl
      unfold longV s_Long i_Long i_badSimple
      rw [a1, a2, bind_some', bind_some', hr, in100, inB_in h0 h1, if_neg h0, if_neg h1, a9, bind_some', hbig, bind_some', hres]
      cases bigB (t.long v) <;> exact ⟨rfl, rfl⟩

theorem lawLong_ev (v : Int) (t : T) (hok : t.ok) : Ev fun n => w_FnExactLong n v t = some true := by
  by_cases hb : t.sz 1048576 < 0
  · refine (szTree_ev t hok).mp fun n h => ?_
    unfold w_FnExactLong
    rw [h 1048576 (by omega) (by omega), bind_some', if_pos hb]
  · have hsm := sz_sm t 1048576 (by omega) (by omega) (by omega)
    have hsz := sz_size t 1048576 (by omega) (by omega)
    have hr := sz_range t 1048576 (by omega)
    have hns := nodes_size t
    have hn := longV_size v t
    rw [← nodes_size] at hn
    have hk : tnodes t.kids ≤ T.nodes t := by obtain ⟨k, m, s, ks⟩ := t; simp only [T.nodes, T.kids]; omega
    refine ((szTree_ev t hok).and ((toTree_ev t hsm).and ((longBoth_ev v t hsm).and ((eqTs_ev t hsm).and ((heldTree_ev t (by omega)).and ((eqTree_ev (longV v t).1 (nodes_fits _ (by omega))).and (heldTree_ev (longV v t).1 (by omega)))))))).mp fun n h => ?_
    obtain ⟨h1, h2, ⟨h3, h4⟩, h5, ⟨h6, _⟩, h7, h8, h9⟩ := h
    unfold w_FnExactLong
    rw [h1 1048576 (by omega) (by omega), bind_some', if_neg hb]
    have hneg1 : ¬ (1 + 3 * (tnodes t.kids : Int)) < 0 := by omega
    have hneg : ¬ (1 + 3 * (tnodes (longV v t).1.kids : Int)) < 0 := by omega
    simp only [h2, h3, h4, h5, h6, h7, h8, h9, bind_some', Bool.not_true, Bool.false_eq_true, if_false, bne_self_eq_false, if_neg hneg1, if_neg hneg]

theorem lawLong_ok (v : Int) (_ : -9223372036854775808 ≤ v ∧ v ≤ 9223372036854775807) (t : LT) (hok : t.er.ok) (hold : old t.toks) : ∀ tk, 2 ≤ tk → ACalls Go.Proofs.Tryd.prog 6 [.int .i64 v, .agg t.cells] (fun _ => none) tk (RetX (fun _ => none) tk (fun v _ => v = .bool true)) := by
  intro tk h2
  obtain ⟨n, hn⟩ := (lawLong_ev v t.er hok).get
  obtain ⟨k, m, s, q, f', ks⟩ := t
  rw [LT.toks_eq] at hold
  exact w_FnExactLong_ok n v k m s q f' ks hn (fun x hx => hold x hx) _ tk rfl h2

end Go.Am.YtiobknkpdkkikaaDoor
