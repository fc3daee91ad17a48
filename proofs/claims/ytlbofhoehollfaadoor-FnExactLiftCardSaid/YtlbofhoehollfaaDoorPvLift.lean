/- Plain laws: the law of Lift. -/
import Derived.Test.YtlbofhoehollfaaDoorPsLift
import Derived.Test.YtlbofhoehollfaaDoorPsNod
import Derived.Test.YtlbofhoehollfaaDoorDwLift
namespace Go.Am.YtlbofhoehollfaaDoor
open Go Go.Am

/-- What Lift answers. -/
def liftV (t : T) (f b : Int) : T × Int := if rightB t = false then (T.mk 0 0 ⟨#[]⟩ [], 1) else if (inB f && inB b) = true then (if (t.lft f b).hi = true then (T.mk 0 0 ⟨#[]⟩ [], 11) else (t.lft f b, 0)) else (T.mk 0 0 ⟨#[]⟩ [], 16)
theorem inB_lt {v : Int} (h : v < 0) : inB v = false := by unfold inB; rw [decide_eq_false (by omega)]; rfl
theorem inB_gt {v : Int} (h : v > 100) : inB v = false := by unfold inB; rw [decide_eq_false (show ¬ v ≤ 100 by omega), Bool.and_false]
theorem inB_in {v : Int} (h0 : ¬ v < 0) (h : ¬ v > 100) : inB v = true := by unfold inB; rw [decide_eq_true (show 0 ≤ v by omega), decide_eq_true (show v ≤ 100 by omega)]; rfl
theorem liftBoth_ev (t : T) (f b : Int) (hsm : t.sm) : Ev fun n => s_Lift n t f b = some (liftV t f b) ∧ i_Lift n t f b = some (liftV t f b) := by
  have hF := fault_ev t hsm [f, b] (by simp)
  by_cases hr : rightB t = false
  · refine ((specRight_ev t hsm).and hF).mp fun n ⟨h1, h2⟩ => ?_
    unfold liftV s_Lift i_Lift
    rw [h1, h2, bind_some', bind_some', hr]
    unfold faultV
    rw [hr]
    exact ⟨rfl, rfl⟩
  · have hr : rightB t = true := by simpa using hr
    obtain ⟨h100, hs⟩ := right_n100 hr
    have hls := lft_size t f b
    refine ((specRight_ev t hsm).and (hF.and ((lift_ev t hsm (vb_mono (by omega) t (n100_vb t h100)) (by omega)).and ((tooBigT_ev (t.lft f b) (by omega)).and (shigh_ev (t.lft f b) (by omega)))))).mp fun n ⟨h1, h2, h3, h4, h5⟩ => ?_
    unfold liftV s_Lift i_Lift
    rw [h1, h2, bind_some', bind_some', hr]
    unfold faultV
    rw [hr, List.all_cons, List.all_cons, List.all_nil, Bool.and_true]
    by_cases f0 : f < 0
    · rw [inB_lt f0, if_pos f0]; exact ⟨rfl, rfl⟩
    · by_cases f1 : f > 100
      · rw [inB_gt f1, if_neg f0, if_pos f1]; exact ⟨rfl, rfl⟩
      · rw [inB_in f0 f1, if_neg f0, if_neg f1]
        by_cases b0 : b < 0
        · rw [inB_lt b0, if_pos b0]; exact ⟨rfl, rfl⟩
        · by_cases b1 : b > 100
          · rw [inB_gt b1, if_neg b0, if_pos b1]; exact ⟨rfl, rfl⟩
          · rw [inB_in b0 b1, if_neg b0, if_neg b1]
            obtain ⟨h6, h7⟩ := h3 f b (by omega) (by omega) (by omega) (by omega)
            have hbig : bigB (t.lft f b) = (t.lft f b).hi := by unfold bigB; rw [decide_eq_false (by omega), Bool.false_or]
            rw [h6, h7, bind_some', bind_some', h4, h5, bind_some', bind_some', hbig]
            cases (t.lft f b).hi <;> exact ⟨rfl, rfl⟩
theorem liftV_size (t : T) (f b : Int) : (liftV t f b).1.size ≤ 150 := by
  unfold liftV
  split
  · decide
  · rename_i hr
    split
    · split
      · decide
      · rw [lft_size]; exact (right_n100 (by simpa using hr)).2
    · decide

theorem lawLift_ev (t : T) (f b : Int) (hok : t.ok) : Ev fun n => w_FnExactLift n t f b = some true := by
  by_cases hb : t.sz 1048576 < 0
  · refine (szTree_ev t hok).mp fun n h => ?_
    unfold w_FnExactLift
    rw [h 1048576 (by omega) (by omega), bind_some', if_pos hb]
  · have hsm := sz_sm t 1048576 (by omega) (by omega) (by omega)
    have hsz := sz_size t 1048576 (by omega) (by omega)
    have hr := sz_range t 1048576 (by omega)
    have hns := nodes_size t
    have hn := liftV_size t f b
    rw [← nodes_size] at hn
    have hk : tnodes t.kids ≤ T.nodes t := by obtain ⟨k, m, s, ks⟩ := t; simp only [T.nodes, T.kids]; omega
    refine ((szTree_ev t hok).and ((toTree_ev t hsm).and ((liftBoth_ev t f b hsm).and ((eqTs_ev t hsm).and ((heldTree_ev t (by omega)).and ((eqTree_ev (liftV t f b).1 (nodes_fits _ (by omega))).and (heldTree_ev (liftV t f b).1 (by omega)))))))).mp fun n h => ?_
    obtain ⟨h1, h2, ⟨h3, h4⟩, h5, ⟨h6, _⟩, h7, h8, h9⟩ := h
    unfold w_FnExactLift
    rw [h1 1048576 (by omega) (by omega), bind_some', if_neg hb]
    have hneg1 : ¬ (1 + 3 * (tnodes t.kids : Int)) < 0 := by omega
    have hneg : ¬ (1 + 3 * (tnodes (liftV t f b).1.kids : Int)) < 0 := by omega
    simp only [h2, h3, h4, h5, h6, h7, h8, h9, bind_some', Bool.not_true, Bool.false_eq_true, if_false, bne_self_eq_false, if_neg hneg1, if_neg hneg]

theorem lawLift_ok (t : LT) (hok : t.er.ok) (hold : old t.toks) (f : Int) (_ : -9223372036854775808 ≤ f ∧ f ≤ 9223372036854775807) (b : Int) (_ : -9223372036854775808 ≤ b ∧ b ≤ 9223372036854775807) : ∀ tk, 2 ≤ tk → ACalls Go.Proofs.Tryd.prog 13 [.agg t.cells, .int .i64 f, .int .i64 b] (fun _ => none) tk (RetX (fun _ => none) tk (fun v _ => v = .bool true)) := by
  intro tk h2
  obtain ⟨n, hn⟩ := (lawLift_ev t.er f b hok).get
  obtain ⟨k, m, s, q, f', ks⟩ := t
  rw [LT.toks_eq] at hold
  exact w_FnExactLift_ok n k m s q f' ks f b hn (fun x hx => hold x hx) _ tk rfl h2

end Go.Am.YtlbofhoehollfaaDoor
