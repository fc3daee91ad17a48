/- Plain laws: the law of Lower. -/
import Derived.Test.YtlbofhoehollfaaDoorPsLift
import Derived.Test.YtlbofhoehollfaaDoorPsNod
import Derived.Test.YtlbofhoehollfaaDoorDwLower
namespace Go.Am.YtlbofhoehollfaaDoor
open Go Go.Am

/-- What Lower answers. -/
def lowerV (t : T) (v : Int) : T × Int := if rightB t = false then (T.mk 0 0 ⟨#[]⟩ [], 1) else if inB v = true then (if t.occ v = true then (T.mk 0 0 ⟨#[]⟩ [], 7) else (t.lft (v + 1) (-1), 0)) else (T.mk 0 0 ⟨#[]⟩ [], 16)
theorem inB_lt {v : Int} (h : v < 0) : inB v = false := by unfold inB; rw [decide_eq_false (by omega)]; rfl
theorem inB_gt {v : Int} (h : v > 100) : inB v = false := by unfold inB; rw [decide_eq_false (show ¬ v ≤ 100 by omega), Bool.and_false]
theorem inB_in {v : Int} (h0 : ¬ v < 0) (h : ¬ v > 100) : inB v = true := by unfold inB; rw [decide_eq_true (show 0 ≤ v by omega), decide_eq_true (show v ≤ 100 by omega)]; rfl
theorem lowerBoth_ev (t : T) (v : Int) (hsm : t.sm) : Ev fun n => s_Lower n t v = some (lowerV t v) ∧ i_Lower n t v = some (lowerV t v) := by
  have hF := fault_ev t hsm [v] (by simp)
  by_cases hr : rightB t = false
  · refine ((specRight_ev t hsm).and hF).mp fun n ⟨h1, h2⟩ => ?_
    unfold lowerV s_Lower i_Lower
    rw [h1, h2, bind_some', bind_some', hr]
    unfold faultV
    rw [hr]
    exact ⟨rfl, rfl⟩
  · have hr : rightB t = true := by simpa using hr
    obtain ⟨h100, hs⟩ := right_n100 hr
    refine ((specRight_ev t hsm).and (hF.and ((lift_ev t hsm (vb_mono (by omega) t (n100_vb t h100)) (by omega)).and (occurs_ev t hsm (by omega))))).mp fun n ⟨h1, h2, h3, h4⟩ => ?_
    unfold lowerV s_Lower i_Lower
    rw [h1, h2, bind_some', bind_some', hr]
    unfold faultV
    rw [hr, List.all_cons, List.all_nil, Bool.and_true]
    by_cases f0 : v < 0
    · rw [inB_lt f0, if_pos f0]; exact ⟨rfl, rfl⟩
    · by_cases f1 : v > 100
      · rw [inB_gt f1, if_neg f0, if_pos f1]; exact ⟨rfl, rfl⟩
      · rw [inB_in f0 f1, if_neg f0, if_neg f1]
        obtain ⟨h5, h6⟩ := h4 v (by omega) (by omega)
        obtain ⟨_, h7⟩ := h3 v (-1) (by omega) (by omega) (by omega) (by omega)
        obtain ⟨h8, _⟩ := h3 (v + 1) (-1) (by omega) (by omega) (by omega) (by omega)
        unfold i_lower
        rw [h5, h6, bind_some', bind_some', h7, w64_eq (by omega) (by omega), h8, bind_some', bind_some']
        cases ho : t.occ v with
        | true => exact ⟨rfl, rfl⟩
        | false => rw [occ_lft t v (-1) ho]; exact ⟨rfl, rfl⟩
theorem lowerV_size (t : T) (v : Int) : (lowerV t v).1.size ≤ 150 := by
  unfold lowerV
  split
  · decide
  · rename_i hr
    split
    · split
      · decide
      · rw [lft_size]; exact (right_n100 (by simpa using hr)).2
    · decide

theorem lawLower_ev (t : T) (v : Int) (hok : t.ok) : Ev fun n => w_FnExactLower n t v = some true := by
  by_cases hb : t.sz 1048576 < 0
  · refine (szTree_ev t hok).mp fun n h => ?_
    unfold w_FnExactLower
    rw [h 1048576 (by omega) (by omega), bind_some', if_pos hb]
  · have hsm := sz_sm t 1048576 (by omega) (by omega) (by omega)
    have hsz := sz_size t 1048576 (by omega) (by omega)
    have hr := sz_range t 1048576 (by omega)
    have hns := nodes_size t
    have hn := lowerV_size t v
    rw [← nodes_size] at hn
    have hk : tnodes t.kids ≤ T.nodes t := by obtain ⟨k, m, s, ks⟩ := t; simp only [T.nodes, T.kids]; omega
    refine ((szTree_ev t hok).and ((toTree_ev t hsm).and ((lowerBoth_ev t v hsm).and ((eqTs_ev t hsm).and ((heldTree_ev t (by omega)).and ((eqTree_ev (lowerV t v).1 (nodes_fits _ (by omega))).and (heldTree_ev (lowerV t v).1 (by omega)))))))).mp fun n h => ?_
    obtain ⟨h1, h2, ⟨h3, h4⟩, h5, ⟨h6, _⟩, h7, h8, h9⟩ := h
    unfold w_FnExactLower
    rw [h1 1048576 (by omega) (by omega), bind_some', if_neg hb]
    have hneg1 : ¬ (1 + 3 * (tnodes t.kids : Int)) < 0 := by omega
    have hneg : ¬ (1 + 3 * (tnodes (lowerV t v).1.kids : Int)) < 0 := by omega
    simp only [h2, h3, h4, h5, h6, h7, h8, h9, bind_some', Bool.not_true, Bool.false_eq_true, if_false, bne_self_eq_false, if_neg hneg1, if_neg hneg]

theorem lawLower_ok (t : LT) (hok : t.er.ok) (hold : old t.toks) (v : Int) (_ : -9223372036854775808 ≤ v ∧ v ≤ 9223372036854775807) : ∀ tk, 2 ≤ tk → ACalls Go.Proofs.Tryd.prog 14 [.agg t.cells, .int .i64 v] (fun _ => none) tk (RetX (fun _ => none) tk (fun v _ => v = .bool true)) := by
  intro tk h2
  obtain ⟨n, hn⟩ := (lawLower_ev t.er v hok).get
  obtain ⟨k, m, s, q, f', ks⟩ := t
  rw [LT.toks_eq] at hold
  exact w_FnExactLower_ok n k m s q f' ks v hn (fun x hx => hold x hx) _ tk rfl h2

end Go.Am.YtlbofhoehollfaaDoor
