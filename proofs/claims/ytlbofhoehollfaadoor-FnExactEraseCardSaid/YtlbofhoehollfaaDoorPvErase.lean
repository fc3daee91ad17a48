/- Plain laws: the law of Erase. -/
import Derived.Test.YtlbofhoehollfaaDoorPvFamilyOK
import Derived.Test.YtlbofhoehollfaaDoorPuTree
import Derived.Test.YtlbofhoehollfaaDoorDwErase
namespace Go.Am
open Go
mutual
def T.er1 : T → T
  | .mk k _ s ks => if k = 2 then .mk 10 0 ⟨#[]⟩ (er1s ks) else .mk 9 0 s []
def er1s : List T → List T
  | [] => []
  | t :: r => t.er1 :: er1s r
end
end Go.Am
namespace Go.Am.YtlbofhoehollfaaDoor
open Go Go.Am

theorem nodes_size (t : T) : T.nodes t = t.size := by
  induction t using T.ind with
  | _ k n s ks ih =>
    have key : ∀ l : List T, (∀ t ∈ l, T.nodes t = t.size) → tnodes l = sizes l := by
      intro l
      induction l with
      | nil => intro _; rfl
      | cons a r ih2 => intro h; simp only [tnodes, sizes]; rw [h a (by simp), ih2 fun t ht => h t (by simp [ht])]
    simp only [T.nodes, T.size]
    rw [key ks ih]
theorem er1_nodes (t : T) : T.nodes t.er1 ≤ t.size := by
  induction t using T.ind with
  | _ k n s ks ih =>
    have key : ∀ l : List T, (∀ t ∈ l, T.nodes t.er1 ≤ t.size) → tnodes (er1s l) ≤ sizes l := by
      intro l
      induction l with
      | nil => intro _; exact Nat.le_refl _
      | cons a r ih2 =>
        intro h
        have h1 := h a (by simp)
        have h2 := ih2 fun t ht => h t (by simp [ht])
        simp only [er1s, tnodes, sizes]
        omega
    have := key ks ih
    simp only [T.er1, T.size]
    split
    · simp only [T.nodes]; omega
    · simp only [T.nodes, tnodes]; omega

theorem erase_ev (t : T) : t.faok false = true → Ev fun n => i_erase n t = some t.er1 ∧ s_l01Erase n t = some t.er1 := by
  induction t using T.ind with
  | _ k n s ks ih =>
    intro hok
    have ei : ∀ fu, i_erase (fu + 1) (T.mk k n s ks) = if k = 2 then (idx ks 0).bind fun y3 => (idx ks 1).bind fun y8 => (i_erase fu y3).bind fun r13 => (i_erase fu y8).bind fun r20 => some (T.mk 10 0 ⟨#[]⟩ [r13, r20]) else some (T.mk 9 0 s []) := fun fu => by rw [i_erase]; rfl
    have es : ∀ fu, s_l01Erase (fu + 1) (T.mk k n s ks) = if k = 2 then (idx ks 0).bind fun y3 => (idx ks 1).bind fun y8 => (s_l01Erase fu y3).bind fun r13 => (s_l01Erase fu y8).bind fun r20 => some (T.mk 10 0 ⟨#[]⟩ [r13, r20]) else some (T.mk 9 0 s []) := fun fu => by rw [s_l01Erase]; rfl
    by_cases k2 : k = 2
    · simp only [T.faok] at hok
      rw [if_neg (show ¬ k = 1 by omega), if_neg (show ¬ k = 3 by omega), if_pos k2] at hok
      simp only [Bool.and_eq_true, decide_eq_true_eq] at hok
      obtain ⟨_, _, hl, hf⟩ := hok
      match ks, hl, hf, ih, ei, es with
      | [a, b], _, hf, ih, ei, es =>
        have hab : a.faok false = true ∧ b.faok false = true := by simpa [faoks] using hf
        refine ((ih a (by simp) hab.1).and (ih b (by simp) hab.2)).up 0 fun fu _ H => ?_
        have er : (T.mk k n s [a, b]).er1 = T.mk 10 0 ⟨#[]⟩ [a.er1, b.er1] := by simp only [T.er1, er1s, if_pos k2]
        rw [ei, es, er, if_pos k2, if_pos k2]
        show (i_erase fu a).bind _ = _ ∧ (s_l01Erase fu a).bind _ = _
        rw [H.1.1, H.1.2, bind_some', bind_some', H.2.1, H.2.2]
        exact ⟨rfl, rfl⟩
    · have er : (T.mk k n s ks).er1 = T.mk 9 0 s [] := by simp only [T.er1, if_neg k2]
      refine ⟨1, fun fu hfu => ?_⟩
      obtain ⟨fu, rfl⟩ : ∃ q, fu = q + 1 := ⟨fu - 1, by omega⟩
      rw [ei, es, er, if_neg k2]
      exact ⟨rfl, if_neg k2⟩

/-- What Erase answers. -/
def erT (t : T) : T × Int := if (decide (t.size ≤ 150) && t.faok false) = true then (t.er1, 0) else (T.mk 0 0 ⟨#[]⟩ [], 1)

theorem eraseBoth_ev (t : T) (hsm : t.sm) : Ev fun n => s_Erase n t = some (erT t) ∧ i_Erase n t = some (erT t) := by
  by_cases hok : (decide (t.size ≤ 150) && t.faok false) = true
  · have he : erT t = (t.er1, 0) := if_pos hok
    have hf : t.faok false = true := by
      simp only [Bool.and_eq_true] at hok; exact hok.2
    refine ((specFamilyOK_ev t hsm).and ((implFamilyOK_ev t hsm).and (erase_ev t hf))).mp fun n h => ?_
    obtain ⟨h1, h2, h3, h4⟩ := h
    rw [hok] at h1 h2
    rw [he]
    constructor
    · unfold s_Erase; rw [h1, bind_some', if_neg (by decide), h4]; rfl
    · unfold i_Erase; rw [h2, bind_some', if_neg (by decide), h3]; rfl
  · have he : erT t = (T.mk 0 0 ⟨#[]⟩ [], 1) := if_neg hok
    have hok' : (decide (t.size ≤ 150) && t.faok false) = false := by simpa using hok
    refine ((specFamilyOK_ev t hsm).and (implFamilyOK_ev t hsm)).mp fun n h => ?_
    rw [hok'] at h
    rw [he]
    constructor
    · unfold s_Erase; rw [h.1, bind_some', if_pos (by decide)]
    · unfold i_Erase; rw [h.2, bind_some', if_pos (by decide)]

theorem erT_nodes (t : T) : T.nodes (erT t).1 ≤ 150 := by
  unfold erT
  split
  · rename_i h
    simp only [Bool.and_eq_true, decide_eq_true_eq] at h
    exact Nat.le_trans (er1_nodes t) h.1
  · decide

theorem lawErase_ev (t : T) (hok : t.ok) : Ev fun n => w_FnExactErase n t = some true := by
  by_cases hb : t.sz 1048576 < 0
  · refine (szTree_ev t hok).mp fun n h => ?_
    unfold w_FnExactErase
    rw [h 1048576 (by omega) (by omega), bind_some', if_pos hb]
  · have hsm := sz_sm t 1048576 (by omega) (by omega) (by omega)
    have hsz := sz_size t 1048576 (by omega) (by omega)
    have hr := sz_range t 1048576 (by omega)
    have hns := nodes_size t
    have hn := erT_nodes t
    have hk : tnodes t.kids ≤ T.nodes t := by obtain ⟨k, m, s, ks⟩ := t; simp only [T.nodes, T.kids]; omega
    refine ((szTree_ev t hok).and ((toTree_ev t hsm).and ((eraseBoth_ev t hsm).and ((eqTs_ev t hsm).and ((heldTree_ev t (by omega)).and ((eqTree_ev (erT t).1 (nodes_fits _ (by omega))).and (heldTree_ev (erT t).1 (by omega)))))))).mp fun n h => ?_
    obtain ⟨h1, h2, ⟨h3, h4⟩, h5, ⟨h6, _⟩, h7, h8, h9⟩ := h
    unfold w_FnExactErase
    rw [h1 1048576 (by omega) (by omega), bind_some', if_neg hb]
    have hneg1 : ¬ (1 + 3 * (tnodes t.kids : Int)) < 0 := by omega
    have hneg : ¬ (1 + 3 * (tnodes (erT t).1.kids : Int)) < 0 := by omega
    simp only [h2, h3, h4, h5, h6, h7, h8, h9, bind_some', Bool.not_true, Bool.false_eq_true, if_false, bne_self_eq_false, if_neg hneg1, if_neg hneg]

theorem lawErase_ok (t : LT) (hok : t.er.ok) (hold : old t.toks) : ∀ tk, 2 ≤ tk → ACalls Go.Proofs.Tryd.prog 12 [.agg t.cells] (fun _ => none) tk (RetX (fun _ => none) tk (fun v _ => v = .bool true)) := by
  intro tk h2
  obtain ⟨n, hn⟩ := (lawErase_ev t.er hok).get
  obtain ⟨k, m, s, q, f, ks⟩ := t
  rw [LT.toks_eq] at hold
  exact w_FnExactErase_ok n k m s q f ks hn (fun x hx => hold x hx) _ tk rfl h2

end Go.Am.YtlbofhoehollfaaDoor
