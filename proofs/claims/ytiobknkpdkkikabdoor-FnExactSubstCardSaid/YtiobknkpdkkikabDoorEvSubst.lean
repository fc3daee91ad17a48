/- Plain laws: the law of Subst. -/
import Derived.Test.YtiobknkpdkkikabDoorEsTree
import Derived.Test.YtiobknkpdkkikabDoorPuTree
import Derived.Test.YtiobknkpdkkikabDoorEwSubst
namespace Go.Am.YtiobknkpdkkikabDoor
open Go Go.Am

theorem nodes_size (t : T) : T.nodes t = t.size := by
  induction t using T.ind with
  | _ k n s ks ih =>
    have key : ∀ l : List T, (∀ t ∈ l, T.nodes t = t.size) → tnodes l = sizes l := by
      intro l
      induction l with
      | nil => intro _; rfl
      | cons a r ih2 => intro h; simp only [tnodes, sizes]; rw [h a (by simp), ih2 fun t ht => h t (by simp [ht])]
    simp only [T.nodes, T.size]
    rw [key ks ih]

theorem T_eta (t : T) : T.mk t.kind t.n t.name t.kids = t := by cases t; rfl
theorem mark_any (t : T) (k : Int) (h0 : 0 ≤ k) (hb : k + 3 * (t.size : Int) ≤ 9223372036854775807) : ∃ r, w_markTree t k = some (r, k + 3 * (tnodes t.kids : Int)) := by
  have hs : (tnodes t.kids : Int) ≤ t.size := by
    have := nodes_size t
    obtain ⟨k, n, s, ks⟩ := t
    simp only [T.nodes, T.kids] at *
    omega
  refine ⟨(tmarks mtx t.kids k).1, ?_⟩
  have : w_markTree t k = some (tmarks mtx t.kids k) := rfl
  rw [this, ← tmarks_snd mtx t.kids k h0 (by omega)]
theorem eqs_ev (t : T) (hsm : t.sm) : Ev fun n => w_eqTree n t t = some true := eqTs_ev t hsm

/-- What Subst answers: both the same, not too big. -/
theorem substBoth_ev (m a t : T) (hm : m.sm) (ha : a.sm) (ht : t.sm) : ∃ v : T × Int, v.1.size ≤ 150 ∧ v.1.sm ∧ Ev fun n => s_Subst n m a t = some v ∧ i_Subst n m a t = some v := by
  have hz : (T.mk 0 0 ⟨#[]⟩ []).size ≤ 150 ∧ (T.mk 0 0 ⟨#[]⟩ []).sm := ⟨by decide, by unfold T.sm; exact ⟨by decide, by decide, fun t ht => by cases ht⟩⟩
  cases hr1 : (decide (m.size ≤ 150) && m.tmok) with
  | false =>
    refine ⟨(T.mk 0 0 ⟨#[]⟩ [], 1), hz.1, hz.2, ((specTermOK_ev m hm).and (implTermOK_ev m hm)).mp fun n ⟨h1, h2⟩ => ?_⟩
    unfold s_Subst i_Subst
    rw [h1, h2, hr1]; exact ⟨rfl, rfl⟩
  | true =>
    cases hr2 : (decide (a.size ≤ 150) && a.simok) with
    | false =>
      refine ⟨(T.mk 0 0 ⟨#[]⟩ [], 1), hz.1, hz.2, ((specTermOK_ev m hm).and ((implTermOK_ev m hm).and ((specSimpleOK_ev a ha).and (implSimpleOK_ev a ha)))).mp fun n ⟨h1, h2, h3, h4⟩ => ?_⟩
      unfold s_Subst i_Subst
      rw [h1, h2, hr1, h3, h4, hr2]; exact ⟨rfl, rfl⟩
    | true =>
      cases hr3 : rightB t with
      | false =>
        refine ⟨(T.mk 0 0 ⟨#[]⟩ [], 1), hz.1, hz.2, ((specTermOK_ev m hm).and ((implTermOK_ev m hm).and ((specSimpleOK_ev a ha).and ((implSimpleOK_ev a ha).and ((specRight_ev t ht).and (treeOK_ev t ht)))))).mp fun n ⟨h1, h2, h3, h4, h5, h6⟩ => ?_⟩
        unfold s_Subst i_Subst
        rw [h1, h2, hr1, h3, h4, hr2, h5, h6, hr3]; exact ⟨rfl, rfl⟩
      | true =>
        have hh1 : m.size ≤ 150 ∧ m.tmok = true := by simpa using hr1
        have hh2 : a.size ≤ 150 ∧ a.simok = true := by simpa using hr2
        obtain ⟨z, y, hR, hO, hE⟩ := put_ev t m a 0 (tmok_gd m hh1.2 hh1.1 hm) hh2.2 (right_gd hr3 ht) (by omega) (by omega)
        have hEv := (specTermOK_ev m hm).and ((implTermOK_ev m hm).and ((specSimpleOK_ev a ha).and ((implSimpleOK_ev a ha).and ((specRight_ev t ht).and ((treeOK_ev t ht).and hE)))))
        cases z with
        | stop c p =>
          refine ⟨(T.mk 0 0 ⟨#[]⟩ [], c), hz.1, hz.2, hEv.mp fun n ⟨h1, h2, h3, h4, h5, h6, h7, h8⟩ => ?_⟩
          obtain ⟨q1, q2, q3⟩ := hR
          have hcap : i_result__fn_i_Subst_c1kkk n m a t = some (T.mk 0 0 ⟨#[]⟩ [], c) := by
            unfold i_result__fn_i_Subst_c1kkk i_result_c1__of_i_Subst_c1_kv i_Subst_c1__kkk
            rw [h7]
            show (if (c != 0) = true then some (T.mk 0 0 ⟨#[]⟩ [], c) else none) = _
            rw [if_pos (by simpa using q3)]
          unfold s_Subst i_Subst
          rw [h1, h2, hr1, h3, h4, hr2, h5, h6, hr3, h8, hcap]
          obtain ⟨y1, y2, y3⟩ := y
          have q1 : y1 = T.mk 0 0 ⟨#[]⟩ [] := q1
          have q2 : y2 = c := q2
          subst q1 q2
          exact ⟨rfl, rfl⟩
        | ok r =>
          have hy : y = (r.1, 0, r.2) := hR
          obtain ⟨hg, _, _⟩ := hO
          refine ⟨(r.1, 0), hg.1, hg.2.2.2, (hEv.and (clone_ev r.1 hg.2.2.2)).mp fun n ⟨⟨h1, h2, h3, h4, h5, h6, h7, h8⟩, h9⟩ => ?_⟩
          have hcap : i_result__fn_i_Subst_c1kkk n m a t = some (r.1, 0) := by
            unfold i_result__fn_i_Subst_c1kkk i_result_c1__of_i_Subst_c1_kv i_Subst_c1__kkk
            rw [h7]
            show (i_clone n r.1).bind _ = _
            rw [h9]; rfl
          unfold s_Subst i_Subst
          rw [h1, h2, hr1, h3, h4, hr2, h5, h6, hr3, h8, hcap, hy]
          exact ⟨rfl, rfl⟩

theorem lawSubst_ev (m a t : T) (okm : m.ok) (oka : a.ok) (okt : t.ok) : Ev fun n => w_FnExactSubst n m a t = some true := by
  by_cases b1 : m.sz 1048576 < 0
  · refine (szTree_ev m okm).mp fun n h => ?_
    unfold w_FnExactSubst
    rw [h 1048576 (by omega) (by omega), bind_some', if_pos b1]
  · have r1 := sz_range m 1048576 (by omega)
    have hm := sz_sm m 1048576 (by omega) (by omega) (by omega)
    have z1 := sz_size m 1048576 (by omega) (by omega)
    by_cases b2 : a.sz (m.sz 1048576) < 0
    · refine ((szTree_ev m okm).and (szTree_ev a oka)).mp fun n ⟨h1, h2⟩ => ?_
      unfold w_FnExactSubst
      rw [h1 1048576 (by omega) (by omega), bind_some', if_neg b1, h2 _ (by omega) (by omega), bind_some', if_pos b2]
    · have r2 := sz_range a (m.sz 1048576) (by omega)
      have ha := sz_sm a (m.sz 1048576) (by omega) (by omega) (by omega)
      have z2 := sz_size a (m.sz 1048576) (by omega) (by omega)
      by_cases b3 : t.sz (a.sz (m.sz 1048576)) < 0
      · refine ((szTree_ev m okm).and ((szTree_ev a oka).and (szTree_ev t okt))).mp fun n ⟨h1, h2, h3⟩ => ?_
        unfold w_FnExactSubst
        rw [h1 1048576 (by omega) (by omega), bind_some', if_neg b1, h2 _ (by omega) (by omega), bind_some', if_neg b2, h3 _ (by omega) (by omega), bind_some', if_pos b3]
      · have r3 := sz_range t (a.sz (m.sz 1048576)) (by omega)
        have ht := sz_sm t (a.sz (m.sz 1048576)) (by omega) (by omega) (by omega)
        have z3 := sz_size t (a.sz (m.sz 1048576)) (by omega) (by omega)
        obtain ⟨v, hv, hvs, hE⟩ := substBoth_ev m a t hm ha ht
        have hns := nodes_size v.1
        have hk : ∀ x : T, tnodes x.kids ≤ x.size := by
          intro x
          have := nodes_size x
          obtain ⟨k, n, s, ks⟩ := x
          simp only [T.nodes, T.kids] at *; omega
        have k1 := hk m; have k2 := hk a; have k3 := hk t; have k4 := hk v.1
        obtain ⟨m1, hm1⟩ := mark_any m 1 (by omega) (by omega)
        obtain ⟨m2, hm2⟩ := mark_any a (1 + 3 * (tnodes m.kids : Int)) (by omega) (by omega)
        obtain ⟨m3, hm3⟩ := mark_any t (1 + 3 * (tnodes m.kids : Int) + 3 * (tnodes a.kids : Int)) (by omega) (by omega)
        refine ((szTree_ev m okm).and ((szTree_ev a oka).and ((szTree_ev t okt).and ((toTree_ev m hm).and ((toTree_ev a ha).and ((toTree_ev t ht).and (hE.and ((eqTs_ev m hm).and ((eqTs_ev a ha).and ((eqTs_ev t ht).and ((eqTs_ev v.1 hvs).and (heldTree_ev v.1 (by omega))))))))))))).mp fun n ⟨h1, h2, h3, h4, h5, h6, ⟨h7, h8⟩, h9, h10, h11, h12, h13, h14⟩ => ?_
        unfold w_FnExactSubst
        rw [h1 1048576 (by omega) (by omega), bind_some', if_neg b1, h2 _ (by omega) (by omega), bind_some', if_neg b2, h3 _ (by omega) (by omega), bind_some', if_neg b3]
        have n1 : ¬ (1 + 3 * (tnodes m.kids : Int) + 3 * (tnodes a.kids : Int) + 3 * (tnodes t.kids : Int)) < 0 := by omega
        have n2 : ¬ (1 + 3 * (tnodes v.1.kids : Int)) < 0 := by omega
        simp only [jn_eq, h4, h5, h6, h7, h8, h9, h10, h11, h12, h13, h14, hm1, hm2, hm3, T_eta, bind_some', Bool.not_true, Bool.false_eq_true, if_false, bne_self_eq_false, if_neg n1, if_neg n2]

theorem lawSubst_ok (m : LT) (okm : m.er.ok) (oldm : old m.toks) (a : LT) (oka : a.er.ok) (olda : old a.toks) (t : LT) (okt : t.er.ok) (oldt : old t.toks) : ∀ tk, 2 ≤ tk → ACalls Go.Proofs.Tryd.prog 4 [.agg m.cells, .agg a.cells, .agg t.cells] (fun _ => none) tk (RetX (fun _ => none) tk (fun v _ => v = .bool true)) := by
  intro tk h2
  obtain ⟨n, hn⟩ := (lawSubst_ev m.er a.er t.er okm oka okt).get
  obtain ⟨k1, m1, s1, q1, f1, ks1⟩ := m
  obtain ⟨k2, m2, s2, q2, f2, ks2⟩ := a
  obtain ⟨k3, m3, s3, q3, f3, ks3⟩ := t
  rw [LT.toks_eq] at oldm olda oldt
  exact w_FnExactSubst_ok n k1 m1 s1 q1 f1 ks1 k2 m2 s2 q2 f2 ks2 k3 m3 s3 q3 f3 ks3 hn (fun x hx => oldm x hx) (fun x hx => olda x hx) (fun x hx => oldt x hx) _ tk rfl h2

end Go.Am.YtiobknkpdkkikabDoor
