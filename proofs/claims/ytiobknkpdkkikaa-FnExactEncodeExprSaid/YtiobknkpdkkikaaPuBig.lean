/- Plain laws: what is too big: more than 150 nodes (of trees whose variables have small numbers). -/
import Derived.Test.YtiobknkpdkkikaaPuTree
import Derived.Test.YtiobknkpdkkikaaMxA
namespace Go.Am.Ytiobknkpdkkikaa
open Go Go.Am

mutual
def T.vok : T → Bool
  | .mk k n _ ks => !(decide (k = 5) && decide (n > 100)) && tvoks ks
def tvoks : List T → Bool
  | [] => true
  | t :: r => T.vok t && tvoks r
end
theorem tvoks_mem : ∀ {ks : List T}, tvoks ks = true → ∀ t ∈ ks, T.vok t = true
  | [], _, t, h => by cases h
  | a :: r, h, t, ht => by
    simp only [tvoks, Bool.and_eq_true] at h
    rcases List.mem_cons.1 ht with rfl | ht
    · exact h.1
    · exact tvoks_mem h.2 t ht

def tb (i : Int) (c : Nat) : Bool × Int := if i + c ≤ 150 then (false, i + c) else (true, 151)
theorem tb_le {i : Int} {c : Nat} (h : i + c ≤ 150) : tb i c = (false, i + c) := if_pos h
theorem tb_gt {i : Int} {c : Nat} (h : ¬ i + c ≤ 150) : tb i c = (true, 151) := if_neg h

theorem under_some (t : T) (i : Int) : ∃ r, i_Tree_under__c t i = some r := by
  unfold i_Tree_under__c i_Tree_binds__c
  split
  · rw [bind_some']; split <;> exact ⟨_, rfl⟩
  · split
    · rw [bind_some']; split <;> exact ⟨_, rfl⟩
    · rw [bind_some']; split <;> exact ⟨_, rfl⟩

theorem each_loop (rec : T → Int → Int → Option (Bool × Int)) (x : T) (hl : x.kids.length ≤ 9223372036854775807) (d : Int) (H : ∀ y ∈ x.kids, ∀ d i, 0 ≤ i → i ≤ 150 → rec y d i = some (tb i (T.nodes y))) :
    ∀ (r a : List T) (m : Nat), x.kids = a ++ r → r.length < m → ∀ i, 0 ≤ i → i ≤ 150 → i_Tree_each__c_fn_i_tooBig_c1v_L1 rec x d m a.length i = some (tb i (tnodes r))
  | [], a, m, e, hm, i, h0, h1 => by
    obtain ⟨m, rfl⟩ : ∃ k, m = k + 1 := ⟨m - 1, by omega⟩
    rw [i_Tree_each__c_fn_i_tooBig_c1v_L1, e, if_neg (lt_end a), tb_le (by simp [tnodes]; omega)]
    simp [tnodes]
  | y :: r, a, m, e, hm, i, h0, h1 => by
    obtain ⟨m, rfl⟩ : ∃ k, m = k + 1 := ⟨m - 1, by omega⟩
    have e1 : (a.length : Int) < (x.kids.length : Int) := by rw [e]; exact lt_mid a y r
    have e2 : idx x.kids (a.length : Int) = some y := by rw [e]; exact idx_mid a y r
    have hy : y ∈ x.kids := by rw [e]; simp
    obtain ⟨u, hu⟩ := under_some x (a.length : Int)
    have hw : IntKind.i64.wrap ((a.length : Int) + 1) = ((a ++ [y]).length : Int) := w64_mid a y r (by rw [← e]; omega)
    rw [i_Tree_each__c_fn_i_tooBig_c1v_L1, if_pos e1, e2, bind_some', hu, bind_some', H y hy _ i h0 h1, bind_some', hw]
    simp only [tnodes]
    by_cases hb : i + (T.nodes y : Int) ≤ 150
    · rw [tb_le hb]
      simp only [Bool.false_eq_true, if_false]
      rw [each_loop rec x hl d H r (a ++ [y]) m (by simp [e]) (by simpa using hm) _ (by omega) hb]
      unfold tb
      push_cast
      rw [Int.add_assoc]
    · rw [tb_gt hb, tb_gt (by push_cast; omega)]
      simp only [if_true]

theorem each_ev (t : T) (hv : T.vok t = true) (hf : T.fits t) : Ev fun n => ∀ d i, 0 ≤ i → i ≤ 150 → i_Tree_each__c_fn_i_tooBig_c1v n t d i = some (tb i (T.nodes t)) := by
  induction t using T.ind with
  | _ k n s ks ih =>
    unfold T.fits at hf
    unfold T.vok at hv
    simp only [Bool.and_eq_true, Bool.not_eq_true', Bool.and_eq_false_iff, decide_eq_false_iff_not] at hv
    have hkv := tvoks_mem hv.2
    refine (Ev.all fun t ht => ih t ht (hkv t ht) (hf.2 t ht)).up (ks.length + 1) fun m hm H d i h0 h1 => ?_
    rw [i_Tree_each__c_fn_i_tooBig_c1v]
    have hn : (T.nodes (T.mk k n s ks) : Int) = 1 + (tnodes ks : Int) := by unfold T.nodes; push_cast; rfl
    have hw : IntKind.i64.wrap (i + 1) = i + 1 := w64_eq (by omega) (by omega)
    unfold i_tooBig_c1__c
    rw [hw]
    by_cases hb : i + 1 > 150
    · rw [if_pos hb, bind_some', tb_gt (by rw [hn]; omega)]
      have : i + 1 = 151 := by omega
      simp only [this, if_true]
    · rw [if_neg hb]
      have hc : (if (T.mk k n s ks).kind = 5 then some ((decide ((T.mk k n s ks).n > 100)), i + 1) else some (false, i + 1)) = some (false, i + 1) := by
        by_cases h5 : k = 5
        · have hn' : decide (n > 100) = false := decide_eq_false (hv.1.resolve_left (fun h => h h5))
          rw [if_pos (show (T.mk k n s ks).kind = 5 from h5), show (T.mk k n s ks).n = n from rfl, hn']
        · rw [if_neg (show ¬ (T.mk k n s ks).kind = 5 from h5)]
      rw [hc, bind_some']
      simp only [Bool.false_eq_true, if_false]
      have := each_loop (i_Tree_each__c_fn_i_tooBig_c1v m) (T.mk k n s ks) hf.1 d H ks [] m rfl (by omega) (i + 1) (by omega) (by omega)
      rw [show ((0 : Int)) = (([] : List T).length : Int) from rfl, this]
      unfold tb
      rw [hn, ← Int.add_assoc]

theorem tooBig_ev (t : T) (hv : T.vok t = true) (hf : T.fits t) : Ev fun n => i_tooBig n t = some (decide (¬ T.nodes t ≤ 150)) := by
  refine (each_ev t hv hf).mp fun n h => ?_
  unfold i_tooBig
  rw [h 0 0 (by omega) (by omega), bind_some']
  by_cases hb : T.nodes t ≤ 150
  · rw [tb_le (by omega)]; simp [hb]
  · rw [tb_gt (by omega)]; simp [hb]

end Go.Am.Ytiobknkpdkkikaa
