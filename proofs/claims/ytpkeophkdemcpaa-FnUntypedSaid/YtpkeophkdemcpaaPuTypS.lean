/- Plain laws: lists of forms that are right. -/
import Derived.Test.YtpkeophkdemcpaaPvType
import Derived.Test.YtpkeophkdemcpaaMxTA
namespace Go.Am.Ytpkeophkdemcpaa
open Go Go.Am

def tgd (f : F) : Bool := decide (f.size ≤ 150) && f.tyok

theorem specHyps_lp (n : Nat) (l : List F) (hl : l.length ≤ 4096) (H : ∀ y ∈ l, s_TypeOK n y = some (tgd y)) :
  ∀ (r a : List F) (m : Nat), l = a ++ r → r.length < m → s_l09Ctx_L1 n l m a.length = some (r.all tgd)
 | [], a, m, e, hm => by
  obtain ⟨m, rfl⟩ : ∃ k, m = k + 1 := ⟨m - 1, by omega⟩
  rw [s_l09Ctx_L1, e, if_neg (lt_end a)]; rfl
 | y :: r, a, m, e, hm => by
  obtain ⟨m, rfl⟩ : ∃ k, m = k + 1 := ⟨m - 1, by omega⟩
  have e1 : (a.length : Int) < (l.length : Int) := by rw [e]; exact lt_mid a y r
  have e2 : idx l (a.length : Int) = some y := by rw [e]; exact idx_mid a y r
  have hy : y ∈ l := by rw [e]; simp
  have hw : IntKind.i64.wrap ((a.length : Int) + 1) = ((a ++ [y]).length : Int) := w64_mid a y r (by rw [← e]; omega)
  rw [s_l09Ctx_L1, if_pos e1, e2, bind_some', H y hy, bind_some', hw, List.all_cons]
  cases hg : tgd y with
  | false => rfl
  | true =>
   rw [if_neg (by decide), specHyps_lp n l hl H r (a ++ [y]) m (by simp [e]) (by simpa using hm), Bool.true_and]

theorem idxBad_lp (n : Nat) (l : List F) (hl : l.length ≤ 4096) (H : ∀ y ∈ l, i_TypeOK n y = some (tgd y)) :
  ∀ (r a : List F) (m : Nat), l = a ++ r → r.length < m → ∃ i, g_IndexFunc_Type__fn_i_typesOK_c1_L1 n l m a.length = some i ∧ (decide (i ≥ 0)) = !(r.all tgd)
 | [], a, m, e, hm => by
  obtain ⟨m, rfl⟩ : ∃ k, m = k + 1 := ⟨m - 1, by omega⟩
  rw [g_IndexFunc_Type__fn_i_typesOK_c1_L1, e, if_neg (lt_end a)]; exact ⟨_, rfl, rfl⟩
 | y :: r, a, m, e, hm => by
  obtain ⟨m, rfl⟩ : ∃ k, m = k + 1 := ⟨m - 1, by omega⟩
  have e1 : (a.length : Int) < (l.length : Int) := by rw [e]; exact lt_mid a y r
  have e2 : idx l (a.length : Int) = some y := by rw [e]; exact idx_mid a y r
  have hy : y ∈ l := by rw [e]; simp
  have hw : IntKind.i64.wrap ((a.length : Int) + 1) = ((a ++ [y]).length : Int) := w64_mid a y r (by rw [← e]; omega)
  have hbf : i_typesOK_c1 n y = some (!(tgd y)) := by unfold i_typesOK_c1; rw [H y hy, bind_some']
  rw [g_IndexFunc_Type__fn_i_typesOK_c1_L1, if_pos e1, e2, bind_some', hbf, bind_some', hw, List.all_cons]
  cases hg : tgd y with
  | false => exact ⟨_, rfl, by simp⟩
  | true =>
   rw [if_neg (by decide), Bool.true_and]
   exact idxBad_lp n l hl H r (a ++ [y]) m (by simp [e]) (by simpa using hm)

theorem longs_ev (l : List F) : Ev fun n => i_longLists n [(l.length : Int)] = some (decide (4096 < l.length)) := by
 refine ⟨2, fun n hn => ?_⟩
 obtain ⟨n, rfl⟩ : ∃ q, n = q + 2 := ⟨n - 2, by omega⟩
 unfold i_longLists g_Max_X
 rw [if_neg (by simp), show idx [(l.length : Int)] 0 = some (l.length : Int) from rfl, bind_some', g_Max_X_L1, if_neg (by simp), bind_some']
 congr 1
 exact decide_eq_decide.2 (by omega)

theorem typesOK_ev (l : List F) (hl' : l.length ≤ 4096) (hsm : ∀ t ∈ l, t.sm) : Ev fun n => s_l09Ctx n l = some (decide (l.length ≤ 12) && l.all tgd) ∧ i_typesOK n l = some (decide (l.length ≤ 12) && l.all tgd) := by
 have H1 : Ev fun n => ∀ y ∈ l, s_TypeOK n y = some (tgd y) := Ev.all fun y hy => specTypeOK_ev y (hsm y hy)
 have H2 : Ev fun n => ∀ y ∈ l, i_TypeOK n y = some (tgd y) := Ev.all fun y _ => implTypeOK_ev y
 refine (H1.and H2).at (l.length + 1) fun n hn h => ?_
 obtain ⟨h1, h2⟩ := h
 constructor
 ·unfold s_l09Ctx
  by_cases h12 : (l.length : Int) > 12
  ·rw [if_pos h12, decide_eq_false (by omega)]; rfl
  have e1 : s_l09Ctx_L1 n l n 0 = some (l.all tgd) := specHyps_lp n l hl' h1 l [] n rfl (by omega)
  rw [if_neg h12, e1, decide_eq_true (by omega), Bool.true_and]
 unfold i_typesOK g_ContainsFunc_Type__fn_i_typesOK_c1 g_IndexFunc_Type__fn_i_typesOK_c1
 by_cases h12 : (l.length : Int) ≤ 12
 ·obtain ⟨i, hi, hd⟩ := idxBad_lp n l hl' h2 l [] n rfl (by omega)
  have hi : g_IndexFunc_Type__fn_i_typesOK_c1_L1 n l n 0 = some i := hi
  rw [if_pos h12, hi, bind_some', bind_some', hd, decide_eq_true (by omega), Bool.true_and, Bool.not_not]
 rw [if_neg h12, decide_eq_false (by omega)]; rfl

end Go.Am.Ytpkeophkdemcpaa
