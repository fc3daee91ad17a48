/- Plain laws: right trees; variables that occur. -/
import Derived.Test.YtaedacibojpfkaaDoorPsOK
import Derived.Test.YtaedacibojpfkaaDoorDkOccurs
namespace Go.Am
open Go
/-- How many binders more stand around a kid. -/
def und (k : Int) (i : Nat) : Int := if k = 4 then 1 else if k = 2 then (if i = 1 then 1 else 0) else 0
theorem und_range (k : Int) (i : Nat) : 0 ≤ und k i ∧ und k i ≤ 1 := by unfold und; split <;> (try split) <;> (try split) <;> omega
mutual
def T.occ : T → Int → Bool
  | .mk k n _ ks, v => (decide (k = 5) && decide (n = v)) || occs ks k 0 v
def occs : List T → Int → Nat → Int → Bool
  | [], _, _, _ => false
  | t :: r, k, i, v => t.occ (v + und k i) || occs r k (i + 1) v
end
end Go.Am
namespace Go.Am.YtaedacibojpfkaaDoor
open Go Go.Am

theorem tmoks_mem : ∀ {ks : List T}, tmoks ks = true → ∀ t ∈ ks, t.tmok = true
  | [], _, t, h => by cases h
  | a :: r, h, t, ht => by
    simp only [tmoks, Bool.and_eq_true] at h
    rcases List.mem_cons.1 ht with rfl | ht
    · exact h.1
    · exact tmoks_mem h.2 t ht
/-- A term, a family or a kind. -/
def rightB (t : T) : Bool := decide (t.size ≤ 150) && (t.tmok || (t.faok false || t.faok true))
theorem treeOK_ev (t : T) (hsm : t.sm) : Ev fun n => i_treeOK n t = some (rightB t) := by
  refine ((implTermOK_ev t hsm).and ((implFamilyOK_ev t hsm).and (implKindOK_ev t hsm))).mp fun n ⟨h1, h2, h3⟩ => ?_
  unfold i_treeOK rightB
  rw [h1, bind_some', h2, bind_some', h3, bind_some']
  cases decide (t.size ≤ 150) <;> cases t.tmok <;> cases t.faok false <;> cases t.faok true <;> rfl
/-- What the numbers beside a tree are worth. -/
def inB (v : Int) : Bool := decide (0 ≤ v) && decide (v ≤ 100)
def faultV (t : T) (l : List Int) : Int := if rightB t = false then 1 else if l.all inB = true then 0 else 16
theorem fault_lp (l : List Int) (hl : l.length ≤ 1048576) : ∀ (r a : List Int) (m : Nat), l = a ++ r → r.length < m → i_treeFault_L1 l m a.length = some (if r.all inB = true then 0 else 16)
  | [], a, m, e, hm => by
    obtain ⟨m, rfl⟩ : ∃ k, m = k + 1 := ⟨m - 1, by omega⟩
    subst e
    rw [i_treeFault_L1, if_neg (lt_end a)]; rfl
  | y :: r, a, m, e, hm => by
    obtain ⟨m, rfl⟩ : ∃ k, m = k + 1 := ⟨m - 1, by omega⟩
    have e1 : (a.length : Int) < (l.length : Int) := by rw [e]; exact lt_mid a y r
    have e2 : idx l (a.length : Int) = some y := by rw [e]; exact idx_mid a y r
    have hw : IntKind.i64.wrap ((a.length : Int) + 1) = ((a ++ [y]).length : Int) := w64_mid a y r (by rw [← e]; omega)
    have ih := fault_lp l hl r (a ++ [y]) m (by simp [e]) (by simpa using hm)
    rw [i_treeFault_L1, if_pos e1, e2, bind_some', in_eq, bind_some', hw, ih]
    show (if (!(inB y)) = true then _ else _) = _
    rw [List.all_cons]
    cases inB y <;> rfl
theorem fault_ev (t : T) (hsm : t.sm) (l : List Int) (hl : l.length ≤ 1048576) : Ev fun n => i_treeFault n t l = some (faultV t l) := by
  refine (treeOK_ev t hsm).at (l.length + 1) fun n hn h => ?_
  unfold i_treeFault faultV
  rw [h, bind_some']
  cases rightB t with
  | false => rfl
  | true =>
    rw [if_neg (by decide), if_neg (by decide)]
    exact fault_lp l hl l [] n rfl (by omega)

theorem under_c (x : T) (i : Nat) : i_Tree_under__c x (i : Int) = some (und x.kind i) := by
  unfold i_Tree_under__c i_Tree_binds__c und
  by_cases h4 : x.kind = 4
  · rw [if_pos h4, if_pos h4]; rfl
  · rw [if_neg h4, if_neg h4]
    by_cases h2 : x.kind = 2
    · rw [if_pos h2, if_pos h2, bind_some']
      by_cases h1 : i = 1
      · subst h1; rfl
      · rw [if_neg h1, if_neg (show ¬ (((i : Int) == 1) = true) by simp only [beq_iff_eq]; omega)]
    · rw [if_neg h2, if_neg h2]; rfl
theorem iocc_lp (rec : T → Int → Int → Option Bool) (x : T) (d v : Int) (B : Int) (hB : B ≤ 9223372036854775000) (hv : 0 ≤ v) (hd : 0 ≤ d) (hvB : v + d + sizes x.kids ≤ B) (hl : x.kids.length ≤ 1048576)
    (H : ∀ y ∈ x.kids, ∀ d : Int, 0 ≤ d → v + d + (y.size : Int) ≤ B + 1 → rec y d v = some (y.occ (v + d))) :
    ∀ (r a : List T) (m : Nat), x.kids = a ++ r → r.length < m → i_Tree_each__c_fn_i_occurs_c1v_L1 rec x d v m a.length = some (occs r x.kind a.length (v + d))
  | [], a, m, e, hm => by
    obtain ⟨m, rfl⟩ : ∃ k, m = k + 1 := ⟨m - 1, by omega⟩
    rw [i_Tree_each__c_fn_i_occurs_c1v_L1, e, if_neg (lt_end a)]; rfl
  | y :: r, a, m, e, hm => by
    obtain ⟨m, rfl⟩ : ∃ k, m = k + 1 := ⟨m - 1, by omega⟩
    have hy : y ∈ x.kids := by rw [e]; simp
    have e1 : (a.length : Int) < (x.kids.length : Int) := by rw [e]; exact lt_mid a y r
    have e2 : idx x.kids (a.length : Int) = some y := by rw [e]; exact idx_mid a y r
    have hw : IntKind.i64.wrap ((a.length : Int) + 1) = ((a ++ [y]).length : Int) := w64_mid a y r (by rw [← e]; omega)
    have ih := iocc_lp rec x d v B hB hv hd hvB hl H r (a ++ [y]) m (by simp [e]) (by simpa using hm)
    have hu := und_range x.kind a.length
    have hs := sizes_mem hy
    rw [i_Tree_each__c_fn_i_occurs_c1v_L1, if_pos e1, e2, bind_some', under_c, bind_some', w64_eq (by omega) (by omega), H y hy _ (by omega) (by omega), bind_some', hw, ih]
    simp only [occs, List.length_append, List.length_singleton, ← Int.add_assoc]
    cases y.occ (v + d + und x.kind a.length) <;> rfl
theorem iocc_ev (t : T) : t.sm → Ev fun n => ∀ d v : Int, 0 ≤ d → 0 ≤ v → v + d + (t.size : Int) ≤ 4611686018427387904 → i_Tree_each__c_fn_i_occurs_c1v n t d v = some (t.occ (v + d)) := by
  induction t using T.ind with
  | _ k n s ks ih =>
    intro hsm
    obtain ⟨_, hl, hks⟩ := sm_kids hsm
    refine (Ev.all fun t ht => ih t ht (hks t ht)).up (ks.length + 1) fun fu hn H d v h0 hv h1 => ?_
    have hsz : (T.mk k n s ks).size = 1 + sizes ks := by simp only [T.size]
    rw [hsz] at h1
    have hlp := iocc_lp (i_Tree_each__c_fn_i_occurs_c1v fu) (T.mk k n s ks) d v 4611686018427387903 (by omega) hv h0 (by rw [tkids]; omega) hl (fun y hy d a b => H y hy d v a hv (by omega)) ks [] fu rfl (by omega)
    have hlp : i_Tree_each__c_fn_i_occurs_c1v_L1 (i_Tree_each__c_fn_i_occurs_c1v fu) (T.mk k n s ks) d v fu 0 = some (occs ks k 0 (v + d)) := hlp
    have e0 : i_Tree_each__c_fn_i_occurs_c1v (fu + 1) (T.mk k n s ks) d v = (if k = 5 then some (n == IntKind.i64.wrap (v + d)) else some false).bind fun r4 => if r4 = true then some true else i_Tree_each__c_fn_i_occurs_c1v_L1 (i_Tree_each__c_fn_i_occurs_c1v fu) (T.mk k n s ks) d v fu 0 := by rw [i_Tree_each__c_fn_i_occurs_c1v]; rfl
    rw [e0, hlp, w64_eq (by omega) (by omega)]
    simp only [T.occ]
    by_cases k5 : k = 5
    · rw [if_pos k5, decide_eq_true k5, bind_some']
      by_cases nv : n = v + d
      · rw [if_pos (show (n == v + d) = true from beq_iff_eq.2 nv), decide_eq_true nv]; rfl
      · rw [if_neg (show ¬ (n == v + d) = true by simpa using nv), decide_eq_false nv]; rfl
    · rw [if_neg k5, decide_eq_false k5]; rfl
end Go.Am.YtaedacibojpfkaaDoor
