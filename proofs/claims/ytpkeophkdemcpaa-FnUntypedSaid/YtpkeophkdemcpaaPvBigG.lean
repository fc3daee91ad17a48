/- Plain laws: what is too big: more than 150 nodes, or a variable above 100. -/
import Derived.Test.YtpkeophkdemcpaaPuBigS
namespace Go.Am
open Go
def und (k : Int) (i : Nat) : Int := if k = 4 then 1 else if k = 2 then (if i = 1 then 1 else 0) else 0
mutual
def T.hi : T → Bool
 | .mk k n _ ks => (decide (k = 5) && decide (n > 100)) || his ks
def his : List T → Bool
 | [] => false
 | t :: r => t.hi || his r
end
end Go.Am
namespace Go.Am.Ytpkeophkdemcpaa
open Go Go.Am

def bigB (t : T) : Bool := decide (T.nodes t > 150) || t.hi
theorem tnodesmem : ∀ {ks : List T} {t : T}, t ∈ ks → T.nodes t ≤ tnodes ks
 | a :: r, t, h => by
  simp only [tnodes]
  rcases List.mem_cons.1 h with rfl | h
  ·omega
  have := tnodesmem h; omega
theorem under_c (x : T) (i : Nat) : i_Tree_under__c x (i : Int) = some (und x.kind i) := by
 unfold i_Tree_under__c i_Tree_binds__c und
 by_cases h4 : x.kind = 4
 ·rw [if_pos h4, if_pos h4]; rfl
 rw [if_neg h4, if_neg h4]
 by_cases h2 : x.kind = 2
 ·rw [if_pos h2, if_pos h2, bind_some']
  by_cases h1 : i = 1
  ·subst h1; rfl
  rw [if_neg h1, if_neg (show ¬ (((i : Int) == 1) = true) by simp only [beq_iff_eq]; omega)]
 rw [if_neg h2, if_neg h2]; rfl

theorem shigh_lp (rec : T → Option Bool) (x : T) (hl : x.kids.length ≤ 9223372036854775800) (H : ∀ y ∈ x.kids, rec y = some y.hi) :
  ∀ (r a : List T) (m : Nat), x.kids = a ++ r → r.length < m → s_l01High_L1 rec x m a.length = some (his r)
 | [], a, m, e, hm => by
  obtain ⟨m, rfl⟩ : ∃ k, m = k + 1 := ⟨m - 1, by omega⟩
  rw [s_l01High_L1, e, if_neg (lt_end a)]; rfl
 | y :: r, a, m, e, hm => by
  obtain ⟨m, rfl⟩ : ∃ k, m = k + 1 := ⟨m - 1, by omega⟩
  have hy : y ∈ x.kids := by rw [e]; simp
  have e1 : (a.length : Int) < (x.kids.length : Int) := by rw [e]; exact lt_mid a y r
  have e2 : idx x.kids (a.length : Int) = some y := by rw [e]; exact idx_mid a y r
  have hw : IntKind.i64.wrap ((a.length : Int) + 1) = ((a ++ [y]).length : Int) := w64_mid a y r (by rw [← e]; omega)
  have ih := shigh_lp rec x hl H r (a ++ [y]) m (by simp [e]) (by simpa using hm)
  rw [s_l01High_L1, if_pos e1, e2, bind_some', H y hy, bind_some', hw, ih]
  simp only [his]
  cases y.hi <;> rfl
theorem shigh_ev (t : T) : (T.nodes t) ≤ 9223372036854775800 → Ev fun n => s_l01High n t = some t.hi := by
 induction t using T.ind with
 | _ k n s ks ih =>
  intro hsz
  have hs1 : T.nodes (T.mk k n s ks) = 1 + tnodes ks := by simp only [T.nodes]
  rw [hs1] at hsz
  have hlen := tnodes_len ks
  refine (Ev.all fun t ht => ih t ht (by have := tnodesmem ht; omega)).up (ks.length + 1) fun fu hn H => ?_
  have hlp := shigh_lp (s_l01High fu) (T.mk k n s ks) (by rw [tkids]; omega) H ks [] fu rfl (by omega)
  have hlp : s_l01High_L1 (s_l01High fu) (T.mk k n s ks) fu 0 = some (his ks) := hlp
  have e0 : s_l01High (fu + 1) (T.mk k n s ks) = if k = 5 then (if n > 100 then some true else s_l01High_L1 (s_l01High fu) (T.mk k n s ks) fu 0) else s_l01High_L1 (s_l01High fu) (T.mk k n s ks) fu 0 := by rw [s_l01High]; rfl
  rw [e0, hlp]
  simp only [T.hi]
  by_cases k5 : k = 5
  ·rw [if_pos k5, decide_eq_true k5]
   by_cases n1 : n > 100
   ·rw [if_pos n1, decide_eq_true n1]; rfl
   rw [if_neg n1, decide_eq_false n1]; rfl
  rw [if_neg k5, decide_eq_false k5]; rfl

def TB (x : Option (Bool × Int)) (i : Int) (s : Nat) (h : Bool) : Prop :=
 ∃ c, x = some (decide (i + (s : Int) > 150) || h, c) ∧ ((decide (i + (s : Int) > 150) || h) = false → c = i + s)
theorem TB.yes {x : Option (Bool × Int)} {i c : Int} {s : Nat} {h : Bool} (e : x = some (true, c)) (hb : (decide (i + (s : Int) > 150) || h) = true) : TB x i s h := ⟨c, by rw [e, hb], fun q => by rw [hb] at q; cases q⟩

theorem big_lp (rec : T → Int → Int → Option (Bool × Int)) (x : T) (d : Int) (hl : x.kids.length ≤ 9223372036854775800) (H : ∀ y ∈ x.kids, ∀ d i, 0 ≤ i → i ≤ 150 → TB (rec y d i) i (T.nodes y) y.hi) :
  ∀ (r a : List T) (m : Nat), x.kids = a ++ r → r.length < m → ∀ i, 0 ≤ i → i ≤ 150 → TB (i_Tree_each__c_fn_i_tooBig_c1v_L1 rec x d m a.length i) i (tnodes r) (his r)
 | [], a, m, e, hm, i, h0, h1 => by
  obtain ⟨m, rfl⟩ : ∃ k, m = k + 1 := ⟨m - 1, by omega⟩
  have hb : (decide (i + ((tnodes [] : Nat) : Int) > 150) || his []) = false := by simp only [tnodes, his, Bool.or_false]; exact decide_eq_false (by omega)
  refine ⟨i, ?_, fun _ => by simp [tnodes]⟩
  rw [i_Tree_each__c_fn_i_tooBig_c1v_L1, e, if_neg (lt_end a), hb]
 | y :: r, a, m, e, hm, i, h0, h1 => by
  obtain ⟨m, rfl⟩ : ∃ k, m = k + 1 := ⟨m - 1, by omega⟩
  have hy : y ∈ x.kids := by rw [e]; simp
  have e1 : (a.length : Int) < (x.kids.length : Int) := by rw [e]; exact lt_mid a y r
  have e2 : idx x.kids (a.length : Int) = some y := by rw [e]; exact idx_mid a y r
  have hw : IntKind.i64.wrap ((a.length : Int) + 1) = ((a ++ [y]).length : Int) := w64_mid a y r (by rw [← e]; omega)
  obtain ⟨c1, q1, q2⟩ := H y hy (IntKind.i64.wrap (d + und x.kind a.length)) i h0 h1
  have e0 : i_Tree_each__c_fn_i_tooBig_c1v_L1 rec x d (m + 1) (a.length : Int) i = if (decide (i + ((T.nodes y) : Int) > 150) || y.hi) = true then some (true, c1) else i_Tree_each__c_fn_i_tooBig_c1v_L1 rec x d m ((a ++ [y]).length : Int) c1 := by
   rw [i_Tree_each__c_fn_i_tooBig_c1v_L1, if_pos e1, e2, bind_some', under_c, bind_some', q1, bind_some', hw]
  have hss : ((tnodes (y :: r) : Nat) : Int) = (T.nodes y) + tnodes r := by simp only [tnodes]; push_cast; rfl
  have hhh : his (y :: r) = (y.hi || his r) := by simp only [his]
  cases hb : (decide (i + ((T.nodes y) : Int) > 150) || y.hi) with
  | true =>
   refine TB.yes (c := c1) (by rw [e0, if_pos hb]) ?_
   rw [hss, hhh]
   rcases Bool.or_eq_true_iff.1 hb with h | h
   ·rw [decide_eq_true (show i + (((T.nodes y) : Int) + (tnodes r : Int)) > 150 by have := of_decide_eq_true h; omega)]; rfl
   rw [h]; simp
  | false =>
   have hc := q2 hb
   have hp := Bool.or_eq_false_iff.1 hb
   have h150 := of_decide_eq_false hp.1
   obtain ⟨c2, q3, q4⟩ := big_lp rec x d hl H r (a ++ [y]) m (by simp [e]) (by simpa using hm) c1 (by omega) (by omega)
   have hB : (decide (i + ((tnodes (y :: r) : Nat) : Int) > 150) || his (y :: r)) = (decide (c1 + (tnodes r : Int) > 150) || his r) := by
    rw [hss, hhh, hp.2, Bool.false_or, hc, Int.add_assoc]
   refine ⟨c2, by rw [e0, hb, if_neg (by decide), q3, hB], fun q => ?_⟩
   rw [hB] at q
   rw [q4 q, hc, hss, Int.add_assoc]
theorem bigEach_ev (t : T) : (T.nodes t) ≤ 9223372036854775800 → Ev fun n => ∀ d i, 0 ≤ i → i ≤ 150 → TB (i_Tree_each__c_fn_i_tooBig_c1v n t d i) i (T.nodes t) t.hi := by
 induction t using T.ind with
 | _ k n s ks ih =>
  intro hsz
  have hs1 : T.nodes (T.mk k n s ks) = 1 + tnodes ks := by simp only [T.nodes]
  rw [hs1] at hsz
  have hlen := tnodes_len ks
  refine (Ev.all fun t ht => ih t ht (by have := tnodesmem ht; omega)).up (ks.length + 1) fun fu hn H d i h0 h1 => ?_
  have hw : IntKind.i64.wrap (i + 1) = i + 1 := w64_eq (by omega) (by omega)
  have e0 : i_Tree_each__c_fn_i_tooBig_c1v (fu + 1) (T.mk k n s ks) d i = (if i + 1 > 150 then some (true, i + 1) else if k = 5 then some (decide (n > 100), i + 1) else some (false, i + 1)).bind fun r5 => if r5.1 = true then some (true, r5.2) else i_Tree_each__c_fn_i_tooBig_c1v_L1 (i_Tree_each__c_fn_i_tooBig_c1v fu) (T.mk k n s ks) d fu 0 r5.2 := by
   rw [i_Tree_each__c_fn_i_tooBig_c1v]; unfold i_tooBig_c1__c; rw [hw]; rfl
  have hss : ((T.nodes (T.mk k n s ks) : Nat) : Int) = 1 + tnodes ks := by rw [hs1]; push_cast; rfl
  by_cases hb : i + 1 > 150
  ·refine TB.yes (c := i + 1) (by rw [e0, if_pos hb]; rfl) ?_
   rw [hss, decide_eq_true (by omega)]; rfl
  rw [if_neg hb] at e0
  have hhi : (T.mk k n s ks).hi = ((decide (k = 5) && decide (n > 100)) || his ks) := by simp only [T.hi]
  cases hv : (decide (k = 5) && decide (n > 100)) with
  | true =>
   have hp : k = 5 ∧ n > 100 := by simpa using hv
   refine TB.yes (c := i + 1) (by rw [e0, if_pos hp.1, decide_eq_true hp.2]; rfl) ?_
   rw [hhi, hv]; simp
  | false =>
   have e1 : (if k = 5 then some (decide (n > 100), i + 1) else some (false, i + 1)) = some (false, i + 1) := by
    by_cases k5 : k = 5
    ·rw [if_pos k5, decide_eq_false (by rw [decide_eq_true k5, Bool.true_and] at hv; exact of_decide_eq_false hv)]
    rw [if_neg k5]
   obtain ⟨c2, q3, q4⟩ := big_lp (i_Tree_each__c_fn_i_tooBig_c1v fu) (T.mk k n s ks) d (by rw [tkids]; omega) H ks [] fu rfl (by omega) (i + 1) (by omega) (by omega)
   have q3 : i_Tree_each__c_fn_i_tooBig_c1v_L1 (i_Tree_each__c_fn_i_tooBig_c1v fu) (T.mk k n s ks) d fu 0 (i + 1) = _ := q3
   have hB : (decide (i + ((T.nodes (T.mk k n s ks) : Nat) : Int) > 150) || (T.mk k n s ks).hi) = (decide (i + 1 + (tnodes ks : Int) > 150) || his ks) := by
    rw [hss, hhi, hv, Bool.false_or, Int.add_assoc]
   refine ⟨c2, ?_, fun q => ?_⟩
   ·rw [e0, e1, bind_some', if_neg (show ¬ (false = true) by decide), q3, hB]
   rw [hB] at q
   rw [q4 q, hss, Int.add_assoc]
theorem tooBigT_ev (t : T) (hs : (T.nodes t) ≤ 9223372036854775800) : Ev fun n => i_tooBig n t = some (bigB t) := by
 refine (bigEach_ev t hs).mp fun n h => ?_
 obtain ⟨c, q, _⟩ := h 0 0 (by omega) (by omega)
 unfold i_tooBig bigB
 rw [q, bind_some', show decide ((0 : Int) + ((T.nodes t) : Int) > 150) = decide ((T.nodes t) > 150) from decide_eq_decide.2 (by omega)]


theorem bigBoth_ev (t : T) (hs : T.nodes t ≤ 1000000000) : Ev fun n => i_tooBig n t = some (bigB t) ∧ s_l03Big n t = some (bigB t) := by
 refine ((tooBigT_ev t (by omega)).and ((count_ev t (nodes_fits _ (by omega))).and (shigh_ev t (by omega)))).mp fun n ⟨h0, h1, h2⟩ => ⟨h0, ?_⟩
 unfold s_l03Big s_l01Small bigB
 rw [h1 150 (by omega) (by omega), bind_some', bind_some', h2]
 by_cases hb : T.nodes t ≤ 150
 ·rw [cl1_le (by omega), if_neg (by simp; omega), bind_some', decide_eq_false (show ¬ T.nodes t > 150 by omega), Bool.false_or]
 rw [cl1_gt (by omega), if_pos (by decide), decide_eq_true (show T.nodes t > 150 by omega), Bool.true_or]

end Go.Am.Ytpkeophkdemcpaa
