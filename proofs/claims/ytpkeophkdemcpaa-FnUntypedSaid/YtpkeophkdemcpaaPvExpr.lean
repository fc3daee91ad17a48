/- Plain laws: what is a right expression: the reference's way and the program's. -/
import Derived.Test.YtpkeophkdemcpaaPwExpr
namespace Go.Am.Ytpkeophkdemcpaa
open Go Go.Am

theorem specExpr_loop2 (rec : Pf → Option Bool) (x : Pf) (hl : x.kids.length ≤ 1048576) (H : ∀ y ∈ x.kids, rec y = some y.exok) :
  ∀ (r a : List Pf) (m : Nat), x.kids = a ++ r → r.length < m → s_l09Expr_L2 rec x x.kids.length m a.length = some (exoks r)
 | [], a, m, e, hm => by
  obtain ⟨m, rfl⟩ : ∃ k, m = k + 1 := ⟨m - 1, by omega⟩
  rw [s_l09Expr_L2, e, if_neg (lt_end a)]; rfl
 | y :: r, a, m, e, hm => by
  obtain ⟨m, rfl⟩ : ∃ k, m = k + 1 := ⟨m - 1, by omega⟩
  have hy : y ∈ x.kids := by rw [e]; simp
  rw [s_l09Expr_L2]
  have e1 : (a.length : Int) < (x.kids.length : Int) := by rw [e]; exact lt_mid a y r
  rw [if_pos e1, show idx x.kids (a.length : Int) = some y by rw [e]; exact idx_mid a y r, bind_some', H y hy, bind_some']
  simp only [exoks]
  cases hq : y.exok with
  | false => rfl
  | true =>
   rw [if_neg (by simp), show IntKind.i64.wrap ((a.length : Int) + 1) = ((a ++ [y]).length : Int) from w64_mid a y r (by rw [← e]; omega), Bool.true_and]
   exact specExpr_loop2 rec x hl H r (a ++ [y]) m (by simp [e]) (by simpa using hm)

theorem specExpr_loop1 (rec : Pf → Option Bool) (n : Nat) (x : Pf) (hl : x.kids.length ≤ 1048576) (hf : x.forms.length ≤ 1048576) (hn : x.kids.length < n) (H : ∀ y ∈ x.kids, rec y = some y.exok) (HF : ∀ y ∈ x.forms, s_l09Type n y = some y.tyok) :
  ∀ (r a : List F) (m : Nat), x.forms = a ++ r → r.length < m → s_l09Expr_L1 rec n x x.forms.length x.kids.length m a.length = some (ftyoks r && exoks x.kids)
 | [], a, m, e, hm => by
  obtain ⟨m, rfl⟩ : ∃ k, m = k + 1 := ⟨m - 1, by omega⟩
  rw [s_l09Expr_L1, e, if_neg (lt_end a)]
  exact specExpr_loop2 rec x hl H x.kids [] n rfl hn
 | y :: r, a, m, e, hm => by
  obtain ⟨m, rfl⟩ : ∃ k, m = k + 1 := ⟨m - 1, by omega⟩
  have hy : y ∈ x.forms := by rw [e]; simp
  rw [s_l09Expr_L1]
  have e1 : (a.length : Int) < (x.forms.length : Int) := by rw [e]; exact lt_mid a y r
  rw [if_pos e1, show idx x.forms (a.length : Int) = some y by rw [e]; exact idx_mid a y r, bind_some', HF y hy, bind_some']
  simp only [ftyoks]
  cases hq : y.tyok with
  | false => rfl
  | true =>
   rw [if_neg (by simp), show IntKind.i64.wrap ((a.length : Int) + 1) = ((a ++ [y]).length : Int) from w64_mid a y r (by rw [← e]; omega), Bool.true_and]
   exact specExpr_loop1 rec n x hl hf hn H HF r (a ++ [y]) m (by simp [e]) (by simpa using hm)

theorem exok_eq (k n : Int) (fs : List F) (ks : List Pf) : (Pf.mk k n fs ks).exok = (decide (0 ≤ (eshape k).1) && (decide ((fs.length : Int) = (eshape k).1) && (decide ((ks.length : Int) = (eshape k).2) && (decide (0 ≤ n) && (decide (n ≤ 100) && ((decide (k = 1) || decide (n = 0)) && (ftyoks fs && exoks ks))))))) := by
 simp only [Pf.exok]

theorem specExpr_ev (t : Pf) (hsm : t.sm) : Ev fun n => s_l09Expr n t = some t.exok := by
 induction t using Pf.ind with
 | _ k n fs ks ih =>
  obtain ⟨⟨hfl, hfs⟩, hl, hks⟩ := psm_kids hsm
  refine ((Ev.all (l := fs) fun t _ => specType_ev t).and (Ev.all fun t ht => ih t ht (hks t ht))).up (ks.length + fs.length + 1) fun fu hn ⟨HF, H⟩ => ?_
  have hloop : s_l09Expr_L1 (s_l09Expr fu) fu (Pf.mk k n fs ks) (fs.length : Int) (ks.length : Int) fu 0 = some (ftyoks fs && exoks ks) :=
   specExpr_loop1 _ fu (Pf.mk k n fs ks) hl hfl (by show ks.length < fu; omega) H HF fs [] fu rfl (by omega)
  let arm : Int → Int → Option Bool := fun i j => if ((fs.length : Int) != i) = true then some false else if ((ks.length : Int) != j) = true then some false else s_l09Expr_L1 (s_l09Expr fu) fu (Pf.mk k n fs ks) i j fu 0
  let X : Option Bool := if k = 1 then arm 0 0 else if k = 2 then arm 0 2 else if k = 3 then arm 1 1 else some false
  have e0 : s_l09Expr (fu + 1) (Pf.mk k n fs ks) = if n < 0 then some false else if n > 100 then some false else if (k != 1) = true then if (n != 0) = true then some false else X else X := by rw [s_l09Expr]; rfl
  rw [e0, exok_eq]
  by_cases n0 : n < 0
  ·simp [n0, show ¬ 0 ≤ n by omega]
  by_cases n1 : n > 100
  ·simp [n0, n1, show ¬ n ≤ 100 by omega]
  by_cases kn : k = 1 ∨ n = 0
  ·have hkn : (decide (k = 1) || decide (n = 0)) = true := by simpa using kn
   rw [if_neg n0, if_neg n1, hkn, decide_eq_true (show 0 ≤ n by omega), decide_eq_true (show n ≤ 100 by omega)]
   have key : ∀ X : Option Bool, (if (k != 1) = true then if (n != 0) = true then some false else X else X) = X := fun X => by
    rcases kn with rfl | rfl
    ·rfl
    simp
   rw [key]
   have harm : ∀ i j : Int, arm i j =
     some (decide ((fs.length : Int) = i) && (decide ((ks.length : Int) = j) && (ftyoks fs && exoks ks))) := fun i j => by
    show (if ((fs.length : Int) != i) = true then some false else if ((ks.length : Int) != j) = true then some false else s_l09Expr_L1 (s_l09Expr fu) fu (Pf.mk k n fs ks) i j fu 0) = _
    by_cases hi : (fs.length : Int) = i
    ·by_cases hj : (ks.length : Int) = j
     ·rw [← hi, ← hj, hloop]; simp
     simp [hi, hj]
    simp [hi]
   show (if k = 1 then arm 0 0 else if k = 2 then arm 0 2 else if k = 3 then arm 1 1 else some false) = _
   unfold eshape
   by_cases k1 : k = 1
   ·rw [if_pos k1, if_pos k1, harm]; simp
   by_cases k2 : k = 2
   ·rw [if_neg k1, if_pos k2, if_neg k1, if_pos k2, harm]; simp
   by_cases k3 : k = 3
   ·rw [if_neg k1, if_neg k2, if_pos k3, if_neg k1, if_neg k2, if_pos k3, harm]; simp
   rw [if_neg k1, if_neg k2, if_neg k3, if_neg k1, if_neg k2, if_neg k3]; simp
  have k1 : ¬ k = 1 := fun h => kn (.inl h)
  have k2 : ¬ n = 0 := fun h => kn (.inr h)
  simp [n0, n1, k1, k2]

theorem specExprOK_ev (t : Pf) (hsm : t.sm) : Ev fun n => s_ExprOK n t = some (decide (t.size ≤ 150) && t.exok) := by
 refine ((cntExpr_ev t hsm).and (specExpr_ev t hsm)).mp fun n ⟨h1, h2⟩ => ?_
 have hc := pcnt_eq t 150 (by omega)
 rw [s_ExprOK, h1 150 (by omega) (by omega), bind_some', h2]
 by_cases hs : t.size ≤ 150
 ·rw [if_pos (by rw [hc.1 (by omega)]; omega), decide_eq_true hs]; rfl
 rw [if_neg (by have := hc.2 (by omega); omega), decide_eq_false hs]; rfl

def LookExpr (t : Pf) (n : Nat) : Prop := ∀ (left : Int) (om : Bool), 0 ≤ left → left ≤ 150 → ∃ l', i_looker_expr n (left, om) t = some ((decide ((t.size : Int) ≤ left) && t.exok), (l', om)) ∧ -1 ≤ l' ∧ l' ≤ 150 ∧ ((t.size : Int) ≤ left → t.exok = true → l' = left - t.size)

theorem lookExpr_ev (t : Pf) : Ev (LookExpr t) := by
 induction t using Pf.ind with
 | _ k n fs ks ih =>
  refine ((Ev.all (l := fs) fun t _ => lookType_ev t).and (Ev.all ih)).up 0 fun fu hn ⟨HF, H⟩ left om h0 h1 => ?_
  have hw : IntKind.i64.wrap (left - 1) = left - 1 := w64_eq (by omega) (by omega)
  have hsz : (Pf.mk k n fs ks).size = 1 + fsizes fs + psizes ks := by simp only [Pf.size]
  rw [i_looker_expr]
  simp only [i_looker_node, i_in, bind_some', pkind, pn, pforms, pkids, hw, exok_eq, hsz]
  by_cases hl1 : left - 1 ≥ 0
  rotate_left
  ·refine ⟨left - 1, ?_, by omega, by omega, fun q _ => by omega⟩
   have : ¬ ((1 + fsizes fs + psizes ks : Nat) : Int) ≤ left := by omega
   have hlA : left < 1 := by omega
   simp [hlA]; omega
  have hlA : ¬ left < 1 := by omega
  have hlB : 1 ≤ left := by omega
  have fnil : fs.length = 0 → fs = [] := List.length_eq_zero_iff.1
  have knil : ks.length = 0 → ks = [] := List.length_eq_zero_iff.1
  by_cases k1 : k = 1
  ·subst k1
   by_cases hn5 : 0 ≤ n ∧ n ≤ 100
   ·by_cases hf0 : fs.length = 0
    ·by_cases hk0 : ks.length = 0
     ·have := fnil hf0; subst this
      have := knil hk0; subst this
      refine ⟨left - 1, ?_, by omega, by omega, fun _ _ => by simp [fsizes, psizes]⟩
      simp [hlA, hlB, hn5.1, hn5.2, eshape, fsizes, psizes, ftyoks, exoks]
     have := fnil hf0; subst this
     have kne : ¬ ks = [] := fun h => hk0 (by rw [h]; rfl)
     refine ⟨left - 1, ?_, by omega, by omega, fun _ q => by simp [eshape, kne] at q⟩
     simp [hlA, hlB, hn5.1, hn5.2, eshape, kne]
    have fne : ¬ fs = [] := fun h => hf0 (by rw [h]; rfl)
    refine ⟨left - 1, ?_, by omega, by omega, fun _ q => by simp [eshape, fne] at q⟩
    simp [hlA, hlB, hn5.1, hn5.2, eshape, fne]
   have hf : (decide (0 ≤ n) && decide (n ≤ 100)) = false := by
    by_cases q : 0 ≤ n
    ·rw [decide_eq_false (show ¬ n ≤ 100 by omega)]; simp
    rw [decide_eq_false q]; simp
   refine ⟨left - 1, ?_, by omega, by omega, fun _ q => by simp at q; omega⟩
   by_cases q : 0 ≤ n
   ·simp [hlA, hlB, q, show ¬ n ≤ 100 by omega]
   simp [hlA, hlB, q]
  by_cases k2 : k = 2
  ·subst k2
   by_cases hn0 : n = 0
   ·subst hn0
    by_cases hf0 : fs.length = 0
    ·have := fnil hf0; subst this
     by_cases hk2 : ks.length = 2
     ·match ks, hk2, H with
      | [a, b], _, H =>
       obtain ⟨la, ea, la0, la1, la2⟩ := H a (List.mem_cons_self ..) (left - 1) om (by omega) (by omega)
       have hpa := psize_pos a
       have hpb := psize_pos b
       have i0 : idx [a, b] 0 = some a := rfl
       have i1 : idx [a, b] 1 = some b := rfl
       have hff : (decide (0 ≤ (eshape 2).1) && (decide ((([] : List F).length : Int) = (eshape 2).1) && (decide ((([a, b] : List Pf).length : Int) = (eshape 2).2) && (decide ((0 : Int) ≤ 0) && (decide ((0 : Int) ≤ 100) && ((decide ((2 : Int) = 1) || decide ((0 : Int) = 0)) && (ftyoks [] && exoks [a, b]))))))) = (a.exok && b.exok) := by simp [eshape, ftyoks, exoks]
       rw [hff]
       have hss : ((1 + fsizes [] + psizes [a, b] : Nat) : Int) = 1 + (a.size + b.size) := by simp [fsizes, psizes]
       rw [hss]
       simp only [i0, i1, bind_some', ea]
       by_cases hga : ((a.size : Int) ≤ left - 1) ∧ a.exok = true
       ·have hla := la2 hga.1 hga.2
        obtain ⟨lb, eb, lb0, lb1, lb2⟩ := H b (by simp) la om (by omega) (by omega)
        refine ⟨lb, ?_, lb0, lb1, fun q1 q2 => ?_⟩
        ·simp only [eb, bind_some']
         by_cases hgb : (b.size : Int) ≤ la
         ·simp [hlA, hlB, hga.1, hga.2, hgb, show (1 : Int) + (a.size + b.size) ≤ left by omega]
         simp [hlA, hlB, hga.1, hga.2, hgb, show ¬ (1 : Int) + (a.size + b.size) ≤ left by omega]
        have hb : b.exok = true := by simpa [hga.2] using q2
        have := lb2 (by omega) hb
        omega
       refine ⟨la, ?_, la0, la1, fun q1 q2 => ?_⟩
       ·have hx : (decide ((a.size : Int) ≤ left - 1) && a.exok) = false := by
         cases hc : a.exok with
         | false => simp
         | true => rw [decide_eq_false (fun q => hga ⟨q, hc⟩)]; rfl
        have hy : (decide ((1 + (a.size + b.size) : Int) ≤ left) && (a.exok && b.exok)) = false := by
         cases hc : a.exok with
         | false => simp
         | true => rw [decide_eq_false (fun q => hga ⟨by omega, hc⟩)]; rfl
        rw [hy]
        simp [hlA, hlB, hx]
       have : a.exok = true ∧ b.exok = true := by simpa using q2
       exact absurd ⟨by omega, this.1⟩ hga
     refine ⟨left - 1, ?_, by omega, by omega, fun _ q => by simp [eshape] at q; omega⟩
     simp [hlA, hlB, eshape, show ¬ (ks.length : Int) = 2 by omega]
    have fne : ¬ fs = [] := fun h => hf0 (by rw [h]; rfl)
    refine ⟨left - 1, ?_, by omega, by omega, fun _ q => by simp [eshape, fne] at q⟩
    simp [hlA, hlB, eshape, fne]
   refine ⟨left - 1, ?_, by omega, by omega, fun _ q => by simp [hn0] at q⟩
   simp [hlA, hlB, hn0]
  by_cases k3 : k = 3
  ·subst k3
   by_cases hn0 : n = 0
   ·subst hn0
    by_cases hf1 : fs.length = 1
    ·by_cases hk1 : ks.length = 1
     ·match fs, hf1, HF, ks, hk1, H with
      | [a], _, HF, [b], _, H =>
       obtain ⟨la, ea, la0, la1, la2⟩ := HF a (List.mem_cons_self ..) (left - 1) om (by omega) (by omega)
       have hpa := fsize_pos a
       have hpb := psize_pos b
       have i0 : idx [a] 0 = some a := rfl
       have i1 : idx [b] 0 = some b := rfl
       have hff : (decide (0 ≤ (eshape 3).1) && (decide ((([a] : List F).length : Int) = (eshape 3).1) && (decide ((([b] : List Pf).length : Int) = (eshape 3).2) && (decide ((0 : Int) ≤ 0) && (decide ((0 : Int) ≤ 100) && ((decide ((3 : Int) = 1) || decide ((0 : Int) = 0)) && (ftyoks [a] && exoks [b]))))))) = (a.tyok && b.exok) := by simp [eshape, ftyoks, exoks]
       rw [hff]
       have hss : ((1 + fsizes [a] + psizes [b] : Nat) : Int) = 1 + (a.size + b.size) := by simp [fsizes, psizes]; omega
       rw [hss]
       simp only [i0, i1, bind_some', ea]
       by_cases hga : ((a.size : Int) ≤ left - 1) ∧ a.tyok = true
       ·have hla := la2 hga.1 hga.2
        obtain ⟨lb, eb, lb0, lb1, lb2⟩ := H b (by simp) la om (by omega) (by omega)
        refine ⟨lb, ?_, lb0, lb1, fun q1 q2 => ?_⟩
        ·simp only [eb, bind_some']
         by_cases hgb : (b.size : Int) ≤ la
         ·simp [hlA, hlB, hga.1, hga.2, hgb, show (1 : Int) + (a.size + b.size) ≤ left by omega]
         simp [hlA, hlB, hga.1, hga.2, hgb, show ¬ (1 : Int) + (a.size + b.size) ≤ left by omega]
        have hb : b.exok = true := by simpa [hga.2] using q2
        have := lb2 (by omega) hb
        omega
       refine ⟨la, ?_, la0, la1, fun q1 q2 => ?_⟩
       ·have hx : (decide ((a.size : Int) ≤ left - 1) && a.tyok) = false := by
         cases hc : a.tyok with
         | false => simp
         | true => rw [decide_eq_false (fun q => hga ⟨q, hc⟩)]; rfl
        have hy : (decide ((1 + (a.size + b.size) : Int) ≤ left) && (a.tyok && b.exok)) = false := by
         cases hc : a.tyok with
         | false => simp
         | true => rw [decide_eq_false (fun q => hga ⟨by omega, hc⟩)]; rfl
        rw [hy]
        simp [hlA, hlB, hx]
       have : a.tyok = true ∧ b.exok = true := by simpa using q2
       exact absurd ⟨by omega, this.1⟩ hga
     refine ⟨left - 1, ?_, by omega, by omega, fun _ q => by simp [eshape] at q; omega⟩
     simp [hlA, hlB, hf1, eshape, show ¬ (ks.length : Int) = 1 by omega]
    refine ⟨left - 1, ?_, by omega, by omega, fun _ q => by simp [eshape] at q; omega⟩
    simp [hlA, hlB, eshape, show ¬ (fs.length : Int) = 1 by omega]
   refine ⟨left - 1, ?_, by omega, by omega, fun _ q => by simp [hn0] at q⟩
   simp [hlA, hlB, hn0]
  refine ⟨left - 1, ?_, by omega, by omega, fun _ q => by simp [eshape, k1, k2, k3] at q⟩
  simp [hlA, hlB, k1, k2, k3, eshape]

theorem implExprOK_ev (t : Pf) : Ev fun n => i_ExprOK n t = some (decide (t.size ≤ 150) && t.exok) := by
 refine (lookExpr_ev t).mp fun n h => ?_
 obtain ⟨l', e, _⟩ := h 150 false (by omega) (by omega)
 rw [i_ExprOK, e, bind_some', show decide (t.size ≤ 150) = decide ((t.size : Int) ≤ 150) from decide_eq_decide.2 (by omega)]

end Go.Am.Ytpkeophkdemcpaa
