/- Plain laws: the law StepExpr: variables moved, put, the first step. -/
import Derived.Test.YtpkeophkdemcpaaPvExpr
import Derived.Test.YtpkeophkdemcpaaSmType
import Derived.Test.YtpkeophkdemcpaaPuExpr
import Derived.Test.YtpkeophkdemcpaaPuMarkP
import Derived.Test.YtpkeophkdemcpaaPvTypeA
import Derived.Test.YtpkeophkdemcpaaStHfE
import Derived.Test.YtpkeophkdemcpaaStLw
import Derived.Test.YtpkeophkdemcpaaRdA
namespace Go.Am
open Go
mutual
/-- Variables from d on by b more. -/
def Pf.mvd : Pf → Int → Int → Pf
 | .mk k n fs ks, d, b => if k = 1 then .mk 1 (if n ≥ d then n + b else n) [] [] else .mk k 0 fs (pmvds ks (if k = 3 then d + 1 else d) b)
def pmvds : List Pf → Int → Int → List Pf
 | [], _, _ => []
 | t :: r, d, b => t.mvd d b :: pmvds r d b
end
mutual
/-- An expression put for the variable d. -/
def Pf.rdc (g : Pf) : Pf → Int → Pf
 | .mk k n fs ks, d => if k = 1 then (if n = d then g.mvd 0 d else if n > d then .mk 1 (n - 1) [] [] else .mk 1 n [] []) else .mk k 0 fs (prdcs g ks (if k = 3 then d + 1 else d))
def prdcs (g : Pf) : List Pf → Int → List Pf
 | [], _ => []
 | t :: r, d => Pf.rdc g t d :: prdcs g r d
end
end Go.Am

namespace Go.Am.Ytpkeophkdemcpaa
open Go Go.Am

theorem exok_n0 {k n : Int} {fs : List F} {ks : List Pf} (h : (Pf.mk k n fs ks).exok = true) : k = 1 ∨ n = 0 := by
 simp only [Pf.exok, Bool.and_eq_true, decide_eq_true_eq, Bool.or_eq_true] at h
 exact h.2.2.2.2.2.1

theorem mv_lam {m : Nat} {n : Int} {t : F} {b y : Pf} {d e : Int} (h1 : i_cloneType (m + 1) t = some t) (h2 : i_Expr_moved__fn_i_Expr_lifted_c1v (m + 1) b (IntKind.i64.wrap (d + 1)) e = some y) :
  i_Expr_moved__fn_i_Expr_lifted_c1v (m + 2) (Pf.mk 3 n [t] [b]) d e = some (Pf.mk 3 0 [t] [y]) := by
 have e0 : i_Expr_moved__fn_i_Expr_lifted_c1v (m + 2) (Pf.mk 3 n [t] [b]) d e = (i_cloneType (m + 1) t).bind fun r => (i_Expr_moved__fn_i_Expr_lifted_c1v (m + 1) b (IntKind.i64.wrap (d + 1)) e).bind fun s => some (Pf.mk 3 0 [r] [s]) := by rw [i_Expr_moved__fn_i_Expr_lifted_c1v]; rfl
 rw [e0, h1, bind_some', h2, bind_some']
theorem mv_app {m : Nat} {n : Int} {a b x y : Pf} {d e : Int} (h1 : i_Expr_moved__fn_i_Expr_lifted_c1v (m + 2) a d e = some x) (h2 : i_Expr_moved__fn_i_Expr_lifted_c1v (m + 2) b d e = some y) :
  i_Expr_moved__fn_i_Expr_lifted_c1v (m + 3) (Pf.mk 2 n [] [a, b]) d e = some (Pf.mk 2 0 [] [x, y]) := by
 have e0 : i_Expr_moved__fn_i_Expr_lifted_c1v (m + 3) (Pf.mk 2 n [] [a, b]) d e = (i_Expr_moved__fn_i_Expr_lifted_c1v (m + 2) a d e).bind fun r => (i_Expr_moved__fn_i_Expr_lifted_c1v (m + 2) b d e).bind fun s => some (Pf.mk 2 0 [] [r, s]) := by rw [i_Expr_moved__fn_i_Expr_lifted_c1v]; rfl
 rw [e0, h1, bind_some', h2, bind_some']
theorem smv_lam {m : Nat} {n : Int} {t : F} {b y : Pf} {d e : Int} (h1 : s_l09Copy (m + 1) t = some t) (h2 : s_l09Move (m + 1) b (IntKind.i64.wrap (d + 1)) e = some y) :
  s_l09Move (m + 2) (Pf.mk 3 n [t] [b]) d e = some (Pf.mk 3 n [t] [y]) := by
 have e0 : s_l09Move (m + 2) (Pf.mk 3 n [t] [b]) d e = (s_l09Copy (m + 1) t).bind fun r => (s_l09Move (m + 1) b (IntKind.i64.wrap (d + 1)) e).bind fun s => some (Pf.mk 3 n [r] [s]) := by rw [s_l09Move]; rfl
 rw [e0, h1, bind_some', h2, bind_some']
theorem smv_app {m : Nat} {n : Int} {a b x y : Pf} {d e : Int} (h1 : s_l09Move (m + 2) a d e = some x) (h2 : s_l09Move (m + 2) b d e = some y) :
  s_l09Move (m + 3) (Pf.mk 2 n [] [a, b]) d e = some (Pf.mk 2 n [] [x, y]) := by
 have e0 : s_l09Move (m + 3) (Pf.mk 2 n [] [a, b]) d e = (s_l09Move (m + 2) a d e).bind fun r => (s_l09Move (m + 2) b d e).bind fun s => some (Pf.mk 2 n [] [r, s]) := by rw [s_l09Move]; rfl
 rw [e0, h1, bind_some', h2, bind_some']
theorem rd_lam {m : Nat} {n : Int} {t : F} {b y g : Pf} {d : Int} (h1 : i_cloneType (m + 1) t = some t) (h2 : i_Expr_moved__fn_i_reduced_c1v (m + 1) b (IntKind.i64.wrap (d + 1)) g = some y) :
  i_Expr_moved__fn_i_reduced_c1v (m + 2) (Pf.mk 3 n [t] [b]) d g = some (Pf.mk 3 0 [t] [y]) := by
 have e0 : i_Expr_moved__fn_i_reduced_c1v (m + 2) (Pf.mk 3 n [t] [b]) d g = (i_cloneType (m + 1) t).bind fun r => (i_Expr_moved__fn_i_reduced_c1v (m + 1) b (IntKind.i64.wrap (d + 1)) g).bind fun s => some (Pf.mk 3 0 [r] [s]) := by rw [i_Expr_moved__fn_i_reduced_c1v]; rfl
 rw [e0, h1, bind_some', h2, bind_some']
theorem rd_app {m : Nat} {n : Int} {a b x y g : Pf} {d : Int} (h1 : i_Expr_moved__fn_i_reduced_c1v (m + 2) a d g = some x) (h2 : i_Expr_moved__fn_i_reduced_c1v (m + 2) b d g = some y) :
  i_Expr_moved__fn_i_reduced_c1v (m + 3) (Pf.mk 2 n [] [a, b]) d g = some (Pf.mk 2 0 [] [x, y]) := by
 have e0 : i_Expr_moved__fn_i_reduced_c1v (m + 3) (Pf.mk 2 n [] [a, b]) d g = (i_Expr_moved__fn_i_reduced_c1v (m + 2) a d g).bind fun r => (i_Expr_moved__fn_i_reduced_c1v (m + 2) b d g).bind fun s => some (Pf.mk 2 0 [] [r, s]) := by rw [i_Expr_moved__fn_i_reduced_c1v]; rfl
 rw [e0, h1, bind_some', h2, bind_some']
theorem pt_lam {m : Nat} {n : Int} {t : F} {b y g : Pf} {d : Int} (h1 : s_l09Copy (m + 1) t = some t) (h2 : s_l09Put (m + 1) g b (IntKind.i64.wrap (d + 1)) = some y) :
  s_l09Put (m + 2) g (Pf.mk 3 n [t] [b]) d = some (Pf.mk 3 0 [t] [y]) := by
 have e0 : s_l09Put (m + 2) g (Pf.mk 3 n [t] [b]) d = (s_l09Copy (m + 1) t).bind fun r => (s_l09Put (m + 1) g b (IntKind.i64.wrap (d + 1))).bind fun s => some (Pf.mk 3 0 [r] [s]) := by rw [s_l09Put]; rfl
 rw [e0, h1, bind_some', h2, bind_some']
theorem pt_app {m : Nat} {n : Int} {a b x y g : Pf} {d : Int} (h1 : s_l09Put (m + 2) g a d = some x) (h2 : s_l09Put (m + 2) g b d = some y) :
  s_l09Put (m + 3) g (Pf.mk 2 n [] [a, b]) d = some (Pf.mk 2 0 [] [x, y]) := by
 have e0 : s_l09Put (m + 3) g (Pf.mk 2 n [] [a, b]) d = (s_l09Put (m + 2) g a d).bind fun r => (s_l09Put (m + 2) g b d).bind fun s => some (Pf.mk 2 0 [] [r, s]) := by rw [s_l09Put]; rfl
 rw [e0, h1, bind_some', h2, bind_some']

theorem if_sm {c : Prop} [Decidable c] {a b : Pf} (ha : a.sm) (hb : b.sm) : (if c then a else b).sm := by split <;> assumption
theorem psm_nil (k n : Int) : (Pf.mk k n [] []).sm := by
 unfold Pf.sm
 exact ⟨⟨by simp, fun t h => by cases h⟩, by simp, fun t h => by cases h⟩
theorem psm_app {k n : Int} {a b : Pf} (ha : a.sm) (hb : b.sm) : (Pf.mk k n [] [a, b]).sm := by
 unfold Pf.sm
 refine ⟨⟨by simp, fun t h => by cases h⟩, by simp, fun t h => ?_⟩
 simp only [List.mem_cons, List.not_mem_nil, or_false] at h
 rcases h with rfl | rfl
 ·exact ha
 exact hb
theorem psm_lam {k n : Int} {t : F} {b : Pf} (ht : t.sm) (hb : b.sm) : (Pf.mk k n [t] [b]).sm := by
 unfold Pf.sm
 exact ⟨⟨by simp, fun u h => by rw [List.mem_singleton.1 h]; exact ht⟩, by simp, fun u h => by rw [List.mem_singleton.1 h]; exact hb⟩

/-- Moved. -/
theorem mvd_ev (x : Pf) : x.exok = true → x.sm → ∀ (d e : Int), 0 ≤ d → d + x.size ≤ 1000000 → 0 ≤ e → e ≤ 1000000 →
  (x.mvd d e).sm ∧ Ev fun n => i_Expr_moved__fn_i_Expr_lifted_c1v n x d e = some (x.mvd d e) ∧ s_l09Move n x d e = some (x.mvd d e) := by
 induction x using Pf.ind with
 | _ k n fs ks ih =>
  intro hok hsm d e hd hb he he2
  obtain ⟨⟨hfl, hfs⟩, hkl, hks⟩ := psm_kids hsm
  have hn0 := exok_n0 hok
  rcases exok_rules hok with ⟨rfl, h0, h1, rfl, rfl⟩ | ⟨rfl, a, b, rfl, rfl, ha, hbk⟩ | ⟨rfl, a, b, rfl, rfl, ha, hbk⟩
  ·refine ⟨by rw [Pf.mvd, if_pos rfl]; exact psm_nil _ _, (Ev.of (p := fun _ => True) fun _ => trivial).up 0 fun m _ _ => ?_⟩
   rw [Pf.mvd, if_pos rfl]
   by_cases hnd : n ≥ d
   ·have w1 : IntKind.i64.wrap (n + e) = n + e := w64_eq (by omega) (by omega)
    rw [if_pos hnd]
    constructor
    ·rw [i_Expr_moved__fn_i_Expr_lifted_c1v, if_pos (show (Pf.mk 1 n [] []).kind = 1 from rfl)]
     unfold i_Expr_lifted_c1
     rw [if_pos (show (Pf.mk 1 n [] []).n ≥ d from hnd)]
     show (some (Pf.mk 1 (IntKind.i64.wrap (n + e)) [] [])).bind _ = _
     rw [w1]; rfl
    have e0 : s_l09Move (m + 1) (Pf.mk 1 n [] []) d e = if n ≥ d then some (Pf.mk 1 (IntKind.i64.wrap (n + e)) [] []) else some (Pf.mk 1 n [] []) := by rw [s_l09Move]; rfl
    rw [e0, if_pos hnd, w1]
   rw [if_neg hnd]
   constructor
   ·rw [i_Expr_moved__fn_i_Expr_lifted_c1v, if_pos (show (Pf.mk 1 n [] []).kind = 1 from rfl)]
    unfold i_Expr_lifted_c1
    rw [if_neg (show ¬ (Pf.mk 1 n [] []).n ≥ d from hnd)]; rfl
   have e0 : s_l09Move (m + 1) (Pf.mk 1 n [] []) d e = if n ≥ d then some (Pf.mk 1 (IntKind.i64.wrap (n + e)) [] []) else some (Pf.mk 1 n [] []) := by rw [s_l09Move]; rfl
   rw [e0, if_neg hnd]
  ·obtain rfl : n = 0 := by omega
   have hsz : (Pf.mk 3 0 [a] [b]).size = 1 + a.size + b.size := by simp only [Pf.size, fsizes, psizes]; omega
   have hfp := fsize_pos a
   rw [hsz] at hb
   have w1 : IntKind.i64.wrap (d + 1) = d + 1 := w64_eq (by omega) (by omega)
   have e0 : (Pf.mk 3 0 [a] [b]).mvd d e = Pf.mk 3 0 [a] [b.mvd (d + 1) e] := by rw [Pf.mvd, if_neg (by decide), if_pos rfl]; simp only [pmvds]
   obtain ⟨s1, e1⟩ := ih b (by simp) hbk (hks b (by simp)) (d + 1) e (by omega) (by omega) he he2
   rw [e0]
   refine ⟨psm_lam (hfs a (by simp)) s1, (e1.and ((clone_ev a (hfs a (by simp))).and (copyS_ev a (hfs a (by simp))))).up 1 fun m hm ⟨⟨q1, q2⟩, q3, q4⟩ => ?_⟩
   obtain ⟨m, rfl⟩ : ∃ j, m = j + 1 := ⟨m - 1, by omega⟩
   exact ⟨mv_lam q3 (by rw [w1]; exact q1), smv_lam q4 (by rw [w1]; exact q2)⟩
  obtain rfl : n = 0 := by omega
  have hsz : (Pf.mk 2 0 [] [a, b]).size = 1 + a.size + b.size := by simp only [Pf.size, fsizes, psizes]; omega
  rw [hsz] at hb
  have e0 : (Pf.mk 2 0 [] [a, b]).mvd d e = Pf.mk 2 0 [] [a.mvd d e, b.mvd d e] := by rw [Pf.mvd, if_neg (by decide), if_neg (by decide)]; simp only [pmvds]
  obtain ⟨s1, e1⟩ := ih a (by simp) ha (hks a (by simp)) d e hd (by omega) he he2
  obtain ⟨s2, e2⟩ := ih b (by simp) hbk (hks b (by simp)) d e hd (by omega) he he2
  rw [e0]
  refine ⟨psm_app s1 s2, (e1.and e2).up 2 fun m hm ⟨⟨q1, q2⟩, q3, q4⟩ => ?_⟩
  obtain ⟨m, rfl⟩ : ∃ j, m = j + 2 := ⟨m - 2, by omega⟩
  exact ⟨mv_app q1 q3, smv_app q2 q4⟩

theorem mvd_id (x : Pf) : x.exok = true → ∀ d, x.mvd d 0 = x := by
 induction x using Pf.ind with
 | _ k n fs ks ih =>
  intro hok d
  have hn0 := exok_n0 hok
  rcases exok_rules hok with ⟨rfl, h0, h1, rfl, rfl⟩ | ⟨rfl, a, b, rfl, rfl, ha, hbk⟩ | ⟨rfl, a, b, rfl, rfl, ha, hbk⟩
  ·rw [Pf.mvd, if_pos rfl]
   split <;> simp
  ·obtain rfl : n = 0 := by omega
   rw [Pf.mvd, if_neg (by decide), if_pos rfl]
   simp only [pmvds]
   rw [ih b (by simp) hbk]
  obtain rfl : n = 0 := by omega
  rw [Pf.mvd, if_neg (by decide), if_neg (by decide)]
  simp only [pmvds]
  rw [ih a (by simp) ha, ih b (by simp) hbk]

/-- Put. -/
theorem rdc_ev (g : Pf) (hg : g.exok = true) (hgs : g.sm) (hgz : g.size ≤ 1000) (x : Pf) : x.exok = true → x.sm → ∀ (d : Int), 0 ≤ d → d + x.size ≤ 100000 →
  (Pf.rdc g x d).sm ∧ Ev fun n => i_Expr_moved__fn_i_reduced_c1v n x d g = some (Pf.rdc g x d) ∧ s_l09Put n g x d = some (Pf.rdc g x d) := by
 induction x using Pf.ind with
 | _ k n fs ks ih =>
  intro hok hsm d hd hb
  obtain ⟨⟨hfl, hfs⟩, hkl, hks⟩ := psm_kids hsm
  have hn0 := exok_n0 hok
  rcases exok_rules hok with ⟨rfl, h0, h1, rfl, rfl⟩ | ⟨rfl, a, b, rfl, rfl, ha, hbk⟩ | ⟨rfl, a, b, rfl, rfl, ha, hbk⟩
  ·obtain ⟨s1, e1⟩ := mvd_ev g hg hgs 0 d (by omega) (by omega) hd (by omega)
   have hcase : (Pf.rdc g (Pf.mk 1 n [] []) d) = if n = d then g.mvd 0 d else if n > d then .mk 1 (n - 1) [] [] else .mk 1 n [] [] := by rw [Pf.rdc, if_pos rfl]
   rw [hcase]
   have w1 : IntKind.i64.wrap (n - 1) = n - 1 := w64_eq (by omega) (by omega)
   refine ⟨(if_sm s1 (if_sm (psm_nil _ _) (psm_nil _ _))), e1.up 0 fun m _ ⟨q1, q2⟩ => ?_⟩
   have f1 : i_Expr_moved__fn_i_reduced_c1v (m + 1) (Pf.mk 1 n [] []) d g = (i_reduced_c1 m n d g).bind fun r5 => some r5 := by rw [i_Expr_moved__fn_i_reduced_c1v]; rfl
   have f2 : s_l09Put (m + 1) g (Pf.mk 1 n [] []) d = if n = d then (s_l09Move m g 0 d).bind fun r6 => some r6 else if n > d then some (Pf.mk 1 (IntKind.i64.wrap (n - 1)) [] []) else some (Pf.mk 1 n [] []) := by rw [s_l09Put]; rfl
   rw [f1, f2]
   unfold i_reduced_c1 i_Expr_lifted
   by_cases c1 : n = d
   ·rw [if_pos c1, if_pos c1, if_pos c1, q1, q2]
    exact ⟨rfl, rfl⟩
   rw [if_neg c1, if_neg c1, if_neg c1]
   by_cases c2 : n > d
   ·simp only [if_pos c2, w1, bind_some', and_self]
   simp only [if_neg c2, bind_some', and_self]
  ·obtain rfl : n = 0 := by omega
   have hsz : (Pf.mk 3 0 [a] [b]).size = 1 + a.size + b.size := by simp only [Pf.size, fsizes, psizes]; omega
   have hfp := fsize_pos a
   rw [hsz] at hb
   have w1 : IntKind.i64.wrap (d + 1) = d + 1 := w64_eq (by omega) (by omega)
   have e0 : Pf.rdc g (Pf.mk 3 0 [a] [b]) d = Pf.mk 3 0 [a] [Pf.rdc g b (d + 1)] := by rw [Pf.rdc, if_neg (by decide), if_pos rfl]; simp only [prdcs]
   obtain ⟨s1, e1⟩ := ih b (by simp) hbk (hks b (by simp)) (d + 1) (by omega) (by omega)
   rw [e0]
   refine ⟨psm_lam (hfs a (by simp)) s1, (e1.and ((clone_ev a (hfs a (by simp))).and (copyS_ev a (hfs a (by simp))))).up 1 fun m hm ⟨⟨q1, q2⟩, q3, q4⟩ => ?_⟩
   obtain ⟨m, rfl⟩ : ∃ j, m = j + 1 := ⟨m - 1, by omega⟩
   exact ⟨rd_lam q3 (by rw [w1]; exact q1), pt_lam q4 (by rw [w1]; exact q2)⟩
  obtain rfl : n = 0 := by omega
  have hsz : (Pf.mk 2 0 [] [a, b]).size = 1 + a.size + b.size := by simp only [Pf.size, fsizes, psizes]; omega
  rw [hsz] at hb
  have e0 : Pf.rdc g (Pf.mk 2 0 [] [a, b]) d = Pf.mk 2 0 [] [Pf.rdc g a d, Pf.rdc g b d] := by rw [Pf.rdc, if_neg (by decide), if_neg (by decide)]; simp only [prdcs]
  obtain ⟨s1, e1⟩ := ih a (by simp) ha (hks a (by simp)) d hd (by omega)
  obtain ⟨s2, e2⟩ := ih b (by simp) hbk (hks b (by simp)) d hd (by omega)
  rw [e0]
  refine ⟨psm_app s1 s2, (e1.and e2).up 2 fun m hm ⟨⟨q1, q2⟩, q3, q4⟩ => ?_⟩
  obtain ⟨m, rfl⟩ : ∃ j, m = j + 2 := ⟨m - 2, by omega⟩
  exact ⟨rd_app q1 q3, pt_app q2 q4⟩

def pzz : Pf := Pf.mk 0 0 [] []
/-- The first step. -/
theorem step_ev (x : Pf) : x.exok = true → x.sm → x.size ≤ 1000 → ∃ o : Option Pf, (∀ y, o = some y → y.sm) ∧ Ev fun n => i_stepped n x = some (o.getD pzz, o.isSome) ∧ s_l09Step n x = some (o.getD x, o.isSome) := by
 induction x using Pf.ind with
 | _ k n fs ks ih =>
  intro hok hsm hb
  obtain ⟨⟨hfl, hfs⟩, hkl, hks⟩ := psm_kids hsm
  have hn0 := exok_n0 hok
  have hid := mvd_id _ hok 0
  obtain ⟨_, hev⟩ := mvd_ev _ hok hsm 0 0 (by omega) (by omega) (by omega) (by omega)
  rw [hid] at hev
  rcases exok_rules hok with ⟨rfl, h0, h1, rfl, rfl⟩ | ⟨rfl, a, b, rfl, rfl, ha, hbk⟩ | ⟨rfl, a, b, rfl, rfl, ha, hbk⟩
  ·refine ⟨none, (fun y h => by cases h), (Ev.of (p := fun _ => True) fun _ => trivial).up 1 fun m hm _ => ?_⟩
   obtain ⟨m, rfl⟩ : ∃ j, m = j + 1 := ⟨m - 1, by omega⟩
   constructor
   ·rw [i_stepped]; rfl
   rw [s_l09Step]; rfl
  ·obtain rfl : n = 0 := by omega
   have hsz : (Pf.mk 3 0 [a] [b]).size = 1 + a.size + b.size := by simp only [Pf.size, fsizes, psizes]; omega
   obtain ⟨o, s1, e1⟩ := ih b (by simp) hbk (hks b (by simp)) (by omega)
   have f1 : ∀ m, i_stepped (m + 3) (Pf.mk 3 0 [a] [b]) = (i_stepped (m + 2) b).bind fun r => if r.2 = true then (i_Expr_lifted (m + 2) (Pf.mk 3 0 [a] [b]) 0).bind fun r53 => (idx r53.kids 0).bind fun _ => some (Pf.mk r53.kind r53.n r53.forms (lset r53.kids 0 r.1), true) else some (pzz, false) := fun m => by rw [i_stepped]; rfl
   have f2 : ∀ m, s_l09Step (m + 3) (Pf.mk 3 0 [a] [b]) = (s_l09Step (m + 2) b).bind fun r => if r.2 = true then (s_l09Move (m + 2) (Pf.mk 3 0 [a] [b]) 0 0).bind fun r53 => (idx r53.kids 0).bind fun _ => some (Pf.mk r53.kind r53.n r53.forms (lset r53.kids 0 r.1), true) else some (Pf.mk 3 0 [a] [b], false) := fun m => by rw [s_l09Step]; rfl
   cases o with
   | none =>
    refine ⟨none, (fun y h => by cases h), e1.up 2 fun m hm ⟨q1, q2⟩ => ?_⟩
    obtain ⟨m, rfl⟩ : ∃ j, m = j + 2 := ⟨m - 2, by omega⟩
    rw [f1, f2, q1, q2, bind_some', bind_some']
    exact ⟨rfl, rfl⟩
   | some y =>
    refine ⟨some (Pf.mk 3 0 [a] [y]), (fun z h => by cases h; exact psm_lam (hfs a (by simp)) (s1 y rfl)), (e1.and hev).up 2 fun m hm ⟨⟨q1, q2⟩, q3, q4⟩ => ?_⟩
    obtain ⟨m, rfl⟩ : ∃ j, m = j + 2 := ⟨m - 2, by omega⟩
    rw [f1, f2, q1, q2, bind_some', bind_some']
    unfold i_Expr_lifted
    rw [q3, q4]
    exact ⟨rfl, rfl⟩
  obtain rfl : n = 0 := by omega
  have hsz : (Pf.mk 2 0 [] [a, b]).size = 1 + a.size + b.size := by simp only [Pf.size, fsizes, psizes]; omega
  by_cases ka : a.kind = 3
  ·-- a reduction at the top
   obtain ⟨ka1, na1, fa1, ks1⟩ := a
   have ka : ka1 = 3 := ka
   subst ka
   rcases exok_rules ha with ⟨h, _⟩ | ⟨_, u, c, rfl, rfl, hu, hc⟩ | ⟨h, _⟩
   ·exact absurd h (by decide)
   ·have hsa : (Pf.mk 3 na1 [u] [c]).size = 1 + u.size + c.size := by simp only [Pf.size, fsizes, psizes]; omega
    obtain ⟨s1, e1⟩ := rdc_ev b hbk (hks b (by simp)) (by omega) c hc ((psm_kids (hks (Pf.mk 3 na1 [u] [c]) (by simp))).2.2 c (by simp)) 0 (by omega) (by omega)
    refine ⟨some (Pf.rdc b c 0), (fun z h => by cases h; exact s1), e1.up 1 fun m hm ⟨q1, q2⟩ => ?_⟩
    obtain ⟨m, rfl⟩ : ∃ j, m = j + 1 := ⟨m - 1, by omega⟩
    have f1 : i_stepped (m + 2) (Pf.mk 2 0 [] [Pf.mk 3 na1 [u] [c], b]) = ((i_Expr_moved__fn_i_reduced_c1v (m + 1) c 0 b).bind fun r3 => some r3).bind fun r25 => some (r25, true) := by rw [i_stepped]; rfl
    have f2 : s_l09Step (m + 2) (Pf.mk 2 0 [] [Pf.mk 3 na1 [u] [c], b]) = (s_l09Put (m + 1) b c 0).bind fun r25 => some (r25, true) := by rw [s_l09Step]; rfl
    rw [f1, f2, q1, q2]
    exact ⟨rfl, rfl⟩
   exact absurd h (by decide)
  obtain ⟨o, s1, e1⟩ := ih a (by simp) ha (hks a (by simp)) (by omega)
  obtain ⟨o2, s2, e2⟩ := ih b (by simp) hbk (hks b (by simp)) (by omega)
  have f1 : ∀ m, i_stepped (m + 4) (Pf.mk 2 0 [] [a, b]) = if a.kind = 3 then (idx a.kids 0).bind fun y15 => (i_reduced (m + 3) y15 b).bind fun r25 => some (r25, true) else (i_stepped (m + 3) a).bind fun r => if r.2 = true then (i_Expr_lifted (m + 3) (Pf.mk 2 0 [] [a, b]) 0).bind fun r53 => (idx r53.kids 0).bind fun _ => some (Pf.mk r53.kind r53.n r53.forms (lset r53.kids 0 r.1), true) else
    (i_stepped (m + 3) b).bind fun r => if r.2 = true then (i_Expr_lifted (m + 3) (Pf.mk 2 0 [] [a, b]) 0).bind fun r53 => (idx r53.kids 1).bind fun _ => some (Pf.mk r53.kind r53.n r53.forms (lset r53.kids 1 r.1), true) else some (pzz, false) := fun m => by rw [i_stepped]; rfl
  have f2 : ∀ m, s_l09Step (m + 4) (Pf.mk 2 0 [] [a, b]) = if a.kind = 3 then (idx a.kids 0).bind fun y15 => (s_l09Put (m + 3) b y15 0).bind fun r25 => some (r25, true) else (s_l09Step (m + 3) a).bind fun r => if r.2 = true then (s_l09Move (m + 3) (Pf.mk 2 0 [] [a, b]) 0 0).bind fun r53 => (idx r53.kids 0).bind fun _ => some (Pf.mk r53.kind r53.n r53.forms (lset r53.kids 0 r.1), true) else
    (s_l09Step (m + 3) b).bind fun r => if r.2 = true then (s_l09Move (m + 3) (Pf.mk 2 0 [] [a, b]) 0 0).bind fun r53 => (idx r53.kids 1).bind fun _ => some (Pf.mk r53.kind r53.n r53.forms (lset r53.kids 1 r.1), true) else some (Pf.mk 2 0 [] [a, b], false) := fun m => by rw [s_l09Step]; rfl
  cases o with
  | some y =>
   refine ⟨some (Pf.mk 2 0 [] [y, b]), (fun z h => by cases h; exact psm_app (s1 y rfl) (hks b (by simp))), (e1.and hev).up 3 fun m hm ⟨⟨q1, q2⟩, q3, q4⟩ => ?_⟩
   obtain ⟨m, rfl⟩ : ∃ j, m = j + 3 := ⟨m - 3, by omega⟩
   rw [f1, f2, if_neg ka, if_neg ka, q1, q2, bind_some', bind_some']
   unfold i_Expr_lifted
   rw [q3, q4]
   exact ⟨rfl, rfl⟩
  | none =>
   cases o2 with
   | some y =>
    refine ⟨some (Pf.mk 2 0 [] [a, y]), (fun z h => by cases h; exact psm_app (hks a (by simp)) (s2 y rfl)), (e1.and (e2.and hev)).up 3 fun m hm ⟨⟨q1, q2⟩, ⟨q3, q4⟩, q5, q6⟩ => ?_⟩
    obtain ⟨m, rfl⟩ : ∃ j, m = j + 3 := ⟨m - 3, by omega⟩
    rw [f1, f2, if_neg ka, if_neg ka, q1, q2, bind_some', bind_some']
    show (i_stepped (m + 3) b).bind _ = _ ∧ (s_l09Step (m + 3) b).bind _ = _
    rw [q3, q4]
    unfold i_Expr_lifted
    show ((i_Expr_moved__fn_i_Expr_lifted_c1v (m + 3) (Pf.mk 2 0 [] [a, b]) 0 0).bind fun r3 => some r3).bind _ = _ ∧ (s_l09Move (m + 3) (Pf.mk 2 0 [] [a, b]) 0 0).bind _ = _
    rw [q5, q6]
    exact ⟨rfl, rfl⟩
   | none =>
    refine ⟨none, (fun z h => by cases h), (e1.and e2).up 3 fun m hm ⟨⟨q1, q2⟩, q3, q4⟩ => ?_⟩
    obtain ⟨m, rfl⟩ : ∃ j, m = j + 3 := ⟨m - 3, by omega⟩
    rw [f1, f2, if_neg ka, if_neg ka, q1, q2, bind_some', bind_some']
    show (i_stepped (m + 3) b).bind _ = _ ∧ (s_l09Step (m + 3) b).bind _ = _
    rw [q3, q4]
    exact ⟨rfl, rfl⟩

/-- What StepExpr answers. -/
theorem stepBoth_ev (p : Pf) (hp : p.sm) : ∃ v : Pf × Bool × Int, v.1.sm ∧ v.1.size ≤ 150 ∧ Ev fun n => s_StepExpr n p = some v ∧ i_StepExpr n p = some v := by
 have hz : pzz.sm ∧ pzz.size ≤ 150 := ⟨psm_nil _ _, by unfold pzz; simp only [Pf.size, fsizes, psizes]; omega⟩
 cases hok : (decide (p.size ≤ 150) && p.exok) with
 | false =>
  refine ⟨(pzz, false, 1), hz.1, hz.2, ((specExprOK_ev p hp).and (implExprOK_ev p)).mp fun n ⟨h1, h2⟩ => ⟨?_, ?_⟩⟩
  ·unfold s_StepExpr
   rw [h1, hok, bind_some', if_pos (by decide)]; rfl
  unfold i_StepExpr
  rw [h2, hok, bind_some', if_pos (by decide)]; rfl
 | true =>
  have hok2 := hok
  simp only [Bool.and_eq_true, decide_eq_true_eq] at hok2
  obtain ⟨o, s1, e1⟩ := step_ev p hok2.2 hp (by omega)
  cases o with
  | none =>
   refine ⟨(pzz, false, 0), hz.1, hz.2, ((specExprOK_ev p hp).and ((implExprOK_ev p).and e1)).mp fun n ⟨h1, h2, h3, h4⟩ => ⟨?_, ?_⟩⟩
   ·unfold s_StepExpr
    rw [h1, hok, bind_some', if_neg (by decide), h4]; rfl
   unfold i_StepExpr
   rw [h2, hok, bind_some', if_neg (by decide), h3]; rfl
  | some y =>
   have hy := s1 y rfl
   have head : ∀ n, s_ExprOK n p = some true → i_ExprOK n p = some true → i_stepped n p = some (y, true) → s_l09Step n p = some (y, true) →
     s_StepExpr n p = ((s_ExprOK n y).bind fun r24 => if (!r24) = true then some (pzz, false, 11) else some (y, true, 0)) ∧ i_StepExpr n p = ((i_ExprOK n y).bind fun r24 => if (!r24) = true then some (pzz, false, 11) else some (y, true, 0)) := fun n h1 h2 h3 h4 => by
    constructor
    ·unfold s_StepExpr
     rw [h1, bind_some', if_neg (by decide), h4]; rfl
    unfold i_StepExpr
    rw [h2, bind_some', if_neg (by decide), h3]; rfl
   cases hoy : (decide (y.size ≤ 150) && y.exok) with
   | false =>
    refine ⟨(pzz, false, 11), hz.1, hz.2, ((specExprOK_ev p hp).and ((implExprOK_ev p).and (e1.and ((specExprOK_ev y hy).and (implExprOK_ev y))))).mp fun n ⟨h1, h2, ⟨h3, h4⟩, h5, h6⟩ => ?_⟩
    rw [hok] at h1 h2
    obtain ⟨a1, a2⟩ := head n h1 h2 h3 h4
    rw [a1, a2, h5, h6, hoy]
    exact ⟨rfl, rfl⟩
   | true =>
    have hoy2 := hoy
    simp only [Bool.and_eq_true, decide_eq_true_eq] at hoy2
    refine ⟨(y, true, 0), hy, hoy2.1, ((specExprOK_ev p hp).and ((implExprOK_ev p).and (e1.and ((specExprOK_ev y hy).and (implExprOK_ev y))))).mp fun n ⟨h1, h2, ⟨h3, h4⟩, h5, h6⟩ => ?_⟩
    rw [hok] at h1 h2
    obtain ⟨a1, a2⟩ := head n h1 h2 h3 h4
    rw [a1, a2, h5, h6, hoy]
    exact ⟨rfl, rfl⟩

theorem Pf_eta2 (x : Pf) : Pf.mk x.kind x.n x.forms x.kids = x := by cases x; rfl
theorem lawStepExpr_ev (p : Pf) (hok : p.ok) : Ev fun n => w_FnExactStepExpr n p = some true := by
 by_cases hb : p.sz 1048576 < 0
 ·refine (szExpr_ev p hok).mp fun n h => ?_
  unfold w_FnExactStepExpr
  rw [h _ (by omega) (by omega), bind_some', if_pos hb]
 have hsm := psz_sm p 1048576 (by omega) (by omega) (by omega)
 obtain ⟨v, v1, v2, ev⟩ := stepBoth_ev p hsm
 have hk : ¬ (Pf.marks p 1).2 < 0 := pmark_pos p (by omega)
 have hm : w_markExpr p 1 = some (Pf.marks p 1) := rfl
 have hp := psize_pos v.1
 refine ((szExpr_ev p hok).and ((toExpr_ev p hsm).and (ev.and ((eqExpr_ev p hsm).and ((eqExpr_ev v.1 v1).and (heldExpr_ev v.1 (by omega))))))).mp fun n ⟨h1, h2, ⟨h3, h4⟩, h5, h6, h7, h8⟩ => ?_
 have hneg : ¬ (1 + 2 * ((v.1.size : Int) - 1)) < 0 := by omega
 unfold w_FnExactStepExpr
 rw [h1 _ (by omega) (by omega), bind_some', if_neg hb]
 simp only [jn_eq, h2, h3, h4, h5, h6, h7, h8, hm, Pf_eta2, bind_some', Bool.not_true, Bool.false_eq_true, if_false, bne_self_eq_false, if_neg hk, if_neg hneg, beq_self_eq_true]

theorem lawStepExpr_ok (p : LP) (hok1 : p.er.ok) (hold1 : old p.toks) :
  ∀ tk, 2 ≤ tk → ACalls Go.Proofs.Try.prog 6 [.agg p.cells] (fun _ => none) tk (RetX (fun _ => none) tk (fun v _ => v = .bool true)) := by
 intro tk h2
 obtain ⟨n, hn⟩ := (lawStepExpr_ev p.er hok1).get
 obtain ⟨k, m, p, e, fs, q, f, ks⟩ := p
 rw [LP.toks_eq] at hold1
 exact w_FnExactStepExpr_ok n k m p e fs q f ks hn (fun x hx => hold1 x (List.mem_append.2 (.inl hx))) (fun x hx => hold1 x (List.mem_append.2 (.inr hx))) _ tk rfl h2

end Go.Am.Ytpkeophkdemcpaa
