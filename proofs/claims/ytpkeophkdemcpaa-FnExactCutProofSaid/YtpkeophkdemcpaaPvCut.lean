/- Plain laws: the law CutProof: hypotheses moved, a proof put for one. -/
import Derived.Test.YtpkeophkdemcpaaPvProvesA
import Derived.Test.YtpkeophkdemcpaaPuHypS
import Derived.Test.YtpkeophkdemcpaaPuProof
import Derived.Test.YtpkeophkdemcpaaPuMarkP
import Derived.Test.YtpkeophkdemcpaaPuPsz0
import Derived.Test.YtpkeophkdemcpaaSmForm
import Derived.Test.YtpkeophkdemcpaaCuHfP
import Derived.Test.YtpkeophkdemcpaaCuL
import Derived.Test.YtpkeophkdemcpaaRdA
namespace Go.Am
open Go
mutual
def Pf.pmv : Pf → Int → Int → Pf
 | .mk k n fs ks, d, b => if k = 1 then .mk 1 (if n ≥ d then n + b else n) [] [] else .mk k 0 fs (ppmvs ks (if k = 5 then d + 1 else d) b)
def ppmvs : List Pf → Int → Int → List Pf
 | [], _, _ => []
 | t :: r, d, b => t.pmv d b :: ppmvs r d b
end
mutual
def Pf.pcut (g : Pf) : Pf → Int → Pf
 | .mk k n fs ks, d => if k = 1 then (if n = d then g.pmv 0 d else if n > d then .mk 1 (n - 1) [] [] else .mk 1 n [] []) else .mk k 0 fs (ppcuts g ks (if k = 5 then d + 1 else d))
def ppcuts (g : Pf) : List Pf → Int → List Pf
 | [], _ => []
 | t :: r, d => Pf.pcut g t d :: ppcuts g r d
end
end Go.Am
namespace Go.Am.Ytpkeophkdemcpaa
open Go Go.Am

theorem prok_n0 {k n : Int} {fs : List F} {ks : List Pf} (h : (Pf.mk k n fs ks).prok = true) : k = 1 ∨ n = 0 := by
 simp only [Pf.prok, Bool.and_eq_true, decide_eq_true_eq, Bool.or_eq_true] at h
 exact h.2.2.2.2.2.1
theorem one_of {α : Type} {l : List α} (h : l.length = 1) : ∃ x, l = [x] := by
 match l, h with
 | [x], _ => exact ⟨x, rfl⟩
theorem two_of {α : Type} {l : List α} (h : l.length = 2) : ∃ x y, l = [x, y] := by
 match l, h with
 | [x, y], _ => exact ⟨x, y, rfl⟩
theorem prok_shapes {k n : Int} {fs : List F} {ks : List Pf} (h : (Pf.mk k n fs ks).prok = true) :
  (k = 1 ∧ 0 ≤ n ∧ n ≤ 100 ∧ fs = [] ∧ ks = []) ∨ (k ≠ 1 ∧ n = 0 ∧ (∀ t ∈ ks, t.prok = true) ∧ ((∃ a b x y, fs = [a, b] ∧ ks = [x, y]) ∨ (∃ a b x, fs = [a, b] ∧ ks = [x]) ∨ (∃ a x, fs = [a] ∧ ks = [x]))) := by
 have hn := prok_n0 h
 rcases prok_rules h with h1 | ⟨hP, ⟨hk, hl, a, b, rfl⟩ | ⟨hk, hl, a, b, rfl⟩ | ⟨hk, hl, a, rfl⟩⟩
 ·exact .inl h1
 ·obtain ⟨x, y, rfl⟩ := two_of hl
  exact .inr ⟨by omega, by omega, hP, .inl ⟨a, b, x, y, rfl, rfl⟩⟩
 ·obtain ⟨x, rfl⟩ := one_of hl
  exact .inr ⟨by omega, by omega, hP, .inr (.inl ⟨a, b, x, rfl, rfl⟩)⟩
 obtain ⟨x, rfl⟩ := one_of hl
 exact .inr ⟨by omega, by omega, hP, .inr (.inr ⟨a, x, rfl, rfl⟩)⟩

theorem im1 {m : Nat} {k n : Int} {fs : List F} {x x' : Pf} {d : Int} {e : Int} (hk : k ≠ 1) (h0 : i_cloneForms (m + 2) fs = some fs) (h1 : i_Proof_moved__fn_i_Proof_lifted_c1v (m + 2) x (if k = 5 then IntKind.i64.wrap (d + 1) else d) e = some x') :
  i_Proof_moved__fn_i_Proof_lifted_c1v (m + 3) (Pf.mk k n fs [x]) d e = some (Pf.mk k 0 fs [x']) := by
 have e0 : i_Proof_moved__fn_i_Proof_lifted_c1v (m + 3) (Pf.mk k n fs [x]) d e = (i_cloneForms (m + 2) fs).bind fun r => if k = 5 then (i_Proof_moved__fn_i_Proof_lifted_c1v (m + 2) x (IntKind.i64.wrap (d + 1)) e).bind fun s0 => some (Pf.mk k 0 r [s0]) else (i_Proof_moved__fn_i_Proof_lifted_c1v (m + 2) x d e).bind fun s0 => some (Pf.mk k 0 r [s0]) := by
  rw [i_Proof_moved__fn_i_Proof_lifted_c1v, if_neg (show ¬ (Pf.mk k n fs [x]).kind = 1 from hk)]; rfl
 rw [e0, h0, bind_some']
 by_cases h5 : k = 5
 ·rw [if_pos h5] at h1 ⊢
  rw [h1, bind_some']
 rw [if_neg h5] at h1 ⊢
 rw [h1, bind_some']

theorem im2 {m : Nat} {k n : Int} {fs : List F} {x y x' y' : Pf} {d : Int} {e : Int} (hk : k ≠ 1) (h0 : i_cloneForms (m + 2) fs = some fs) (h1 : i_Proof_moved__fn_i_Proof_lifted_c1v (m + 2) x (if k = 5 then IntKind.i64.wrap (d + 1) else d) e = some x') (h2 : i_Proof_moved__fn_i_Proof_lifted_c1v (m + 2) y (if k = 5 then IntKind.i64.wrap (d + 1) else d) e = some y') :
  i_Proof_moved__fn_i_Proof_lifted_c1v (m + 3) (Pf.mk k n fs [x, y]) d e = some (Pf.mk k 0 fs [x', y']) := by
 have e0 : i_Proof_moved__fn_i_Proof_lifted_c1v (m + 3) (Pf.mk k n fs [x, y]) d e = (i_cloneForms (m + 2) fs).bind fun r => if k = 5 then (i_Proof_moved__fn_i_Proof_lifted_c1v (m + 2) x (IntKind.i64.wrap (d + 1)) e).bind fun s0 => (i_Proof_moved__fn_i_Proof_lifted_c1v (m + 2) y (IntKind.i64.wrap (d + 1)) e).bind fun s1 => some (Pf.mk k 0 r [s0, s1]) else (i_Proof_moved__fn_i_Proof_lifted_c1v (m + 2) x d e).bind fun s0 => (i_Proof_moved__fn_i_Proof_lifted_c1v (m + 2) y d e).bind fun s1 => some (Pf.mk k 0 r [s0, s1]) := by
  rw [i_Proof_moved__fn_i_Proof_lifted_c1v, if_neg (show ¬ (Pf.mk k n fs [x, y]).kind = 1 from hk)]; rfl
 rw [e0, h0, bind_some']
 by_cases h5 : k = 5
 ·rw [if_pos h5] at h1 h2 ⊢
  rw [h1, bind_some', h2, bind_some']
 rw [if_neg h5] at h1 h2 ⊢
 rw [h1, bind_some', h2, bind_some']

theorem ic1 {m : Nat} {k n : Int} {fs : List F} {x x' : Pf} {d : Int} {g : Pf} (hk : k ≠ 1) (h0 : i_cloneForms (m + 2) fs = some fs) (h1 : i_Proof_moved__fn_i_CutProof_c2v (m + 2) x (if k = 5 then IntKind.i64.wrap (d + 1) else d) g = some x') :
  i_Proof_moved__fn_i_CutProof_c2v (m + 3) (Pf.mk k n fs [x]) d g = some (Pf.mk k 0 fs [x']) := by
 have e0 : i_Proof_moved__fn_i_CutProof_c2v (m + 3) (Pf.mk k n fs [x]) d g = (i_cloneForms (m + 2) fs).bind fun r => if k = 5 then (i_Proof_moved__fn_i_CutProof_c2v (m + 2) x (IntKind.i64.wrap (d + 1)) g).bind fun s0 => some (Pf.mk k 0 r [s0]) else (i_Proof_moved__fn_i_CutProof_c2v (m + 2) x d g).bind fun s0 => some (Pf.mk k 0 r [s0]) := by
  rw [i_Proof_moved__fn_i_CutProof_c2v, if_neg (show ¬ (Pf.mk k n fs [x]).kind = 1 from hk)]; rfl
 rw [e0, h0, bind_some']
 by_cases h5 : k = 5
 ·rw [if_pos h5] at h1 ⊢
  rw [h1, bind_some']
 rw [if_neg h5] at h1 ⊢
 rw [h1, bind_some']

theorem ic2 {m : Nat} {k n : Int} {fs : List F} {x y x' y' : Pf} {d : Int} {g : Pf} (hk : k ≠ 1) (h0 : i_cloneForms (m + 2) fs = some fs) (h1 : i_Proof_moved__fn_i_CutProof_c2v (m + 2) x (if k = 5 then IntKind.i64.wrap (d + 1) else d) g = some x') (h2 : i_Proof_moved__fn_i_CutProof_c2v (m + 2) y (if k = 5 then IntKind.i64.wrap (d + 1) else d) g = some y') :
  i_Proof_moved__fn_i_CutProof_c2v (m + 3) (Pf.mk k n fs [x, y]) d g = some (Pf.mk k 0 fs [x', y']) := by
 have e0 : i_Proof_moved__fn_i_CutProof_c2v (m + 3) (Pf.mk k n fs [x, y]) d g = (i_cloneForms (m + 2) fs).bind fun r => if k = 5 then (i_Proof_moved__fn_i_CutProof_c2v (m + 2) x (IntKind.i64.wrap (d + 1)) g).bind fun s0 => (i_Proof_moved__fn_i_CutProof_c2v (m + 2) y (IntKind.i64.wrap (d + 1)) g).bind fun s1 => some (Pf.mk k 0 r [s0, s1]) else (i_Proof_moved__fn_i_CutProof_c2v (m + 2) x d g).bind fun s0 => (i_Proof_moved__fn_i_CutProof_c2v (m + 2) y d g).bind fun s1 => some (Pf.mk k 0 r [s0, s1]) := by
  rw [i_Proof_moved__fn_i_CutProof_c2v, if_neg (show ¬ (Pf.mk k n fs [x, y]).kind = 1 from hk)]; rfl
 rw [e0, h0, bind_some']
 by_cases h5 : k = 5
 ·rw [if_pos h5] at h1 h2 ⊢
  rw [h1, bind_some', h2, bind_some']
 rw [if_neg h5] at h1 h2 ⊢
 rw [h1, bind_some', h2, bind_some']

theorem sm22 {m : Nat} {k n : Int} {a b : F} {x y x' y' : Pf} {d : Int} {e : Int} (hk : k ≠ 1) (c0 : s_l08Copy (m + 2) a = some a) (c1 : s_l08Copy (m + 2) b = some b) (h1 : s_l08Move (m + 2) x (if k = 5 then IntKind.i64.wrap (d + 1) else d) e = some x') (h2 : s_l08Move (m + 2) y (if k = 5 then IntKind.i64.wrap (d + 1) else d) e = some y') :
  s_l08Move (m + 3) (Pf.mk k n [a, b] [x, y]) d e = some (Pf.mk k n [a, b] [x', y']) := by
 have e0 : s_l08Move (m + 3) (Pf.mk k n [a, b] [x, y]) d e = (s_l08Copy (m + 2) a).bind fun r0 => (s_l08Copy (m + 2) b).bind fun r1 => if k = 5 then (s_l08Move (m + 2) x (IntKind.i64.wrap (d + 1)) e).bind fun s0 => (s_l08Move (m + 2) y (IntKind.i64.wrap (d + 1)) e).bind fun s1 => some (Pf.mk k n [r0, r1] [s0, s1]) else (s_l08Move (m + 2) x d e).bind fun s0 => (s_l08Move (m + 2) y d e).bind fun s1 => some (Pf.mk k n [r0, r1] [s0, s1]) := by
  rw [s_l08Move, jn_eq, if_neg (show ¬ (Pf.mk k n [a, b] [x, y]).kind = 1 from hk)]; rfl
 rw [e0, c0, bind_some', c1, bind_some']
 by_cases h5 : k = 5
 ·rw [if_pos h5] at h1 h2 ⊢
  rw [h1, bind_some', h2, bind_some']
 rw [if_neg h5] at h1 h2 ⊢
 rw [h1, bind_some', h2, bind_some']

theorem sc22 {m : Nat} {k n : Int} {a b : F} {x y x' y' : Pf} {d : Int} {g : Pf} (hk : k ≠ 1) (c0 : s_l08Copy (m + 2) a = some a) (c1 : s_l08Copy (m + 2) b = some b) (h1 : s_l08Cut (m + 2) g x (if k = 5 then IntKind.i64.wrap (d + 1) else d) = some x') (h2 : s_l08Cut (m + 2) g y (if k = 5 then IntKind.i64.wrap (d + 1) else d) = some y') :
  s_l08Cut (m + 3) g (Pf.mk k n [a, b] [x, y]) d = some (Pf.mk k 0 [a, b] [x', y']) := by
 have e0 : s_l08Cut (m + 3) g (Pf.mk k n [a, b] [x, y]) d = (s_l08Copy (m + 2) a).bind fun r0 => (s_l08Copy (m + 2) b).bind fun r1 => if k = 5 then (s_l08Cut (m + 2) g x (IntKind.i64.wrap (d + 1))).bind fun s0 => (s_l08Cut (m + 2) g y (IntKind.i64.wrap (d + 1))).bind fun s1 => some (Pf.mk k 0 [r0, r1] [s0, s1]) else (s_l08Cut (m + 2) g x d).bind fun s0 => (s_l08Cut (m + 2) g y d).bind fun s1 => some (Pf.mk k 0 [r0, r1] [s0, s1]) := by
  rw [s_l08Cut, if_neg (show ¬ (Pf.mk k n [a, b] [x, y]).kind = 1 from hk)]; rfl
 rw [e0, c0, bind_some', c1, bind_some']
 by_cases h5 : k = 5
 ·rw [if_pos h5] at h1 h2 ⊢
  rw [h1, bind_some', h2, bind_some']
 rw [if_neg h5] at h1 h2 ⊢
 rw [h1, bind_some', h2, bind_some']

theorem sm21 {m : Nat} {k n : Int} {a b : F} {x x' : Pf} {d : Int} {e : Int} (hk : k ≠ 1) (c0 : s_l08Copy (m + 2) a = some a) (c1 : s_l08Copy (m + 2) b = some b) (h1 : s_l08Move (m + 2) x (if k = 5 then IntKind.i64.wrap (d + 1) else d) e = some x') :
  s_l08Move (m + 3) (Pf.mk k n [a, b] [x]) d e = some (Pf.mk k n [a, b] [x']) := by
 have e0 : s_l08Move (m + 3) (Pf.mk k n [a, b] [x]) d e = (s_l08Copy (m + 2) a).bind fun r0 => (s_l08Copy (m + 2) b).bind fun r1 => if k = 5 then (s_l08Move (m + 2) x (IntKind.i64.wrap (d + 1)) e).bind fun s0 => some (Pf.mk k n [r0, r1] [s0]) else (s_l08Move (m + 2) x d e).bind fun s0 => some (Pf.mk k n [r0, r1] [s0]) := by
  rw [s_l08Move, jn_eq, if_neg (show ¬ (Pf.mk k n [a, b] [x]).kind = 1 from hk)]; rfl
 rw [e0, c0, bind_some', c1, bind_some']
 by_cases h5 : k = 5
 ·rw [if_pos h5] at h1 ⊢
  rw [h1, bind_some']
 rw [if_neg h5] at h1 ⊢
 rw [h1, bind_some']

theorem sc21 {m : Nat} {k n : Int} {a b : F} {x x' : Pf} {d : Int} {g : Pf} (hk : k ≠ 1) (c0 : s_l08Copy (m + 2) a = some a) (c1 : s_l08Copy (m + 2) b = some b) (h1 : s_l08Cut (m + 2) g x (if k = 5 then IntKind.i64.wrap (d + 1) else d) = some x') :
  s_l08Cut (m + 3) g (Pf.mk k n [a, b] [x]) d = some (Pf.mk k 0 [a, b] [x']) := by
 have e0 : s_l08Cut (m + 3) g (Pf.mk k n [a, b] [x]) d = (s_l08Copy (m + 2) a).bind fun r0 => (s_l08Copy (m + 2) b).bind fun r1 => if k = 5 then (s_l08Cut (m + 2) g x (IntKind.i64.wrap (d + 1))).bind fun s0 => some (Pf.mk k 0 [r0, r1] [s0]) else (s_l08Cut (m + 2) g x d).bind fun s0 => some (Pf.mk k 0 [r0, r1] [s0]) := by
  rw [s_l08Cut, if_neg (show ¬ (Pf.mk k n [a, b] [x]).kind = 1 from hk)]; rfl
 rw [e0, c0, bind_some', c1, bind_some']
 by_cases h5 : k = 5
 ·rw [if_pos h5] at h1 ⊢
  rw [h1, bind_some']
 rw [if_neg h5] at h1 ⊢
 rw [h1, bind_some']

theorem sm11 {m : Nat} {k n : Int} {a : F} {x x' : Pf} {d : Int} {e : Int} (hk : k ≠ 1) (c0 : s_l08Copy (m + 2) a = some a) (h1 : s_l08Move (m + 2) x (if k = 5 then IntKind.i64.wrap (d + 1) else d) e = some x') :
  s_l08Move (m + 3) (Pf.mk k n [a] [x]) d e = some (Pf.mk k n [a] [x']) := by
 have e0 : s_l08Move (m + 3) (Pf.mk k n [a] [x]) d e = (s_l08Copy (m + 2) a).bind fun r0 => if k = 5 then (s_l08Move (m + 2) x (IntKind.i64.wrap (d + 1)) e).bind fun s0 => some (Pf.mk k n [r0] [s0]) else (s_l08Move (m + 2) x d e).bind fun s0 => some (Pf.mk k n [r0] [s0]) := by
  rw [s_l08Move, jn_eq, if_neg (show ¬ (Pf.mk k n [a] [x]).kind = 1 from hk)]; rfl
 rw [e0, c0, bind_some']
 by_cases h5 : k = 5
 ·rw [if_pos h5] at h1 ⊢
  rw [h1, bind_some']
 rw [if_neg h5] at h1 ⊢
 rw [h1, bind_some']

theorem sc11 {m : Nat} {k n : Int} {a : F} {x x' : Pf} {d : Int} {g : Pf} (hk : k ≠ 1) (c0 : s_l08Copy (m + 2) a = some a) (h1 : s_l08Cut (m + 2) g x (if k = 5 then IntKind.i64.wrap (d + 1) else d) = some x') :
  s_l08Cut (m + 3) g (Pf.mk k n [a] [x]) d = some (Pf.mk k 0 [a] [x']) := by
 have e0 : s_l08Cut (m + 3) g (Pf.mk k n [a] [x]) d = (s_l08Copy (m + 2) a).bind fun r0 => if k = 5 then (s_l08Cut (m + 2) g x (IntKind.i64.wrap (d + 1))).bind fun s0 => some (Pf.mk k 0 [r0] [s0]) else (s_l08Cut (m + 2) g x d).bind fun s0 => some (Pf.mk k 0 [r0] [s0]) := by
  rw [s_l08Cut, if_neg (show ¬ (Pf.mk k n [a] [x]).kind = 1 from hk)]; rfl
 rw [e0, c0, bind_some']
 by_cases h5 : k = 5
 ·rw [if_pos h5] at h1 ⊢
  rw [h1, bind_some']
 rw [if_neg h5] at h1 ⊢
 rw [h1, bind_some']

theorem if_sm {c : Prop} [Decidable c] {a b : Pf} (ha : a.sm) (hb : b.sm) : (if c then a else b).sm := by split <;> assumption
theorem psm_nil (k n : Int) : (Pf.mk k n [] []).sm := by
 unfold Pf.sm
 exact ⟨⟨by simp, fun t h => by cases h⟩, by simp, fun t h => by cases h⟩
theorem psm_new {k n k2 n2 : Int} {fs : List F} {ks ks2 : List Pf} (h : (Pf.mk k n fs ks).sm) (hl : ks2.length = ks.length) (hk : ∀ t ∈ ks2, t.sm) : (Pf.mk k2 n2 fs ks2).sm := by
 obtain ⟨⟨h1, h2⟩, h3, h4⟩ := psm_kids h
 unfold Pf.sm
 exact ⟨⟨h1, h2⟩, by omega, hk⟩
theorem w_if {k d : Int} (h0 : 0 ≤ d) (h1 : d ≤ 1000000) : (if k = 5 then IntKind.i64.wrap (d + 1) else d) = (if k = 5 then d + 1 else d) := by
 rw [w64_eq (x := d + 1) (by omega) (by omega)]
theorem d_if {k d : Int} : d ≤ (if k = 5 then d + 1 else d) ∧ (if k = 5 then d + 1 else d) ≤ d + 1 := by split <;> omega

theorem pmv_ev  (x : Pf) : x.prok = true → x.sm → ∀ (d e : Int), 0 ≤ d → d + x.size ≤ 1000000 → 0 ≤ e → e ≤ 1000000 →
  (x.pmv d e).sm ∧ Ev fun n => i_Proof_moved__fn_i_Proof_lifted_c1v n x d e = some (x.pmv d e) ∧ s_l08Move n x d e = some (x.pmv d e) := by
 induction x using Pf.ind with
 | _ k n fs ks ih =>
  intro hok hsm d e hd hb he he2
  obtain ⟨⟨hfl, hfs⟩, hkl, hks⟩ := psm_kids hsm
  rcases prok_shapes hok with ⟨rfl, h0, h1, rfl, rfl⟩ | ⟨hk, rfl, hP, hS⟩
  ·refine ⟨by rw [Pf.pmv, if_pos rfl]; exact psm_nil _ _, (Ev.of (p := fun _ => True) fun _ => trivial).up 0 fun m _ _ => ?_⟩
   rw [Pf.pmv, if_pos rfl]
   have e0 : s_l08Move (m + 1) (Pf.mk 1 n [] []) d e = if n ≥ d then some (Pf.mk 1 (IntKind.i64.wrap (n + e)) [] []) else some (Pf.mk 1 n [] []) := by rw [s_l08Move]; rfl
   have e1 : i_Proof_moved__fn_i_Proof_lifted_c1v (m + 1) (Pf.mk 1 n [] []) d e = (if n ≥ d then some (Pf.mk 1 (IntKind.i64.wrap (n + e)) [] []) else some (Pf.mk 1 n [] [])).bind fun r => some r := by rw [i_Proof_moved__fn_i_Proof_lifted_c1v]; rfl
   rw [e0, e1]
   by_cases hnd : n ≥ d
   ·have w1 : IntKind.i64.wrap (n + e) = n + e := w64_eq (by omega) (by omega)
    rw [if_pos hnd, if_pos hnd, w1]; exact ⟨rfl, rfl⟩
   rw [if_neg hnd, if_neg hnd]; exact ⟨rfl, rfl⟩
  have hdi := d_if (k := k) (d := d)
  have cl := clones_ev fs hfl fun t ht => clone_ev t (hfs t ht)
  have wi := w_if (k := k) (d := d) hd (by omega)
  rcases hS with ⟨a, b, x, y, rfl, rfl⟩ | ⟨a, b, x, rfl, rfl⟩ | ⟨a, x, rfl, rfl⟩
  ·have e0 : (Pf.mk k 0 [a, b] [x, y]).pmv d e = Pf.mk k 0 [a, b] [x.pmv (if k = 5 then d + 1 else d) e, y.pmv (if k = 5 then d + 1 else d) e] := by rw [Pf.pmv, if_neg hk]; simp only [ppmvs]
   have hsz : ((Pf.mk k 0 [a, b] [x, y]).size : Int) = 1 + (fsizes [a, b] : Int) + (x.size : Int) + (y.size : Int) := by simp only [Pf.size, psizes]; push_cast; omega
   obtain ⟨s1, e1⟩ := ih x (by simp) (hP x (by simp)) (hks x (by simp)) (if k = 5 then d + 1 else d) e (by omega) (by omega) he he2
   obtain ⟨s2, e2⟩ := ih y (by simp) (hP y (by simp)) (hks y (by simp)) (if k = 5 then d + 1 else d) e (by omega) (by omega) he he2
   rw [e0]
   refine ⟨psm_new hsm rfl fun t h => ?_, (e1.and (e2.and (cl.and ((copyS_ev a (hfs a (by simp))).and ((copyS_ev b (hfs b (by simp)))))))).up 2 fun m hm ⟨⟨q1, p1⟩, ⟨q2, p2⟩, q0, c0, c1⟩ => ?_⟩
   ·simp only [List.mem_cons, List.not_mem_nil, or_false] at h
    rcases h with rfl | rfl
    ·exact s1
    exact s2
   obtain ⟨m, rfl⟩ : ∃ j, m = j + 2 := ⟨m - 2, by omega⟩
   exact ⟨im2 hk q0 (by rw [wi]; exact q1) (by rw [wi]; exact q2), sm22 hk c0 c1 (by rw [wi]; exact p1) (by rw [wi]; exact p2)⟩
  ·have e0 : (Pf.mk k 0 [a, b] [x]).pmv d e = Pf.mk k 0 [a, b] [x.pmv (if k = 5 then d + 1 else d) e] := by rw [Pf.pmv, if_neg hk]; simp only [ppmvs]
   have hsz : ((Pf.mk k 0 [a, b] [x]).size : Int) = 1 + (fsizes [a, b] : Int) + (x.size : Int) := by simp only [Pf.size, psizes]; push_cast; omega
   obtain ⟨s1, e1⟩ := ih x (by simp) (hP x (by simp)) (hks x (by simp)) (if k = 5 then d + 1 else d) e (by omega) (by omega) he he2
   rw [e0]
   refine ⟨psm_new hsm rfl fun t h => ?_, (e1.and (cl.and ((copyS_ev a (hfs a (by simp))).and ((copyS_ev b (hfs b (by simp))))))).up 2 fun m hm ⟨⟨q1, p1⟩, q0, c0, c1⟩ => ?_⟩
   ·simp only [List.mem_cons, List.not_mem_nil, or_false] at h
    subst h; exact s1
   obtain ⟨m, rfl⟩ : ∃ j, m = j + 2 := ⟨m - 2, by omega⟩
   exact ⟨im1 hk q0 (by rw [wi]; exact q1), sm21 hk c0 c1 (by rw [wi]; exact p1)⟩
  have e0 : (Pf.mk k 0 [a] [x]).pmv d e = Pf.mk k 0 [a] [x.pmv (if k = 5 then d + 1 else d) e] := by rw [Pf.pmv, if_neg hk]; simp only [ppmvs]
  have hsz : ((Pf.mk k 0 [a] [x]).size : Int) = 1 + (fsizes [a] : Int) + (x.size : Int) := by simp only [Pf.size, psizes]; push_cast; omega
  obtain ⟨s1, e1⟩ := ih x (by simp) (hP x (by simp)) (hks x (by simp)) (if k = 5 then d + 1 else d) e (by omega) (by omega) he he2
  rw [e0]
  refine ⟨psm_new hsm rfl fun t h => ?_, (e1.and (cl.and ((copyS_ev a (hfs a (by simp)))))).up 2 fun m hm ⟨⟨q1, p1⟩, q0, c0⟩ => ?_⟩
  ·simp only [List.mem_cons, List.not_mem_nil, or_false] at h
   subst h; exact s1
  obtain ⟨m, rfl⟩ : ∃ j, m = j + 2 := ⟨m - 2, by omega⟩
  exact ⟨im1 hk q0 (by rw [wi]; exact q1), sm11 hk c0 (by rw [wi]; exact p1)⟩

theorem pcut_ev (g : Pf) (hg : g.prok = true) (hgs : g.sm) (hgz : g.size ≤ 1000) (x : Pf) : x.prok = true → x.sm → ∀ (d : Int), 0 ≤ d → d + x.size ≤ 100000 →
  (Pf.pcut g x d).sm ∧ Ev fun n => i_Proof_moved__fn_i_CutProof_c2v n x d g = some (Pf.pcut g x d) ∧ s_l08Cut n g x d = some (Pf.pcut g x d) := by
 induction x using Pf.ind with
 | _ k n fs ks ih =>
  intro hok hsm d hd hb
  obtain ⟨⟨hfl, hfs⟩, hkl, hks⟩ := psm_kids hsm
  rcases prok_shapes hok with ⟨rfl, h0, h1, rfl, rfl⟩ | ⟨hk, rfl, hP, hS⟩
  ·obtain ⟨s1, e1⟩ := pmv_ev g hg hgs 0 d (by omega) (by omega) hd (by omega)
   have hcase : (Pf.pcut g (Pf.mk 1 n [] []) d) = if n = d then g.pmv 0 d else if n > d then .mk 1 (n - 1) [] [] else .mk 1 n [] [] := by rw [Pf.pcut, if_pos rfl]
   rw [hcase]
   have w1 : IntKind.i64.wrap (n - 1) = n - 1 := w64_eq (by omega) (by omega)
   refine ⟨(if_sm s1 (if_sm (psm_nil _ _) (psm_nil _ _))), e1.up 0 fun m _ ⟨q1, q2⟩ => ?_⟩
   have f1 : i_Proof_moved__fn_i_CutProof_c2v (m + 1) (Pf.mk 1 n [] []) d g = (i_CutProof_c2 m n d g).bind fun r5 => some r5 := by rw [i_Proof_moved__fn_i_CutProof_c2v]; rfl
   have f2 : s_l08Cut (m + 1) g (Pf.mk 1 n [] []) d = if n = d then (s_l08Move m g 0 d).bind fun r6 => some r6 else if n > d then some (Pf.mk 1 (IntKind.i64.wrap (n - 1)) [] []) else some (Pf.mk 1 n [] []) := by rw [s_l08Cut]; rfl
   rw [f1, f2]
   unfold i_CutProof_c2 i_Proof_lifted
   by_cases c1 : n = d
   ·rw [if_pos c1, if_pos c1, if_pos c1, q1, q2]
    exact ⟨rfl, rfl⟩
   rw [if_neg c1, if_neg c1, if_neg c1]
   by_cases c2 : n > d
   ·simp only [if_pos c2, w1, bind_some', and_self]
   simp only [if_neg c2, bind_some', and_self]
  have hdi := d_if (k := k) (d := d)
  have cl := clones_ev fs hfl fun t ht => clone_ev t (hfs t ht)
  have wi := w_if (k := k) (d := d) hd (by omega)
  rcases hS with ⟨a, b, x, y, rfl, rfl⟩ | ⟨a, b, x, rfl, rfl⟩ | ⟨a, x, rfl, rfl⟩
  ·have e0 : Pf.pcut g (Pf.mk k 0 [a, b] [x, y]) d = Pf.mk k 0 [a, b] [Pf.pcut g x (if k = 5 then d + 1 else d), Pf.pcut g y (if k = 5 then d + 1 else d)] := by rw [Pf.pcut, if_neg hk]; simp only [ppcuts]
   have hsz : ((Pf.mk k 0 [a, b] [x, y]).size : Int) = 1 + (fsizes [a, b] : Int) + (x.size : Int) + (y.size : Int) := by simp only [Pf.size, psizes]; push_cast; omega
   obtain ⟨s1, e1⟩ := ih x (by simp) (hP x (by simp)) (hks x (by simp)) (if k = 5 then d + 1 else d) (by omega) (by omega)
   obtain ⟨s2, e2⟩ := ih y (by simp) (hP y (by simp)) (hks y (by simp)) (if k = 5 then d + 1 else d) (by omega) (by omega)
   rw [e0]
   refine ⟨psm_new hsm rfl fun t h => ?_, (e1.and (e2.and (cl.and ((copyS_ev a (hfs a (by simp))).and ((copyS_ev b (hfs b (by simp)))))))).up 2 fun m hm ⟨⟨q1, p1⟩, ⟨q2, p2⟩, q0, c0, c1⟩ => ?_⟩
   ·simp only [List.mem_cons, List.not_mem_nil, or_false] at h
    rcases h with rfl | rfl
    ·exact s1
    exact s2
   obtain ⟨m, rfl⟩ : ∃ j, m = j + 2 := ⟨m - 2, by omega⟩
   exact ⟨ic2 hk q0 (by rw [wi]; exact q1) (by rw [wi]; exact q2), sc22 hk c0 c1 (by rw [wi]; exact p1) (by rw [wi]; exact p2)⟩
  ·have e0 : Pf.pcut g (Pf.mk k 0 [a, b] [x]) d = Pf.mk k 0 [a, b] [Pf.pcut g x (if k = 5 then d + 1 else d)] := by rw [Pf.pcut, if_neg hk]; simp only [ppcuts]
   have hsz : ((Pf.mk k 0 [a, b] [x]).size : Int) = 1 + (fsizes [a, b] : Int) + (x.size : Int) := by simp only [Pf.size, psizes]; push_cast; omega
   obtain ⟨s1, e1⟩ := ih x (by simp) (hP x (by simp)) (hks x (by simp)) (if k = 5 then d + 1 else d) (by omega) (by omega)
   rw [e0]
   refine ⟨psm_new hsm rfl fun t h => ?_, (e1.and (cl.and ((copyS_ev a (hfs a (by simp))).and ((copyS_ev b (hfs b (by simp))))))).up 2 fun m hm ⟨⟨q1, p1⟩, q0, c0, c1⟩ => ?_⟩
   ·simp only [List.mem_cons, List.not_mem_nil, or_false] at h
    subst h; exact s1
   obtain ⟨m, rfl⟩ : ∃ j, m = j + 2 := ⟨m - 2, by omega⟩
   exact ⟨ic1 hk q0 (by rw [wi]; exact q1), sc21 hk c0 c1 (by rw [wi]; exact p1)⟩
  have e0 : Pf.pcut g (Pf.mk k 0 [a] [x]) d = Pf.mk k 0 [a] [Pf.pcut g x (if k = 5 then d + 1 else d)] := by rw [Pf.pcut, if_neg hk]; simp only [ppcuts]
  have hsz : ((Pf.mk k 0 [a] [x]).size : Int) = 1 + (fsizes [a] : Int) + (x.size : Int) := by simp only [Pf.size, psizes]; push_cast; omega
  obtain ⟨s1, e1⟩ := ih x (by simp) (hP x (by simp)) (hks x (by simp)) (if k = 5 then d + 1 else d) (by omega) (by omega)
  rw [e0]
  refine ⟨psm_new hsm rfl fun t h => ?_, (e1.and (cl.and ((copyS_ev a (hfs a (by simp)))))).up 2 fun m hm ⟨⟨q1, p1⟩, q0, c0⟩ => ?_⟩
  ·simp only [List.mem_cons, List.not_mem_nil, or_false] at h
   subst h; exact s1
  obtain ⟨m, rfl⟩ : ∃ j, m = j + 2 := ⟨m - 2, by omega⟩
  exact ⟨ic1 hk q0 (by rw [wi]; exact q1), sc11 hk c0 (by rw [wi]; exact p1)⟩

def pzz : Pf := Pf.mk 0 0 [] []
theorem more8_eq {l : List F} (f : F) (h : l.length ≤ 5000) : s_l08More l f = some (l ++ [f]) := by
 unfold s_l08More
 rw [chk_of (by simp; omega), chk_of (by simp; omega)]

theorem cutBoth_ev (l : List F) (p q : Pf) (hl : ∀ t ∈ l, t.sm) (hp : p.sm) (hq : q.sm) : ∃ v : Pf × Int, v.1.sm ∧ v.1.size ≤ 150 ∧ Ev fun n => s_CutProof n l p q = some v ∧ i_CutProof n l p q = some v := by
 have hz : pzz.sm ∧ pzz.size ≤ 150 := ⟨psm_nil _ _, by unfold pzz; simp only [Pf.size, fsizes, psizes]; omega⟩
 by_cases h4 : 4096 < l.length
 ·refine ⟨(pzz, 2), hz.1, hz.2, (longs_ev l).mp fun n h => ⟨?_, ?_⟩⟩
  ·unfold s_CutProof; rw [if_pos (by omega)]; rfl
  unfold i_CutProof; rw [h, bind_some', if_pos (by simpa using h4)]; rfl
 have base := (longs_ev l).and ((hypsOK_ev l (by omega) hl).and ((specProofOK_ev p hp).and ((implProofOK_ev p hp).and ((specProofOK_ev q hq).and (implProofOK_ev q hq)))))
 cases hA : (decide (l.length ≤ 12) && l.all hgd) with
 | false =>
  refine ⟨(pzz, 1), hz.1, hz.2, base.mp fun n ⟨h1, ⟨h2, h3⟩, _⟩ => ⟨?_, ?_⟩⟩
  ·unfold s_CutProof; rw [if_neg (by omega), h2, hA, bind_some', if_pos (by decide)]; rfl
  unfold i_CutProof; rw [h1, bind_some', if_neg (by simpa using h4), h3, hA, bind_some', if_pos (by decide)]; rfl
 | true =>
 cases hB : (decide (p.size ≤ 150) && p.prok) with
 | false =>
  refine ⟨(pzz, 1), hz.1, hz.2, base.mp fun n ⟨h1, ⟨h2, h3⟩, h5, h6, _⟩ => ⟨?_, ?_⟩⟩
  ·unfold s_CutProof; rw [if_neg (by omega), h2, hA, bind_some', if_neg (by decide), h5, hB, bind_some', if_pos (by decide)]; rfl
  unfold i_CutProof; rw [h1, bind_some', if_neg (by simpa using h4), h3, hA, bind_some', if_neg (by decide), h6, hB, bind_some', if_pos (by decide)]; rfl
 | true =>
 cases hC : (decide (q.size ≤ 150) && q.prok) with
 | false =>
  refine ⟨(pzz, 1), hz.1, hz.2, base.mp fun n ⟨h1, ⟨h2, h3⟩, h5, h6, h7, h8⟩ => ⟨?_, ?_⟩⟩
  ·unfold s_CutProof; rw [if_neg (by omega), h2, hA, bind_some', if_neg (by decide), h5, hB, bind_some', if_neg (by decide), h7, hC, bind_some', if_pos (by decide)]; rfl
  unfold i_CutProof; rw [h1, bind_some', if_neg (by simpa using h4), h3, hA, bind_some', if_neg (by decide), h6, hB, bind_some', if_neg (by decide), h8, hC, bind_some', if_pos (by decide)]; rfl
 | true =>
 have hA2 := hA
 have hB2 := hB
 have hC2 := hC
 simp only [Bool.and_eq_true, decide_eq_true_eq] at hA2 hB2 hC2
 have hps := ppsz_le p
 have hqs := ppsz_le q
 have evp := proves_ev p hB2.2 hp (by omega) l hl (by omega)
 have head : ∀ n, i_longLists n [(l.length : Int)] = some (decide (4096 < l.length)) → s_l08Hyps n l = some true → i_hypsOK n l = some true → s_ProofOK n p = some true → i_ProofOK n p = some true → s_ProofOK n q = some true → i_ProofOK n q = some true →
   s_CutProof n l p q = ((s_l08Proves n l p 0).bind fun r29 => if (r29.2.1 != 0) = true then some (pzz, r29.2.1) else (s_l08More l r29.1).bind fun r47 => (s_l08Proves n r47 q 0).bind fun r54 => if (r54.2.1 != 0) = true then some (pzz, r54.2.1) else
    (s_l08Cut n p q 0).bind fun r72 => (s_ProofOK n r72).bind fun r79 => if (!r79) = true then some (pzz, 11) else some (r72, 0)) ∧
   i_CutProof n l p q = ((i_CutProof_c1 n l p q).bind fun z36 => z36.cs (fun _ => if ((0 : Int) != 0) = true then some (pzz, 0) else (i_Proof_moved__fn_i_CutProof_c2v n q 0 p).bind fun r46 => (i_ProofOK n r46).bind fun r53 => if (!r53) = true then some (pzz, 11) else some (r46, 0))
    (fun c43 _ => if (c43 != 0) = true then some (pzz, c43) else (i_Proof_moved__fn_i_CutProof_c2v n q 0 p).bind fun r62 => (i_ProofOK n r62).bind fun r69 => if (!r69) = true then some (pzz, 11) else some (r62, 0))) := by
  intro n h1 h2 h3 h5 h6 h7 h8
  constructor
  ·unfold s_CutProof; rw [if_neg (by omega), h2, bind_some', if_neg (by decide), h5, bind_some', if_neg (by decide), h7, bind_some', if_neg (by decide)]; rfl
  unfold i_CutProof; rw [h1, bind_some', if_neg (by simpa using h4), h3, bind_some', if_neg (by decide), h6, bind_some', if_neg (by decide), h8, bind_some', if_neg (by decide)]; rfl
 rw [hA, hB, hC] at base
 cases hz1 : p.pv l 0 with
 | stop c pl =>
  have hc : c ≠ 0 := pv_stop p l 0 c pl hz1
  refine ⟨(pzz, c), hz.1, hz.2, (base.and evp).mp fun n ⟨⟨h1, ⟨h2, h3⟩, h5, h6, h7, h8⟩, h9⟩ => ?_⟩
  obtain ⟨a1, a2⟩ := head n h1 h2 h3 h5 h6 h7 h8
  obtain ⟨p1, p2⟩ := h9 0 (by omega) (by omega)
  rw [hz1] at p1 p2
  refine ⟨?_, ?_⟩
  ·rw [a1, p2]
   show (if (c != 0) = true then some (pzz, c) else _) = some (pzz, c)
   rw [if_pos (by simp [hc])]
  have e1 : i_CutProof_c1 n l p q = some (.stop c pl) := by unfold i_CutProof_c1; rw [p1]; rfl
  rw [a2, e1]
  show (if (c != 0) = true then some (pzz, c) else _) = some (pzz, c)
  rw [if_pos (by simp [hc])]
 | ok f =>
  have hf : f.sm := by rw [pv_ok hz1]; exact concl_sm hp hl
  have hl2 : ∀ t ∈ l ++ [f], t.sm := fun t ht => by
   rcases List.mem_append.1 ht with h | h
   ·exact hl t h
   rw [List.mem_singleton.1 h]; exact hf
  have evq := proves_ev q hC2.2 hq (by omega) (l ++ [f]) hl2 (by simp; omega)
  have hm := more8_eq (l := l) f (by omega)
  cases hz2 : q.pv (l ++ [f]) 0 with
  | stop c pl =>
   have hc : c ≠ 0 := pv_stop q (l ++ [f]) 0 c pl hz2
   refine ⟨(pzz, c), hz.1, hz.2, (base.and (evp.and evq)).mp fun n ⟨⟨h1, ⟨h2, h3⟩, h5, h6, h7, h8⟩, h9, h10⟩ => ?_⟩
   obtain ⟨a1, a2⟩ := head n h1 h2 h3 h5 h6 h7 h8
   obtain ⟨p1, p2⟩ := h9 0 (by omega) (by omega)
   obtain ⟨q1, q2⟩ := h10 0 (by omega) (by omega)
   rw [hz1] at p1 p2
   rw [hz2] at q1 q2
   refine ⟨?_, ?_⟩
   ·rw [a1, p2]
    show (if ((0 : Int) != 0) = true then some (pzz, 0) else (s_l08More l f).bind _) = _
    rw [if_neg (by decide), hm, bind_some', q2]
    show (if (c != 0) = true then some (pzz, c) else _) = some (pzz, c)
    rw [if_pos (by simp [hc])]
   have e1 : i_CutProof_c1 n l p q = some (.stop c pl) := by unfold i_CutProof_c1; rw [p1, zb_ok, chk_of (by simp; omega), q1]; rfl
   rw [a2, e1]
   show (if (c != 0) = true then some (pzz, c) else _) = some (pzz, c)
   rw [if_pos (by simp [hc])]
  | ok f2 =>
   obtain ⟨s1, ec⟩ := pcut_ev p hB2.2 hp (by omega) q hC2.2 hq 0 (by omega) (by omega)
   have all := base.and (evp.and (evq.and (ec.and ((specProofOK_ev _ s1).and (implProofOK_ev _ s1)))))
   cases hD : (decide ((Pf.pcut p q 0).size ≤ 150) && (Pf.pcut p q 0).prok) with
   | false =>
    refine ⟨(pzz, 11), hz.1, hz.2, all.mp fun n ⟨⟨h1, ⟨h2, h3⟩, h5, h6, h7, h8⟩, h9, h10, ⟨c1, c2⟩, d1, d2⟩ => ?_⟩
    obtain ⟨a1, a2⟩ := head n h1 h2 h3 h5 h6 h7 h8
    obtain ⟨p1, p2⟩ := h9 0 (by omega) (by omega)
    obtain ⟨q1, q2⟩ := h10 0 (by omega) (by omega)
    rw [hz1] at p1 p2
    rw [hz2] at q1 q2
    rw [hD] at d1 d2
    refine ⟨?_, ?_⟩
    ·rw [a1, p2]
     show (if ((0 : Int) != 0) = true then some (pzz, 0) else (s_l08More l f).bind _) = _
     rw [if_neg (by decide), hm, bind_some', q2]
     show (if ((0 : Int) != 0) = true then some (pzz, 0) else (s_l08Cut n p q 0).bind _) = _
     rw [if_neg (by decide), c2, bind_some', d1]; rfl
    have e1 : i_CutProof_c1 n l p q = some (.ok ()) := by unfold i_CutProof_c1; rw [p1, zb_ok, chk_of (by simp; omega), q1]; rfl
    rw [a2, e1]
    show (if ((0 : Int) != 0) = true then some (pzz, 0) else (i_Proof_moved__fn_i_CutProof_c2v n q 0 p).bind _) = _
    rw [if_neg (by decide), c1, bind_some', d2]; rfl
   | true =>
    have hD2 := hD
    simp only [Bool.and_eq_true, decide_eq_true_eq] at hD2
    refine ⟨(Pf.pcut p q 0, 0), s1, hD2.1, all.mp fun n ⟨⟨h1, ⟨h2, h3⟩, h5, h6, h7, h8⟩, h9, h10, ⟨c1, c2⟩, d1, d2⟩ => ?_⟩
    obtain ⟨a1, a2⟩ := head n h1 h2 h3 h5 h6 h7 h8
    obtain ⟨p1, p2⟩ := h9 0 (by omega) (by omega)
    obtain ⟨q1, q2⟩ := h10 0 (by omega) (by omega)
    rw [hz1] at p1 p2
    rw [hz2] at q1 q2
    rw [hD] at d1 d2
    refine ⟨?_, ?_⟩
    ·rw [a1, p2]
     show (if ((0 : Int) != 0) = true then some (pzz, 0) else (s_l08More l f).bind _) = _
     rw [if_neg (by decide), hm, bind_some', q2]
     show (if ((0 : Int) != 0) = true then some (pzz, 0) else (s_l08Cut n p q 0).bind _) = _
     rw [if_neg (by decide), c2, bind_some', d1]; rfl
    have e1 : i_CutProof_c1 n l p q = some (.ok ()) := by unfold i_CutProof_c1; rw [p1, zb_ok, chk_of (by simp; omega), q1]; rfl
    rw [a2, e1]
    show (if ((0 : Int) != 0) = true then some (pzz, 0) else (i_Proof_moved__fn_i_CutProof_c2v n q 0 p).bind _) = _
    rw [if_neg (by decide), c1, bind_some', d2]; rfl

theorem pmarks_at (t : Pf) (k : Int) (h0 : 0 ≤ k) (h : k + 2 * (t.size : Int) ≤ 9223372036854775807) : (Pf.marks t k).2 = k + 2 * ((t.size : Int) - 1) := by
 obtain ⟨a, n, fs, ks⟩ := t
 simp only [Pf.size] at h ⊢
 push_cast at h ⊢
 unfold Pf.marks
 simp only [Pf.forms, Pf.kids]
 rw [fmarks_snd fs k h0 (by omega), pmarks_snd ks _ (by omega) (by omega)]
 omega
theorem Pf_eta2 (x : Pf) : Pf.mk x.kind x.n x.forms x.kids = x := by cases x; rfl

theorem lawCutProof_ev (l : List F) (p q : Pf) (hl : l.length ≤ 9223372036854775807) (hlo : ∀ t ∈ l, t.ok) (hok : p.ok) (hoq : q.ok) : Ev fun n => w_FnExactCutProof n l p q = some true := by
 have hsz := szFormS_ev l hl fun t ht => szForm_ev t (hlo t ht)
 by_cases hb : fszS l 1048576 < 0
 ·refine hsz.mp fun n h => ?_
  unfold w_FnExactCutProof
  rw [h 1048576 (by omega) (by omega), bind_some', if_pos hb]
 have hr := fszS_range l 1048576 (by omega)
 by_cases hb2 : p.sz (fszS l 1048576) < 0
 ·refine (hsz.and (szProof_ev p hok)).mp fun n h => ?_
  unfold w_FnExactCutProof
  rw [h.1 1048576 (by omega) (by omega), bind_some', if_neg hb, h.2 _ (by omega) (by omega), bind_some', if_pos hb2]
 have hrp := psz_range p (fszS l 1048576) (by omega)
 by_cases hb3 : q.sz (p.sz (fszS l 1048576)) < 0
 ·refine (hsz.and ((szProof_ev p hok).and (szProof_ev q hoq))).mp fun n ⟨h1, h2, h3⟩ => ?_
  unfold w_FnExactCutProof
  rw [h1 1048576 (by omega) (by omega), bind_some', if_neg hb, h2 _ (by omega) (by omega), bind_some', if_neg hb2, h3 _ (by omega) (by omega), bind_some', if_pos hb3]
 have hrq := psz_range q (p.sz (fszS l 1048576)) (by omega)
 have hsl := fszS_sm (ks := l) (left := 1048576) (by omega) (by omega) (by omega)
 have hsm := psz_sm p (fszS l 1048576) (by omega) (by omega) (by omega)
 have hsq := psz_sm q (p.sz (fszS l 1048576)) (by omega) (by omega) (by omega)
 have hcl := fszS_cnt l 1048576 (by omega)
 have hcp := psz_cnt p (fszS l 1048576) (by omega)
 have hcq := psz_cnt q (p.sz (fszS l 1048576)) (by omega)
 obtain ⟨v, v1, v2, ev⟩ := cutBoth_ev l p q hsl.2 hsm hsq
 have hp1 := psize_pos p
 have hp2 := psize_pos q
 have hp3 := psize_pos v.1
 refine (hsz.and ((szProof_ev p hok).and ((szProof_ev q hoq).and ((toFormS_ev l hsl.1 fun t ht => toForm_ev t (hsl.2 t ht)).and ((toProof_ev p hsm).and ((toProof_ev q hsq).and (ev.and ((eqFormS_ev l hsl.1 fun t ht => eqForm_ev t (hsl.2 t ht)).and ((eqProof_ev p hsm).and ((eqProof_ev q hsq).and ((eqProof_ev v.1 v1).and (heldProof_ev v.1 (by omega))))))))))))).mp fun n ⟨h1, h2, h3, h4, h5, h6, ⟨h7, h8⟩, h9, h10, h11, h12, h13, h14⟩ => ?_
 have hm1 : w_markFormS l 1 = some (fmarks l 1) := rfl
 have hm2 : w_markProof p (fmarks l 1).2 = some (Pf.marks p (fmarks l 1).2) := rfl
 have hm3 : w_markProof q (Pf.marks p (fmarks l 1).2).2 = some (Pf.marks q (Pf.marks p (fmarks l 1).2).2) := rfl
 have hk1 : (fmarks l 1).2 = 1 + 2 * (fsizes l : Int) := fmarks_snd l 1 (by omega) (by omega)
 have hk2 : (Pf.marks p (fmarks l 1).2).2 = 1 + 2 * (fsizes l : Int) + 2 * ((p.size : Int) - 1) := by rw [hk1, pmarks_at p _ (by omega) (by omega)]
 have hk3 : ¬ (Pf.marks q (Pf.marks p (fmarks l 1).2).2).2 < 0 := by rw [hk2, pmarks_at q _ (by omega) (by omega)]; omega
 have hneg : ¬ (1 + 2 * ((v.1.size : Int) - 1)) < 0 := by omega
 unfold w_FnExactCutProof
 rw [h1 1048576 (by omega) (by omega), bind_some', if_neg hb, h2 _ (by omega) (by omega), bind_some', if_neg hb2, h3 _ (by omega) (by omega), bind_some', if_neg hb3]
 simp only [jn_eq, h4, h5, h6, h7, h8, h9, h10, h11, h12, h13, h14, hm1, hm2, hm3, Pf_eta2, bind_some', Bool.not_true, Bool.false_eq_true, if_false, bne_self_eq_false, if_neg hk3, if_neg hneg]

theorem lawCutProof_ok (l : List LF) (hl : l.length ≤ 9223372036854775807) (hok : ∀ t ∈ l, t.er.ok) (hold : ∀ t ∈ l, old t.toks) (p : LP) (hok1 : p.er.ok) (hold1 : old p.toks) (q : LP) (hok2 : q.er.ok) (hold2 : old q.toks) :
  ∀ tk, 2 ≤ tk → ACalls Go.Proofs.Try.prog 7 [.imm 0 3 false (fcellss l), .agg p.cells, .agg q.cells] (fun _ => none) tk (RetX (fun _ => none) tk (fun v _ => v = .bool true)) := by
 intro tk h2
 obtain ⟨n, hn⟩ := (lawCutProof_ev (fers l) p.er q.er (by rw [fers_length]; exact hl) (fun t ht => by rw [fers_map] at ht; obtain ⟨t', h1, rfl⟩ := List.mem_map.1 ht; exact hok t' h1) hok1 hok2).get
 obtain ⟨k, m, p, e, fs, q1, f, ks⟩ := p
 obtain ⟨k2, m2, p2, e2, fs2, q2, f2, ks2⟩ := q
 rw [LP.toks_eq] at hold1 hold2
 exact w_FnExactCutProof_ok n 0 false l k m p e fs q1 f ks k2 m2 p2 e2 fs2 q2 f2 ks2 hn (old_fstoks hold) (fun x hx => hold1 x (List.mem_append.2 (.inl hx))) (fun x hx => hold1 x (List.mem_append.2 (.inr hx))) (fun x hx => hold2 x (List.mem_append.2 (.inl hx))) (fun x hx => hold2 x (List.mem_append.2 (.inr hx))) _ tk rfl h2

end Go.Am.Ytpkeophkdemcpaa
