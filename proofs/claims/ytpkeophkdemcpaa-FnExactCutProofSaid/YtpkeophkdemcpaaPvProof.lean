/- Plain laws: what is a right proof: the reference's way and the program's. -/
import Derived.Test.YtpkeophkdemcpaaPwProof
namespace Go.Am.Ytpkeophkdemcpaa
open Go Go.Am

theorem specProof_loop2 (rec : Pf → Option Bool) (x : Pf) (hl : x.kids.length ≤ 1048576) (i : Int) (H : ∀ y ∈ x.kids, rec y = some y.prok) :
  ∀ (r a : List Pf) (m : Nat), x.kids = a ++ r → r.length < m → s_l08Proof_L2 rec x (i, x.kids.length) m a.length = some (proks r)
 | [], a, m, e, hm => by
  obtain ⟨m, rfl⟩ : ∃ k, m = k + 1 := ⟨m - 1, by omega⟩
  rw [s_l08Proof_L2, e]
  simp only [List.append_nil, Int.lt_irrefl, if_false]; rfl
 | y :: r, a, m, e, hm => by
  obtain ⟨m, rfl⟩ : ∃ k, m = k + 1 := ⟨m - 1, by omega⟩
  have hy : y ∈ x.kids := by rw [e]; simp
  rw [s_l08Proof_L2]
  have e1 : (a.length : Int) < (i, (x.kids.length : Int)).2 := by show (a.length : Int) < (x.kids.length : Int); rw [e]; exact lt_mid a y r
  rw [if_pos e1, show idx x.kids (a.length : Int) = some y by rw [e]; exact idx_mid a y r, bind_some', H y hy, bind_some']
  simp only [proks]
  cases hq : y.prok with
  | false => rfl
  | true =>
   rw [if_neg (by simp), show IntKind.i64.wrap ((a.length : Int) + 1) = ((a ++ [y]).length : Int) from w64_mid a y r (by rw [← e]; omega), Bool.true_and]
   exact specProof_loop2 rec x hl i H r (a ++ [y]) m (by simp [e]) (by simpa using hm)

theorem specProof_loop1 (rec : Pf → Option Bool) (n : Nat) (x : Pf) (hl : x.kids.length ≤ 1048576) (hf : x.forms.length ≤ 1048576) (hn : x.kids.length < n) (H : ∀ y ∈ x.kids, rec y = some y.prok) (HF : ∀ y ∈ x.forms, s_l08Form n y = some y.fmok) :
  ∀ (r a : List F) (m : Nat), x.forms = a ++ r → r.length < m → s_l08Proof_L1 rec n x (x.forms.length, x.kids.length) m a.length = some (ffmoks r && proks x.kids)
 | [], a, m, e, hm => by
  obtain ⟨m, rfl⟩ : ∃ k, m = k + 1 := ⟨m - 1, by omega⟩
  rw [s_l08Proof_L1, if_neg (by show ¬ (a.length : Int) < (x.forms.length : Int); rw [e]; exact lt_end a)]
  exact specProof_loop2 rec x hl _ H x.kids [] n rfl hn
 | y :: r, a, m, e, hm => by
  obtain ⟨m, rfl⟩ : ∃ k, m = k + 1 := ⟨m - 1, by omega⟩
  have hy : y ∈ x.forms := by rw [e]; simp
  rw [s_l08Proof_L1]
  have e1 : (a.length : Int) < ((x.forms.length : Int), (x.kids.length : Int)).1 := by show (a.length : Int) < (x.forms.length : Int); rw [e]; exact lt_mid a y r
  rw [if_pos e1, show idx x.forms (a.length : Int) = some y by rw [e]; exact idx_mid a y r, bind_some', HF y hy, bind_some']
  simp only [ffmoks]
  cases hq : y.fmok with
  | false => rfl
  | true =>
   rw [if_neg (by simp), show IntKind.i64.wrap ((a.length : Int) + 1) = ((a ++ [y]).length : Int) from w64_mid a y r (by rw [← e]; omega), Bool.true_and]
   exact specProof_loop1 rec n x hl hf hn H HF r (a ++ [y]) m (by simp [e]) (by simpa using hm)

theorem prok_eq (k n : Int) (fs : List F) (ks : List Pf) : (Pf.mk k n fs ks).prok = (decide (0 ≤ (shape k).1) && (decide ((fs.length : Int) = (shape k).1) && (decide ((ks.length : Int) = (shape k).2) && (decide (0 ≤ n) && (decide (n ≤ 100) && ((decide (k = 1) || decide (n = 0)) && (ffmoks fs && proks ks))))))) := by
 simp only [Pf.prok]

theorem shape_eq (k : Int) : s_l08Shape k = some (shape k) := by
 unfold s_l08Shape shape
 simp only [jn]
 by_cases k1 : k = 1
 ·simp [k1]
 by_cases k2 : k = 2
 ·simp [k2]
 by_cases k3 : k = 3
 ·simp [k3]
 by_cases k4 : k = 4
 ·simp [k4]
 by_cases k5 : k = 5
 ·simp [k5]
 by_cases k6 : k = 6
 ·simp [k6]
 by_cases k7 : k = 7
 ·simp [k7]
 simp [k1, k2, k3, k4, k5, k6, k7]

theorem specProof_ev (t : Pf) (hsm : t.sm) : Ev fun n => s_l08Proof n t = some t.prok := by
 induction t using Pf.ind with
 | _ k n fs ks ih =>
  obtain ⟨⟨hfl, hfs⟩, hl, hks⟩ := psm_kids hsm
  refine ((Ev.all (l := fs) fun t ht => specForm_ev t (hfs t ht)).and (Ev.all fun t ht => ih t ht (hks t ht))).up (ks.length + fs.length + 1) fun fu hn ⟨HF, H⟩ => ?_
  have hloop : s_l08Proof_L1 (s_l08Proof fu) fu (Pf.mk k n fs ks) ((fs.length : Int), (ks.length : Int)) fu 0 = some (ffmoks fs && proks ks) :=
   specProof_loop1 _ fu (Pf.mk k n fs ks) hl hfl (by show ks.length < fu; omega) H HF fs [] fu rfl (by omega)
  let X : Option Bool := s_l08Proof_L1 (s_l08Proof fu) fu (Pf.mk k n fs ks) (shape k) fu 0
  have e0 : s_l08Proof (fu + 1) (Pf.mk k n fs ks) = if (shape k).1 < 0 then some false else if ((fs.length : Int) != (shape k).1) = true then some false else if ((ks.length : Int) != (shape k).2) = true then some false else
    if n < 0 then some false else if n > 100 then some false else if (k != 1) = true then if (n != 0) = true then some false else X else X := by
   rw [s_l08Proof, show (Pf.mk k n fs ks).kind = k from rfl, shape_eq, bind_some']; rfl
  rw [e0, prok_eq]
  by_cases s0 : (shape k).1 < 0
  ·rw [if_pos s0, decide_eq_false (show ¬ 0 ≤ (shape k).1 by omega)]; rfl
  by_cases sf : (fs.length : Int) = (shape k).1
  rotate_left
  ·rw [if_neg s0, if_pos (by simpa using sf), decide_eq_false sf]; simp
  by_cases sk : (ks.length : Int) = (shape k).2
  rotate_left
  ·rw [if_neg s0, if_neg (by simpa using sf), if_pos (by simpa using sk), decide_eq_false sk]; simp
  rw [if_neg s0, if_neg (by simpa using sf), if_neg (by simpa using sk)]
  by_cases n0 : n < 0
  ·rw [if_pos n0, decide_eq_false (show ¬ 0 ≤ n by omega)]; simp
  by_cases n1 : n > 100
  ·rw [if_neg n0, if_pos n1, decide_eq_false (show ¬ n ≤ 100 by omega)]; simp
  rw [if_neg n0, if_neg n1]
  have hX : X = some (ffmoks fs && proks ks) := by
   show s_l08Proof_L1 (s_l08Proof fu) fu (Pf.mk k n fs ks) (shape k) fu 0 = _
   rw [← hloop, sf, sk]
  rw [hX]
  by_cases kn : k = 1 ∨ n = 0
  ·have hkn : (decide (k = 1) || decide (n = 0)) = true := by simpa using kn
   rw [hkn, decide_eq_true (show 0 ≤ n by omega), decide_eq_true (show n ≤ 100 by omega), decide_eq_true sf, decide_eq_true sk, decide_eq_true (show 0 ≤ (shape k).1 by omega)]
   rcases kn with rfl | rfl
   ·rw [if_neg (by simp)]; simp
   by_cases q : (k != 1) = true
   ·rw [if_pos q, if_neg (by simp)]; simp
   rw [if_neg q]; simp
  have k1 : ¬ k = 1 := fun h => kn (.inl h)
  have k2 : ¬ n = 0 := fun h => kn (.inr h)
  rw [if_pos (by simpa using k1), if_pos (by simpa using k2)]
  simp [k1, k2]

theorem specProofOK_ev (t : Pf) (hsm : t.sm) : Ev fun n => s_ProofOK n t = some (decide (t.size ≤ 150) && t.prok) := by
 refine ((cntProof_ev t hsm).and (specProof_ev t hsm)).mp fun n ⟨h1, h2⟩ => ?_
 have hc := pcnt_eq t 150 (by omega)
 rw [s_ProofOK, h1 150 (by omega) (by omega), bind_some', h2]
 by_cases hs : t.size ≤ 150
 ·rw [if_pos (by rw [hc.1 (by omega)]; omega), decide_eq_true hs]; rfl
 rw [if_neg (by have := hc.2 (by omega); omega), decide_eq_false hs]; rfl

def LookProof (t : Pf) (n : Nat) : Prop := ∀ (left : Int) (om : Bool), 0 ≤ left → left ≤ 150 → ∃ l', i_looker_proof n (left, om) t = some ((decide ((t.size : Int) ≤ left) && t.prok), (l', om)) ∧ -1 ≤ l' ∧ l' ≤ 150 ∧ ((t.size : Int) ≤ left → t.prok = true → l' = left - t.size)

theorem lookProof_loop2 (rec : (Int × Bool) → Pf → Option (Bool × (Int × Bool))) (x : Pf) (hl : x.kids.length ≤ 1048576)
  (H : ∀ y ∈ x.kids, ∀ (left : Int) (om : Bool), 0 ≤ left → left ≤ 150 → ∃ l', rec (left, om) y = some ((decide ((y.size : Int) ≤ left) && y.prok), (l', om)) ∧ -1 ≤ l' ∧ l' ≤ 150 ∧ ((y.size : Int) ≤ left → y.prok = true → l' = left - y.size)) :
  ∀ (r a : List Pf) (m : Nat) (left : Int) (om : Bool), x.kids = a ++ r → r.length < m → 0 ≤ left → left ≤ 150 →
   ∃ l', i_looker_proof_L2 rec x m a.length left om = some ((decide ((psizes r : Int) ≤ left) && proks r), (l', om)) ∧ -1 ≤ l' ∧ l' ≤ 150 ∧ ((psizes r : Int) ≤ left → proks r = true → l' = left - psizes r)
 | [], a, m, left, om, e, hm, h0, h1 => by
  obtain ⟨m, rfl⟩ : ∃ k, m = k + 1 := ⟨m - 1, by omega⟩
  refine ⟨left, ?_, by omega, h1, fun _ _ => by simp [psizes]⟩
  rw [i_looker_proof_L2, e, if_neg (lt_end a)]
  simp [psizes, proks, h0]
 | y :: r, a, m, left, om, e, hm, h0, h1 => by
  obtain ⟨m, rfl⟩ : ∃ k, m = k + 1 := ⟨m - 1, by omega⟩
  have hy : y ∈ x.kids := by rw [e]; simp
  have hp := psize_pos y
  obtain ⟨ly, ey, ly0, ly1, ly2⟩ := H y hy left om h0 h1
  have hps : psizes (y :: r) = y.size + psizes r := rfl
  have hpr : proks (y :: r) = (y.prok && proks r) := rfl
  have e1 : (a.length : Int) < (x.kids.length : Int) := by rw [e]; exact lt_mid a y r
  have e0 : i_looker_proof_L2 rec x (m + 1) a.length left om = if (!(decide ((y.size : Int) ≤ left) && y.prok)) = true then some (false, (ly, om)) else i_looker_proof_L2 rec x m (IntKind.i64.wrap ((a.length : Int) + 1)) ly om := by
   rw [i_looker_proof_L2, if_pos e1, show idx x.kids (a.length : Int) = some y by rw [e]; exact idx_mid a y r, bind_some', ey, bind_some']
  rw [e0]
  by_cases hg : ((y.size : Int) ≤ left) ∧ y.prok = true
  ·have hly := ly2 hg.1 hg.2
   rw [if_neg (by simp [hg.1, hg.2]), show IntKind.i64.wrap ((a.length : Int) + 1) = ((a ++ [y]).length : Int) from w64_mid a y r (by rw [← e]; omega)]
   obtain ⟨l', e', a1, a2, a3⟩ := lookProof_loop2 rec x hl H r (a ++ [y]) m ly om (by simp [e]) (by simpa using hm) (by omega) (by omega)
   refine ⟨l', ?_, a1, a2, fun q1 q2 => ?_⟩
   ·rw [e', hpr, hg.2, Bool.true_and, show decide ((psizes (y :: r) : Int) ≤ left) = decide ((psizes r : Int) ≤ ly) from decide_eq_decide.2 (by omega)]
   rw [hpr, hg.2, Bool.true_and] at q2
   have := a3 (by omega) q2
   omega
  have hb : (decide ((y.size : Int) ≤ left) && y.prok) = false := by
   cases hc : y.prok with
   | false => simp
   | true => rw [decide_eq_false (fun q => hg ⟨q, hc⟩)]; rfl
  have hy2 : (decide ((psizes (y :: r) : Int) ≤ left) && proks (y :: r)) = false := by
   rw [hpr]
   cases hc : y.prok with
   | false => simp
   | true => rw [decide_eq_false (fun q => hg ⟨by omega, hc⟩)]; rfl
  rw [if_pos (by rw [hb]; rfl), hy2]
  exact ⟨ly, rfl, ly0, ly1, fun q1 q2 => by rw [decide_eq_true q1, q2] at hy2; cases hy2⟩

theorem lookProof_loop1 (rec : (Int × Bool) → Pf → Option (Bool × (Int × Bool))) (n : Nat) (x : Pf) (hl : x.kids.length ≤ 1048576) (hf : x.forms.length ≤ 1048576) (hn : x.kids.length < n)
  (H : ∀ y ∈ x.kids, ∀ (left : Int) (om : Bool), 0 ≤ left → left ≤ 150 → ∃ l', rec (left, om) y = some ((decide ((y.size : Int) ≤ left) && y.prok), (l', om)) ∧ -1 ≤ l' ∧ l' ≤ 150 ∧ ((y.size : Int) ≤ left → y.prok = true → l' = left - y.size))
  (HF : ∀ y ∈ x.forms, LookForm y n) :
  ∀ (r a : List F) (m : Nat) (left : Int) (om : Bool), x.forms = a ++ r → r.length < m → 0 ≤ left → left ≤ 150 →
   ∃ l', i_looker_proof_L1 rec n x m a.length left om = some ((decide (((fsizes r + psizes x.kids : Nat) : Int) ≤ left) && (ffmoks r && proks x.kids)), (l', om)) ∧ -1 ≤ l' ∧ l' ≤ 150 ∧ (((fsizes r + psizes x.kids : Nat) : Int) ≤ left → (ffmoks r && proks x.kids) = true → l' = left - (fsizes r + psizes x.kids : Nat))
 | [], a, m, left, om, e, hm, h0, h1 => by
  obtain ⟨m, rfl⟩ : ∃ k, m = k + 1 := ⟨m - 1, by omega⟩
  rw [i_looker_proof_L1, if_neg (by rw [e]; exact lt_end a)]
  simp only [fsizes, ffmoks, Nat.zero_add, Bool.true_and]
  exact lookProof_loop2 rec x hl H x.kids [] n left om rfl hn h0 h1
 | y :: r, a, m, left, om, e, hm, h0, h1 => by
  obtain ⟨m, rfl⟩ : ∃ k, m = k + 1 := ⟨m - 1, by omega⟩
  have hy : y ∈ x.forms := by rw [e]; simp
  have hp := fsize_pos y
  obtain ⟨ly, ey, ly0, ly1, ly2⟩ := HF y hy left om h0 h1
  have hps : fsizes (y :: r) = y.size + fsizes r := rfl
  have hpr : ffmoks (y :: r) = (y.fmok && ffmoks r) := rfl
  have e1 : (a.length : Int) < (x.forms.length : Int) := by rw [e]; exact lt_mid a y r
  have e0 : i_looker_proof_L1 rec n x (m + 1) a.length left om = if (!(decide ((y.size : Int) ≤ left) && y.fmok)) = true then some (false, (ly, om)) else i_looker_proof_L1 rec n x m (IntKind.i64.wrap ((a.length : Int) + 1)) ly om := by
   rw [i_looker_proof_L1, if_pos e1, show idx x.forms (a.length : Int) = some y by rw [e]; exact idx_mid a y r, bind_some', ey, bind_some']
  rw [e0]
  by_cases hg : ((y.size : Int) ≤ left) ∧ y.fmok = true
  ·have hly := ly2 hg.1 hg.2
   rw [if_neg (by simp [hg.1, hg.2]), show IntKind.i64.wrap ((a.length : Int) + 1) = ((a ++ [y]).length : Int) from w64_mid a y r (by rw [← e]; omega)]
   obtain ⟨l', e', a1, a2, a3⟩ := lookProof_loop1 rec n x hl hf hn H HF r (a ++ [y]) m ly om (by simp [e]) (by simpa using hm) (by omega) (by omega)
   refine ⟨l', ?_, a1, a2, fun q1 q2 => ?_⟩
   ·rw [e', hpr, hg.2, Bool.true_and, show decide (((fsizes (y :: r) + psizes x.kids : Nat) : Int) ≤ left) = decide (((fsizes r + psizes x.kids : Nat) : Int) ≤ ly) from decide_eq_decide.2 (by omega)]
   rw [hpr, hg.2, Bool.true_and] at q2
   have := a3 (by omega) q2
   omega
  have hb : (decide ((y.size : Int) ≤ left) && y.fmok) = false := by
   cases hc : y.fmok with
   | false => simp
   | true => rw [decide_eq_false (fun q => hg ⟨q, hc⟩)]; rfl
  have hy2 : (decide (((fsizes (y :: r) + psizes x.kids : Nat) : Int) ≤ left) && (ffmoks (y :: r) && proks x.kids)) = false := by
   rw [hpr]
   cases hc : y.fmok with
   | false => simp
   | true => rw [decide_eq_false (fun q => hg ⟨by omega, hc⟩)]; rfl
  rw [if_pos (by rw [hb]; rfl), hy2]
  exact ⟨ly, rfl, ly0, ly1, fun q1 q2 => by rw [decide_eq_true q1, q2] at hy2; cases hy2⟩

theorem lookProof_ev (t : Pf) (hsm : t.sm) : Ev (LookProof t) := by
 induction t using Pf.ind with
 | _ k n fs ks ih =>
  obtain ⟨⟨hfl, hfs⟩, hl, hks⟩ := psm_kids hsm
  refine ((Ev.all (l := fs) fun t _ => lookForm_ev t).and (Ev.all fun t ht => ih t ht (hks t ht))).up (ks.length + fs.length + 1) fun fu hn ⟨HF, H⟩ left om h0 h1 => ?_
  have hw : IntKind.i64.wrap (left - 1) = left - 1 := w64_eq (by omega) (by omega)
  have hsz : (Pf.mk k n fs ks).size = 1 + fsizes fs + psizes ks := by simp only [Pf.size]
  let arm : Int → Int → Option (Bool × (Int × Bool)) := fun i j => if (n != 0) = true then some (false, (left - 1, om)) else if ((fs.length : Int) != i) = true then some (false, (left - 1, om)) else if ((ks.length : Int) != j) = true then some (false, (left - 1, om)) else
   i_looker_proof_L1 (i_looker_proof fu) fu (Pf.mk k n fs ks) fu 0 (left - 1) om
  have e0 : i_looker_proof (fu + 1) (left, om) (Pf.mk k n fs ks) = if (!decide (left - 1 ≥ 0)) = true then some (false, (left - 1, om)) else
    if k = 1 then (if n ≥ 0 then some (decide (n ≤ 100)) else some false).bind fun r19 => if r19 = true then if (fs.length : Int) = 0 then some (((ks.length : Int) == 0), (left - 1, om)) else some (false, (left - 1, om)) else some (false, (left - 1, om))
    else if k = 2 then arm 2 2 else if k = 3 then arm 2 1 else if k = 4 then arm 2 1 else if k = 5 then arm 2 1 else if k = 6 then arm 2 2 else if k = 7 then arm 1 1 else some (false, (left - 1, om)) := by
   have hnode : i_looker_node ((left, om).1, (left, om).2) = some (decide (left - 1 ≥ 0), (left - 1, om)) := by
    show some (decide (IntKind.i64.wrap (left - 1) ≥ 0), (IntKind.i64.wrap (left - 1), om)) = _
    rw [hw]
   rw [i_looker_proof, hnode, bind_some']; rfl
  rw [e0, prok_eq, hsz]
  by_cases hl1 : left - 1 ≥ 0
  rotate_left
  ·rw [if_pos (by simpa using hl1)]
   refine ⟨left - 1, ?_, by omega, by omega, fun q _ => by omega⟩
   rw [decide_eq_false (show ¬ ((1 + fsizes fs + psizes ks : Nat) : Int) ≤ left by omega)]; rfl
  rw [if_neg (by simpa using hl1)]
  have fnil : fs.length = 0 → fs = [] := List.length_eq_zero_iff.1
  have knil : ks.length = 0 → ks = [] := List.length_eq_zero_iff.1
  by_cases k1 : k = 1
  ·subst k1
   rw [if_pos rfl]
   have hsh : shape 1 = (0, 0) := rfl
   by_cases hn5 : 0 ≤ n ∧ n ≤ 100
   ·rw [if_pos hn5.1, bind_some', if_pos (by simpa using hn5.2)]
    by_cases hf0 : fs.length = 0
    ·have := fnil hf0; subst this
     rw [if_pos (show (([] : List F).length : Int) = 0 from rfl)]
     by_cases hk0 : ks.length = 0
     ·have := knil hk0; subst this
      refine ⟨left - 1, ?_, by omega, by omega, fun _ _ => by simp [fsizes, psizes]⟩
      simp [hn5.1, hn5.2, hsh, fsizes, psizes, ffmoks, proks, show (1 : Int) ≤ left by omega]
     have kne : ¬ ks = [] := fun h => hk0 (by rw [h]; rfl)
     refine ⟨left - 1, ?_, by omega, by omega, fun _ q => by simp [hsh, kne] at q⟩
     simp [hsh, kne]
    have fne : ¬ fs = [] := fun h => hf0 (by rw [h]; rfl)
    rw [if_neg (by omega)]
    refine ⟨left - 1, ?_, by omega, by omega, fun _ q => by simp [hsh, fne] at q⟩
    simp [hsh, fne]
   have hf : (if n ≥ 0 then some (decide (n ≤ 100)) else some false) = some false := by
    by_cases q : n ≥ 0
    ·rw [if_pos q, decide_eq_false (show ¬ n ≤ 100 by omega)]
    rw [if_neg q]
   rw [hf, bind_some', if_neg (by simp)]
   refine ⟨left - 1, ?_, by omega, by omega, fun _ q => by simp at q; omega⟩
   by_cases q : 0 ≤ n
   ·simp [show ¬ n ≤ 100 by omega]
   simp [q]
  rw [if_neg k1]
  have harm : ∀ i j : Int, shape k = (i, j) → 0 ≤ i → ∃ l', arm i j = some (decide (((1 + fsizes fs + psizes ks : Nat) : Int) ≤ left) && (decide (0 ≤ (shape k).1) && (decide ((fs.length : Int) = (shape k).1) && (decide ((ks.length : Int) = (shape k).2) && (decide (0 ≤ n) && (decide (n ≤ 100) && ((decide (k = 1) || decide (n = 0)) && (ffmoks fs && proks ks))))))), (l', om)) ∧ -1 ≤ l' ∧ l' ≤ 150 ∧
    (((1 + fsizes fs + psizes ks : Nat) : Int) ≤ left → (decide (0 ≤ (shape k).1) && (decide ((fs.length : Int) = (shape k).1) && (decide ((ks.length : Int) = (shape k).2) && (decide (0 ≤ n) && (decide (n ≤ 100) && ((decide (k = 1) || decide (n = 0)) && (ffmoks fs && proks ks))))))) = true → l' = left - (1 + fsizes fs + psizes ks : Nat)) := by
   intro i j hs hi
   show ∃ l', (if (n != 0) = true then some (false, (left - 1, om)) else if ((fs.length : Int) != i) = true then some (false, (left - 1, om)) else if ((ks.length : Int) != j) = true then some (false, (left - 1, om)) else
    i_looker_proof_L1 (i_looker_proof fu) fu (Pf.mk k n fs ks) fu 0 (left - 1) om) = _ ∧ _
   rw [hs]
   by_cases hn0 : n = 0
   ·by_cases hfi : (fs.length : Int) = i
    ·by_cases hkj : (ks.length : Int) = j
     ·rw [if_neg (by simpa using hn0), if_neg (by simpa using hfi), if_neg (by simpa using hkj)]
      obtain ⟨l', e', a1, a2, a3⟩ := lookProof_loop1 (i_looker_proof fu) fu (Pf.mk k n fs ks) hl hfl (by show ks.length < fu; omega) H HF fs [] fu (left - 1) om rfl (by omega) (by omega) (by omega)
      have e' : i_looker_proof_L1 (i_looker_proof fu) fu (Pf.mk k n fs ks) fu 0 (left - 1) om = some (decide (((fsizes fs + psizes ks : Nat) : Int) ≤ left - 1) && (ffmoks fs && proks ks), (l', om)) := e'
      have hall : (decide (0 ≤ ((i, j) : Int × Int).1) && (decide ((fs.length : Int) = ((i, j) : Int × Int).1) && (decide ((ks.length : Int) = ((i, j) : Int × Int).2) && (decide (0 ≤ n) && (decide (n ≤ 100) && ((decide (k = 1) || decide (n = 0)) && (ffmoks fs && proks ks))))))) = (ffmoks fs && proks ks) := by
       simp [hi, hfi, hkj, hn0]
      rw [hall, e']
      refine ⟨l', ?_, a1, a2, fun q1 q2 => ?_⟩
      ·rw [show decide (((fsizes fs + psizes ks : Nat) : Int) ≤ left - 1) = decide (((1 + fsizes fs + psizes ks : Nat) : Int) ≤ left) from decide_eq_decide.2 (by omega)]
      have := a3 (by show ((fsizes fs + psizes ks : Nat) : Int) ≤ left - 1; omega) q2
      have : l' = left - 1 - (fsizes fs + psizes ks : Nat) := this
      omega
     refine ⟨left - 1, ?_, by omega, by omega, fun _ q => by simp [hkj] at q⟩
     simp [hn0, hfi, hkj]
    refine ⟨left - 1, ?_, by omega, by omega, fun _ q => by simp [hfi] at q⟩
    simp [hn0, hfi]
   refine ⟨left - 1, ?_, by omega, by omega, fun _ q => by simp [hn0, k1] at q⟩
   simp [hn0, k1]
  by_cases k2 : k = 2
  ·rw [if_pos k2]; exact harm 2 2 (by rw [k2]; rfl) (by omega)
  by_cases k3 : k = 3
  ·rw [if_neg k2, if_pos k3]; exact harm 2 1 (by rw [k3]; rfl) (by omega)
  by_cases k4 : k = 4
  ·rw [if_neg k2, if_neg k3, if_pos k4]; exact harm 2 1 (by rw [k4]; rfl) (by omega)
  by_cases k5 : k = 5
  ·rw [if_neg k2, if_neg k3, if_neg k4, if_pos k5]; exact harm 2 1 (by rw [k5]; rfl) (by omega)
  by_cases k6 : k = 6
  ·rw [if_neg k2, if_neg k3, if_neg k4, if_neg k5, if_pos k6]; exact harm 2 2 (by rw [k6]; rfl) (by omega)
  by_cases k7 : k = 7
  ·rw [if_neg k2, if_neg k3, if_neg k4, if_neg k5, if_neg k6, if_pos k7]; exact harm 1 1 (by rw [k7]; rfl) (by omega)
  rw [if_neg k2, if_neg k3, if_neg k4, if_neg k5, if_neg k6, if_neg k7]
  have hsh : shape k = (-1, -1) := by simp [shape, k1, k2, k3, k4, k5, k6, k7]
  rw [hsh]
  refine ⟨left - 1, ?_, by omega, by omega, fun _ q => by simp at q⟩
  simp

theorem implProofOK_ev (t : Pf) (hsm : t.sm) : Ev fun n => i_ProofOK n t = some (decide (t.size ≤ 150) && t.prok) := by
 refine (lookProof_ev t hsm).mp fun n h => ?_
 obtain ⟨l', e, _⟩ := h 150 false (by omega) (by omega)
 rw [i_ProofOK, e, bind_some', show decide (t.size ≤ 150) = decide ((t.size : Int) ≤ 150) from decide_eq_decide.2 (by omega)]

end Go.Am.Ytpkeophkdemcpaa
