/- Plain laws: the law of FamilyText. -/
import Derived.Test.YtoajlhhalpldfaaGreatDoorPtFamText
import Derived.Test.YtoajlhhalpldfaaGreatDoorEsOKF
import Derived.Test.YtoajlhhalpldfaaGreatDoorTzL
namespace Go.Am.YtoajlhhalpldfaaGreatDoor
open Go Go.Am

theorem lawFamilyText_ev (t : T) (d : Int) (hok : t.ok) : Ev fun n => w_FnExactFamilyText n t d = some true := by
 by_cases hb : t.sz 1048576 < 0
 ·refine (szTree_ev t hok).mp fun n h => ?_
  unfold w_FnExactFamilyText
  rw [h 1048576 (by omega) (by omega), bind_some', if_pos hb]
 have hsm := sz_sm t 1048576 (by omega) (by omega) (by omega)
 have hboth : ∃ w : ByteArray × Int, Ev fun n => s_FamilyText n t d = some w ∧ i_FamilyText n t d = some w := by
  have hfs := (specFamilyOK_ev t hsm).and ((implFamilyOK_ev t hsm).and ((specKindOK_ev t hsm).and (implKindOK_ev t hsm)))
  cases hr : (decide (t.size ≤ 150) && t.faok false) || (decide (t.size ≤ 150) && t.faok true) with
  | false =>
   rw [Bool.or_eq_false_iff] at hr
   refine ⟨(⟨#[]⟩, 1), hfs.mp fun n ⟨h1, h2, h3, h4⟩ => ⟨?_, ?_⟩⟩
   ·unfold s_FamilyText
    rw [jn_eq, h1, hr.1, bind_some', if_pos (by rfl), h3, hr.2]; rfl
   unfold i_FamilyText i_told__fn_i_FamilyText_c1kk
   rw [h2, hr.1, bind_some', if_neg (by decide), h4, hr.2, bind_some', if_pos (by rfl)]; rfl
  | true =>
   have hp : t.size ≤ 150 ∧ ∃ b, t.faok b = true := by
    rw [Bool.or_eq_true, Bool.and_eq_true, Bool.and_eq_true, decide_eq_true_eq] at hr
    rcases hr with q | q
    ·exact ⟨q.1, false, q.2⟩
    exact ⟨q.1, true, q.2⟩
   have hsel : ∀ (w : ByteArray × Int), (Ev fun n => (if d < 0 then some ((⟨#[]⟩ : ByteArray), (16 : Int)) else if d > 100 then some (⟨#[]⟩, 16) else (s_l02Closed n t d).bind fun r22 => if (!r22) = true then some (⟨#[]⟩, 7) else (s_l02Family n t d).bind fun r30 => some (r30, 0)) = some w
     ∧ i_told__fn_i_FamilyText_c1kk n true d t d = some w) → Ev fun n => s_FamilyText n t d = some w ∧ i_FamilyText n t d = some w := by
    intro w hw
    refine (hw.and hfs).mp fun n ⟨⟨e1, e2⟩, h1, h2, h3, h4⟩ => ⟨?_, ?_⟩
    ·unfold s_FamilyText
     rw [jn_eq, h1, bind_some', e1]
     cases hf : (decide (t.size ≤ 150) && t.faok false) with
     | true => rfl
     | false =>
      rw [if_pos (by rfl), h3, bind_some']
      rw [hf, Bool.false_or] at hr
      rw [hr]; rfl
    unfold i_FamilyText
    rw [h2, bind_some', h4, bind_some']
    cases hf : (decide (t.size ≤ 150) && t.faok false) with
    | true => rw [if_pos rfl, e2]; rfl
    | false =>
     rw [hf, Bool.false_or] at hr
     rw [if_neg (by decide), hr, e2]; rfl
   have hin : ∀ (n : Nat), i_told__fn_i_FamilyText_c1kk n true d t d = if (!(decide (0 ≤ d) && decide (d ≤ 100))) = true then some (⟨#[]⟩, 16) else (i_told_c1__of_i_FamilyText_c1_kv n t d (⟨#[]⟩)).bind fun z14 =>
     z14.cs (fun r17 => if (0 != 0) = true then some (⟨#[]⟩, 0) else some (r17, 0)) (fun c22 p23 => if (c22 != 0) = true then some (⟨#[]⟩, c22) else none) := fun n => by
    unfold i_told__fn_i_FamilyText_c1kk
    rw [if_neg (by decide), in_eq, bind_some']
   by_cases hd : d < 0 ∨ d > 100
   ·refine ⟨(⟨#[]⟩, 16), hsel _ (.of fun n => ⟨?_, ?_⟩)⟩
    ·rcases hd with q | q
     ·rw [if_pos q]
     rw [if_neg (by omega), if_pos q]
    rw [hin, if_pos]
    rcases hd with q | q
    ·rw [decide_eq_false (by omega)]; rfl
    rw [decide_eq_false (show ¬ d ≤ 100 by omega), Bool.and_false]; rfl
   have h100 : t.n100 = true := hp.2.elim fun b hb => faok_n100 t b hb
   obtain ⟨x, _, hS, hI⟩ := fam_ev t.size t (Nat.le_refl _) hsm h100 hp.2 d (by omega) (by omega)
   have hc := clo_ev t hsm d (by omega) (by omega)
   have hdd : (!(decide (0 ≤ d) && decide (d ≤ 100))) = false := by rw [decide_eq_true (by omega), decide_eq_true (by omega)]; rfl
   cases hcl : t.clo d with
   | false =>
    rw [hcl] at hI hc
    refine ⟨(⟨#[]⟩, 7), hsel _ ((hc.and hI).mp fun n ⟨e1, e2⟩ => ⟨?_, ?_⟩)⟩
    ·rw [if_neg (by omega), if_neg (by omega), e1]; rfl
    rw [hin, hdd, if_neg (by decide)]
    unfold i_told_c1__of_i_FamilyText_c1_kv i_FamilyText_c1__kk
    rw [e2]; rfl
   | true =>
    rw [hcl] at hI hc
    refine ⟨(x, 0), hsel _ ((hc.and (hI.and (hS hcl))).mp fun n ⟨e1, e2, e3⟩ => ⟨?_, ?_⟩)⟩
    ·rw [if_neg (by omega), if_neg (by omega), e1, e3]; rfl
    rw [hin, hdd, if_neg (by decide)]
    unfold i_told_c1__of_i_FamilyText_c1_kv i_FamilyText_c1__kk
    rw [e2]; rfl
 obtain ⟨w, hw⟩ := hboth
 refine ((szTree_ev t hok).and ((toTree_ev t hsm).and (hw.and (eqTs_ev t hsm)))).mp fun n h => ?_
 obtain ⟨h1, h2, ⟨h3, h4⟩, h5⟩ := h
 unfold w_FnExactFamilyText
 rw [h1 1048576 (by omega) (by omega), bind_some', if_neg hb]
 simp only [h2, h3, h4, h5, bind_some', beq_self_eq_true, bne_self_eq_false, Bool.not_true, Bool.false_eq_true, if_false]

theorem lawFamilyText_ok (t : LT) (hok : t.er.ok) (_ : old t.toks) (d : Int) (_ : -9223372036854775808 ≤ d ∧ d ≤ 9223372036854775807) : ∀ tk, 2 ≤ tk → ACalls Go.Proofs.Tryz.prog 4 [.agg t.cells, .int .i64 d] (fun _ => none) tk (RetX (fun _ => none) tk (fun v _ => v = .bool true)) := by
 intro tk _
 obtain ⟨n, hn⟩ := (lawFamilyText_ev t.er d hok).get
 obtain ⟨k, m, s, q, f, ks⟩ := t
 exact w_FnExactFamilyText_ok n k m s q f ks d hn _ tk

end Go.Am.YtoajlhhalpldfaaGreatDoor
