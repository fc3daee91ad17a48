/- Plain laws: families and kinds. -/
import Derived.Test.YtoajlhhalpldfaaGreatDoorPsTerm
import Derived.Test.YtoajlhhalpldfaaGreatDoorDkFam
namespace Go.Am
open Go
mutual
def T.faok : T → Bool → Bool
 | .mk k n s ks, b => if k = 1 then b && (decide (n = 0) && (eb s && decide (ks.length = 0))) else if k = 3 then !b && (decide (n = 0) && (YtoajlhhalpldfaaGreatDoor.nm s && tmoks ks)) else if k = 2 then decide (n = 0) && (eb s && (decide (ks.length = 2) && faoks ks b)) else false
def faoks : List T → Bool → Bool
 | [], _ => true
 | t :: r, b => t.faok (match r with | [] => b | _ :: _ => false) && faoks r b
end
end Go.Am
namespace Go.Am.YtoajlhhalpldfaaGreatDoor
open Go Go.Am

theorem specFam_ev (t : T) : t.sm → Ev fun n => s_l01Family n t = some (t.faok false) := by
 induction t using T.ind with
 | _ k n s ks ih =>
  intro hsm
  obtain ⟨_, hl, hks⟩ := sm_kids hsm
  refine ((Ev.all fun t ht => ih t ht (hks t ht)).and ((specN_ev s).and (sterms_ev ks hl fun t ht => specTerm_ev t (hks t ht)))).up 0 fun fu _ H => ?_
  obtain ⟨H, hN, hT⟩ := H
  have e0 : s_l01Family (fu + 1) (T.mk k n s ks) = if k = 2 then (if n = 0 then (if eb s = true then (if (ks.length : Int) = 2 then (idx ks 0).bind fun y6 => (s_l01Family fu y6).bind fun r11 => if r11 = true then (idx ks 1).bind fun y19 => (s_l01Family fu y19).bind fun r24 => some r24 else some false else some false) else some false) else some false)
    else if k = 3 then (if n = 0 then (s_NameOK fu s).bind fun r33 => if r33 = true then (s_l01Terms fu ks false).bind fun r41 => some r41 else some false else some false) else some false := by rw [s_l01Family]; rfl
  rw [e0, hN, hT]
  simp only [T.faok, bind_some']
  by_cases k2 : k = 2
  ·rw [if_pos k2, if_neg (show ¬ k = 1 by omega), if_neg (show ¬ k = 3 by omega), if_pos k2]
   by_cases n0 : n = 0
   ·rw [if_pos n0, decide_eq_true n0, Bool.true_and]
    cases eb s with
    | false => rfl
    | true =>
     rw [if_pos rfl, Bool.true_and]
     by_cases h2 : ks.length = 2
     ·match ks, h2, H with
      | [a, b], _, H =>
       rw [if_pos (show (([a, b] : List T).length : Int) = 2 from rfl), show idx [a, b] 0 = some a from rfl, show idx [a, b] 1 = some b from rfl, bind_some', bind_some', H a (by simp), H b (by simp), bind_some', bind_some']
       simp only [faoks]
       cases a.faok false <;> cases b.faok false <;> rfl
     rw [if_neg (show ¬ (ks.length : Int) = 2 by omega), decide_eq_false h2]; rfl
   rw [if_neg n0, decide_eq_false n0]; rfl
  rw [if_neg k2]
  by_cases k3 : k = 3
  ·rw [if_pos k3, if_neg (show ¬ k = 1 by omega), if_pos k3]
   by_cases n0 : n = 0
   ·rw [if_pos n0, decide_eq_true n0]
    cases nm s <;> rfl
   rw [if_neg n0, decide_eq_false n0]; rfl
  rw [if_neg k3]
  by_cases k1 : k = 1
  ·rw [if_pos k1]; rfl
  rw [if_neg k1, if_neg k3, if_neg k2]

theorem specKind_ev (t : T) : t.sm → Ev fun n => s_l01Kind n t = some (t.faok true) := by
 induction t using T.ind with
 | _ k n s ks ih =>
  intro hsm
  obtain ⟨_, hl, hks⟩ := sm_kids hsm
  refine ((Ev.all fun t ht => ih t ht (hks t ht)).and (Ev.all fun t ht => specFam_ev t (hks t ht))).up 0 fun fu _ H => ?_
  obtain ⟨H, HF⟩ := H
  have e0 : s_l01Kind (fu + 1) (T.mk k n s ks) = if k = 2 then (if n = 0 then (if eb s = true then (if (ks.length : Int) = 2 then (idx ks 0).bind fun y6 => (s_l01Family fu y6).bind fun r11 => if r11 = true then (idx ks 1).bind fun y19 => (s_l01Kind fu y19).bind fun r24 => some r24 else some false else some false) else some false) else some false)
    else if k = 1 then (if n = 0 then (if eb s = true then some ((ks.length : Int) == 0) else some false) else some false) else some false := by rw [s_l01Kind]; rfl
  rw [e0]
  simp only [T.faok]
  by_cases k2 : k = 2
  ·rw [if_pos k2, if_neg (show ¬ k = 1 by omega), if_neg (show ¬ k = 3 by omega), if_pos k2]
   by_cases n0 : n = 0
   ·rw [if_pos n0, decide_eq_true n0, Bool.true_and]
    cases eb s with
    | false => rfl
    | true =>
     rw [if_pos rfl, Bool.true_and]
     by_cases h2 : ks.length = 2
     ·match ks, h2, H, HF with
      | [a, b], _, H, HF =>
       rw [if_pos (show (([a, b] : List T).length : Int) = 2 from rfl), show idx [a, b] 0 = some a from rfl, show idx [a, b] 1 = some b from rfl, bind_some', bind_some', HF a (by simp), H b (by simp), bind_some', bind_some']
       simp only [faoks]
       cases a.faok false <;> cases b.faok true <;> rfl
     rw [if_neg (show ¬ (ks.length : Int) = 2 by omega), decide_eq_false h2]; rfl
   rw [if_neg n0, decide_eq_false n0]; rfl
  rw [if_neg k2]
  by_cases k1 : k = 1
  ·rw [if_pos k1, if_pos k1, Bool.true_and]
   by_cases n0 : n = 0
   ·rw [if_pos n0, decide_eq_true n0, Bool.true_and, show ((ks.length : Int) == 0) = decide (ks.length = 0) from len_beq ks 0]
    cases eb s <;> rfl
   rw [if_neg n0, decide_eq_false n0]; rfl
  rw [if_neg k1, if_neg k1]
  by_cases k3 : k = 3
  ·rw [if_pos k3]; rfl
  rw [if_neg k3, if_neg k2]

theorem implFam_ev (t : T) : t.sm → Ev fun n => ∀ b, LK (fun z => i_looker_family n z t b) t.size (t.faok b) := by
 induction t using T.ind with
 | _ k n s ks ih =>
  intro hsm
  obtain ⟨hs, hl, hks⟩ := sm_kids hsm
  refine ((Ev.all fun t ht => ih t ht (hks t ht)).and (args_ev ks hl fun t ht => implTerm_ev t (hks t ht))).up 0 fun fu _ H b => ?_
  obtain ⟨H, HA⟩ := H
  have hsz : (T.mk k n s ks).size = 1 + sizes ks := by simp only [T.size]
  rw [hsz]
  refine nodeLK (g := fun z => if k = 1 then (if b = true then (i_Tree_bare__c (T.mk k n s ks) 0).bind fun r20 => some (r20, (z.1, z.2)) else some (false, (z.1, z.2)))
   else if k = 3 then (if (!b) = true then (if n = 0 then (i_NameOK s).bind fun r30 => if r30 = true then (i_looker_args fu (z.1, z.2) ks).bind fun r38 => some (r38.1, (r38.2.1, r38.2.2)) else some (false, (z.1, z.2)) else some (false, (z.1, z.2))) else some (false, (z.1, z.2)))
   else if k = 2 then (i_Tree_bare__c (T.mk k n s ks) 2).bind fun r50 => if r50 = true then (idx ks 0).bind fun y58 => (i_looker_family fu (z.1, z.2) y58 false).bind fun r63 => if r63.1 = true then (idx ks 1).bind fun y75 => (i_looker_family fu (r63.2.1, r63.2.2) y75 b).bind fun r80 => some (r80.1, (r80.2.1, r80.2.2)) else some (false, (r63.2.1, r63.2.2)) else some (false, (z.1, z.2))
   else some (false, (z.1, z.2))) ?_ (fun z => by rw [i_looker_family]; rfl)
  simp only [T.faok]
  by_cases k1 : k = 1
  ·rw [if_pos k1]
   refine LK.congrF (g := fun z => if b = true then some ((decide (n = 0) && (eb s && decide (ks.length = 0))), (z.1, z.2)) else some (false, (z.1, z.2))) (fun l => ?_) ?_
   ·show (if k = 1 then _ else _) = _
    rw [if_pos k1, bare_eq, bind_some', show ((ks.length : Int) == 0) = decide (ks.length = 0) from len_beq ks 0]
   cases b with
   | false => exact LK.noF (fun _ => rfl) rfl
   | true =>
    rw [Bool.true_and]
    cases hq : (decide (n = 0) && (eb s && decide (ks.length = 0))) with
    | false => exact LK.noF (fun _ => rfl) rfl
    | true =>
     have hp : n = 0 ∧ eb s = true ∧ ks = [] := by simpa using hq
     obtain ⟨_, _, rfl⟩ := hp
     exact LK.yes (fun _ _ => rfl) rfl rfl
  rw [if_neg k1]
  by_cases k3 : k = 3
  ·rw [if_pos k3]
   refine LK.congrF (g := fun z => if (!b) = true then (if n = 0 then (if nm s = true then i_looker_args fu (z.1, z.2) ks else some (false, (z.1, z.2))) else some (false, (z.1, z.2))) else some (false, (z.1, z.2))) (fun l => ?_) ?_
   ·show (if k = 1 then _ else if k = 3 then _ else _) = _
    rw [if_neg k1, if_pos k3]
    simp only [implN_eq s hs, bind_some', ret_eta]
   cases b with
   | true => exact LK.noF (fun _ => rfl) rfl
   | false =>
    rw [Bool.not_false, Bool.true_and]
    by_cases n0 : n = 0
    ·rw [decide_eq_true n0, Bool.true_and]
     refine LK.congrF (g := fun z => if nm s = true then i_looker_args fu (z.1, z.2) ks else some (false, (z.1, z.2))) (fun l => (if_pos rfl).trans (if_pos n0)) ?_
     cases nm s with
     | false => exact LK.noF (fun _ => rfl) rfl
     | true => exact LK.congrF (fun l => rfl) HA
    exact LK.noF (fun l => (if_pos rfl).trans (if_neg n0)) (by rw [decide_eq_false n0]; rfl)
  rw [if_neg k3]
  by_cases k2 : k = 2
  ·rw [if_pos k2]
   refine LK.congrF (g := fun z => if (decide (n = 0) && (eb s && decide (ks.length = 2))) = true then (idx ks 0).bind fun y58 => (i_looker_family fu (z.1, z.2) y58 false).bind fun r63 => if r63.1 = true then (idx ks 1).bind fun y75 => i_looker_family fu (r63.2.1, r63.2.2) y75 b else some (false, (r63.2.1, r63.2.2)) else some (false, (z.1, z.2))) (fun l => ?_) ?_
   ·show (if k = 1 then _ else if k = 3 then _ else if k = 2 then _ else _) = _
    rw [if_neg k1, if_neg k3, if_pos k2, bare_eq, bind_some', show ((ks.length : Int) == 2) = decide (ks.length = 2) from len_beq ks 2]
    simp only [ret_eta]
   cases hq : (decide (n = 0) && (eb s && decide (ks.length = 2))) with
   | false =>
    refine LK.noF (fun _ => rfl) ?_
    rw [← Bool.and_assoc, ← Bool.and_assoc, Bool.and_assoc (decide (n = 0)), hq]; rfl
   | true =>
    have hp : n = 0 ∧ eb s = true ∧ ks.length = 2 := by simpa using hq
    have ho : (decide (n = 0) && (eb s && (decide (ks.length = 2) && faoks ks b))) = faoks ks b := by rw [← Bool.and_assoc, ← Bool.and_assoc, Bool.and_assoc (decide (n = 0)), hq, Bool.true_and]
    rw [ho]
    match ks, hp.2.2, H with
    | [x, y], _, H =>
     have e1 : sizes [x, y] = x.size + y.size := by simp [sizes]
     have e2 : faoks [x, y] b = (x.faok false && y.faok b) := by simp [faoks]
     rw [e1, e2]
     refine LK.bothF (H x (by simp) false) (H y (by simp) b) (fun l l' q => ?_) (fun l l' q => ?_)
     ·show (i_looker_family fu (l, false) x false).bind _ = _
      rw [show i_looker_family fu (l, false) x false = _ from q]; rfl
     show (i_looker_family fu (l, false) x false).bind _ = _
     rw [show i_looker_family fu (l, false) x false = _ from q]; rfl
  rw [if_neg k2]
  refine LK.noF (fun l => ?_) rfl
  show (if k = 1 then _ else if k = 3 then _ else if k = 2 then _ else _) = _
  rw [if_neg k1, if_neg k3, if_neg k2]

theorem implFamA_ev (t : T) (hsm : t.sm) : Ev fun n => LK (fun z => i_looker_family n z t false) t.size (t.faok false) := (implFam_ev t hsm).mp fun _ h => h false
theorem implKindA_ev (t : T) (hsm : t.sm) : Ev fun n => LK (fun z => i_looker_family n z t true) t.size (t.faok true) := (implFam_ev t hsm).mp fun _ h => h true

end Go.Am.YtoajlhhalpldfaaGreatDoor
