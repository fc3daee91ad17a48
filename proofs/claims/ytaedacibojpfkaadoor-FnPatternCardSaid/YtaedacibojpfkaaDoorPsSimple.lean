/- Plain laws: simple types. -/
import Derived.Test.YtaedacibojpfkaaDoorPtA
import Derived.Test.YtaedacibojpfkaaDoorDkSimple
namespace Go.Am
open Go
mutual
def T.simok : T → Bool
  | .mk k n s ks => if k = 9 then decide (n = 0) && (YtaedacibojpfkaaDoor.nm s && decide (ks.length = 0)) else if k = 10 then decide (n = 0) && (eb s && (decide (ks.length = 2) && simoks ks)) else false
def simoks : List T → Bool
  | [] => true
  | t :: r => t.simok && simoks r
end
end Go.Am
namespace Go.Am.YtaedacibojpfkaaDoor
open Go Go.Am

theorem bare_eq_s (k n : Int) (s : ByteArray) (ks : List T) (i : Int) : i_Tree_bare__c (T.mk k n s ks) i = some (decide (n = 0) && (eb s && ((ks.length : Int) == i))) := by
  have e0 : i_Tree_bare__c (T.mk k n s ks) i = if n = 0 then (if eb s = true then some ((ks.length : Int) == i) else some false) else some false := by unfold i_Tree_bare__c; rfl
  rw [e0]
  by_cases h : n = 0
  · rw [if_pos h, decide_eq_true h]
    cases eb s <;> rfl
  · rw [if_neg h, decide_eq_false h]; rfl
theorem specSimple_ev (t : T) : t.sm → Ev fun n => s_l01Simple n t = some t.simok := by
  induction t using T.ind with
  | _ k n s ks ih =>
    intro hsm
    obtain ⟨_, hl, hks⟩ := sm_kids hsm
    refine ((Ev.all fun t ht => ih t ht (hks t ht)).and (specN_ev s)).up 0 fun fu _ H => ?_
    obtain ⟨H, hN⟩ := H
    have e0 : s_l01Simple (fu + 1) (T.mk k n s ks) = if k = 10 then (if n = 0 then (if eb s = true then (if (ks.length : Int) = 2 then (idx ks 0).bind fun y6 => (s_l01Simple fu y6).bind fun r11 => if r11 = true then (idx ks 1).bind fun y19 => (s_l01Simple fu y19).bind fun r24 => some r24 else some false else some false) else some false) else some false)
        else if k = 9 then (if n = 0 then (s_NameOK fu s).bind fun r33 => if r33 = true then some ((ks.length : Int) == 0) else some false else some false) else some false := by rw [s_l01Simple]; rfl
    rw [e0]
    simp only [T.simok]
    by_cases k10 : k = 10
    · rw [if_pos k10, if_neg (show ¬ k = 9 by omega), if_pos k10]
      by_cases n0 : n = 0
      · rw [if_pos n0, decide_eq_true n0, Bool.true_and]
        cases he : eb s with
        | false => rfl
        | true =>
          rw [if_pos rfl, Bool.true_and]
          by_cases h2 : ks.length = 2
          · match ks, h2, H with
            | [a, b], _, H =>
              rw [if_pos (show (([a, b] : List T).length : Int) = 2 from rfl), show idx [a, b] 0 = some a from rfl, show idx [a, b] 1 = some b from rfl, bind_some', bind_some', H a (by simp), H b (by simp), bind_some', bind_some']
              simp only [simoks]
              cases a.simok <;> cases b.simok <;> rfl
          · rw [if_neg (show ¬ (ks.length : Int) = 2 by omega), decide_eq_false h2]; rfl
      · rw [if_neg n0, decide_eq_false n0]; rfl
    · rw [if_neg k10]
      by_cases k9 : k = 9
      · rw [if_pos k9, if_pos k9]
        by_cases n0 : n = 0
        · rw [if_pos n0, decide_eq_true n0, hN, bind_some', Bool.true_and]
          have hd : ((ks.length : Int) == 0) = decide (ks.length = 0) := by
            by_cases q : ks.length = 0
            · rw [q]; rfl
            · rw [decide_eq_false q]; exact beq_eq_false_iff_ne.2 (by omega)
          rw [hd]
          cases nm s <;> rfl
        · rw [if_neg n0, decide_eq_false n0]; rfl
      · rw [if_neg k9, if_neg k9, if_neg k10]

theorem implSimple_ev (t : T) : t.sm → Ev fun n => LK (fun z => i_looker_simple n z t) t.size t.simok := by
  induction t using T.ind with
  | _ k n s ks ih =>
    intro hsm
    obtain ⟨hs, hl, hks⟩ := sm_kids hsm
    refine (Ev.all fun t ht => ih t ht (hks t ht)).up 0 fun fu _ H => ?_
    have hsz : (T.mk k n s ks).size = 1 + sizes ks := by simp only [T.size]
    rw [hsz]
    refine nodeLK (g := fun z => if k = 9 then (if n = 0 then (i_NameOK s).bind fun r19 => if r19 = true then some (((ks.length : Int) == 0), (z.1, z.2)) else some (false, (z.1, z.2)) else some (false, (z.1, z.2)))
      else if k = 10 then (i_Tree_bare__c (T.mk k n s ks) 2).bind fun r28 => if r28 = true then (idx ks 0).bind fun y36 => (i_looker_simple fu (z.1, z.2) y36).bind fun r41 => if r41.1 = true then (idx ks 1).bind fun y53 => (i_looker_simple fu (r41.2.1, r41.2.2) y53).bind fun r58 => some (r58.1, (r58.2.1, r58.2.2)) else some (false, (r41.2.1, r41.2.2)) else some (false, (z.1, z.2))
      else some (false, (z.1, z.2))) ?_ (fun z => by rw [i_looker_simple]; rfl)
    simp only [T.simok]
    by_cases k9 : k = 9
    · rw [if_pos k9]
      refine LK.congr (g := fun z => if n = 0 then (i_NameOK s).bind fun r19 => if r19 = true then some (((ks.length : Int) == 0), (z.1, z.2)) else some (false, (z.1, z.2)) else some (false, (z.1, z.2))) (fun z => if_pos k9) rfl rfl ?_
      by_cases n0 : n = 0
      · refine LK.congr (g := fun z => if nm s = true then some (((ks.length : Int) == 0), (z.1, z.2)) else some (false, (z.1, z.2))) (fun z => by rw [if_pos n0, implN_eq s hs, bind_some']) rfl (by rw [decide_eq_true n0, Bool.true_and]) ?_
        cases nm s with
        | false => exact LK.no (fun _ _ => rfl) rfl
        | true =>
          by_cases q : ks.length = 0
          · obtain rfl := List.length_eq_zero_iff.1 q
            exact LK.yes (fun _ _ => rfl) rfl rfl
          · exact LK.no (fun l b => by show some (((ks.length : Int) == 0), (l, b)) = _; rw [show ((ks.length : Int) == 0) = false from beq_eq_false_iff_ne.2 (by omega)]) (by rw [decide_eq_false q]; rfl)
      · exact LK.no (fun _ _ => if_neg n0) (by rw [decide_eq_false n0]; rfl)
    · rw [if_neg k9]
      by_cases k10 : k = 10
      · rw [if_pos k10]
        refine LK.congr (g := fun z => if (decide (n = 0) && (eb s && ((ks.length : Int) == 2))) = true then (idx ks 0).bind fun y36 => (i_looker_simple fu (z.1, z.2) y36).bind fun r41 => if r41.1 = true then (idx ks 1).bind fun y53 => (i_looker_simple fu (r41.2.1, r41.2.2) y53).bind fun r58 => some (r58.1, (r58.2.1, r58.2.2)) else some (false, (r41.2.1, r41.2.2)) else some (false, (z.1, z.2)))
          (fun z => by rw [if_neg k9, if_pos k10, bare_eq_s, bind_some']) rfl rfl ?_
        have hd : ((ks.length : Int) == 2) = decide (ks.length = 2) := by
          by_cases q : ks.length = 2
          · rw [q]; rfl
          · rw [decide_eq_false q]; exact beq_eq_false_iff_ne.2 (by omega)
        rw [hd]
        cases hq : (decide (n = 0) && (eb s && decide (ks.length = 2))) with
        | false =>
          refine LK.no (fun _ _ => rfl) ?_
          rw [← Bool.and_assoc, ← Bool.and_assoc, Bool.and_assoc (decide (n = 0)), hq]; rfl
        | true =>
          have hp : n = 0 ∧ eb s = true ∧ ks.length = 2 := by simpa using hq
          have ho : (decide (n = 0) && (eb s && (decide (ks.length = 2) && simoks ks))) = simoks ks := by rw [← Bool.and_assoc, ← Bool.and_assoc, Bool.and_assoc (decide (n = 0)), hq, Bool.true_and]
          rw [ho]
          match ks, hp.2.2, H with
          | [a, b], _, H =>
            refine LK.congr (f := _) (g := fun z => (i_looker_simple fu (z.1, z.2) a).bind fun r41 => if r41.1 = true then (i_looker_simple fu (r41.2.1, r41.2.2) b).bind fun r58 => some (r58.1, (r58.2.1, r58.2.2)) else some (false, (r41.2.1, r41.2.2)))
              (s' := a.size + b.size) (o' := a.simok && b.simok) (fun z => rfl) (by simp [sizes]) (by simp [simoks]) ?_
            refine LK.both (H a (by simp)) (H b (by simp)) (fun l bb l' b' e => ?_) (fun l bb l' b' e => ?_)
            · show (i_looker_simple fu (l, bb) a).bind _ = _
              rw [e]; rfl
            · show (i_looker_simple fu (l, bb) a).bind _ = _
              rw [e]
              show (i_looker_simple fu (l', b') b).bind _ = _
              cases i_looker_simple fu (l', b') b <;> rfl
      · refine LK.no (fun _ _ => ?_) (if_neg k10)
        show (if k = 9 then _ else if k = 10 then _ else _) = _
        rw [if_neg k9, if_neg k10]

end Go.Am.YtaedacibojpfkaaDoor
