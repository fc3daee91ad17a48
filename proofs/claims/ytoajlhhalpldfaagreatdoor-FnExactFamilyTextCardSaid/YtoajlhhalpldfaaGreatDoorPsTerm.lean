/- Plain laws: terms. -/
import Derived.Test.YtoajlhhalpldfaaGreatDoorPtA
import Derived.Test.YtoajlhhalpldfaaGreatDoorDkTerm
namespace Go.Am
open Go
mutual
def T.tmok : T → Bool
 | .mk k n s ks => if k = 4 then decide (n = 0) && (eb s && (decide (ks.length = 1) && tmoks ks)) else if k = 5 ∨ k = 7 then decide (0 ≤ n) && (decide (n ≤ 100) && (eb s && tmoks ks)) else if k = 6 then decide (n = 0) && (YtoajlhhalpldfaaGreatDoor.nm s && tmoks ks) else false
def tmoks : List T → Bool
 | [] => true
 | t :: r => t.tmok && tmoks r
end

theorem LK.congrF {f g : Int × Bool → Option (Bool × (Int × Bool))} {s : Nat} {o : Bool} (h : ∀ l, f (l, false) = g (l, false)) (k : LK g s o) : LK f s o := by
 intro left h0 h1
 rw [h]
 exact k left h0 h1
theorem LK.noF {f : Int × Bool → Option (Bool × (Int × Bool))} {s : Nat} {o : Bool} (h : ∀ l, f (l, false) = some (false, (l, false))) (ho : o = false) : LK f s o := by
 subst ho
 exact fun left h0 h1 => ⟨left, by rw [h, Bool.and_false], by omega, h1, fun _ q => by cases q⟩
theorem LK.bothF {f f1 f2 : Int × Bool → Option (Bool × (Int × Bool))} {s1 s2 : Nat} {o1 o2 : Bool} (h1 : LK f1 s1 o1) (h2 : LK f2 s2 o2)
  (hf : ∀ l l', f1 (l, false) = some (false, (l', false)) → f (l, false) = some (false, (l', false)))
  (ht : ∀ l l', f1 (l, false) = some (true, (l', false)) → f (l, false) = f2 (l', false)) : LK f (s1 + s2) (o1 && o2) := by
 intro left h0 hl
 obtain ⟨l1, e1, a1, b1, c1⟩ := h1 left h0 hl
 cases hq : (decide ((s1 : Int) ≤ left) && o1) with
 | false =>
  rw [hq] at e1
  refine ⟨l1, ?_, a1, b1, fun q1 q2 => ?_⟩
  ·rw [hf _ _ e1]
   have : (decide (((s1 + s2 : Nat) : Int) ≤ left) && (o1 && o2)) = false := by
    cases ho : o1 with
    | false => simp
    | true =>
     rw [ho, Bool.and_true] at hq
     have := of_decide_eq_false hq
     rw [decide_eq_false (by push_cast; omega)]; rfl
   rw [this]
  have ho : o1 = true ∧ o2 = true := by simpa using q2
  rw [ho.1, Bool.and_true] at hq
  have := of_decide_eq_false hq
  push_cast at q1
  omega
 | true =>
  rw [hq] at e1
  have hh : (s1 : Int) ≤ left ∧ o1 = true := by simpa using hq
  have hl1 := c1 hh.1 hh.2
  obtain ⟨l2, e2, a2, b2, c2⟩ := h2 l1 (by omega) b1
  refine ⟨l2, ?_, a2, b2, fun q1 q2 => ?_⟩
  ·rw [ht _ _ e1, e2, hh.2, Bool.true_and]
   congr 3
   exact decide_eq_decide.2 (by push_cast; omega)
  have ho : o1 = true ∧ o2 = true := by simpa using q2
  push_cast at q1 ⊢
  have := c2 (by omega) ho.2
  omega
theorem ret_eta (x : Option (Bool × (Int × Bool))) : (x.bind fun r => some (r.1, (r.2.1, r.2.2))) = x := by cases x <;> rfl
theorem len_beq (ks : List T) (i : Nat) : ((ks.length : Int) == (i : Int)) = decide (ks.length = i) := by
 by_cases q : ks.length = i
 ·rw [decide_eq_true q, q]; exact beq_self_eq_true _
 rw [decide_eq_false q]; exact beq_eq_false_iff_ne.2 (by omega)

end Go.Am
namespace Go.Am.YtoajlhhalpldfaaGreatDoor
open Go Go.Am

theorem bare_eq (k n : Int) (s : ByteArray) (ks : List T) (i : Int) : i_Tree_bare__c (T.mk k n s ks) i = some (decide (n = 0) && (eb s && ((ks.length : Int) == i))) := by
 have e0 : i_Tree_bare__c (T.mk k n s ks) i = if n = 0 then (if eb s = true then some ((ks.length : Int) == i) else some false) else some false := by unfold i_Tree_bare__c; rfl
 rw [e0]
 by_cases h : n = 0
 ·rw [if_pos h, decide_eq_true h]
  cases eb s <;> rfl
 rw [if_neg h, decide_eq_false h]; rfl
theorem sterms_lp (rec : T → Bool → Option Bool) (l : List T) (hl : l.length ≤ 1048576) (H : ∀ y ∈ l, rec y false = some y.tmok) :
  ∀ (r a : List T) (m : Nat), l = a ++ r → r.length < m → s_l01Terms_L1 rec l false m a.length = some (tmoks r)
 | [], a, m, e, hm => by
  obtain ⟨m, rfl⟩ : ∃ k, m = k + 1 := ⟨m - 1, by omega⟩
  subst e
  rw [s_l01Terms_L1, if_neg (lt_end a)]; rfl
 | y :: r, a, m, e, hm => by
  obtain ⟨m, rfl⟩ : ∃ k, m = k + 1 := ⟨m - 1, by omega⟩
  have hy : y ∈ l := by rw [e]; simp
  have e1 : (a.length : Int) < (l.length : Int) := by rw [e]; exact lt_mid a y r
  have e2 : idx l (a.length : Int) = some y := by rw [e]; exact idx_mid a y r
  rw [s_l01Terms_L1, if_pos e1, if_neg (by decide), e2, bind_some', H y hy, bind_some']
  simp only [tmoks]
  cases y.tmok with
  | false => rfl
  | true =>
   rw [if_neg (by decide), show IntKind.i64.wrap ((a.length : Int) + 1) = ((a ++ [y]).length : Int) from w64_mid a y r (by rw [← e]; omega), Bool.true_and]
   exact sterms_lp rec l hl H r (a ++ [y]) m (by simp [e]) (by simpa using hm)
theorem sterms_ev (ks : List T) (hl : ks.length ≤ 1048576) (hk : ∀ t ∈ ks, Ev fun n => s_l01Term n t false = some t.tmok) : Ev fun n => s_l01Terms n ks false = some (tmoks ks) := by
 refine (Ev.all hk).up (ks.length + 1) fun n hn H => ?_
 rw [s_l01Terms]
 exact sterms_lp _ ks hl H ks [] n rfl (by omega)

theorem specTerm_ev (t : T) : t.sm → Ev fun n => s_l01Term n t false = some t.tmok := by
 induction t using T.ind with
 | _ k n s ks ih =>
  intro hsm
  obtain ⟨_, hl, hks⟩ := sm_kids hsm
  refine ((Ev.all fun t ht => ih t ht (hks t ht)).and ((specN_ev s).and (sterms_ev ks hl fun t ht => ih t ht (hks t ht)))).up 0 fun fu _ H => ?_
  obtain ⟨H, hN, hT⟩ := H
  have e0 : s_l01Term (fu + 1) (T.mk k n s ks) false = if k = 4 then (if n = 0 then (if eb s = true then (if (ks.length : Int) = 1 then (idx ks 0).bind fun y7 => (s_l01Term fu y7 false).bind fun r12 => some r12 else some false) else some false) else some false)
    else (if k = 5 then (fun (b : Bool) => if b = true then (if n ≥ 0 then (if n ≤ 100 then (if eb s = true then (s_l01Terms fu ks false).bind fun r26 => some r26 else some false) else some false) else some false) else (if k = 6 then (if n = 0 then (s_NameOK fu s).bind fun r35 => if r35 = true then (s_l01Terms fu ks false).bind fun r43 => some r43 else some false else some false) else some false)) (k == 5)
     else (fun (b : Bool) => if b = true then (if n ≥ 0 then (if n ≤ 100 then (if eb s = true then (s_l01Terms fu ks false).bind fun r26 => some r26 else some false) else some false) else some false) else (if k = 6 then (if n = 0 then (s_NameOK fu s).bind fun r35 => if r35 = true then (s_l01Terms fu ks false).bind fun r43 => some r43 else some false else some false) else some false)) (k == 7)) := by rw [s_l01Term]; rfl
  rw [e0, hT, hN]
  simp only [T.tmok, bind_some']
  by_cases k4 : k = 4
  ·rw [if_pos k4, if_pos k4]
   by_cases n0 : n = 0
   ·rw [if_pos n0, decide_eq_true n0, Bool.true_and]
    cases eb s with
    | false => rfl
    | true =>
     rw [if_pos rfl, Bool.true_and]
     by_cases h1 : ks.length = 1
     ·match ks, h1, H with
      | [a], _, H =>
       rw [if_pos (show (([a] : List T).length : Int) = 1 from rfl), show idx [a] 0 = some a from rfl, bind_some', H a (by simp), bind_some']
       simp [tmoks]
     rw [if_neg (show ¬ (ks.length : Int) = 1 by omega), decide_eq_false h1]; rfl
   rw [if_neg n0, decide_eq_false n0]; rfl
  rw [if_neg k4, if_neg k4]
  have core : (if n ≥ 0 then (if n ≤ 100 then (if eb s = true then some (tmoks ks) else some false) else some false) else some false) = some (decide (0 ≤ n) && (decide (n ≤ 100) && (eb s && tmoks ks))) := by
   by_cases q1 : n ≥ 0
   ·by_cases q2 : n ≤ 100
    ·rw [if_pos q1, if_pos q2, decide_eq_true (show 0 ≤ n from q1), decide_eq_true q2]
     cases eb s <;> rfl
    rw [if_pos q1, if_neg q2, decide_eq_false q2]; simp
   rw [if_neg q1, decide_eq_false (show ¬ 0 ≤ n from q1)]; rfl
  by_cases k5 : k = 5
  ·subst k5
   rw [if_pos rfl, if_pos (show (5 : Int) = 5 ∨ (5 : Int) = 7 from .inl rfl)]
   exact core
  rw [if_neg k5]
  by_cases k7 : k = 7
  ·subst k7
   rw [if_pos (show (7 : Int) = 5 ∨ (7 : Int) = 7 from .inr rfl)]
   exact core
  rw [if_neg (show ¬ (k = 5 ∨ k = 7) by omega)]
  have h7 : (k == 7) = false := beq_eq_false_iff_ne.2 k7
  rw [h7]
  show (if k = 6 then _ else _) = _
  by_cases k6 : k = 6
  ·rw [if_pos k6, if_pos k6]
   by_cases n0 : n = 0
   ·rw [if_pos n0, decide_eq_true n0]
    cases nm s <;> rfl
   rw [if_neg n0, decide_eq_false n0]; rfl
  rw [if_neg k6, if_neg k6]

theorem args_lp (rec : (Int × Bool) → T → Option (Bool × (Int × Bool))) (l : List T) (hl : l.length ≤ 1048576) (H : ∀ y ∈ l, LK (fun z => rec z y) y.size y.tmok) :
  ∀ (r a : List T) (m : Nat), l = a ++ r → r.length < m → LK (fun z => i_looker_args_L1 rec l m a.length z.1 z.2) (sizes r) (tmoks r)
 | [], a, m, e, hm => by
  obtain ⟨m, rfl⟩ : ∃ k, m = k + 1 := ⟨m - 1, by omega⟩
  subst e
  refine LK.yes (fun l b => ?_) rfl rfl
  show i_looker_args_L1 rec (a ++ []) (m + 1) a.length l b = _
  rw [i_looker_args_L1, if_neg (lt_end a)]
 | y :: r, a, m, e, hm => by
  obtain ⟨m, rfl⟩ : ∃ k, m = k + 1 := ⟨m - 1, by omega⟩
  have hy : y ∈ l := by rw [e]; simp
  have e1 : (a.length : Int) < (l.length : Int) := by rw [e]; exact lt_mid a y r
  have e2 : idx l (a.length : Int) = some y := by rw [e]; exact idx_mid a y r
  have hw : IntKind.i64.wrap ((a.length : Int) + 1) = ((a ++ [y]).length : Int) := w64_mid a y r (by rw [← e]; omega)
  have ih := args_lp rec l hl H r (a ++ [y]) m (by simp [e]) (by simpa using hm)
  have e3 : ∀ i6, i_looker_args_L1 rec l (m + 1) (a.length : Int) i6 false = (rec (i6, false) y).bind fun r48 => if (!r48.1) = true then some (false, (r48.2.1, r48.2.2)) else i_looker_args_L1 rec l m ((a ++ [y]).length : Int) r48.2.1 r48.2.2 := fun i6 => by
   rw [i_looker_args_L1, if_pos e1, e2, bind_some', if_neg (by decide), hw]
  simp only [sizes, tmoks]
  refine LK.bothF (H y hy) ih (fun l1 l' q => ?_) (fun l1 l' q => ?_)
  ·show i_looker_args_L1 rec l (m + 1) (a.length : Int) l1 false = _
   rw [e3, show rec (l1, false) y = _ from q]; rfl
  show i_looker_args_L1 rec l (m + 1) (a.length : Int) l1 false = _
  rw [e3, show rec (l1, false) y = _ from q]; rfl
theorem args_ev (ks : List T) (hl : ks.length ≤ 1048576) (hk : ∀ t ∈ ks, Ev fun n => LK (fun z => i_looker_term n z t) t.size t.tmok) : Ev fun n => LK (fun z => i_looker_args n z ks) (sizes ks) (tmoks ks) := by
 refine (Ev.all hk).up (ks.length + 1) fun n hn H => ?_
 refine LK.congrF (g := fun z => i_looker_args_L1 (i_looker_term n) ks n 0 z.1 z.2) (fun l => by rw [i_looker_args]) ?_
 exact args_lp _ ks hl H ks [] n rfl (by omega)

theorem in_eq (n : Int) : i_in n 0 100 = some (decide (0 ≤ n) && decide (n ≤ 100)) := by
 unfold i_in
 by_cases q1 : n ≥ 0
 ·rw [if_pos q1, decide_eq_true (show 0 ≤ n from q1)]; rfl
 rw [if_neg q1, decide_eq_false (show ¬ 0 ≤ n from q1)]; rfl

theorem implTerm_ev (t : T) : t.sm → Ev fun n => LK (fun z => i_looker_term n z t) t.size t.tmok := by
 induction t using T.ind with
 | _ k n s ks ih =>
  intro hsm
  obtain ⟨hs, hl, hks⟩ := sm_kids hsm
  refine ((Ev.all fun t ht => ih t ht (hks t ht)).and (args_ev ks hl fun t ht => ih t ht (hks t ht))).up 0 fun fu _ H => ?_
  obtain ⟨H, HA⟩ := H
  have hsz : (T.mk k n s ks).size = 1 + sizes ks := by simp only [T.size]
  rw [hsz]
  refine nodeLK (g := fun z => if k = 4 then (i_Tree_bare__c (T.mk k n s ks) 1).bind fun r18 => if r18 = true then (idx ks 0).bind fun y26 => (i_looker_term fu (z.1, z.2) y26).bind fun r31 => some (r31.1, (r31.2.1, r31.2.2)) else some (false, (z.1, z.2))
   else (if k = 5 then (fun (b : Bool) => if b = true then (i_in n 0 100).bind fun r46 => if r46 = true then (if eb s = true then (i_looker_args fu (z.1, z.2) ks).bind fun r55 => some (r55.1, (r55.2.1, r55.2.2)) else some (false, (z.1, z.2))) else some (false, (z.1, z.2)) else (if k = 6 then (if n = 0 then (i_NameOK s).bind fun r68 => if r68 = true then (i_looker_args fu (z.1, z.2) ks).bind fun r76 => some (r76.1, (r76.2.1, r76.2.2)) else some (false, (z.1, z.2)) else some (false, (z.1, z.2))) else some (false, (z.1, z.2)))) (k == 5)
    else (fun (b : Bool) => if b = true then (i_in n 0 100).bind fun r46 => if r46 = true then (if eb s = true then (i_looker_args fu (z.1, z.2) ks).bind fun r55 => some (r55.1, (r55.2.1, r55.2.2)) else some (false, (z.1, z.2))) else some (false, (z.1, z.2)) else (if k = 6 then (if n = 0 then (i_NameOK s).bind fun r68 => if r68 = true then (i_looker_args fu (z.1, z.2) ks).bind fun r76 => some (r76.1, (r76.2.1, r76.2.2)) else some (false, (z.1, z.2)) else some (false, (z.1, z.2))) else some (false, (z.1, z.2)))) (k == 7))) ?_ (fun z => by rw [i_looker_term]; rfl)
  simp only [T.tmok]
  by_cases k4 : k = 4
  ·rw [if_pos k4]
   refine LK.congrF (g := fun z => if (decide (n = 0) && (eb s && decide (ks.length = 1))) = true then (idx ks 0).bind fun y26 => i_looker_term fu (z.1, z.2) y26 else some (false, (z.1, z.2))) (fun l => ?_) ?_
   ·show (if k = 4 then _ else _) = _
    rw [if_pos k4, bare_eq, bind_some', show ((ks.length : Int) == 1) = decide (ks.length = 1) from len_beq ks 1]
    simp only [ret_eta]
   cases hq : (decide (n = 0) && (eb s && decide (ks.length = 1))) with
   | false =>
    refine LK.noF (fun _ => rfl) ?_
    rw [← Bool.and_assoc, ← Bool.and_assoc, Bool.and_assoc (decide (n = 0)), hq]; rfl
   | true =>
    have hp : n = 0 ∧ eb s = true ∧ ks.length = 1 := by simpa using hq
    have ho : (decide (n = 0) && (eb s && (decide (ks.length = 1) && tmoks ks))) = tmoks ks := by rw [← Bool.and_assoc, ← Bool.and_assoc, Bool.and_assoc (decide (n = 0)), hq, Bool.true_and]
    rw [ho]
    match ks, hp.2.2, H with
    | [a], _, H =>
     have : LK (fun z => i_looker_term fu z a) (sizes [a]) (tmoks [a]) := by simpa [sizes, tmoks] using H a (by simp)
     exact LK.congrF (fun l => rfl) this
  rw [if_neg k4]
  have core : LK (fun z => (i_in n 0 100).bind fun r46 => if r46 = true then (if eb s = true then (i_looker_args fu (z.1, z.2) ks).bind fun r55 => some (r55.1, (r55.2.1, r55.2.2)) else some (false, (z.1, z.2))) else some (false, (z.1, z.2))) (sizes ks) (decide (0 ≤ n) && (decide (n ≤ 100) && (eb s && tmoks ks))) := by
   refine LK.congrF (g := fun z => if (decide (0 ≤ n) && decide (n ≤ 100)) = true then (if eb s = true then i_looker_args fu (z.1, z.2) ks else some (false, (z.1, z.2))) else some (false, (z.1, z.2))) (fun l => by simp only [in_eq, bind_some', ret_eta]) ?_
   rw [← Bool.and_assoc]
   cases (decide (0 ≤ n) && decide (n ≤ 100)) with
   | false => exact LK.noF (fun _ => rfl) rfl
   | true =>
    cases eb s with
    | false => exact LK.noF (fun _ => rfl) rfl
    | true => exact LK.congrF (fun l => rfl) HA
  by_cases k5 : k = 5
  ·subst k5
   rw [if_pos (show (5 : Int) = 5 ∨ (5 : Int) = 7 from .inl rfl)]
   exact LK.congrF (fun l => rfl) core
  by_cases k7 : k = 7
  ·subst k7
   rw [if_pos (show (7 : Int) = 5 ∨ (7 : Int) = 7 from .inr rfl)]
   exact LK.congrF (fun l => rfl) core
  rw [if_neg (show ¬ (k = 5 ∨ k = 7) by omega)]
  have h7 : (k == 7) = false := beq_eq_false_iff_ne.2 k7
  by_cases k6 : k = 6
  ·rw [if_pos k6]
   refine LK.congrF (g := fun z => if n = 0 then (if nm s = true then i_looker_args fu (z.1, z.2) ks else some (false, (z.1, z.2))) else some (false, (z.1, z.2))) (fun l => ?_) ?_
   ·show (if k = 4 then _ else if k = 5 then _ else _) = _
    rw [if_neg k4, if_neg k5, h7]
    show (if k = 6 then _ else _) = _
    rw [if_pos k6]
    simp only [implN_eq s hs, bind_some', ret_eta]
   by_cases n0 : n = 0
   ·rw [decide_eq_true n0, Bool.true_and]
    refine LK.congrF (g := fun z => if nm s = true then i_looker_args fu (z.1, z.2) ks else some (false, (z.1, z.2))) (fun l => if_pos n0) ?_
    cases nm s with
    | false => exact LK.noF (fun _ => rfl) rfl
    | true => exact LK.congrF (fun l => rfl) HA
   exact LK.noF (fun l => if_neg n0) (by rw [decide_eq_false n0]; rfl)
  rw [if_neg k6]
  refine LK.noF (fun l => ?_) rfl
  show (if k = 4 then _ else if k = 5 then _ else _) = _
  rw [if_neg k4, if_neg k5, h7]
  show (if k = 6 then _ else _) = _
  rw [if_neg k6]

end Go.Am.YtoajlhhalpldfaaGreatDoor
