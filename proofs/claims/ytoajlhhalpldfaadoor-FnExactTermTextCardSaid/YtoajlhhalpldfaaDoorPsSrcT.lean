/- Plain laws: source terms: arguments may be left out. -/
import Derived.Test.YtoajlhhalpldfaaDoorPsTerm
import Derived.Test.YtoajlhhalpldfaaDoorDkSource
namespace Go.Am
open Go
mutual
def T.tso : T → Bool
 | .mk k n s ks => if k = 4 then decide (n = 0) && (eb s && (decide (ks.length = 1) && tso1 ks)) else if k = 5 ∨ k = 7 then decide (0 ≤ n) && (decide (n ≤ 100) && (eb s && tsos ks)) else if k = 6 then decide (n = 0) && (YtoajlhhalpldfaaDoor.nm s && tsos ks) else false
def tso1 : List T → Bool
 | [] => true
 | t :: _ => t.tso
def tsos : List T → Bool
 | [] => true
 | t :: r => (if t.kind = 8 then decide (t.n = 0) && (eb t.name && decide (t.kids.length = 0)) else t.tso) && tsos r
end
def T.srcB (t : T) : Bool := if t.kind = 8 then decide (t.n = 0) && (eb t.name && decide (t.kids.length = 0)) else t.tso
def LQ (f : Int × Bool → Option (Bool × (Int × Bool))) (s : Nat) (o : Bool) : Prop := ∀ left : Int, 0 ≤ left → left ≤ 150 →
 ∃ l' : Int, f (left, true) = some ((decide ((s : Int) ≤ left) && o), (l', true)) ∧ -1 ≤ l' ∧ l' ≤ 150 ∧ ((s : Int) ≤ left → o = true → l' = left - s)
theorem LQ.congr {f g : Int × Bool → Option (Bool × (Int × Bool))} {s s' : Nat} {o o' : Bool} (h : ∀ z, f z = g z) (hs : s = s') (ho : o = o') (k : LQ g s' o') : LQ f s o := by
 subst hs ho
 intro left h0 h1
 rw [h]
 exact k left h0 h1
theorem LQ.no {f : Int × Bool → Option (Bool × (Int × Bool))} {s : Nat} {o : Bool} (h : ∀ l b, f (l, b) = some (false, (l, b))) (ho : o = false) : LQ f s o := by
 subst ho
 exact fun left h0 h1 => ⟨left, by rw [h, Bool.and_false], by omega, h1, fun _ q => by cases q⟩
theorem LQ.yes {f : Int × Bool → Option (Bool × (Int × Bool))} {s : Nat} {o : Bool} (h : ∀ l b, f (l, b) = some (true, (l, b))) (hs : s = 0) (ho : o = true) : LQ f s o := by
 subst hs ho
 exact fun left h0 h1 => ⟨left, by rw [h, decide_eq_true (by omega)]; rfl, by omega, h1, fun _ _ => by omega⟩
theorem LQ.congrF {f g : Int × Bool → Option (Bool × (Int × Bool))} {s : Nat} {o : Bool} (h : ∀ l, f (l, true) = g (l, true)) (k : LQ g s o) : LQ f s o := by
 intro left h0 h1
 rw [h]
 exact k left h0 h1
theorem LQ.noF {f : Int × Bool → Option (Bool × (Int × Bool))} {s : Nat} {o : Bool} (h : ∀ l, f (l, true) = some (false, (l, true))) (ho : o = false) : LQ f s o := by
 subst ho
 exact fun left h0 h1 => ⟨left, by rw [h, Bool.and_false], by omega, h1, fun _ q => by cases q⟩
theorem LQ.bothF {f f1 f2 : Int × Bool → Option (Bool × (Int × Bool))} {s1 s2 : Nat} {o1 o2 : Bool} (h1 : LQ f1 s1 o1) (h2 : LQ f2 s2 o2)
  (hf : ∀ l l', f1 (l, true) = some (false, (l', true)) → f (l, true) = some (false, (l', true)))
  (ht : ∀ l l', f1 (l, true) = some (true, (l', true)) → f (l, true) = f2 (l', true)) : LQ f (s1 + s2) (o1 && o2) := by
 intro left h0 hl
 obtain ⟨l1, e1, a1, b1, c1⟩ := h1 left h0 hl
 cases hq : (decide ((s1 : Int) ≤ left) && o1) with
 | false =>
  rw [hq] at e1
  refine ⟨l1, ?_, a1, b1, fun q1 q2 => ?_⟩
  ·rw [hf _ _ e1]
   have : (decide (((s1 + s2 : Nat) : Int) ≤ left) && (o1 && o2)) = false := by
    cases ho : o1 with
    | false => simp
    | true =>
     rw [ho, Bool.and_true] at hq
     have := of_decide_eq_false hq
     rw [decide_eq_false (by push_cast; omega)]; rfl
   rw [this]
  have ho : o1 = true ∧ o2 = true := by simpa using q2
  rw [ho.1, Bool.and_true] at hq
  have := of_decide_eq_false hq
  push_cast at q1
  omega
 | true =>
  rw [hq] at e1
  have hh : (s1 : Int) ≤ left ∧ o1 = true := by simpa using hq
  have hl1 := c1 hh.1 hh.2
  obtain ⟨l2, e2, a2, b2, c2⟩ := h2 l1 (by omega) b1
  refine ⟨l2, ?_, a2, b2, fun q1 q2 => ?_⟩
  ·rw [ht _ _ e1, e2, hh.2, Bool.true_and]
   congr 3
   exact decide_eq_decide.2 (by push_cast; omega)
  have ho : o1 = true ∧ o2 = true := by simpa using q2
  push_cast at q1 ⊢
  have := c2 (by omega) ho.2
  omega

end Go.Am
namespace Go.Am.YtoajlhhalpldfaaDoor
open Go Go.Am

theorem nodeLQ {f g : Int × Bool → Option (Bool × (Int × Bool))} {s : Nat} {o : Bool} (h : LQ g s o)
  (e : ∀ z, f z = (i_looker_node (z.1, z.2)).bind fun r5 => if (!r5.1) = true then some (false, (r5.2.1, r5.2.2)) else g (r5.2.1, r5.2.2)) : LQ f (1 + s) o := by
 intro left h0 hl
 have hw : IntKind.i64.wrap (left - 1) = left - 1 := w64_eq (by omega) (by omega)
 have e1 : f (left, true) = if (!(decide (left - 1 ≥ 0))) = true then some (false, (left - 1, true)) else g (left - 1, true) := by
  rw [e]
  unfold i_looker_node
  rw [bind_some', hw]
 rw [e1]
 by_cases h1 : left - 1 ≥ 0
 ·rw [decide_eq_true h1, if_neg (by decide)]
  obtain ⟨l', e2, a, b, c⟩ := h (left - 1) h1 (by omega)
  refine ⟨l', ?_, a, b, fun q1 q2 => ?_⟩
  ·rw [e2]
   congr 3
   exact decide_eq_decide.2 (by push_cast; omega)
  push_cast at q1 ⊢
  have := c (by omega) q2
  omega
 rw [decide_eq_false h1, if_pos (by decide)]
 refine ⟨left - 1, ?_, by omega, by omega, fun q1 => ?_⟩
 ·rw [decide_eq_false (by push_cast; omega)]; rfl
 push_cast at q1; omega

theorem ssrcs_lp (rec : T → Bool → Option Bool) (l : List T) (hl : l.length ≤ 1048576) (H : ∀ y ∈ l, rec y true = some y.tso) :
  ∀ (r a : List T) (m : Nat), l = a ++ r → r.length < m → s_l01Terms_L1 rec l true m a.length = some (tsos r)
 | [], a, m, e, hm => by
  obtain ⟨m, rfl⟩ : ∃ k, m = k + 1 := ⟨m - 1, by omega⟩
  subst e
  rw [s_l01Terms_L1, if_neg (lt_end a)]; rfl
 | y :: r, a, m, e, hm => by
  obtain ⟨m, rfl⟩ : ∃ k, m = k + 1 := ⟨m - 1, by omega⟩
  have hy : y ∈ l := by rw [e]; simp
  have e1 : (a.length : Int) < (l.length : Int) := by rw [e]; exact lt_mid a y r
  have e2 : idx l (a.length : Int) = some y := by rw [e]; exact idx_mid a y r
  have hw : IntKind.i64.wrap ((a.length : Int) + 1) = ((a ++ [y]).length : Int) := w64_mid a y r (by rw [← e]; omega)
  have ih := ssrcs_lp rec l hl H r (a ++ [y]) m (by simp [e]) (by simpa using hm)
  have e0 : s_l01Terms_L1 rec l true (m + 1) (a.length : Int) = if y.kind = 8 then (if (y.n != 0) = true then some false else if (!(eb y.name)) = true then some false else if ((y.kids.length : Int) != 0) = true then some false else some (tsos r)) else if (!y.tso) = true then some false else some (tsos r) := by
   rw [s_l01Terms_L1, if_pos e1, if_pos rfl]
   simp only [e2, bind_some', H y hy, hw, ih]
   rfl
  rw [e0]
  simp only [tsos]
  by_cases k8 : y.kind = 8
  ·rw [if_pos k8, if_pos k8]
   by_cases n0 : y.n = 0
   ·rw [if_neg (by simp [n0]), decide_eq_true n0]
    by_cases q : y.kids.length = 0
    ·rw [if_neg (show ¬ ((y.kids.length : Int) != 0) = true by simp [q]), decide_eq_true q]
     cases eb y.name <;> rfl
    rw [if_pos (show ((y.kids.length : Int) != 0) = true by simp only [bne_iff_ne]; omega), decide_eq_false q]
    cases eb y.name <;> rfl
   rw [if_pos (by simp [n0]), decide_eq_false n0]; rfl
  rw [if_neg k8, if_neg k8]
  cases y.tso <;> rfl
theorem ssrcs_ev (ks : List T) (hl : ks.length ≤ 1048576) (hk : ∀ t ∈ ks, Ev fun n => s_l01Term n t true = some t.tso) : Ev fun n => s_l01Terms n ks true = some (tsos ks) := by
 refine (Ev.all hk).up (ks.length + 1) fun n hn H => ?_
 rw [s_l01Terms]
 exact ssrcs_lp _ ks hl H ks [] n rfl (by omega)

theorem specSrc_ev (t : T) : t.sm → Ev fun n => s_l01Term n t true = some t.tso := by
 induction t using T.ind with
 | _ k n s ks ih =>
  intro hsm
  obtain ⟨_, hl, hks⟩ := sm_kids hsm
  refine ((Ev.all fun t ht => ih t ht (hks t ht)).and ((specN_ev s).and (ssrcs_ev ks hl fun t ht => ih t ht (hks t ht)))).up 0 fun fu _ H => ?_
  obtain ⟨H, hN, hT⟩ := H
  have e0 : s_l01Term (fu + 1) (T.mk k n s ks) true = if k = 4 then (if n = 0 then (if eb s = true then (if (ks.length : Int) = 1 then (idx ks 0).bind fun y7 => (s_l01Term fu y7 true).bind fun r12 => some r12 else some false) else some false) else some false)
    else (if k = 5 then (fun (b : Bool) => if b = true then (if n ≥ 0 then (if n ≤ 100 then (if eb s = true then (s_l01Terms fu ks true).bind fun r26 => some r26 else some false) else some false) else some false) else (if k = 6 then (if n = 0 then (s_NameOK fu s).bind fun r35 => if r35 = true then (s_l01Terms fu ks true).bind fun r43 => some r43 else some false else some false) else some false)) (k == 5)
     else (fun (b : Bool) => if b = true then (if n ≥ 0 then (if n ≤ 100 then (if eb s = true then (s_l01Terms fu ks true).bind fun r26 => some r26 else some false) else some false) else some false) else (if k = 6 then (if n = 0 then (s_NameOK fu s).bind fun r35 => if r35 = true then (s_l01Terms fu ks true).bind fun r43 => some r43 else some false else some false) else some false)) (k == 7)) := by rw [s_l01Term]; rfl
  rw [e0, hT, hN]
  simp only [T.tso, bind_some']
  by_cases k4 : k = 4
  ·rw [if_pos k4, if_pos k4]
   by_cases n0 : n = 0
   ·rw [if_pos n0, decide_eq_true n0, Bool.true_and]
    cases eb s with
    | false => rfl
    | true =>
     rw [if_pos rfl, Bool.true_and]
     by_cases h1 : ks.length = 1
     ·match ks, h1, H with
      | [a], _, H =>
       rw [if_pos (show (([a] : List T).length : Int) = 1 from rfl), show idx [a] 0 = some a from rfl, bind_some', H a (by simp), bind_some']
       simp [tso1]
     rw [if_neg (show ¬ (ks.length : Int) = 1 by omega), decide_eq_false h1]; rfl
   rw [if_neg n0, decide_eq_false n0]; rfl
  rw [if_neg k4, if_neg k4]
  have core : (if n ≥ 0 then (if n ≤ 100 then (if eb s = true then some (tsos ks) else some false) else some false) else some false) = some (decide (0 ≤ n) && (decide (n ≤ 100) && (eb s && tsos ks))) := by
   by_cases q1 : n ≥ 0
   ·by_cases q2 : n ≤ 100
    ·rw [if_pos q1, if_pos q2, decide_eq_true (show 0 ≤ n from q1), decide_eq_true q2]
     cases eb s <;> rfl
    rw [if_pos q1, if_neg q2, decide_eq_false q2]; simp
   rw [if_neg q1, decide_eq_false (show ¬ 0 ≤ n from q1)]; rfl
  by_cases k5 : k = 5
  ·subst k5
   rw [if_pos rfl, if_pos (show (5 : Int) = 5 ∨ (5 : Int) = 7 from .inl rfl)]
   exact core
  rw [if_neg k5]
  by_cases k7 : k = 7
  ·subst k7
   rw [if_pos (show (7 : Int) = 5 ∨ (7 : Int) = 7 from .inr rfl)]
   exact core
  rw [if_neg (show ¬ (k = 5 ∨ k = 7) by omega)]
  have h7 : (k == 7) = false := beq_eq_false_iff_ne.2 k7
  rw [h7]
  show (if k = 6 then _ else _) = _
  by_cases k6 : k = 6
  ·rw [if_pos k6, if_pos k6]
   by_cases n0 : n = 0
   ·rw [if_pos n0, decide_eq_true n0]
    cases nm s <;> rfl
   rw [if_neg n0, decide_eq_false n0]; rfl
  rw [if_neg k6, if_neg k6]

theorem srcEl (rec : (Int × Bool) → T → Option (Bool × (Int × Bool))) (y : T) (H : LQ (fun z => rec z y) y.size y.tso) :
  LQ (fun z => if y.kind = 8 then (i_Tree_bare__c y 0).bind fun r16 => if (!r16) = true then some (false, (z.1, z.2)) else i_looker_node (z.1, z.2) else rec (z.1, z.2) y) y.size y.srcB := by
 unfold T.srcB
 by_cases k8 : y.kind = 8
 ·obtain ⟨k, n, s, ks⟩ := y
  have k8' : k = 8 := k8
  refine LQ.congrF (g := fun z => if (!(decide (n = 0) && (eb s && decide (ks.length = 0)))) = true then some (false, (z.1, z.2)) else i_looker_node (z.1, z.2)) (fun l => ?_) ?_
  ·show (if k = 8 then _ else _) = _
   rw [if_pos k8', bare_eq, bind_some', show ((ks.length : Int) == 0) = decide (ks.length = 0) from len_beq ks 0]
  have ho : (if (T.mk k n s ks).kind = 8 then decide ((T.mk k n s ks).n = 0) && (eb (T.mk k n s ks).name && decide ((T.mk k n s ks).kids.length = 0)) else (T.mk k n s ks).tso) = (decide (n = 0) && (eb s && decide (ks.length = 0))) := if_pos k8
  rw [ho]
  cases hq : (decide (n = 0) && (eb s && decide (ks.length = 0))) with
  | false => exact LQ.noF (fun _ => rfl) rfl
  | true =>
   have hp : n = 0 ∧ eb s = true ∧ ks = [] := by simpa using hq
   obtain ⟨_, _, rfl⟩ := hp
   have hs1 : (T.mk k n s []).size = 1 + 0 := by simp only [T.size, sizes]
   rw [hs1]
   refine nodeLQ (g := fun z => some (true, (z.1, z.2))) (LQ.yes (fun _ _ => rfl) rfl rfl) (fun z => ?_)
   show i_looker_node (z.1, z.2) = _
   unfold i_looker_node
   rw [bind_some']
   cases decide (IntKind.i64.wrap (z.1 - 1) ≥ 0) <;> rfl
 rw [if_neg k8]
 exact LQ.congrF (fun l => if_neg k8) H

theorem argsQ_lp (rec : (Int × Bool) → T → Option (Bool × (Int × Bool))) (l : List T) (hl : l.length ≤ 1048576) (H : ∀ y ∈ l, LQ (fun z => rec z y) y.size y.tso) :
  ∀ (r a : List T) (m : Nat), l = a ++ r → r.length < m → LQ (fun z => i_looker_args_L1 rec l m a.length z.1 z.2) (sizes r) (tsos r)
 | [], a, m, e, hm => by
  obtain ⟨m, rfl⟩ : ∃ k, m = k + 1 := ⟨m - 1, by omega⟩
  subst e
  refine LQ.yes (fun l b => ?_) rfl rfl
  show i_looker_args_L1 rec (a ++ []) (m + 1) a.length l b = _
  rw [i_looker_args_L1, if_neg (lt_end a)]
 | y :: r, a, m, e, hm => by
  obtain ⟨m, rfl⟩ : ∃ k, m = k + 1 := ⟨m - 1, by omega⟩
  have hy : y ∈ l := by rw [e]; simp
  have e1 : (a.length : Int) < (l.length : Int) := by rw [e]; exact lt_mid a y r
  have e2 : idx l (a.length : Int) = some y := by rw [e]; exact idx_mid a y r
  have hw : IntKind.i64.wrap ((a.length : Int) + 1) = ((a ++ [y]).length : Int) := w64_mid a y r (by rw [← e]; omega)
  have ih := argsQ_lp rec l hl H r (a ++ [y]) m (by simp [e]) (by simpa using hm)
  have e3 : ∀ i6, i_looker_args_L1 rec l (m + 1) (a.length : Int) i6 true = (if y.kind = 8 then (i_Tree_bare__c y 0).bind fun r16 => if (!r16) = true then some (false, (i6, true)) else i_looker_node (i6, true) else rec (i6, true) y).bind fun r48 => if (!r48.1) = true then some (false, (r48.2.1, r48.2.2)) else i_looker_args_L1 rec l m ((a ++ [y]).length : Int) r48.2.1 r48.2.2 := fun i6 => by
   rw [i_looker_args_L1, if_pos e1, e2, bind_some', if_pos rfl, hw]
   by_cases k8 : y.kind = 8
   ·rw [if_pos k8, if_pos k8]
    cases hq : i_Tree_bare__c y 0 with
    | none => rfl
    | some b => cases b <;> rfl
   rw [if_neg k8, if_neg k8]
  have E := srcEl rec y (H y hy)
  simp only [sizes, tsos]
  refine LQ.bothF E ih (fun l1 l' q => ?_) (fun l1 l' q => ?_)
  ·show i_looker_args_L1 rec l (m + 1) (a.length : Int) l1 true = _
   rw [e3, show (if y.kind = 8 then (i_Tree_bare__c y 0).bind fun r16 => if (!r16) = true then some (false, (l1, true)) else i_looker_node (l1, true) else rec (l1, true) y) = _ from q]; rfl
  show i_looker_args_L1 rec l (m + 1) (a.length : Int) l1 true = _
  rw [e3, show (if y.kind = 8 then (i_Tree_bare__c y 0).bind fun r16 => if (!r16) = true then some (false, (l1, true)) else i_looker_node (l1, true) else rec (l1, true) y) = _ from q]; rfl
theorem argsQ_ev (ks : List T) (hl : ks.length ≤ 1048576) (hk : ∀ t ∈ ks, Ev fun n => LQ (fun z => i_looker_term n z t) t.size t.tso) : Ev fun n => LQ (fun z => i_looker_args n z ks) (sizes ks) (tsos ks) := by
 refine (Ev.all hk).up (ks.length + 1) fun n hn H => ?_
 refine LQ.congrF (g := fun z => i_looker_args_L1 (i_looker_term n) ks n 0 z.1 z.2) (fun l => by rw [i_looker_args]) ?_
 exact argsQ_lp _ ks hl H ks [] n rfl (by omega)

theorem implSrc_ev (t : T) : t.sm → Ev fun n => LQ (fun z => i_looker_term n z t) t.size t.tso := by
 induction t using T.ind with
 | _ k n s ks ih =>
  intro hsm
  obtain ⟨hs, hl, hks⟩ := sm_kids hsm
  refine ((Ev.all fun t ht => ih t ht (hks t ht)).and (argsQ_ev ks hl fun t ht => ih t ht (hks t ht))).up 0 fun fu _ H => ?_
  obtain ⟨H, HA⟩ := H
  have hsz : (T.mk k n s ks).size = 1 + sizes ks := by simp only [T.size]
  rw [hsz]
  refine nodeLQ (g := fun z => if k = 4 then (i_Tree_bare__c (T.mk k n s ks) 1).bind fun r18 => if r18 = true then (idx ks 0).bind fun y26 => (i_looker_term fu (z.1, z.2) y26).bind fun r31 => some (r31.1, (r31.2.1, r31.2.2)) else some (false, (z.1, z.2))
   else (if k = 5 then (fun (b : Bool) => if b = true then (i_in n 0 100).bind fun r46 => if r46 = true then (if eb s = true then (i_looker_args fu (z.1, z.2) ks).bind fun r55 => some (r55.1, (r55.2.1, r55.2.2)) else some (false, (z.1, z.2))) else some (false, (z.1, z.2)) else (if k = 6 then (if n = 0 then (i_NameOK s).bind fun r68 => if r68 = true then (i_looker_args fu (z.1, z.2) ks).bind fun r76 => some (r76.1, (r76.2.1, r76.2.2)) else some (false, (z.1, z.2)) else some (false, (z.1, z.2))) else some (false, (z.1, z.2)))) (k == 5)
    else (fun (b : Bool) => if b = true then (i_in n 0 100).bind fun r46 => if r46 = true then (if eb s = true then (i_looker_args fu (z.1, z.2) ks).bind fun r55 => some (r55.1, (r55.2.1, r55.2.2)) else some (false, (z.1, z.2))) else some (false, (z.1, z.2)) else (if k = 6 then (if n = 0 then (i_NameOK s).bind fun r68 => if r68 = true then (i_looker_args fu (z.1, z.2) ks).bind fun r76 => some (r76.1, (r76.2.1, r76.2.2)) else some (false, (z.1, z.2)) else some (false, (z.1, z.2))) else some (false, (z.1, z.2)))) (k == 7))) ?_ (fun z => by rw [i_looker_term]; rfl)
  simp only [T.tso]
  by_cases k4 : k = 4
  ·rw [if_pos k4]
   refine LQ.congrF (g := fun z => if (decide (n = 0) && (eb s && decide (ks.length = 1))) = true then (idx ks 0).bind fun y26 => i_looker_term fu (z.1, z.2) y26 else some (false, (z.1, z.2))) (fun l => ?_) ?_
   ·show (if k = 4 then _ else _) = _
    rw [if_pos k4, bare_eq, bind_some', show ((ks.length : Int) == 1) = decide (ks.length = 1) from len_beq ks 1]
    simp only [ret_eta]
   cases hq : (decide (n = 0) && (eb s && decide (ks.length = 1))) with
   | false =>
    refine LQ.noF (fun _ => rfl) ?_
    rw [← Bool.and_assoc, ← Bool.and_assoc, Bool.and_assoc (decide (n = 0)), hq]; rfl
   | true =>
    have hp : n = 0 ∧ eb s = true ∧ ks.length = 1 := by simpa using hq
    have ho : (decide (n = 0) && (eb s && (decide (ks.length = 1) && tso1 ks))) = tso1 ks := by rw [← Bool.and_assoc, ← Bool.and_assoc, Bool.and_assoc (decide (n = 0)), hq, Bool.true_and]
    rw [ho]
    match ks, hp.2.2, H with
    | [a], _, H =>
     have : LQ (fun z => i_looker_term fu z a) (sizes [a]) (tso1 [a]) := by simpa [sizes, tso1] using H a (by simp)
     exact LQ.congrF (fun l => rfl) this
  rw [if_neg k4]
  have core : LQ (fun z => (i_in n 0 100).bind fun r46 => if r46 = true then (if eb s = true then (i_looker_args fu (z.1, z.2) ks).bind fun r55 => some (r55.1, (r55.2.1, r55.2.2)) else some (false, (z.1, z.2))) else some (false, (z.1, z.2))) (sizes ks) (decide (0 ≤ n) && (decide (n ≤ 100) && (eb s && tsos ks))) := by
   refine LQ.congrF (g := fun z => if (decide (0 ≤ n) && decide (n ≤ 100)) = true then (if eb s = true then i_looker_args fu (z.1, z.2) ks else some (false, (z.1, z.2))) else some (false, (z.1, z.2))) (fun l => by simp only [in_eq, bind_some', ret_eta]) ?_
   rw [← Bool.and_assoc]
   cases (decide (0 ≤ n) && decide (n ≤ 100)) with
   | false => exact LQ.noF (fun _ => rfl) rfl
   | true =>
    cases eb s with
    | false => exact LQ.noF (fun _ => rfl) rfl
    | true => exact LQ.congrF (fun l => rfl) HA
  by_cases k5 : k = 5
  ·subst k5
   rw [if_pos (show (5 : Int) = 5 ∨ (5 : Int) = 7 from .inl rfl)]
   exact LQ.congrF (fun l => rfl) core
  by_cases k7 : k = 7
  ·subst k7
   rw [if_pos (show (7 : Int) = 5 ∨ (7 : Int) = 7 from .inr rfl)]
   exact LQ.congrF (fun l => rfl) core
  rw [if_neg (show ¬ (k = 5 ∨ k = 7) by omega)]
  have h7 : (k == 7) = false := beq_eq_false_iff_ne.2 k7
  by_cases k6 : k = 6
  ·rw [if_pos k6]
   refine LQ.congrF (g := fun z => if n = 0 then (if nm s = true then i_looker_args fu (z.1, z.2) ks else some (false, (z.1, z.2))) else some (false, (z.1, z.2))) (fun l => ?_) ?_
   ·show (if k = 4 then _ else if k = 5 then _ else _) = _
    rw [if_neg k4, if_neg k5, h7]
    show (if k = 6 then _ else _) = _
    rw [if_pos k6]
    simp only [implN_eq s hs, bind_some', ret_eta]
   by_cases n0 : n = 0
   ·rw [decide_eq_true n0, Bool.true_and]
    refine LQ.congrF (g := fun z => if nm s = true then i_looker_args fu (z.1, z.2) ks else some (false, (z.1, z.2))) (fun l => if_pos n0) ?_
    cases nm s with
    | false => exact LQ.noF (fun _ => rfl) rfl
    | true => exact LQ.congrF (fun l => rfl) HA
   exact LQ.noF (fun l => if_neg n0) (by rw [decide_eq_false n0]; rfl)
  rw [if_neg k6]
  refine LQ.noF (fun l => ?_) rfl
  show (if k = 4 then _ else if k = 5 then _ else _) = _
  rw [if_neg k4, if_neg k5, h7]
  show (if k = 6 then _ else _) = _
  rw [if_neg k6]


end Go.Am.YtoajlhhalpldfaaDoor
