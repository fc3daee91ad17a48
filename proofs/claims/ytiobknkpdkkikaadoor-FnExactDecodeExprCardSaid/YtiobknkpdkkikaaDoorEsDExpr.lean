/- Plain laws: expressions read back from terms. -/
import Derived.Test.YtiobknkpdkkikaaDoorPuB
import Derived.Test.YtiobknkpdkkikaaDoorEsDType
import Derived.Test.YtiobknkpdkkikaaDoorPsTerm
import Derived.Test.YtiobknkpdkkikaaDoorEkDExpr
namespace Go.Am.YtiobknkpdkkikaaDoor
open Go Go.Am

theorem kids_tmok {k n : Int} {s : ByteArray} {ks : List T} (h : (T.mk k n s ks).tmok = true) : tmoks ks = true ∧ (k = 4 → ks.length = 1) := by
  simp only [T.tmok] at h
  split at h
  · simp only [Bool.and_eq_true, decide_eq_true_eq] at h; exact ⟨h.2.2.2, fun _ => h.2.2.1⟩
  · rename_i h4
    split at h
    · simp only [Bool.and_eq_true, decide_eq_true_eq] at h; exact ⟨h.2.2.2, fun q => absurd q h4⟩
    · split at h
      · simp only [Bool.and_eq_true, decide_eq_true_eq] at h; exact ⟨h.2.2, fun q => absurd q h4⟩
      · cases h
def rbk {α : Type} (o : Option α) : Rz α := match o with | some f => .ok f | none => .stop 3 0
/-- Both kids or none. -/
def bothE {α β γ : Type} (f : α → β → γ) (a : Option α) (b : Option β) : Option γ := match a, b with | some x, some y => some (f x y) | _, _ => none
theorem bothE_i {α β γ : Type} (f : α → β → γ) (a : Option α) (b : Option β) : (zb (some (rbk a)) fun x => zb (some (rbk b)) fun y => some (.ok (f x y))) = some (rbk (bothE f a b)) := by
  cases a <;> cases b <;> rfl
theorem bothE_s {α β γ : Type} (f : α → β → γ) (a : Option α) (b : Option β) {x : Option (α × Bool)} {y : Option (β × Bool)} (hx : Bk a x) (hy : Bk b y) :
    Bk (bothE f a b) (x.bind fun r => y.bind fun q => if r.2 = true then some (f r.1 q.1, q.2) else some (f r.1 q.1, false)) := by
  obtain ⟨r, rfl, hr⟩ := hx
  obtain ⟨q, rfl, hq⟩ := hy
  cases a with
  | none => exact ⟨_, rfl, fun _ h => by cases h⟩
  | some a =>
    cases b with
    | none => exact ⟨_, rfl, fun _ h => by cases h⟩
    | some b => exact ⟨_, rfl, fun _ h => by cases h; rw [hr a rfl, hq b rfl]⟩
def appN : ByteArray := ⟨#[97, 112, 112]⟩
def lamN : ByteArray := ⟨#[108, 97, 109]⟩
theorem dexpr_ev : ∀ (N : Nat) (t : T), t.size ≤ N → t.tmok = true → ∀ i : Int, ∃ o : Option Pf, (∀ r, o = some r → r.size ≤ t.size ∧ r.sm) ∧ Ev fun n => i_readExpr n t i = some (rbk o) ∧ Bk o (s_l09Back n t i)
  | 0, t, hN, _, _ => by have := size_pos t; omega
  | N + 1, .mk k n s ks, hN, hok, i => by
    have hsz : (T.mk k n s ks).size = 1 + sizes ks := by simp only [T.size]
    rw [hsz] at hN
    obtain ⟨hks, _⟩ := kids_tmok hok
    have none_ok : ∀ r : Pf, (none : Option Pf) = some r → r.size ≤ (T.mk k n s ks).size ∧ r.sm := fun r h => by cases h
    by_cases k5 : k = 5
    · subst k5
      by_cases h0 : ks.length = 0
      · by_cases hi : n < i
        · refine ⟨some (Pf.mk 1 n [] []), fun r h => ?_, (Ev.of (p := fun _ => True) fun _ => trivial).up 0 fun m _ _ => ?_⟩
          · cases h
            refine ⟨by simp only [Pf.size, fsizes, psizes]; omega, ?_⟩
            unfold Pf.sm
            exact ⟨⟨by simp, fun t ht => by cases ht⟩, by simp, fun t ht => by cases ht⟩
          · refine ⟨?_, ?_⟩
            · rw [i_readExpr]; simp only [jn, tkind, tkids, tn, (show ((ks.length : Nat) : Int) = 0 by omega), hi, bne_self_eq_false, Bool.false_eq_true, if_false, if_true, Bool.not_true] <;> rfl
            · rw [s_l09Back]; simp only [jn, tkind, tkids, tn, (show ((ks.length : Nat) : Int) = 0 by omega), hi, bne_self_eq_false, Bool.false_eq_true, if_false, if_true, Bool.not_true]; exact ⟨_, congrArg some (Prod.ext rfl (decide_eq_true trivial)), fun f h => by cases h; rfl⟩
        · refine ⟨none, none_ok, (Ev.of (p := fun _ => True) fun _ => trivial).up 0 fun m _ _ => ?_⟩
          refine ⟨?_, ?_⟩
          · rw [i_readExpr]; simp only [jn, tkind, tkids, tn, (show ((ks.length : Nat) : Int) = 0 by omega), hi, show ((5 : Int) != 6) = true from rfl, bne_self_eq_false, Bool.false_eq_true, if_false, if_true, Bool.not_true] <;> rfl
          · rw [s_l09Back]; simp only [jn, tkind, tkids, tn, (show ((ks.length : Nat) : Int) = 0 by omega), hi, show ((5 : Int) != 6) = true from rfl, bne_self_eq_false, Bool.false_eq_true, if_false, if_true, Bool.not_true]; exact ⟨_, congrArg some (Prod.ext rfl (decide_eq_false id)), fun f h => by cases h⟩
      · refine ⟨none, none_ok, (Ev.of (p := fun _ => True) fun _ => trivial).up 0 fun m _ _ => ?_⟩
        refine ⟨?_, ?_⟩
        · rw [i_readExpr]; simp only [jn, tkind, tkids, tn, (show ¬ ((ks.length : Nat) : Int) = 0 by omega), show ((5 : Int) != 6) = true from rfl, bne_self_eq_false, Bool.false_eq_true, if_false, if_true, Bool.not_true] <;> rfl
        · rw [s_l09Back]; simp only [jn, tkind, tkids, tn, (show ¬ ((ks.length : Nat) : Int) = 0 by omega), show ((5 : Int) != 6) = true from rfl, bne_self_eq_false, Bool.false_eq_true, if_false, if_true, Bool.not_true]; exact ⟨_, rfl, fun f h => by cases h⟩
    · by_cases k6 : k = 6
      · subst k6
        by_cases h2 : ks.length = 2
        · match ks, h2, hN, hks, hsz, none_ok with
          | [a, b], _, hN, hks, hsz, none_ok =>
            simp only [tmoks, Bool.and_eq_true] at hks
            have hsab : sizes [a, b] = a.size + b.size := by simp only [sizes]; omega
            have hl2 : (((([a, b] : List T).length : Nat) : Int) != 2) = false := rfl
            rw [hsab] at hN hsz
            rw [hsz]
            by_cases ha : (s.toList == appN.toList) = true
            · obtain ⟨oa, sa, ea⟩ := dexpr_ev N a (by omega) hks.1 i
              obtain ⟨ob, sb, eb⟩ := dexpr_ev N b (by omega) hks.2.1 i
              refine ⟨bothE (fun x y => Pf.mk 2 0 [] [x, y]) oa ob, fun r h => ?_, (ea.and eb).up 0 fun m _ H => ?_⟩
              · cases oa with
                | none => cases h
                | some x =>
                  cases ob with
                  | none => cases h
                  | some y =>
                    cases h
                    have h1 := sa x rfl
                    have h2 := sb y rfl
                    refine ⟨by simp only [Pf.size, fsizes, psizes]; omega, ?_⟩
                    unfold Pf.sm
                    refine ⟨⟨by simp, fun t ht => by cases ht⟩, by simp, fun t ht => ?_⟩
                    rcases List.mem_cons.1 ht with rfl | ht
                    · exact h1.2
                    · rw [List.mem_singleton.1 ht]; exact h2.2
              · obtain ⟨⟨h1, h2⟩, h3, h4⟩ := H
                refine ⟨?_, ?_⟩
                · rw [i_readExpr]; simp only [jn, tkind, tkids, tname, k5, hl2, (show (s.toList == (⟨#[97, 112, 112]⟩ : ByteArray).toList) = true from ha), show idx [a, b] 0 = some a from rfl, show idx [a, b] 1 = some b from rfl, bind_some', bne_self_eq_false, Bool.false_eq_true, if_false, if_true, Bool.not_true]; rw [h1, h3]; exact bothE_i _ _ _
                · rw [s_l09Back]; simp only [jn, tkind, tkids, tname, k5, hl2, (show (s.toList == (⟨#[97, 112, 112]⟩ : ByteArray).toList) = true from ha), show idx [a, b] 0 = some a from rfl, show idx [a, b] 1 = some b from rfl, bind_some', bne_self_eq_false, Bool.false_eq_true, if_false, if_true, Bool.not_true]; exact bothE_s _ _ _ h2 h4
            · have ha' : ¬ (s.toList == (⟨#[97, 112, 112]⟩ : ByteArray).toList) = true := ha
              by_cases hl : (s.toList == lamN.toList) = true
              · have hl' : (s.toList == (⟨#[108, 97, 109]⟩ : ByteArray).toList) = true := hl
                have hl'' : ¬ (!(s.toList == (⟨#[108, 97, 109]⟩ : ByteArray).toList)) = true := by rw [hl']; decide
                obtain ⟨kb, nb, sb, kk⟩ := b
                by_cases k4 : kb = 4
                · subst k4
                  obtain ⟨hkk, hone⟩ := kids_tmok hks.2.1
                  have hlen := hone rfl
                  match kk, hlen, hkk, hsab, hsz, hN with
                  | [c], _, hkk, hsab, hsz, hN =>
                    simp only [tmoks, Bool.and_eq_true] at hkk
                    have hbs : (T.mk 4 nb sb [c]).size = 1 + c.size := by simp only [T.size, sizes]; omega
                    rw [hbs] at hN ⊢
                    obtain ⟨oc, sc, ec⟩ := dexpr_ev N c (by omega) hkk.1 (IntKind.i64.wrap (i + 1))
                    refine ⟨bothE (fun x y => Pf.mk 3 0 [x] [y]) a.tyd oc, fun r h => ?_, ((back_ev a).and ec).up 0 fun m _ H => ?_⟩
                    · cases hta : a.tyd with
                      | none => rw [hta] at h; cases h
                      | some x =>
                        rw [hta] at h
                        cases oc with
                        | none => cases h
                        | some y =>
                          cases h
                          have h1 := tyd_size a x hta
                          have h2 := sc y rfl
                          refine ⟨by simp only [Pf.size, fsizes, psizes]; omega, ?_⟩
                          unfold Pf.sm
                          refine ⟨⟨by simp, fun t ht => ?_⟩, by simp, fun t ht => ?_⟩
                          · rw [List.mem_singleton.1 ht]; exact h1.2
                          · rw [List.mem_singleton.1 ht]; exact h2.2
                    · obtain ⟨⟨h1, h2⟩, h3, h4⟩ := H
                      refine ⟨?_, ?_⟩
                      · rw [i_readExpr]; simp only [jn, tkind, tkids, tname, k5, show (((([a, T.mk 4 nb sb [c]] : List T).length : Nat) : Int) != 2) = false from rfl, ha', hl'', hl', show idx [a, T.mk 4 nb sb [c]] 0 = some a from rfl, show idx [a, T.mk 4 nb sb [c]] 1 = some (T.mk 4 nb sb [c]) from rfl, show idx [c] 0 = some c from rfl, bind_some', bne_self_eq_false, Bool.false_eq_true, if_false, if_true, Bool.not_true]; rw [show i_readType m a = some (rbk a.tyd) by rw [h1]; cases a.tyd <;> rfl, h3]; exact bothE_i _ _ _
                      · rw [s_l09Back]; simp only [jn, tkind, tkids, tname, k5, show (((([a, T.mk 4 nb sb [c]] : List T).length : Nat) : Int) != 2) = false from rfl, ha', hl'', hl', show idx [a, T.mk 4 nb sb [c]] 0 = some a from rfl, show idx [a, T.mk 4 nb sb [c]] 1 = some (T.mk 4 nb sb [c]) from rfl, show idx [c] 0 = some c from rfl, bind_some', bne_self_eq_false, Bool.false_eq_true, if_false, if_true, Bool.not_true]; exact bothE_s _ _ _ h2 h4
                · have k4' : (kb != 4) = true := by simpa using k4
                  refine ⟨none, (fun r h => by cases h), (Ev.of (p := fun _ => True) fun _ => trivial).up 0 fun m _ _ => ?_⟩
                  refine ⟨?_, ?_⟩
                  · rw [i_readExpr]; simp only [jn, tkind, tkids, tname, k5, show (((([a, T.mk kb nb sb kk] : List T).length : Nat) : Int) != 2) = false from rfl, ha', hl'', hl', show idx [a, T.mk kb nb sb kk] 1 = some (T.mk kb nb sb kk) from rfl, bind_some', k4', bne_self_eq_false, Bool.false_eq_true, if_false, if_true, Bool.not_true] <;> rfl
                  · rw [s_l09Back]; simp only [jn, tkind, tkids, tname, k5, show (((([a, T.mk kb nb sb kk] : List T).length : Nat) : Int) != 2) = false from rfl, ha', hl'', hl', show idx [a, T.mk kb nb sb kk] 1 = some (T.mk kb nb sb kk) from rfl, bind_some', k4', bne_self_eq_false, Bool.false_eq_true, if_false, if_true, Bool.not_true]; exact ⟨_, rfl, fun f h => by cases h⟩
              · have hl' : ¬ (s.toList == (⟨#[108, 97, 109]⟩ : ByteArray).toList) = true := hl
                have hl'' : (!(s.toList == (⟨#[108, 97, 109]⟩ : ByteArray).toList)) = true := by simpa using hl'
                refine ⟨none, (fun r h => by cases h), (Ev.of (p := fun _ => True) fun _ => trivial).up 0 fun m _ _ => ?_⟩
                refine ⟨?_, ?_⟩
                · rw [i_readExpr]; simp only [jn, tkind, tkids, tname, k5, hl2, ha', hl'', hl', bne_self_eq_false, Bool.false_eq_true, if_false, if_true, Bool.not_true] <;> rfl
                · rw [s_l09Back]; simp only [jn, tkind, tkids, tname, k5, hl2, ha', hl'', hl', bne_self_eq_false, Bool.false_eq_true, if_false, if_true, Bool.not_true]; exact ⟨_, rfl, fun f h => by cases h⟩
        · have h2' : (((ks.length : Nat) : Int) != 2) = true := by simp only [bne_iff_ne]; omega
          refine ⟨none, none_ok, (Ev.of (p := fun _ => True) fun _ => trivial).up 0 fun m _ _ => ?_⟩
          refine ⟨?_, ?_⟩
          · rw [i_readExpr]; simp only [jn, tkind, tkids, k5, h2', bne_self_eq_false, Bool.false_eq_true, if_false, if_true, Bool.not_true] <;> rfl
          · rw [s_l09Back]; simp only [jn, tkind, tkids, k5, h2', bne_self_eq_false, Bool.false_eq_true, if_false, if_true, Bool.not_true]; exact ⟨_, rfl, fun f h => by cases h⟩
      · have k6' : (k != 6) = true := by simpa using k6
        refine ⟨none, none_ok, (Ev.of (p := fun _ => True) fun _ => trivial).up 0 fun m _ _ => ?_⟩
        refine ⟨?_, ?_⟩
        · rw [i_readExpr]; simp only [jn, tkind, tkids, k5, k6', bne_self_eq_false, Bool.false_eq_true, if_false, if_true, Bool.not_true] <;> rfl
        · rw [s_l09Back]; simp only [jn, tkind, tkids, k5, k6', bne_self_eq_false, Bool.false_eq_true, if_false, if_true, Bool.not_true]; exact ⟨_, rfl, fun f h => by cases h⟩

end Go.Am.YtiobknkpdkkikaaDoor
