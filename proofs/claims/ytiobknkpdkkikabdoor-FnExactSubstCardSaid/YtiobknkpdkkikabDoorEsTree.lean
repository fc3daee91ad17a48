/- Plain laws: right trees. -/
import Derived.Test.YtiobknkpdkkikabDoorEsOKT
import Derived.Test.YtiobknkpdkkikabDoorPsFam
import Derived.Test.YtiobknkpdkkikabDoorEsPut
import Derived.Test.YtiobknkpdkkikabDoorEkTree
namespace Go.Am.YtiobknkpdkkikabDoor
open Go Go.Am

theorem specFamilyOK_ev (t : T) (hsm : t.sm) : Ev fun n => s_FamilyOK n t = some (decide (t.size ≤ 150) && t.faok false) := by
  refine ((small_ev t hsm).and (specFam_ev t hsm)).mp fun n ⟨h1, h2⟩ => ?_
  unfold s_FamilyOK
  rw [h1, bind_some', h2]
  cases decide (t.size ≤ 150) <;> rfl
theorem implFamilyOK_ev (t : T) (hsm : t.sm) : Ev fun n => i_FamilyOK n t = some (decide (t.size ≤ 150) && t.faok false) := by
  refine (implFamA_ev t hsm).mp fun n h => ?_
  obtain ⟨l', e, _⟩ := h 150 (by omega) (by omega)
  have e : i_looker_family n (150, false) t false = _ := e
  unfold i_FamilyOK
  rw [e, bind_some', show decide (t.size ≤ 150) = decide ((t.size : Int) ≤ 150) from decide_eq_decide.2 (by omega)]

theorem specKindOK_ev (t : T) (hsm : t.sm) : Ev fun n => s_KindOK n t = some (decide (t.size ≤ 150) && t.faok true) := by
  refine ((small_ev t hsm).and (specKind_ev t hsm)).mp fun n ⟨h1, h2⟩ => ?_
  unfold s_KindOK
  rw [h1, bind_some', h2]
  cases decide (t.size ≤ 150) <;> rfl
theorem implKindOK_ev (t : T) (hsm : t.sm) : Ev fun n => i_KindOK n t = some (decide (t.size ≤ 150) && t.faok true) := by
  refine (implKindA_ev t hsm).mp fun n h => ?_
  obtain ⟨l', e, _⟩ := h 150 (by omega) (by omega)
  have e : i_looker_family n (150, false) t true = _ := e
  unfold i_KindOK
  rw [e, bind_some', show decide (t.size ≤ 150) = decide ((t.size : Int) ≤ 150) from decide_eq_decide.2 (by omega)]


/-- A term, a family or a kind. -/
def rightB (t : T) : Bool := decide (t.size ≤ 150) && (t.tmok || (t.faok false || t.faok true))
theorem specRight_ev (t : T) (hsm : t.sm) : Ev fun n => s_l01Right n t = some (rightB t) := by
  refine ((specTermOK_ev t hsm).and ((specFamilyOK_ev t hsm).and (specKindOK_ev t hsm))).mp fun n ⟨h1, h2, h3⟩ => ?_
  unfold s_l01Right rightB
  rw [h1, bind_some', h2, bind_some', h3, bind_some']
  cases decide (t.size ≤ 150) <;> cases t.tmok <;> cases t.faok false <;> cases t.faok true <;> rfl
theorem treeOK_ev (t : T) (hsm : t.sm) : Ev fun n => i_treeOK n t = some (rightB t) := by
  refine ((implTermOK_ev t hsm).and ((implFamilyOK_ev t hsm).and (implKindOK_ev t hsm))).mp fun n ⟨h1, h2, h3⟩ => ?_
  unfold i_treeOK rightB
  rw [h1, bind_some', h2, bind_some', h3, bind_some']
  cases decide (t.size ≤ 150) <;> cases t.tmok <;> cases t.faok false <;> cases t.faok true <;> rfl
theorem faoks_mem : ∀ {ks : List T} {b : Bool}, faoks ks b = true → ∀ t ∈ ks, ∃ c, t.faok c = true
  | [], _, _, t, h => by cases h
  | a :: r, b, h, t, ht => by
    simp only [faoks, Bool.and_eq_true] at h
    rcases List.mem_cons.1 ht with rfl | ht
    · exact ⟨_, h.1⟩
    · exact faoks_mem h.2 t ht
theorem faok_fit (t : T) : ∀ b, t.faok b = true → t.fit ∧ t.hi = false := by
  induction t using T.ind with
  | _ k n s ks ih =>
    intro b h
    have hh : ∀ (l : List T), (∀ t ∈ l, t.hi = false) → his l = false := by
      intro l
      induction l with
      | nil => intro _; rfl
      | cons a r ih2 => intro h; simp only [his]; rw [h a (by simp), ih2 fun t ht => h t (by simp [ht])]; rfl
    rw [fit_eq]
    simp only [T.faok] at h
    simp only [T.hi]
    by_cases k1 : k = 1
    · rw [if_pos k1] at h
      simp only [Bool.and_eq_true, decide_eq_true_eq] at h
      obtain ⟨_, h0, _, hl⟩ := h
      obtain rfl := List.length_eq_zero_iff.1 hl
      refine ⟨⟨fun q => by omega, fun q => by omega, fun t ht => by cases ht⟩, ?_⟩
      rw [decide_eq_false (show ¬ k = 5 by omega)]; rfl
    · rw [if_neg k1] at h
      by_cases k3 : k = 3
      · rw [if_pos k3] at h
        simp only [Bool.and_eq_true, decide_eq_true_eq] at h
        have hk := fun t ht => tmok_fit t (tmoks_fit h.2.2.2 t ht)
        refine ⟨⟨fun q => by omega, fun q => by omega, fun t ht => (hk t ht).1⟩, ?_⟩
        rw [hh ks fun t ht => (hk t ht).2, decide_eq_false (show ¬ k = 5 by omega)]; rfl
      · rw [if_neg k3] at h
        by_cases k2 : k = 2
        · rw [if_pos k2] at h
          simp only [Bool.and_eq_true, decide_eq_true_eq] at h
          have hk : ∀ t ∈ ks, t.fit ∧ t.hi = false := fun t ht => by
            obtain ⟨c, hc⟩ := faoks_mem h.2.2.2 t ht
            exact ih t ht c hc
          refine ⟨⟨fun q => by omega, fun q => by omega, fun t ht => (hk t ht).1⟩, ?_⟩
          rw [hh ks fun t ht => (hk t ht).2, decide_eq_false (show ¬ k = 5 by omega)]; rfl
        · rw [if_neg k2] at h; cases h
theorem right_gd {t : T} (h : rightB t = true) (hsm : t.sm) : t.gd := by
  unfold rightB at h
  simp only [Bool.and_eq_true, decide_eq_true_eq, Bool.or_eq_true] at h
  have : t.fit ∧ t.hi = false := by
    rcases h.2 with h | h | h
    · exact tmok_fit t h
    · exact faok_fit t _ h
    · exact faok_fit t _ h
  exact ⟨h.1, this.2, this.1, hsm⟩

end Go.Am.YtiobknkpdkkikabDoor
