/- Plain laws: sameness. -/
import Derived.Test.YtiobknkpdkkikaaDoorPuA
import Derived.Test.YtiobknkpdkkikaaDoorPuB
import Derived.Test.YtiobknkpdkkikaaDoorEwDProof
namespace Go.Am.YtiobknkpdkkikaaDoor
open Go Go.Am

theorem eqForm_loop (rec : F → F → Option Bool) (l : List F) (hl : l.length ≤ 1048576) (H : ∀ y ∈ l, rec y y = some true) :
    ∀ (r a : List F) (m : Nat), l = a ++ r → r.length < m → w_eqFormS_L1 rec l l m a.length = some true
  | [], a, m, e, hm => by
    obtain ⟨m, rfl⟩ : ∃ k, m = k + 1 := ⟨m - 1, by omega⟩
    subst e
    rw [w_eqFormS_L1, if_neg (lt_end a)]
  | y :: r, a, m, e, hm => by
    obtain ⟨m, rfl⟩ : ∃ k, m = k + 1 := ⟨m - 1, by omega⟩
    have hy : y ∈ l := by rw [e]; simp
    have hs := H y hy
    rw [w_eqFormS_L1]
    have e1 : (a.length : Int) < (l.length : Int) := by rw [e]; exact lt_mid a y r
    have e2 : idx l (a.length : Int) = some y := by rw [e]; exact idx_mid a y r
    rw [if_pos e1, e2, bind_some', bind_some', hs, bind_some']
    rw [show IntKind.i64.wrap ((a.length : Int) + 1) = ((a ++ [y]).length : Int) from w64_mid a y r (by rw [← e]; omega)]
    exact eqForm_loop rec l hl H r (a ++ [y]) m (by simp [e]) (by simpa using hm)

theorem eqFormS_ev (ks : List F) (hl : ks.length ≤ 1048576) (hk : ∀ t ∈ ks, Ev fun n => w_eqForm n t t = some true) : Ev fun n => w_eqFormS n ks ks = some true := by
  refine (Ev.all hk).up (ks.length + 1) fun n hn H => ?_
  rw [w_eqFormS, if_neg (by simp)]
  exact eqForm_loop _ ks hl H ks [] n rfl (by omega)

theorem eqForm_ev (t : F) (hsm : t.sm) : Ev fun n => w_eqForm n t t = some true := by
  induction t using F.ind with
  | _ k n ks ih =>
    obtain ⟨hl, hks⟩ := fsm_kids hsm
    refine (eqFormS_ev ks hl fun t ht => ih t ht (hks t ht)).up 0 fun n _ H => ?_
    rw [w_eqForm, if_neg (by simp), if_neg (by simp), show (F.mk k _ ks).kids = ks from rfl, H, bind_some', if_neg (by simp)]

theorem eqProof_loop (rec : Pf → Pf → Option Bool) (l : List Pf) (hl : l.length ≤ 1048576) (H : ∀ y ∈ l, rec y y = some true) :
    ∀ (r a : List Pf) (m : Nat), l = a ++ r → r.length < m → w_eqProofS_L1 rec l l m a.length = some true
  | [], a, m, e, hm => by
    obtain ⟨m, rfl⟩ : ∃ k, m = k + 1 := ⟨m - 1, by omega⟩
    subst e
    rw [w_eqProofS_L1, if_neg (lt_end a)]
  | y :: r, a, m, e, hm => by
    obtain ⟨m, rfl⟩ : ∃ k, m = k + 1 := ⟨m - 1, by omega⟩
    have hy : y ∈ l := by rw [e]; simp
    have hs := H y hy
    rw [w_eqProofS_L1]
    have e1 : (a.length : Int) < (l.length : Int) := by rw [e]; exact lt_mid a y r
    have e2 : idx l (a.length : Int) = some y := by rw [e]; exact idx_mid a y r
    rw [if_pos e1, e2, bind_some', bind_some', hs, bind_some']
    rw [show IntKind.i64.wrap ((a.length : Int) + 1) = ((a ++ [y]).length : Int) from w64_mid a y r (by rw [← e]; omega)]
    exact eqProof_loop rec l hl H r (a ++ [y]) m (by simp [e]) (by simpa using hm)

theorem eqProofS_ev (ks : List Pf) (hl : ks.length ≤ 1048576) (hk : ∀ t ∈ ks, Ev fun n => w_eqProof n t t = some true) : Ev fun n => w_eqProofS n ks ks = some true := by
  refine (Ev.all hk).up (ks.length + 1) fun n hn H => ?_
  rw [w_eqProofS, if_neg (by simp)]
  exact eqProof_loop _ ks hl H ks [] n rfl (by omega)

theorem eqProof_ev (t : Pf) (hsm : t.sm) : Ev fun n => w_eqProof n t t = some true := by
  induction t using Pf.ind with
  | _ k n fs ks ih =>
    obtain ⟨⟨hfl, hfs⟩, hl, hks⟩ := psm_kids hsm
    refine ((eqFormS_ev fs hfl fun t ht => eqForm_ev t (hfs t ht)).and (eqProofS_ev ks hl fun t ht => ih t ht (hks t ht))).up 0 fun n _ H => ?_
    rw [w_eqProof, if_neg (by simp), if_neg (by simp), show (Pf.mk k _ fs ks).kids = ks from rfl, show (Pf.mk k _ fs ks).forms = fs from rfl, H.1, bind_some', if_neg (by simp), H.2, bind_some', if_neg (by simp)]

end Go.Am.YtiobknkpdkkikaaDoor

