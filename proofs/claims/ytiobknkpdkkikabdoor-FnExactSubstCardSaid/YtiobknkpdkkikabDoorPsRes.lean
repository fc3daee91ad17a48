/- Plain laws: what is formed; copies. -/
import Derived.Test.YtiobknkpdkkikabDoorEsLift
import Derived.Test.YtiobknkpdkkikabDoorPuPsz0
import Derived.Test.YtiobknkpdkkikabDoorEkRes
namespace Go.Am.YtiobknkpdkkikabDoor
open Go Go.Am

theorem formed_ev (t : T) (hs : t.size ≤ 9223372036854775800) : Ev fun n => i_formed n t = some (if bigB t = true then .stop 11 0 else .ok t) := by
  refine (tooBigT_ev t hs).mp fun n h => ?_
  unfold i_formed
  rw [h, bind_some']
  cases bigB t <;> rfl
theorem cloneAll_lp (rec : T → Option T) (l : List T) (hl : l.length ≤ 1048576) (H : ∀ y ∈ l, rec y = some y) :
    ∀ (r a : List T) (m : Nat), l = a ++ r → r.length < m → i_cloneAll_L1 rec l m a.length a = some l
  | [], a, m, e, hm => by
    obtain ⟨m, rfl⟩ : ∃ k, m = k + 1 := ⟨m - 1, by omega⟩
    subst e
    rw [i_cloneAll_L1, if_neg (lt_end a)]; simp
  | y :: r, a, m, e, hm => by
    obtain ⟨m, rfl⟩ : ∃ k, m = k + 1 := ⟨m - 1, by omega⟩
    have hy : y ∈ l := by rw [e]; simp
    have e1 : (a.length : Int) < (l.length : Int) := by rw [e]; exact lt_mid a y r
    have e2 : idx l (a.length : Int) = some y := by rw [e]; exact idx_mid a y r
    have hlen : a.length ≤ l.length := by rw [e]; simp
    rw [i_cloneAll_L1, if_pos e1, e2, bind_some', H y hy, bind_some', chk_of (by simp; omega)]
    rw [show IntKind.i64.wrap ((a.length : Int) + 1) = ((a ++ [y]).length : Int) from w64_mid a y r (by rw [← e]; omega)]
    exact cloneAll_lp rec l hl H r (a ++ [y]) m (by simp [e]) (by simpa using hm)
theorem clone_ev (t : T) (hsm : t.sm) : Ev fun n => i_clone n t = some t := by
  induction t using T.ind with
  | _ k n s ks ih =>
    obtain ⟨_, hl, hks⟩ := sm_kids hsm
    have hS : Ev fun fu => i_cloneAll fu ks = some ks := by
      refine (Ev.all fun t ht => ih t ht (hks t ht)).up (ks.length + 1) fun n hn H => ?_
      rw [i_cloneAll]
      exact cloneAll_lp _ ks hl H ks [] n rfl (by omega)
    refine hS.up 0 fun fu _ H => ?_
    rw [i_clone, show (T.mk k n s ks).kids = ks from rfl, H, bind_some']; rfl
/-- Trees of few nodes and no names. -/
theorem size_len {k n : Int} {s : ByteArray} {ks : List T} : ks.length < (T.mk k n s ks).size := by
  have := length_sizes ks
  simp only [T.size]; omega

end Go.Am.YtiobknkpdkkikabDoor
