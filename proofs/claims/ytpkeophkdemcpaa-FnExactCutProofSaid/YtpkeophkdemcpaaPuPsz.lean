/- Plain laws: how many steps a proof or an expression has; stops. -/
import Derived.Test.YtpkeophkdemcpaaPuB
import Derived.Test.YtpkeophkdemcpaaMi3
namespace Go.Am
open Go

theorem zb_some {α β : Type} (z : Rz α) (k : α → Option (Rz β)) : zb (some z) k = z.bd k := rfl

mutual
def Pf.psz : Pf → Int
 | .mk _ _ _ ks => 1 + ppszs ks
def ppszs : List Pf → Int
 | [] => 0
 | t :: r => t.psz + ppszs r
end
theorem ppszs_le_of : ∀ ks : List Pf, (∀ t ∈ ks, 1 ≤ t.psz ∧ t.psz ≤ (t.size : Int)) → 0 ≤ ppszs ks ∧ ppszs ks ≤ (psizes ks : Int)
 | [], _ => by simp [ppszs, psizes]
 | t :: r, h => by
  have h1 := h t (List.mem_cons_self ..)
  have h2 := ppszs_le_of r fun t ht => h t (List.mem_cons_of_mem _ ht)
  simp only [ppszs, psizes]
  push_cast
  omega
theorem ppsz_le (t : Pf) : 1 ≤ t.psz ∧ t.psz ≤ (t.size : Int) := by
 induction t using Pf.ind with
 | _ k n fs ks ih =>
  have := ppszs_le_of ks ih
  simp only [Pf.psz, Pf.size]
  push_cast
  omega
theorem ppszs_le (ks : List Pf) : 0 ≤ ppszs ks ∧ ppszs ks ≤ (psizes ks : Int) := ppszs_le_of ks fun t _ => ppsz_le t

def F.zz : F := F.mk 0 0 []
def fa (fs : List F) : F := (fs[0]?).getD F.zz
def fb (fs : List F) : F := (fs[1]?).getD (F.mk 4 0 [])
theorem psizes_mem : ∀ {ks : List Pf} {t : Pf}, t ∈ ks → t.size ≤ psizes ks
 | [], t, h => by cases h
 | x :: r, t, h => by
  simp only [psizes]
  rcases List.mem_cons.1 h with rfl | h
  ·omega
  have := psizes_mem h; omega

def Rz.enc : Rz F → F × Int × Int
 | .ok f => (f, 0, 0)
 | .stop c p => (F.zz, c, p)

theorem fzz_sm : F.zz.sm := by unfold F.zz F.sm; exact ⟨by simp, fun t h => by cases h⟩
theorem f2_sm {k n : Int} {a b : F} (ha : a.sm) (hb : b.sm) : (F.mk k n [a, b]).sm := by
 unfold F.sm; exact ⟨by simp, fun t h => by simp at h; rcases h with rfl | rfl <;> assumption⟩
theorem fbot_sm : (F.mk 4 0 []).sm := by unfold F.sm; exact ⟨by simp, fun t h => by cases h⟩
theorem fa_sm {fs : List F} (h : ∀ t ∈ fs, t.sm) : (fa fs).sm := by
 unfold fa
 cases e : fs[0]? with
 | none => exact fzz_sm
 | some x => exact h x (List.mem_of_getElem? e)
theorem fb_sm {fs : List F} (h : ∀ t ∈ fs, t.sm) : (fb fs).sm := by
 unfold fb
 cases e : fs[1]? with
 | none => exact fbot_sm
 | some x => exact h x (List.mem_of_getElem? e)
end Go.Am
