/- Plain laws: sameness and copies of Types, the program's and the reference's. -/
import Derived.Test.YtpkeophkdemcpaaPuType
import Derived.Test.YtpkeophkdemcpaaPuSame
import Derived.Test.YtpkeophkdemcpaaMxTA
namespace Go.Am.Ytpkeophkdemcpaa
open Go Go.Am

theorem chk_snocF {β : Type} {a : List F} {t : F} {k : Option β} (h : a.length ≤ 3000000) : chk (a.length + [t].length ≤ 1099511627776) k = k := chk_of (by simp; omega)

theorem copyS_loop (rec : F → Option F) (x : F) (hl : x.kids.length ≤ 1048576) (H : ∀ y ∈ x.kids, rec y = some y) :
  ∀ (r a : List F) (m : Nat), x.kids = a ++ r → r.length < m → s_l09Copy_L1 rec x m a.length a = some x
 | [], a, m, e, hm => by
  obtain ⟨m, rfl⟩ : ∃ k, m = k + 1 := ⟨m - 1, by omega⟩
  obtain ⟨k, n, ks⟩ := x
  have e' : ks = a ++ [] := e
  rw [s_l09Copy_L1, e, if_neg (lt_end a), List.append_nil] at *
  rw [e']; rfl
 | y :: r, a, m, e, hm => by
  obtain ⟨m, rfl⟩ : ∃ k, m = k + 1 := ⟨m - 1, by omega⟩
  have hy : y ∈ x.kids := by rw [e]; simp
  have e1 : (a.length : Int) < (x.kids.length : Int) := by rw [e]; exact lt_mid a y r
  have e2 : idx x.kids (a.length : Int) = some y := by rw [e]; exact idx_mid a y r
  have hal : a.length ≤ 1048576 := by rw [e] at hl; simp at hl; omega
  rw [s_l09Copy_L1, if_pos e1, e2, bind_some', H y hy, bind_some', chk_snocF (by omega)]
  rw [show IntKind.i64.wrap ((a.length : Int) + 1) = ((a ++ [y]).length : Int) from w64_mid a y r (by rw [← e]; omega)]
  exact copyS_loop rec x hl H r (a ++ [y]) m (by simp [e]) (by simpa using hm)

theorem copyS_ev (t : F) (hsm : t.sm) : Ev fun n => s_l09Copy n t = some t := by
 induction t using F.ind with
 | _ k n ks ih =>
  obtain ⟨hl, hks⟩ := fsm_kids hsm
  refine (Ev.all fun t ht => ih t ht (hks t ht)).up (ks.length + 1) fun fu hn H => ?_
  rw [s_l09Copy]
  exact copyS_loop _ (F.mk k n ks) hl H ks [] fu rfl (by omega)

theorem clone_loop (rec : F → Option F) (x : F) (hl : x.kids.length ≤ 1048576) (H : ∀ y ∈ x.kids, rec y = some y) :
  ∀ (r a : List F) (m : Nat), x.kids = a ++ r → r.length < m → i_cloneType_L1 rec x m a.length a = some x
 | [], a, m, e, hm => by
  obtain ⟨m, rfl⟩ : ∃ k, m = k + 1 := ⟨m - 1, by omega⟩
  obtain ⟨k, n, ks⟩ := x
  have e' : ks = a ++ [] := e
  rw [i_cloneType_L1, e, if_neg (lt_end a), List.append_nil] at *
  rw [e']; rfl
 | y :: r, a, m, e, hm => by
  obtain ⟨m, rfl⟩ : ∃ k, m = k + 1 := ⟨m - 1, by omega⟩
  have hy : y ∈ x.kids := by rw [e]; simp
  have e1 : (a.length : Int) < (x.kids.length : Int) := by rw [e]; exact lt_mid a y r
  have e2 : idx x.kids (a.length : Int) = some y := by rw [e]; exact idx_mid a y r
  have hal : a.length ≤ 1048576 := by rw [e] at hl; simp at hl; omega
  rw [i_cloneType_L1, if_pos e1, e2, bind_some', H y hy, bind_some', chk_snocF (by omega)]
  rw [show IntKind.i64.wrap ((a.length : Int) + 1) = ((a ++ [y]).length : Int) from w64_mid a y r (by rw [← e]; omega)]
  exact clone_loop rec x hl H r (a ++ [y]) m (by simp [e]) (by simpa using hm)

theorem clone_ev (t : F) (hsm : t.sm) : Ev fun n => i_cloneType n t = some t := by
 induction t using F.ind with
 | _ k n ks ih =>
  obtain ⟨hl, hks⟩ := fsm_kids hsm
  refine (Ev.all fun t ht => ih t ht (hks t ht)).up (ks.length + 1) fun fu hn H => ?_
  rw [i_cloneType]
  exact clone_loop _ (F.mk k n ks) hl H ks [] fu rfl (by omega)

/-! Sameness. -/
end Go.Am.Ytpkeophkdemcpaa
