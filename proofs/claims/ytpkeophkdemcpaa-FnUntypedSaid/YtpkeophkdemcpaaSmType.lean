/- Plain laws: sameness and copies of Types, the program's and the reference's. -/
import Derived.Test.YtpkeophkdemcpaaPuA
import Derived.Test.YtpkeophkdemcpaaPuType
import Derived.Test.YtpkeophkdemcpaaMxTA
namespace Go.Am
open Go

mutual
def F.beq : F → F → Bool
 | .mk k n ks, .mk k2 n2 ks2 => decide (k = k2) && (decide (n = n2) && fbeqs ks ks2)
def fbeqs : List F → List F → Bool
 | [], [] => true
 | a :: r, b :: s => a.beq b && fbeqs r s
 | [], _ :: _ => false
 | _ :: _, [] => false
end
theorem fbeqs_len : ∀ {a b : List F}, a.length ≠ b.length → fbeqs a b = false
 | [], [], h => absurd rfl h
 | [], _ :: _, _ => by simp [fbeqs]
 | _ :: _, [], _ => by simp [fbeqs]
 | x :: a, y :: b, h => by
  simp only [fbeqs]
  rw [fbeqs_len (a := a) (b := b) (by simpa using h), Bool.and_false]

end Go.Am
namespace Go.Am.Ytpkeophkdemcpaa
open Go Go.Am

theorem chk_snocF {β : Type} {a : List F} {t : F} {k : Option β} (h : a.length ≤ 3000000) : chk (a.length + [t].length ≤ 1099511627776) k = k := chk_of (by simp; omega)

theorem copyS_loop (rec : F → Option F) (x : F) (hl : x.kids.length ≤ 1048576) (H : ∀ y ∈ x.kids, rec y = some y) :
  ∀ (r a : List F) (m : Nat), x.kids = a ++ r → r.length < m → s_l09Copy_L1 rec x m a.length a = some x
 | [], a, m, e, hm => by
  obtain ⟨m, rfl⟩ : ∃ k, m = k + 1 := ⟨m - 1, by omega⟩
  obtain ⟨k, n, ks⟩ := x
  have e' : ks = a ++ [] := e
  rw [s_l09Copy_L1, e, if_neg (lt_end a), List.append_nil] at *
  rw [e']; rfl
 | y :: r, a, m, e, hm => by
  obtain ⟨m, rfl⟩ : ∃ k, m = k + 1 := ⟨m - 1, by omega⟩
  have hy : y ∈ x.kids := by rw [e]; simp
  have e1 : (a.length : Int) < (x.kids.length : Int) := by rw [e]; exact lt_mid a y r
  have e2 : idx x.kids (a.length : Int) = some y := by rw [e]; exact idx_mid a y r
  have hal : a.length ≤ 1048576 := by rw [e] at hl; simp at hl; omega
  rw [s_l09Copy_L1, if_pos e1, e2, bind_some', H y hy, bind_some', chk_snocF (by omega)]
  rw [show IntKind.i64.wrap ((a.length : Int) + 1) = ((a ++ [y]).length : Int) from w64_mid a y r (by rw [← e]; omega)]
  exact copyS_loop rec x hl H r (a ++ [y]) m (by simp [e]) (by simpa using hm)

theorem copyS_ev (t : F) (hsm : t.sm) : Ev fun n => s_l09Copy n t = some t := by
 induction t using F.ind with
 | _ k n ks ih =>
  obtain ⟨hl, hks⟩ := fsm_kids hsm
  refine (Ev.all fun t ht => ih t ht (hks t ht)).up (ks.length + 1) fun fu hn H => ?_
  rw [s_l09Copy]
  exact copyS_loop _ (F.mk k n ks) hl H ks [] fu rfl (by omega)

theorem clone_loop (rec : F → Option F) (x : F) (hl : x.kids.length ≤ 1048576) (H : ∀ y ∈ x.kids, rec y = some y) :
  ∀ (r a : List F) (m : Nat), x.kids = a ++ r → r.length < m → i_cloneType_L1 rec x m a.length a = some x
 | [], a, m, e, hm => by
  obtain ⟨m, rfl⟩ : ∃ k, m = k + 1 := ⟨m - 1, by omega⟩
  obtain ⟨k, n, ks⟩ := x
  have e' : ks = a ++ [] := e
  rw [i_cloneType_L1, e, if_neg (lt_end a), List.append_nil] at *
  rw [e']; rfl
 | y :: r, a, m, e, hm => by
  obtain ⟨m, rfl⟩ : ∃ k, m = k + 1 := ⟨m - 1, by omega⟩
  have hy : y ∈ x.kids := by rw [e]; simp
  have e1 : (a.length : Int) < (x.kids.length : Int) := by rw [e]; exact lt_mid a y r
  have e2 : idx x.kids (a.length : Int) = some y := by rw [e]; exact idx_mid a y r
  have hal : a.length ≤ 1048576 := by rw [e] at hl; simp at hl; omega
  rw [i_cloneType_L1, if_pos e1, e2, bind_some', H y hy, bind_some', chk_snocF (by omega)]
  rw [show IntKind.i64.wrap ((a.length : Int) + 1) = ((a ++ [y]).length : Int) from w64_mid a y r (by rw [← e]; omega)]
  exact clone_loop rec x hl H r (a ++ [y]) m (by simp [e]) (by simpa using hm)

theorem clone_ev (t : F) (hsm : t.sm) : Ev fun n => i_cloneType n t = some t := by
 induction t using F.ind with
 | _ k n ks ih =>
  obtain ⟨hl, hks⟩ := fsm_kids hsm
  refine (Ev.all fun t ht => ih t ht (hks t ht)).up (ks.length + 1) fun fu hn H => ?_
  rw [i_cloneType]
  exact clone_loop _ (F.mk k n ks) hl H ks [] fu rfl (by omega)

theorem sameI_loop (rec : F → F → Option Bool) (l l2 : List F) (hl : l.length ≤ 1048576) (hl2 : l.length = l2.length) (H : ∀ y ∈ l, ∀ z, rec y z = some (y.beq z)) :
  ∀ (r a r2 a2 : List F) (m : Nat), l = a ++ r → l2 = a2 ++ r2 → a.length = a2.length → r.length < m → g_EqualFunc_Type__fn_i_sameType_L1 rec l l2 m a.length = some (fbeqs r r2)
 | [], a, r2, a2, m, e, e2, ea, hm => by
  obtain ⟨m, rfl⟩ : ∃ k, m = k + 1 := ⟨m - 1, by omega⟩
  have : r2 = [] := by
   rw [e, e2] at hl2; simp at hl2
   exact List.length_eq_zero_iff.1 (by omega)
  subst this
  rw [g_EqualFunc_Type__fn_i_sameType_L1, e, if_neg (lt_end a)]; simp [fbeqs]
 | y :: r, a, r2, a2, m, e, e2, ea, hm => by
  obtain ⟨m, rfl⟩ : ∃ k, m = k + 1 := ⟨m - 1, by omega⟩
  obtain ⟨z, r2, rfl⟩ : ∃ z s, r2 = z :: s := by
   cases r2 with
   | nil => rw [e, e2] at hl2; simp at hl2; omega
   | cons z s => exact ⟨z, s, rfl⟩
  have hy : y ∈ l := by rw [e]; simp
  have h1 : (a.length : Int) < (l.length : Int) := by rw [e]; exact lt_mid a y r
  have h2 : idx l (a.length : Int) = some y := by rw [e]; exact idx_mid a y r
  have h3 : idx l2 (a.length : Int) = some z := by rw [e2, ea]; exact idx_mid a2 z r2
  rw [g_EqualFunc_Type__fn_i_sameType_L1, if_pos h1, h2, bind_some', h3, bind_some', H y hy z, bind_some']
  simp only [fbeqs]
  cases hq : y.beq z with
  | false => rfl
  | true =>
   rw [if_neg (by decide), show IntKind.i64.wrap ((a.length : Int) + 1) = ((a ++ [y]).length : Int) from w64_mid a y r (by rw [← e]; omega), Bool.true_and]
   exact sameI_loop rec l l2 hl hl2 H r (a ++ [y]) r2 (a2 ++ [z]) m (by simp [e]) (by simp [e2]) (by simp [ea]) (by simpa using hm)

theorem sameI_ev (t : F) (hsm : t.sm) : Ev fun n => ∀ s, i_sameType n t s = some (t.beq s) := by
 induction t using F.ind with
 | _ k n ks ih =>
  obtain ⟨hl, hks⟩ := fsm_kids hsm
  have hE : Ev fun fu => ∀ ks2, g_EqualFunc_Type__fn_i_sameType fu ks ks2 = some (fbeqs ks ks2) := by
   refine (Ev.all fun t ht => ih t ht (hks t ht)).up (ks.length + 1) fun fu hn H ks2 => ?_
   rw [g_EqualFunc_Type__fn_i_sameType]
   by_cases he : ks.length = ks2.length
   ·rw [if_neg (by simp [he])]
    exact sameI_loop _ ks ks2 hl he H ks [] ks2 [] fu rfl rfl rfl (by omega)
   rw [if_pos (by simp; omega), fbeqs_len he]
  refine hE.up 0 fun fu _ H s => ?_
  obtain ⟨k2, n2, ks2⟩ := s
  rw [i_sameType]
  simp only [fkind, fn, fkids, F.beq, H ks2, bind_some']
  by_cases h1 : k = k2
  ·by_cases h2 : n = n2
   ·rw [if_pos h1, if_pos h2, decide_eq_true h1, decide_eq_true h2]; rfl
   rw [if_pos h1, if_neg h2, decide_eq_false h2]; simp
  rw [if_neg h1, decide_eq_false h1]; rfl

theorem sameS_loop (rec : F → F → Option Bool) (x x2 : F) (hl : x.kids.length ≤ 1048576) (hl2 : x.kids.length = x2.kids.length) (H : ∀ y ∈ x.kids, ∀ z, rec y z = some (y.beq z)) :
  ∀ (r a r2 a2 : List F) (m : Nat), x.kids = a ++ r → x2.kids = a2 ++ r2 → a.length = a2.length → r.length < m → s_l09Same_L1 rec x x2 m a.length = some (fbeqs r r2)
 | [], a, r2, a2, m, e, e2, ea, hm => by
  obtain ⟨m, rfl⟩ : ∃ k, m = k + 1 := ⟨m - 1, by omega⟩
  have : r2 = [] := by
   rw [e, e2] at hl2; simp at hl2
   exact List.length_eq_zero_iff.1 (by omega)
  subst this
  rw [s_l09Same_L1, e, if_neg (lt_end a)]; simp [fbeqs]
 | y :: r, a, r2, a2, m, e, e2, ea, hm => by
  obtain ⟨m, rfl⟩ : ∃ k, m = k + 1 := ⟨m - 1, by omega⟩
  obtain ⟨z, r2, rfl⟩ : ∃ z s, r2 = z :: s := by
   cases r2 with
   | nil => rw [e, e2] at hl2; simp at hl2; omega
   | cons z s => exact ⟨z, s, rfl⟩
  have hy : y ∈ x.kids := by rw [e]; simp
  have h1 : (a.length : Int) < (x.kids.length : Int) := by rw [e]; exact lt_mid a y r
  have h2 : idx x.kids (a.length : Int) = some y := by rw [e]; exact idx_mid a y r
  have h3 : idx x2.kids (a.length : Int) = some z := by rw [e2, ea]; exact idx_mid a2 z r2
  rw [s_l09Same_L1, if_pos h1, h2, bind_some', h3, bind_some', H y hy z, bind_some']
  simp only [fbeqs]
  cases hq : y.beq z with
  | false => rfl
  | true =>
   rw [if_neg (by decide), show IntKind.i64.wrap ((a.length : Int) + 1) = ((a ++ [y]).length : Int) from w64_mid a y r (by rw [← e]; omega), Bool.true_and]
   exact sameS_loop rec x x2 hl hl2 H r (a ++ [y]) r2 (a2 ++ [z]) m (by simp [e]) (by simp [e2]) (by simp [ea]) (by simpa using hm)

theorem sameS_ev (t : F) (hsm : t.sm) : Ev fun n => ∀ s, s_l09Same n t s = some (t.beq s) := by
 induction t using F.ind with
 | _ k n ks ih =>
  obtain ⟨hl, hks⟩ := fsm_kids hsm
  refine (Ev.all fun t ht => ih t ht (hks t ht)).up (ks.length + 1) fun fu hn H s => ?_
  obtain ⟨k2, n2, ks2⟩ := s
  have e0 : s_l09Same (fu + 1) (F.mk k n ks) (F.mk k2 n2 ks2) = if (k != k2) = true then some false else if (n != n2) = true then some false else if ((ks.length : Int) != (ks2.length : Int)) = true then some false else s_l09Same_L1 (s_l09Same fu) (F.mk k n ks) (F.mk k2 n2 ks2) fu 0 := by rw [s_l09Same]; rfl
  rw [e0]
  simp only [F.beq]
  by_cases h1 : k = k2
  ·by_cases h2 : n = n2
   ·rw [if_neg (by simp [h1]), if_neg (by simp [h2]), decide_eq_true h1, decide_eq_true h2]
    by_cases he : ks.length = ks2.length
    ·rw [if_neg (by simp [he])]
     simp only [Bool.true_and]
     exact sameS_loop _ (F.mk k n ks) (F.mk k2 n2 ks2) hl he H ks [] ks2 [] fu rfl rfl rfl (by omega)
    rw [if_pos (by simp; omega), fbeqs_len he]; rfl
   rw [if_neg (by simp [h1]), if_pos (by simp [h2]), decide_eq_false h2]; simp
  rw [if_pos (by simp [h1]), decide_eq_false h1]; rfl

end Go.Am.Ytpkeophkdemcpaa
