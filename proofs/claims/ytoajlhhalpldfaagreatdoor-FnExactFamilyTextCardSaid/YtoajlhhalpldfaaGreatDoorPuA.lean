/- Plain laws, first part: what holds of every fuel that is great enough; loops over lists. -/
import Derived.Test.YtoajlhhalpldfaaGreatDoorMi1
import Derived.Test.YtoajlhhalpldfaaGreatDoorAm4
namespace Go.Am
open Go

def Ev (p : Nat → Prop) : Prop := ∃ N, ∀ n, N ≤ n → p n

theorem Ev.of {p : Nat → Prop} (h : ∀ n, p n) : Ev p := ⟨0, fun n _ => h n⟩
theorem Ev.get {p : Nat → Prop} (h : Ev p) : ∃ n, p n := let ⟨N, h⟩ := h; ⟨N, h N (Nat.le_refl _)⟩
theorem Ev.and {p q : Nat → Prop} (h : Ev p) (k : Ev q) : Ev (fun n => p n ∧ q n) :=
 let ⟨N, h⟩ := h; let ⟨M, k⟩ := k; ⟨max N M, fun n hn => ⟨h n (by omega), k n (by omega)⟩⟩
theorem Ev.mp {p q : Nat → Prop} (h : Ev p) (k : ∀ n, p n → q n) : Ev q := let ⟨N, h⟩ := h; ⟨N, fun n hn => k n (h n hn)⟩
theorem Ev.up {p q : Nat → Prop} (h : Ev p) (K : Nat) (k : ∀ n, K ≤ n → p n → q (n + 1)) : Ev q :=
 let ⟨N, h⟩ := h; ⟨max N K + 1, fun n hn => by
  obtain ⟨m, rfl⟩ : ∃ m, n = m + 1 := ⟨n - 1, by omega⟩
  exact k m (by omega) (h m (by omega))⟩
theorem Ev.at {p q : Nat → Prop} (h : Ev p) (K : Nat) (k : ∀ n, K ≤ n → p n → q n) : Ev q :=
 let ⟨N, h⟩ := h; ⟨max N K, fun n hn => k n (by omega) (h n (by omega))⟩
theorem Ev.all {α : Type} : ∀ {l : List α} {p : α → Nat → Prop}, (∀ x ∈ l, Ev (p x)) → Ev (fun n => ∀ x ∈ l, p x n)
 | [], p, h => .of fun n x hx => by cases hx
 | a :: l, p, h => by
  refine ((h a (List.mem_cons_self ..)).and (Ev.all fun x hx => h x (List.mem_cons_of_mem _ hx))).mp fun n ⟨h1, h2⟩ x hx => ?_
  rcases List.mem_cons.1 hx with rfl | hx
  ·exact h1
  exact h2 x hx

theorem w64_eq {x : Int} (h : -9223372036854775808 ≤ x) (h2 : x ≤ 9223372036854775807) : IntKind.i64.wrap x = x := IntWalk.i64_in _ (by omega)

theorem idx_mid {α : Type} (a : List α) (y : α) (r : List α) : idx (a ++ y :: r) (a.length : Int) = some y := by rw [idx_nat]; simp
theorem lt_mid {α : Type} (a : List α) (y : α) (r : List α) : (a.length : Int) < ((a ++ y :: r).length : Int) := by simp; omega
theorem lt_end {α : Type} (a : List α) : ¬ (a.length : Int) < ((a ++ []).length : Int) := by simp
theorem w64_mid {α : Type} (a : List α) (y : α) (r : List α) (h : (a ++ y :: r).length ≤ 9223372036854775807) : IntKind.i64.wrap ((a.length : Int) + 1) = ((a ++ [y]).length : Int) := by
 rw [w64_eq (by omega) (by simp at h; omega)]; simp
theorem bind_some' {α β : Type} (x : α) (k : α → Option β) : (some x).bind k = k x := rfl
theorem chk_of {α : Type} {p : Prop} [Decidable p] {k : Option α} (h : p) : chk p k = k := if_pos h
theorem jn_eq {α β : Type} (k : α) (f : α → β) : jn k f = f k := rfl

theorem fn (k n : Int) (ks : List F) : (F.mk k n ks).n = n := rfl
theorem tn (k n : Int) (s : ByteArray) (ks : List T) : (T.mk k n s ks).n = n := rfl
theorem tkids (k n : Int) (s : ByteArray) (ks : List T) : (T.mk k n s ks).kids = ks := rfl

end Go.Am
