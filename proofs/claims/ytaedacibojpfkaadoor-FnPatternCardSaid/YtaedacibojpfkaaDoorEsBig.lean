/- Plain laws: what is too big: more than 150 nodes, or a variable above 100. -/
import Derived.Test.YtaedacibojpfkaaDoorEsUnd
namespace Go.Am
open Go
mutual
def T.hi : T → Bool
  | .mk k n _ ks => (decide (k = 5) && decide (n > 100)) || his ks
def his : List T → Bool
  | [] => false
  | t :: r => t.hi || his r
end
def bigB (t : T) : Bool := decide (t.size > 150) || t.hi
end Go.Am
namespace Go.Am.YtaedacibojpfkaaDoor
open Go Go.Am

theorem shigh_lp (rec : T → Option Bool) (x : T) (hl : x.kids.length ≤ 9223372036854775800) (H : ∀ y ∈ x.kids, rec y = some y.hi) :
    ∀ (r a : List T) (m : Nat), x.kids = a ++ r → r.length < m → s_l01High_L1 rec x m a.length = some (his r)
  | [], a, m, e, hm => by
    obtain ⟨m, rfl⟩ : ∃ k, m = k + 1 := ⟨m - 1, by omega⟩
    rw [s_l01High_L1, e, if_neg (lt_end a)]; rfl
  | y :: r, a, m, e, hm => by
    obtain ⟨m, rfl⟩ : ∃ k, m = k + 1 := ⟨m - 1, by omega⟩
    have hy : y ∈ x.kids := by rw [e]; simp
    have e1 : (a.length : Int) < (x.kids.length : Int) := by rw [e]; exact lt_mid a y r
    have e2 : idx x.kids (a.length : Int) = some y := by rw [e]; exact idx_mid a y r
    have hw : IntKind.i64.wrap ((a.length : Int) + 1) = ((a ++ [y]).length : Int) := w64_mid a y r (by rw [← e]; omega)
    have ih := shigh_lp rec x hl H r (a ++ [y]) m (by simp [e]) (by simpa using hm)
    rw [s_l01High_L1, if_pos e1, e2, bind_some', H y hy, bind_some', hw, ih]
    simp only [his]
    cases y.hi <;> rfl
theorem shigh_ev (t : T) : t.size ≤ 9223372036854775800 → Ev fun n => s_l01High n t = some t.hi := by
  induction t using T.ind with
  | _ k n s ks ih =>
    intro hsz
    have hs1 : (T.mk k n s ks).size = 1 + sizes ks := by simp only [T.size]
    rw [hs1] at hsz
    have hlen := length_sizes ks
    refine (Ev.all fun t ht => ih t ht (by have := sizes_mem ht; omega)).up (ks.length + 1) fun fu hn H => ?_
    have hlp := shigh_lp (s_l01High fu) (T.mk k n s ks) (by rw [tkids]; omega) H ks [] fu rfl (by omega)
    have hlp : s_l01High_L1 (s_l01High fu) (T.mk k n s ks) fu 0 = some (his ks) := hlp
    have e0 : s_l01High (fu + 1) (T.mk k n s ks) = if k = 5 then (if n > 100 then some true else s_l01High_L1 (s_l01High fu) (T.mk k n s ks) fu 0) else s_l01High_L1 (s_l01High fu) (T.mk k n s ks) fu 0 := by rw [s_l01High]; rfl
    rw [e0, hlp]
    simp only [T.hi]
    by_cases k5 : k = 5
    · rw [if_pos k5, decide_eq_true k5]
      by_cases n1 : n > 100
      · rw [if_pos n1, decide_eq_true n1]; rfl
      · rw [if_neg n1, decide_eq_false n1]; rfl
    · rw [if_neg k5, decide_eq_false k5]; rfl

/-- A run of the count: whether it is too big, and how many there were where it is not. -/
def TB (x : Option (Bool × Int)) (i : Int) (s : Nat) (h : Bool) : Prop :=
  ∃ c, x = some (decide (i + (s : Int) > 150) || h, c) ∧ ((decide (i + (s : Int) > 150) || h) = false → c = i + s)
theorem TB.yes {x : Option (Bool × Int)} {i c : Int} {s : Nat} {h : Bool} (e : x = some (true, c)) (hb : (decide (i + (s : Int) > 150) || h) = true) : TB x i s h := ⟨c, by rw [e, hb], fun q => by rw [hb] at q; cases q⟩

end Go.Am.YtaedacibojpfkaaDoor
