/- Plain laws: what is too big, the reference's way. -/
import Derived.Test.YtpkeophkdemcpaaPuTree
import Derived.Test.YtpkeophkdemcpaaMxA
import Derived.Test.YtpkeophkdemcpaaMxB
namespace Go.Am.Ytpkeophkdemcpaa
open Go Go.Am

mutual
def T.vok : T → Bool
 | .mk k n _ ks => !(decide (k = 5) && decide (n > 100)) && tvoks ks
def tvoks : List T → Bool
 | [] => true
 | t :: r => T.vok t && tvoks r
end
end Go.Am.Ytpkeophkdemcpaa
namespace Go.Am.Ytpkeophkdemcpaa
open Go Go.Am

def cl1 (i : Int) (c : Nat) : Int := if (c : Int) ≤ i then i - c else -1
theorem cl1_le {i : Int} {c : Nat} (h : (c : Int) ≤ i) : cl1 i c = i - c := if_pos h
theorem cl1_gt {i : Int} {c : Nat} (h : ¬ (c : Int) ≤ i) : cl1 i c = -1 := if_neg h

theorem count_loop (rec : T → Int → Option Int) (x : T) (hl : x.kids.length ≤ 9223372036854775807) (H : ∀ y ∈ x.kids, ∀ i, 0 ≤ i → i ≤ 1000 → rec y i = some (cl1 i (T.nodes y))) :
  ∀ (r a : List T) (m : Nat), x.kids = a ++ r → r.length < m → ∀ i, -1 ≤ i → i ≤ 1000 → s_l01Count_L1 rec x m i a.length = some (if i < 0 then i else cl1 i (tnodes r))
 | [], a, m, e, hm, i, h0, h1 => by
  obtain ⟨m, rfl⟩ : ∃ k, m = k + 1 := ⟨m - 1, by omega⟩
  rw [s_l01Count_L1, e, if_neg (lt_end a)]
  by_cases hb : i < 0
  ·rw [if_pos hb]
  rw [if_neg hb, cl1_le (by simp [tnodes]; omega)]; simp [tnodes]
 | y :: r, a, m, e, hm, i, h0, h1 => by
  obtain ⟨m, rfl⟩ : ∃ k, m = k + 1 := ⟨m - 1, by omega⟩
  have e1 : (a.length : Int) < (x.kids.length : Int) := by rw [e]; exact lt_mid a y r
  have e2 : idx x.kids (a.length : Int) = some y := by rw [e]; exact idx_mid a y r
  have hy : y ∈ x.kids := by rw [e]; simp
  have hw : IntKind.i64.wrap ((a.length : Int) + 1) = ((a ++ [y]).length : Int) := w64_mid a y r (by rw [← e]; omega)
  rw [s_l01Count_L1, if_pos e1]
  by_cases hb : i < 0
  ·rw [if_neg (by omega), if_pos hb]
  rw [if_pos (by omega), e2, bind_some', H y hy i (by omega) h1, bind_some', hw, if_neg hb]
  simp only [tnodes]
  by_cases hc : (T.nodes y : Int) ≤ i
  ·rw [cl1_le hc, count_loop rec x hl H r (a ++ [y]) m (by simp [e]) (by simpa using hm) _ (by omega) (by omega), if_neg (by omega)]
   by_cases hd : (tnodes r : Int) ≤ i - T.nodes y
   ·rw [cl1_le hd, cl1_le (by push_cast; omega)]; push_cast; congr 1; omega
   rw [cl1_gt hd, cl1_gt (by push_cast; omega)]
  rw [cl1_gt hc, count_loop rec x hl H r (a ++ [y]) m (by simp [e]) (by simpa using hm) _ (by omega) (by omega), if_pos (by omega), cl1_gt (by push_cast; omega)]

theorem count_ev (t : T) (hf : T.fits t) : Ev fun n => ∀ i, 0 ≤ i → i ≤ 1000 → s_l01Count n t i = some (cl1 i (T.nodes t)) := by
 induction t using T.ind with
 | _ k n s ks ih =>
  unfold T.fits at hf
  refine (Ev.all fun t ht => ih t ht (hf.2 t ht)).up (ks.length + 1) fun m hm H i h0 h1 => ?_
  have hn : (T.nodes (T.mk k n s ks) : Int) = 1 + (tnodes ks : Int) := by unfold T.nodes; push_cast; rfl
  have := count_loop (s_l01Count m) (T.mk k n s ks) hf.1 H ks [] m rfl (by omega) (i - 1) (by omega) (by omega)
  rw [s_l01Count, w64_eq (by omega) (by omega), show ((0 : Int)) = (([] : List T).length : Int) from rfl, this]
  by_cases hb : i - 1 < 0
  ·rw [if_pos hb, cl1_gt (by rw [hn]; omega)]; congr 1; omega
  rw [if_neg hb]
  by_cases hc : (tnodes ks : Int) ≤ i - 1
  ·rw [cl1_le hc, cl1_le (by rw [hn]; omega), hn]; congr 1; omega
  rw [cl1_gt hc, cl1_gt (by rw [hn]; omega)]

end Go.Am.Ytpkeophkdemcpaa
