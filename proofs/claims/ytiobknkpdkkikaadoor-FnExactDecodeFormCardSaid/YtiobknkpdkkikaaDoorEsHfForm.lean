/- Plain laws: the marks are there as long as nobody writes them. -/
import Derived.Test.YtiobknkpdkkikaaDoorEsEqForm
import Derived.Test.YtiobknkpdkkikaaDoorPuMark
namespace Go.Am.YtiobknkpdkkikaaDoor
open Go Go.Am

theorem fsizes_app : ∀ (a b : List F), fsizes (a ++ b) = fsizes a + fsizes b
  | [], b => by simp [fsizes]
  | x :: a, b => by simp only [List.cons_append, fsizes, fsizes_app a b]; omega
theorem fmarks_app : ∀ (a b : List F) (k : Int), fmarks (a ++ b) k = ((fmarks a k).1 ++ (fmarks b (fmarks a k).2).1, (fmarks b (fmarks a k).2).2)
  | [], b, k => rfl
  | x :: a, b, k => by simp only [List.cons_append, fmarks, fmarks_app a b]
theorem fmarks_len : ∀ (a : List F) (k : Int), (fmarks a k).1.length = a.length
  | [], _ => rfl
  | x :: a, k => by simp only [fmarks, List.length_cons, fmarks_len a]
theorem fsizes_len : ∀ a : List F, a.length ≤ fsizes a
  | [] => Nat.le_refl _
  | x :: a => by have := fsizes_len a; have := fsize_pos x; simp only [List.length_cons, fsizes]; omega

theorem heldForm_loop (rec : List F → Int → Option Int) (ks : List F) (k : Int) (h0 : 0 ≤ k) (hb : k + 2 * (fsizes ks : Int) ≤ 9223372036854775807)
    (H : ∀ y ∈ ks, ∀ k, 0 ≤ k → k + 2 * (fsizes y.kids : Int) ≤ 9223372036854775807 → rec (fmarks y.kids k).1 k = some (k + 2 * (fsizes y.kids : Int))) :
    ∀ (r a : List F) (m : Nat), ks = a ++ r → r.length < m → w_heldFormS_L1 rec (fmarks ks k).1 m (k + 2 * (fsizes a : Int)) a.length = some (k + 2 * (fsizes ks : Int))
  | [], a, m, e, hm => by
    obtain ⟨m, rfl⟩ : ∃ k, m = k + 1 := ⟨m - 1, by omega⟩
    rw [List.append_nil] at e
    subst e
    rw [w_heldFormS_L1, if_neg (by rw [fmarks_len]; omega)]
  | y :: r, a, m, e, hm => by
    obtain ⟨m, rfl⟩ : ∃ k, m = k + 1 := ⟨m - 1, by omega⟩
    have hb' := hb
    rw [e, fsizes_app] at hb'
    simp only [fsizes] at hb'
    push_cast at hb'
    have hsa := fmarks_snd a k h0 (by omega)
    have hl1 : (fmarks ks k).1 = (fmarks a k).1 ++ (F.mark y (k + 2 * (fsizes a : Int))).1 :: (fmarks r (F.mark y (k + 2 * (fsizes a : Int))).2).1 := by
      rw [e, fmarks_app, hsa]; simp only [fmarks]
    have hal := fmarks_len a k
    have hy : y ∈ ks := by rw [e]; simp
    have hlt : (a.length : Int) < ((fmarks ks k).1.length : Int) := by rw [fmarks_len, e]; exact lt_mid a y r
    have hix : idx (fmarks ks k).1 (a.length : Int) = some (F.mark y (k + 2 * (fsizes a : Int))).1 := by rw [hl1, ← hal]; exact idx_mid _ _ _
    have hw : IntKind.i64.wrap ((a.length : Int) + 1) = ((a ++ [y]).length : Int) := by
      have := fsizes_len ks
      rw [e] at this
      refine w64_mid a y r ?_
      rw [← e] at this ⊢
      omega
    obtain ⟨k1, n1, kk⟩ := y
    have hyn : ((F.mk k1 n1 kk).size : Int) = 1 + (fsizes kk : Int) := by unfold F.size; push_cast; rfl
    rw [hyn] at hb'
    have hH : rec (fmarks kk (k + 2 * (fsizes a : Int) + 1 + 1)).1 (k + 2 * (fsizes a : Int) + 1 + 1) = some (k + 2 * (fsizes a : Int) + 1 + 1 + 2 * (fsizes kk : Int)) :=
      H _ hy (k + 2 * (fsizes a : Int) + 1 + 1) (by omega) (by show _ + 2 * (fsizes kk : Int) ≤ _; omega)
    have hmk : (F.mark (F.mk k1 n1 kk) (k + 2 * (fsizes a : Int))).1 = F.mk (k + 2 * (fsizes a : Int)) (k + 2 * (fsizes a : Int) + 1) (fmarks kk (k + 2 * (fsizes a : Int) + 1 + 1)).1 := by
      simp only [F.mark]
      rw [nx_in' (k := k + 2 * (fsizes a : Int)) (by omega) (by omega), nx_in' (k := k + 2 * (fsizes a : Int) + 1) (by omega) (by omega)]
    rw [hmk] at hix
    have w1 : IntKind.i64.wrap (k + 2 * (fsizes a : Int) + 1) = k + 2 * (fsizes a : Int) + 1 := w64_eq (by omega) (by omega)
    have w2 : IntKind.i64.wrap (k + 2 * (fsizes a : Int) + 1 + 1) = k + 2 * (fsizes a : Int) + 1 + 1 := w64_eq (by omega) (by omega)
    have hneg : ¬ k + 2 * (fsizes a : Int) + 1 + 1 + 2 * (fsizes kk : Int) < 0 := by omega
    rw [w_heldFormS_L1, if_pos hlt, hix]
    simp only [bind_some', fkind, fn, fkids, bne_self_eq_false, Bool.false_eq_true, if_false, w1, w2, hH, if_neg hneg, hw]
    have hna : k + 2 * (fsizes a : Int) + 1 + 1 + 2 * (fsizes kk : Int) = k + 2 * (fsizes (a ++ [F.mk k1 n1 kk]) : Int) := by
      rw [fsizes_app]
      simp only [fsizes]
      push_cast
      rw [hyn]
      omega
    rw [hna]
    exact heldForm_loop rec ks k h0 hb H r (a ++ [F.mk k1 n1 kk]) m (by simp [e]) (by simpa using hm)

theorem heldFormS_ev (ks : List F) (hk : ∀ t ∈ ks, Ev fun n => ∀ k, 0 ≤ k → k + 2 * (fsizes t.kids : Int) ≤ 9223372036854775807 → w_heldFormS n (fmarks t.kids k).1 k = some (k + 2 * (fsizes t.kids : Int))) :
    Ev fun n => ∀ k, 0 ≤ k → k + 2 * (fsizes ks : Int) ≤ 9223372036854775807 → w_heldFormS n (fmarks ks k).1 k = some (k + 2 * (fsizes ks : Int)) := by
  refine (Ev.all hk).up (ks.length + 1) fun n hn H k h0 hb => ?_
  rw [w_heldFormS]
  have := heldForm_loop (w_heldFormS n) ks k h0 hb H ks [] n rfl (by omega)
  simpa [fsizes] using this

theorem heldForms_ev (ks : List F) : Ev fun n => ∀ k, 0 ≤ k → k + 2 * (fsizes ks : Int) ≤ 9223372036854775807 → w_heldFormS n (fmarks ks k).1 k = some (k + 2 * (fsizes ks : Int)) := by
  refine heldFormS_ev ks fun t ht => ?_
  clear ht
  induction t using F.ind with
  | _ k n kk ih => exact heldFormS_ev kk ih

theorem heldForm_ev (t : F) (hb : 2 * (t.size : Int) ≤ 9223372036854775807) : Ev fun n => w_markForm t 1 = some ((fmarks t.kids 1).1, 1 + 2 * (fsizes t.kids : Int)) ∧
    w_heldForm n (F.mk t.kind t.n (fmarks t.kids 1).1) 1 = some (1 + 2 * (fsizes t.kids : Int)) := by
  obtain ⟨k, n, ks⟩ := t
  unfold F.size at hb
  push_cast at hb
  refine (heldForms_ev ks).mp fun m h => ⟨?_, ?_⟩
  · unfold w_markForm
    exact congrArg some (Prod.ext rfl (fmarks_snd ks 1 (by omega) (by omega)))
  · unfold w_heldForm
    rw [fkids, fkids, h 1 (by omega) (by omega), bind_some', if_neg (by omega)]

end Go.Am.YtiobknkpdkkikaaDoor
