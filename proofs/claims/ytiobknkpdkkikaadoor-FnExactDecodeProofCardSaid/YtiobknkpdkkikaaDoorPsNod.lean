/- Plain laws: nodes and sizes. -/
import Derived.Test.YtiobknkpdkkikaaDoorPuTree
namespace Go.Am.YtiobknkpdkkikaaDoor
open Go Go.Am

theorem nodes_size (t : T) : T.nodes t = t.size := by
  induction t using T.ind with
  | _ k n s ks ih =>
    have key : ∀ l : List T, (∀ t ∈ l, T.nodes t = t.size) → tnodes l = sizes l := by
      intro l
      induction l with
      | nil => intro _; rfl
      | cons a r ih2 => intro h; simp only [tnodes, sizes]; rw [h a (by simp), ih2 fun t ht => h t (by simp [ht])]
    simp only [T.nodes, T.size]
    rw [key ks ih]

end Go.Am.YtiobknkpdkkikaaDoor
