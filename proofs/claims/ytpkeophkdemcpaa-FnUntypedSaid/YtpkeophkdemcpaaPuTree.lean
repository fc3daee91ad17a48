/- Plain laws of trees: a tree equals itself; what is marked is held; what is too big. -/
import Derived.Test.YtpkeophkdemcpaaMi1
import Derived.Test.YtpkeophkdemcpaaTypes
import Derived.Test.YtpkeophkdemcpaaMi2
import Derived.Test.YtpkeophkdemcpaaPuA
namespace Go.Am.Ytpkeophkdemcpaa
open Go Go.Am

def w_eqTreeS_L1 (rec_w_eqTree : T → T → Option Bool) (l1 : List T) (l2 : List T) : Nat → Int → Option Bool
 | 0, _ => none
 | m + 1, i4 =>
  if i4 < ((l1).length : Int) then
   (idx l1 i4).bind fun y6 =>
   (idx l2 i4).bind fun y11 =>
   (rec_w_eqTree y6 y11).bind fun r16 =>
   if (!r16) = true then
    some false
   else
    w_eqTreeS_L1 rec_w_eqTree l1 l2 m (IntKind.i64.wrap (i4 + 1))
  else
   some true

mutual

def w_eqTree : Nat → T → T → Option Bool
 | 0, _, _ => none
 | n + 1, x1, x2 =>
  if (x1.kind != x2.kind) = true then
   some false
  else
   if (x1.n != x2.n) = true then
    some false
   else
    if (!(x1.name.toList == x2.name.toList)) = true then
     some false
    else
     (w_eqTreeS n x1.kids x2.kids).bind fun r6 =>
     if (!r6) = true then
      some false
     else
      some true

def w_eqTreeS : Nat → List T → List T → Option Bool
 | 0, _, _ => none
 | n + 1, l1, l2 =>
  if (((l1).length : Int) != ((l2).length : Int)) = true then
   some false
  else
   w_eqTreeS_L1 (w_eqTree n) l1 l2 n 0

end

end Go.Am.Ytpkeophkdemcpaa
namespace Go.Am.Ytpkeophkdemcpaa
open Go Go.Am

end Go.Am.Ytpkeophkdemcpaa
-- packed
namespace Go.Am.Ytpkeophkdemcpaa
open Go Go.Am

end Go.Am.Ytpkeophkdemcpaa
namespace Go.Am.Ytpkeophkdemcpaa
open Go Go.Am

end Go.Am.Ytpkeophkdemcpaa
namespace Go.Am.Ytpkeophkdemcpaa
open Go Go.Am

def T.fits : T → Prop
 | .mk _ _ _ ks => ks.length ≤ 9223372036854775807 ∧ ∀ t ∈ ks, T.fits t

mutual
def T.nodes : T → Nat
 | .mk _ _ _ ks => 1 + tnodes ks
def tnodes : List T → Nat
 | [] => 0
 | t :: r => T.nodes t + tnodes r
end
theorem tnodes_app : ∀ (a b : List T), tnodes (a ++ b) = tnodes a + tnodes b
 | [], b => by simp [tnodes]
 | t :: r, b => by simp only [List.cons_append, tnodes, tnodes_app r b]; omega
theorem tnodes_len : ∀ (a : List T), a.length ≤ tnodes a
 | [] => Nat.zero_le _
 | t :: r => by
  have := tnodes_len r
  have h1 : 1 ≤ T.nodes t := by cases t; unfold T.nodes; omega
  simp only [List.length_cons, tnodes]; omega
theorem nodes_fits (t : T) : T.nodes t ≤ 9223372036854775807 → T.fits t := by
 induction t using T.ind with
 | _ k n s ks ih =>
  intro h
  unfold T.nodes at h
  unfold T.fits
  have hl := tnodes_len ks
  refine ⟨by omega, fun t ht => ih t ht ?_⟩
  obtain ⟨a, b, rfl⟩ := List.append_of_mem ht
  rw [tnodes_app] at h
  simp only [tnodes] at h
  omega

theorem nx_in {k : Int} (h0 : -9223372036854775808 ≤ k) (h : k < 9223372036854775807) : nx k = k + 1 := by unfold nx; exact w64_eq (by omega) (by omega)

mutual
theorem mark_snd (mt : Int → ByteArray) : ∀ (t : T) (k : Int), 0 ≤ k → k + 3 * (T.nodes t : Int) ≤ 9223372036854775807 → (T.mark mt t k).2 = k + 3 * (T.nodes t : Int)
 | .mk a b s ks, k, h0, h => by
  unfold T.nodes at h ⊢
  rw [show (T.mark mt (T.mk a b s ks) k).2 = (tmarks mt ks (nx (nx (nx k)))).2 by simp only [T.mark]]
  push_cast at h ⊢
  rw [nx_in (k := k) (by omega) (by omega), nx_in (k := k + 1) (by omega) (by omega), nx_in (k := k + 1 + 1) (by omega) (by omega), tmarks_snd mt ks _ (by omega) (by omega)]
  omega
theorem tmarks_snd (mt : Int → ByteArray) : ∀ (ks : List T) (k : Int), 0 ≤ k → k + 3 * (tnodes ks : Int) ≤ 9223372036854775807 → (tmarks mt ks k).2 = k + 3 * (tnodes ks : Int)
 | [], k, _, _ => by simp [tmarks, tnodes]
 | t :: r, k, h0, h => by
  simp only [tnodes] at h ⊢
  push_cast at h ⊢
  simp only [tmarks]
  rw [mark_snd mt t k h0 (by omega), tmarks_snd mt r _ (by omega) (by omega)]
  omega
end

end Go.Am.Ytpkeophkdemcpaa
