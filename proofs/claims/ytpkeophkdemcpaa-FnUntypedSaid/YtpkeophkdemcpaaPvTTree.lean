/- Plain laws: the tree of a type: the reference's way and the program's. -/
import Derived.Test.YtpkeophkdemcpaaPuA
import Derived.Test.YtpkeophkdemcpaaMi2
import Derived.Test.YtpkeophkdemcpaaPuBigS
import Derived.Test.YtpkeophkdemcpaaPvType
import Derived.Test.YtpkeophkdemcpaaRdA
namespace Go.Am
open Go

theorem nx_in' {k : Int} (h0 : -9223372036854775808 ≤ k) (h : k < 9223372036854775807) : nx k = k + 1 := by unfold nx; exact w64_eq (by omega) (by omega)

mutual
theorem fmark_snd : ∀ (t : F) (k : Int), 0 ≤ k → k + 2 * (t.size : Int) ≤ 9223372036854775807 → (t.mark k).2 = k + 2 * (t.size : Int)
 | .mk a b ks, k, h0, h => by
  unfold F.size at h ⊢
  rw [show ((F.mk a b ks).mark k).2 = (fmarks ks (nx (nx k))).2 by simp only [F.mark]]
  push_cast at h ⊢
  rw [nx_in' (k := k) (by omega) (by omega), nx_in' (k := k + 1) (by omega) (by omega), fmarks_snd ks _ (by omega) (by omega)]
  omega
theorem fmarks_snd : ∀ (ks : List F) (k : Int), 0 ≤ k → k + 2 * (fsizes ks : Int) ≤ 9223372036854775807 → (fmarks ks k).2 = k + 2 * (fsizes ks : Int)
 | [], k, _, _ => by simp [fmarks, fsizes]
 | t :: r, k, h0, h => by
  simp only [fsizes] at h ⊢
  push_cast at h ⊢
  simp only [fmarks]
  rw [fmark_snd t k h0 (by omega), fmarks_snd r _ (by omega) (by omega)]
  omega
end

mutual
theorem fsz_cnt : ∀ (t : F) (left : Int), 0 ≤ t.sz left → (t.size : Int) - 1 ≤ left - t.sz left
 | .mk k n ks, left, h => by
  simp only [F.sz] at h ⊢
  by_cases hb : left - (ks.length : Int) < 0
  ·rw [if_pos hb] at h; omega
  rw [if_neg hb] at h ⊢
  have := fszs_cnt ks _ h
  simp only [F.size]
  push_cast
  omega
theorem fszs_cnt : ∀ (ks : List F) (left : Int), 0 ≤ fszs ks left → (fsizes ks : Int) - (ks.length : Int) ≤ left - fszs ks left
 | [], left, h => by simp [fsizes, fszs]
 | t :: r, left, h => by
  simp only [fszs] at h ⊢
  by_cases hb : t.sz left < 0
  ·rw [if_pos hb] at h; omega
  rw [if_neg hb] at h ⊢
  have h1 := fsz_cnt t left (by omega)
  have h2 := fszs_cnt r _ h
  simp only [fsizes, List.length_cons]
  push_cast
  omega
end

end Go.Am
namespace Go.Am.Ytpkeophkdemcpaa
open Go Go.Am

def bname (n : Int) : ByteArray := ⟨#[98, UInt8.ofNat (48 + n.toNat)]⟩

mutual
def F.ttree : F → T
 | .mk k n ks => if k = 2 then .mk 6 0 ⟨#[97, 114, 114]⟩ (fttrees ks) else .mk 6 0 (bname n) []
def fttrees : List F → List T
 | [] => []
 | t :: r => F.ttree t :: fttrees r
end

theorem ftyoks_mem : ∀ {ks : List F}, ftyoks ks = true → ∀ t ∈ ks, t.tyok = true
 | [], _, t, h => by cases h
 | a :: r, h, t, ht => by
  simp only [ftyoks, Bool.and_eq_true] at h
  rcases List.mem_cons.1 ht with rfl | ht
  ·exact h.1
  exact ftyoks_mem h.2 t ht

theorem ttree_nodes (t : F) : T.nodes (F.ttree t) ≤ t.size := by
 induction t using F.ind with
 | _ k n ks ih =>
  unfold F.ttree F.size
  split
  ·have : ∀ l : List F, (∀ t ∈ l, T.nodes (F.ttree t) ≤ t.size) → tnodes (fttrees l) ≤ fsizes l := by
    intro l
    induction l with
    | nil => intro _; exact Nat.le_refl _
    | cons a r ih2 =>
     intro h
     have h1 := h a (List.mem_cons_self ..)
     have h2 := ih2 fun t ht => h t (List.mem_cons_of_mem _ ht)
     simp only [fttrees, tnodes, fsizes]; omega
   have := this ks ih
   simp only [T.nodes]; omega
  simp only [T.nodes, tnodes]; omega

theorem digit_ev (n : Int) (h0 : 0 ≤ n) (h5 : n ≤ 5) (m : Nat) : ∃ r, s_l00Digits (m + 1) n = some r ∧ r.size = 1 ∧ (⟨#[98]⟩ : ByteArray) ++ r = bname n := by
 have : n = 0 ∨ n = 1 ∨ n = 2 ∨ n = 3 ∨ n = 4 ∨ n = 5 := by omega
 refine ⟨bytesOf [(IntKind.u8.wrap (IntKind.i64.wrap (48 + n)))], ?_, rfl, ?_⟩
 ·rw [s_l00Digits, if_neg (by omega), if_neg (by omega), if_pos (by omega)]
 rcases this with rfl | rfl | rfl | rfl | rfl | rfl <;> decide +kernel

theorem sub_ev (n : Int) (h0 : 0 ≤ n) (h5 : n ≤ 5) : strSub (⟨#[98, 48, 98, 49, 98, 50, 98, 51, 98, 52, 98, 53]⟩ : ByteArray) (IntKind.i64.wrap (2 * n)) (IntKind.i64.wrap ((IntKind.i64.wrap (2 * n)) + 2)) = some (bname n) := by
 have : n = 0 ∨ n = 1 ∨ n = 2 ∨ n = 3 ∨ n = 4 ∨ n = 5 := by omega
 rcases this with rfl | rfl | rfl | rfl | rfl | rfl <;> decide +kernel

theorem ty_cases {k n : Int} {ks : List F} (h : (F.mk k n ks).tyok = true) : (k = 1 ∧ 0 ≤ n ∧ n ≤ 5 ∧ ks = []) ∨ (k = 2 ∧ n = 0 ∧ ∃ a b, ks = [a, b] ∧ a.tyok = true ∧ b.tyok = true) := by
 rw [tyok_eq] at h
 by_cases h1 : k = 1
 ·rw [if_pos h1] at h
  simp only [Bool.and_eq_true, decide_eq_true_eq] at h
  exact .inl ⟨h1, h.1, h.2.1, List.length_eq_zero_iff.1 h.2.2⟩
 rw [if_neg h1] at h
 by_cases h2 : k = 2
 ·rw [if_pos h2] at h
  simp only [Bool.and_eq_true, decide_eq_true_eq] at h
  match ks, h with
  | [a, b], h =>
   have := ftyoks_mem h.2.2
   exact .inr ⟨h2, h.1, a, b, rfl, this a (by simp), this b (by simp)⟩
  | [], h => simp at h
  | [a], h => simp at h
  | a :: b :: c :: r, h => simp at h
 rw [if_neg h2] at h; cases h

theorem typeTree_ev (t : F) (h : t.tyok = true) : Ev fun n => s_l09TypeTree n t = some (F.ttree t) ∧ i_typeTerm n t = some (F.ttree t) := by
 induction t using F.ind with
 | _ k n ks ih =>
  rcases ty_cases h with ⟨rfl, h0, h5, rfl⟩ | ⟨rfl, rfl, a, b, rfl, ha, hb⟩
  ·refine ⟨2, fun m hm => ?_⟩
   obtain ⟨m, rfl⟩ : ∃ q, m = q + 2 := ⟨m - 2, by omega⟩
   obtain ⟨r, hr, hs, he⟩ := digit_ev n h0 h5 m
   have ht : F.ttree (F.mk 1 n []) = T.mk 6 0 (bname n) [] := by unfold F.ttree; rw [if_neg (by decide)]
   rw [ht]
   constructor
   ·rw [s_l09TypeTree, if_neg (show ¬ (F.mk 1 n []).kind = 2 from (by decide : ¬ (1 : Int) = 2)), show (F.mk 1 n []).n = n from rfl, hr, bind_some', chk_of (by rw [hs]; decide), he]
   rw [i_typeTerm, if_pos (show (F.mk 1 n []).kind = 1 from rfl), show (F.mk 1 n []).n = n from rfl, sub_ev n h0 h5, bind_some']
  refine ((ih a (by simp) ha).and (ih b (by simp) hb)).up 0 fun m _ H => ?_
  obtain ⟨⟨a1, a2⟩, b1, b2⟩ := H
  have ht : F.ttree (F.mk 2 0 [a, b]) = T.mk 6 0 ⟨#[97, 114, 114]⟩ [F.ttree a, F.ttree b] := by rw [F.ttree, if_pos rfl]; rfl
  rw [ht]
  constructor
  ·rw [s_l09TypeTree, if_pos (show (F.mk 2 0 [a, b]).kind = 2 from rfl), show idx (F.mk 2 0 [a, b]).kids 0 = some a from rfl, show idx (F.mk 2 0 [a, b]).kids 1 = some b from rfl, bind_some', bind_some', a1, b1, bind_some', bind_some']
  rw [i_typeTerm, if_neg (show ¬ (F.mk 2 0 [a, b]).kind = 1 from (by decide : ¬ (2 : Int) = 1)), show idx (F.mk 2 0 [a, b]).kids 0 = some a from rfl, show idx (F.mk 2 0 [a, b]).kids 1 = some b from rfl, bind_some', bind_some', a2, b2, bind_some', bind_some']

end Go.Am.Ytpkeophkdemcpaa
