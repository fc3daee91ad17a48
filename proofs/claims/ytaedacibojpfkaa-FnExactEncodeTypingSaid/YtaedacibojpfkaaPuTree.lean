/- Plain laws of trees: a tree equals itself; what is marked is held; what is too big. -/
import Derived.Test.YtaedacibojpfkaaPuA
import Derived.Test.YtaedacibojpfkaaMeTree
import Derived.Test.YtaedacibojpfkaaMsTree
namespace Go.Am.Ytaedacibojpfkaa
open Go Go.Am

/-! ### Equality -/
def T.fits : T → Prop
 | .mk _ _ _ ks => ks.length ≤ 9223372036854775807 ∧ ∀ t ∈ ks, T.fits t

theorem eqTree_loop (rec : T → T → Option Bool) (l : List T) (hl : l.length ≤ 9223372036854775807) (H : ∀ y ∈ l, rec y y = some true) :
  ∀ (r a : List T) (m : Nat), l = a ++ r → r.length < m → w_eqTreeS_L1 rec l l m a.length = some true
 | [], a, m, e, hm => by
  obtain ⟨m, rfl⟩ : ∃ k, m = k + 1 := ⟨m - 1, by omega⟩
  subst e
  rw [w_eqTreeS_L1, if_neg (lt_end a)]
 | y :: r, a, m, e, hm => by
  obtain ⟨m, rfl⟩ : ∃ k, m = k + 1 := ⟨m - 1, by omega⟩
  have hy : y ∈ l := by rw [e]; simp
  have hs := H y hy
  rw [w_eqTreeS_L1]
  have e1 : (a.length : Int) < (l.length : Int) := by rw [e]; exact lt_mid a y r
  have e2 : idx l (a.length : Int) = some y := by rw [e]; exact idx_mid a y r
  rw [if_pos e1, e2, bind_some', bind_some', hs, bind_some']
  rw [show IntKind.i64.wrap ((a.length : Int) + 1) = ((a ++ [y]).length : Int) from w64_mid a y r (by rw [← e]; omega)]
  exact eqTree_loop rec l hl H r (a ++ [y]) m (by simp [e]) (by simpa using hm)

theorem eqTreeS_ev (ks : List T) (hl : ks.length ≤ 9223372036854775807) (hk : ∀ t ∈ ks, Ev fun n => w_eqTree n t t = some true) : Ev fun n => w_eqTreeS n ks ks = some true := by
 refine (Ev.all hk).up (ks.length + 1) fun n hn H => ?_
 rw [w_eqTreeS, if_neg (by simp)]
 exact eqTree_loop _ ks hl H ks [] n rfl (by omega)

theorem eqTree_ev (t : T) (h : T.fits t) : Ev fun n => w_eqTree n t t = some true := by
 induction t using T.ind with
 | _ k n s ks ih =>
  unfold T.fits at h
  refine (eqTreeS_ev ks h.1 fun t ht => ih t ht (h.2 t ht)).up 0 fun n _ H => ?_
  rw [w_eqTree, if_neg (by simp), if_neg (by simp), if_neg (by simp), show (T.mk k _ s ks).kids = ks from rfl, H, bind_some', if_neg (by simp)]

/-! ### How many nodes -/
mutual
def T.nodes : T → Nat
 | .mk _ _ _ ks => 1 + tnodes ks
def tnodes : List T → Nat
 | [] => 0
 | t :: r => T.nodes t + tnodes r
end
theorem tnodes_app : ∀ (a b : List T), tnodes (a ++ b) = tnodes a + tnodes b
 | [], b => by simp [tnodes]
 | t :: r, b => by simp only [List.cons_append, tnodes, tnodes_app r b]; omega
theorem tnodes_len : ∀ (a : List T), a.length ≤ tnodes a
 | [] => Nat.zero_le _
 | t :: r => by
  have := tnodes_len r
  have h1 : 1 ≤ T.nodes t := by cases t; unfold T.nodes; omega
  simp only [List.length_cons, tnodes]; omega
theorem nodes_fits (t : T) : T.nodes t ≤ 9223372036854775807 → T.fits t := by
 induction t using T.ind with
 | _ k n s ks ih =>
  intro h
  unfold T.nodes at h
  unfold T.fits
  have hl := tnodes_len ks
  refine ⟨by omega, fun t ht => ih t ht ?_⟩
  obtain ⟨a, b, rfl⟩ := List.append_of_mem ht
  rw [tnodes_app] at h
  simp only [tnodes] at h
  omega

theorem nx_in {k : Int} (h0 : -9223372036854775808 ≤ k) (h : k < 9223372036854775807) : nx k = k + 1 := by unfold nx; exact w64_eq (by omega) (by omega)

mutual
theorem mark_snd (mt : Int → ByteArray) : ∀ (t : T) (k : Int), 0 ≤ k → k + 3 * (T.nodes t : Int) ≤ 9223372036854775807 → (T.mark mt t k).2 = k + 3 * (T.nodes t : Int)
 | .mk a b s ks, k, h0, h => by
  unfold T.nodes at h ⊢
  rw [show (T.mark mt (T.mk a b s ks) k).2 = (tmarks mt ks (nx (nx (nx k)))).2 by simp only [T.mark]]
  push_cast at h ⊢
  rw [nx_in (k := k) (by omega) (by omega), nx_in (k := k + 1) (by omega) (by omega), nx_in (k := k + 1 + 1) (by omega) (by omega), tmarks_snd mt ks _ (by omega) (by omega)]
  omega
theorem tmarks_snd (mt : Int → ByteArray) : ∀ (ks : List T) (k : Int), 0 ≤ k → k + 3 * (tnodes ks : Int) ≤ 9223372036854775807 → (tmarks mt ks k).2 = k + 3 * (tnodes ks : Int)
 | [], k, _, _ => by simp [tmarks, tnodes]
 | t :: r, k, h0, h => by
  simp only [tnodes] at h ⊢
  push_cast at h ⊢
  simp only [tmarks]
  rw [mark_snd mt t k h0 (by omega), tmarks_snd mt r _ (by omega) (by omega)]
  omega
end

theorem tmarks_app (mt : Int → ByteArray) : ∀ (a b : List T) (k : Int), tmarks mt (a ++ b) k = ((tmarks mt a k).1 ++ (tmarks mt b (tmarks mt a k).2).1, (tmarks mt b (tmarks mt a k).2).2)
 | [], b, k => rfl
 | t :: r, b, k => by simp only [List.cons_append, tmarks, tmarks_app mt r b]
theorem tmarks_len (mt : Int → ByteArray) : ∀ (a : List T) (k : Int), (tmarks mt a k).1.length = a.length
 | [], k => rfl
 | t :: r, k => by simp only [tmarks, List.length_cons, tmarks_len mt r]

/-! ### What is marked is held -/
theorem markText_up : ∀ (m : Nat) (i : Int) (t r : ByteArray), w_markText_L1 m i t = some r → w_markText_L1 (m + 1) i t = some r
 | 0, i, t, r, h => by rw [w_markText_L1] at h; cases h
 | m + 1, i, t, r, h => by
  rw [w_markText_L1] at h ⊢
  split
  ·rename_i hi
   rw [if_pos hi] at h
   obtain ⟨h1, h2⟩ := chk_t h
   rw [chk_of h1]
   exact markText_up m _ _ r h2
  rename_i hi
  rw [if_neg hi] at h
  exact h
theorem mtx_ev {k : Int} (h : k ≤ 9223372036854775807) : ∀ n, 20 ≤ n → w_markText n k = some (mtx k)
 | 0, hn => by omega
 | n + 1, hn => by
  by_cases hq : n + 1 = 20
  ·rw [hq]; exact mtx_ok h
  have ih := mtx_ev h n (by omega)
  unfold w_markText at ih ⊢
  split
  ·rename_i h0; rw [if_pos h0] at ih; exact ih
  rename_i h0; rw [if_neg h0] at ih; exact markText_up _ _ _ _ ih

theorem heldTree_loop (rec : List T → Int → Option Int) (n : Nat) (hn : 20 ≤ n) (ks : List T) (k : Int) (h0 : 0 ≤ k) (hb : k + 3 * (tnodes ks : Int) ≤ 9223372036854775807)
  (H : ∀ y ∈ ks, ∀ k, 0 ≤ k → k + 3 * (tnodes y.kids : Int) ≤ 9223372036854775807 → rec (tmarks mtx y.kids k).1 k = some (k + 3 * (tnodes y.kids : Int))) :
  ∀ (r a : List T) (m : Nat), ks = a ++ r → r.length < m → w_heldTreeS_L1 rec n (tmarks mtx ks k).1 m (k + 3 * (tnodes a : Int)) a.length = some (k + 3 * (tnodes ks : Int))
 | [], a, m, e, hm => by
  obtain ⟨m, rfl⟩ : ∃ k, m = k + 1 := ⟨m - 1, by omega⟩
  rw [List.append_nil] at e
  subst e
  rw [w_heldTreeS_L1, if_neg (by rw [tmarks_len]; omega)]
 | y :: r, a, m, e, hm => by
  obtain ⟨m, rfl⟩ : ∃ k, m = k + 1 := ⟨m - 1, by omega⟩
  have hb' := hb
  rw [e, tnodes_app] at hb'
  simp only [tnodes] at hb'
  push_cast at hb'
  have hsa := tmarks_snd mtx a k h0 (by omega)
  have hl1 : (tmarks mtx ks k).1 = (tmarks mtx a k).1 ++ (T.mark mtx y (k + 3 * (tnodes a : Int))).1 :: (tmarks mtx r (T.mark mtx y (k + 3 * (tnodes a : Int))).2).1 := by
   rw [e, tmarks_app, hsa]; simp only [tmarks]
  have hal := tmarks_len mtx a k
  have hy : y ∈ ks := by rw [e]; simp
  have hlt : (a.length : Int) < ((tmarks mtx ks k).1.length : Int) := by rw [tmarks_len, e]; exact lt_mid a y r
  have hix : idx (tmarks mtx ks k).1 (a.length : Int) = some (T.mark mtx y (k + 3 * (tnodes a : Int))).1 := by rw [hl1, ← hal]; exact idx_mid _ _ _
  have hw : IntKind.i64.wrap ((a.length : Int) + 1) = ((a ++ [y]).length : Int) := by
   have := tnodes_len ks
   rw [e] at this
   refine w64_mid a y r ?_
   rw [← e] at this ⊢
   omega
  obtain ⟨k1, n1, s1, kk⟩ := y
  have hyn : (T.nodes (T.mk k1 n1 s1 kk) : Int) = 1 + (tnodes kk : Int) := by unfold T.nodes; push_cast; rfl
  rw [hyn] at hb'
  have hH : rec (tmarks mtx kk (k + 3 * (tnodes a : Int) + 1 + 1 + 1)).1 (k + 3 * (tnodes a : Int) + 1 + 1 + 1) = some (k + 3 * (tnodes a : Int) + 1 + 1 + 1 + 3 * (tnodes kk : Int)) :=
   H _ hy (k + 3 * (tnodes a : Int) + 1 + 1 + 1) (by omega) (by show _ + 3 * (tnodes kk : Int) ≤ _; omega)
  have hmk : (T.mark mtx (T.mk k1 n1 s1 kk) (k + 3 * (tnodes a : Int))).1 = T.mk (k + 3 * (tnodes a : Int)) (k + 3 * (tnodes a : Int) + 1) (mtx (k + 3 * (tnodes a : Int) + 1 + 1)) (tmarks mtx kk (k + 3 * (tnodes a : Int) + 1 + 1 + 1)).1 := by
   simp only [T.mark]
   rw [nx_in (k := k + 3 * (tnodes a : Int)) (by omega) (by omega), nx_in (k := k + 3 * (tnodes a : Int) + 1) (by omega) (by omega), nx_in (k := k + 3 * (tnodes a : Int) + 1 + 1) (by omega) (by omega)]
  rw [hmk] at hix
  have w1 : IntKind.i64.wrap (k + 3 * (tnodes a : Int) + 1) = k + 3 * (tnodes a : Int) + 1 := w64_eq (by omega) (by omega)
  have w2 : IntKind.i64.wrap (k + 3 * (tnodes a : Int) + 1 + 1) = k + 3 * (tnodes a : Int) + 1 + 1 := w64_eq (by omega) (by omega)
  have w3 : IntKind.i64.wrap (k + 3 * (tnodes a : Int) + 1 + 1 + 1) = k + 3 * (tnodes a : Int) + 1 + 1 + 1 := w64_eq (by omega) (by omega)
  have hm4 := mtx_ev (k := k + 3 * (tnodes a : Int) + 1 + 1) (by omega) n hn
  have hneg : ¬ k + 3 * (tnodes a : Int) + 1 + 1 + 1 + 3 * (tnodes kk : Int) < 0 := by omega
  rw [w_heldTreeS_L1, if_pos hlt, hix]
  simp only [bind_some', tkind, tn, tname, tkids, bne_self_eq_false, Bool.false_eq_true, if_false, w1, w2, w3, hm4, beq_self_eq_true, Bool.not_true, hH, if_neg hneg, hw]
  have hna : k + 3 * (tnodes a : Int) + 1 + 1 + 1 + 3 * (tnodes kk : Int) = k + 3 * (tnodes (a ++ [T.mk k1 n1 s1 kk]) : Int) := by
   rw [tnodes_app]
   simp only [tnodes]
   push_cast
   rw [hyn]
   omega
  rw [hna]
  exact heldTree_loop rec n hn ks k h0 hb H r (a ++ [T.mk k1 n1 s1 kk]) m (by simp [e]) (by simpa using hm)

theorem heldTreeS_ev (ks : List T) (hk : ∀ t ∈ ks, Ev fun n => ∀ k, 0 ≤ k → k + 3 * (tnodes t.kids : Int) ≤ 9223372036854775807 → w_heldTreeS n (tmarks mtx t.kids k).1 k = some (k + 3 * (tnodes t.kids : Int))) :
  Ev fun n => ∀ k, 0 ≤ k → k + 3 * (tnodes ks : Int) ≤ 9223372036854775807 → w_heldTreeS n (tmarks mtx ks k).1 k = some (k + 3 * (tnodes ks : Int)) := by
 refine (Ev.all hk).up (ks.length + 20) fun n hn H k h0 hb => ?_
 rw [w_heldTreeS]
 have := heldTree_loop (w_heldTreeS n) n (by omega) ks k h0 hb H ks [] n rfl (by omega)
 simpa [tnodes] using this

theorem heldTrees_ev (ks : List T) : Ev fun n => ∀ k, 0 ≤ k → k + 3 * (tnodes ks : Int) ≤ 9223372036854775807 → w_heldTreeS n (tmarks mtx ks k).1 k = some (k + 3 * (tnodes ks : Int)) := by
 refine heldTreeS_ev ks fun t ht => ?_
 clear ht
 induction t using T.ind with
 | _ k n s kk ih => exact heldTreeS_ev kk ih

end Go.Am.Ytaedacibojpfkaa
