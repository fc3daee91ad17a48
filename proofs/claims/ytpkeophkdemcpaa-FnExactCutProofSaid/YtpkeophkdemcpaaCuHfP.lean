/- Plain laws: the marks of Forms are there as long as nobody writes them. -/
import Derived.Test.YtpkeophkdemcpaaPuMark
import Derived.Test.YtpkeophkdemcpaaPuMarkP
import Derived.Test.YtpkeophkdemcpaaCuL
namespace Go.Am.Ytpkeophkdemcpaa
open Go Go.Am

theorem fsizes_app : ∀ (a b : List F), fsizes (a ++ b) = fsizes a + fsizes b
 | [], b => by simp [fsizes]
 | x :: a, b => by simp only [List.cons_append, fsizes, fsizes_app a b]; omega
theorem fmarks_app : ∀ (a b : List F) (k : Int), fmarks (a ++ b) k = ((fmarks a k).1 ++ (fmarks b (fmarks a k).2).1, (fmarks b (fmarks a k).2).2)
 | [], b, k => rfl
 | x :: a, b, k => by simp only [List.cons_append, fmarks, fmarks_app a b]
theorem fmarks_len : ∀ (a : List F) (k : Int), (fmarks a k).1.length = a.length
 | [], _ => rfl
 | x :: a, k => by simp only [fmarks, List.length_cons, fmarks_len a]
theorem fsizes_len : ∀ a : List F, a.length ≤ fsizes a
 | [] => Nat.le_refl _
 | x :: a => by have := fsizes_len a; have := fsize_pos x; simp only [List.length_cons, fsizes]; omega

theorem heldForm_loop (rec : List F → Int → Option Int) (ks : List F) (k : Int) (h0 : 0 ≤ k) (hb : k + 2 * (fsizes ks : Int) ≤ 9223372036854775807)
  (H : ∀ y ∈ ks, ∀ k, 0 ≤ k → k + 2 * (fsizes y.kids : Int) ≤ 9223372036854775807 → rec (fmarks y.kids k).1 k = some (k + 2 * (fsizes y.kids : Int))) :
  ∀ (r a : List F) (m : Nat), ks = a ++ r → r.length < m → w_heldFormS_L1 rec (fmarks ks k).1 m (k + 2 * (fsizes a : Int)) a.length = some (k + 2 * (fsizes ks : Int))
 | [], a, m, e, hm => by
  obtain ⟨m, rfl⟩ : ∃ k, m = k + 1 := ⟨m - 1, by omega⟩
  rw [List.append_nil] at e
  subst e
  rw [w_heldFormS_L1, if_neg (by rw [fmarks_len]; omega)]
 | y :: r, a, m, e, hm => by
  obtain ⟨m, rfl⟩ : ∃ k, m = k + 1 := ⟨m - 1, by omega⟩
  have hb' := hb
  rw [e, fsizes_app] at hb'
  simp only [fsizes] at hb'
  push_cast at hb'
  have hsa := fmarks_snd a k h0 (by omega)
  have hl1 : (fmarks ks k).1 = (fmarks a k).1 ++ (F.mark y (k + 2 * (fsizes a : Int))).1 :: (fmarks r (F.mark y (k + 2 * (fsizes a : Int))).2).1 := by
   rw [e, fmarks_app, hsa]; simp only [fmarks]
  have hal := fmarks_len a k
  have hy : y ∈ ks := by rw [e]; simp
  have hlt : (a.length : Int) < ((fmarks ks k).1.length : Int) := by rw [fmarks_len, e]; exact lt_mid a y r
  have hix : idx (fmarks ks k).1 (a.length : Int) = some (F.mark y (k + 2 * (fsizes a : Int))).1 := by rw [hl1, ← hal]; exact idx_mid _ _ _
  have hw : IntKind.i64.wrap ((a.length : Int) + 1) = ((a ++ [y]).length : Int) := by
   have := fsizes_len ks
   rw [e] at this
   refine w64_mid a y r ?_
   rw [← e] at this ⊢
   omega
  obtain ⟨k1, n1, kk⟩ := y
  have hyn : ((F.mk k1 n1 kk).size : Int) = 1 + (fsizes kk : Int) := by unfold F.size; push_cast; rfl
  rw [hyn] at hb'
  have hH : rec (fmarks kk (k + 2 * (fsizes a : Int) + 1 + 1)).1 (k + 2 * (fsizes a : Int) + 1 + 1) = some (k + 2 * (fsizes a : Int) + 1 + 1 + 2 * (fsizes kk : Int)) :=
   H _ hy (k + 2 * (fsizes a : Int) + 1 + 1) (by omega) (by show _ + 2 * (fsizes kk : Int) ≤ _; omega)
  have hmk : (F.mark (F.mk k1 n1 kk) (k + 2 * (fsizes a : Int))).1 = F.mk (k + 2 * (fsizes a : Int)) (k + 2 * (fsizes a : Int) + 1) (fmarks kk (k + 2 * (fsizes a : Int) + 1 + 1)).1 := by
   simp only [F.mark]
   rw [nx_in' (k := k + 2 * (fsizes a : Int)) (by omega) (by omega), nx_in' (k := k + 2 * (fsizes a : Int) + 1) (by omega) (by omega)]
  rw [hmk] at hix
  have w1 : IntKind.i64.wrap (k + 2 * (fsizes a : Int) + 1) = k + 2 * (fsizes a : Int) + 1 := w64_eq (by omega) (by omega)
  have w2 : IntKind.i64.wrap (k + 2 * (fsizes a : Int) + 1 + 1) = k + 2 * (fsizes a : Int) + 1 + 1 := w64_eq (by omega) (by omega)
  have hneg : ¬ k + 2 * (fsizes a : Int) + 1 + 1 + 2 * (fsizes kk : Int) < 0 := by omega
  rw [w_heldFormS_L1, if_pos hlt, hix]
  simp only [bind_some', fkind, fn, fkids, bne_self_eq_false, Bool.false_eq_true, if_false, w1, w2, hH, if_neg hneg, hw]
  have hna : k + 2 * (fsizes a : Int) + 1 + 1 + 2 * (fsizes kk : Int) = k + 2 * (fsizes (a ++ [F.mk k1 n1 kk]) : Int) := by
   rw [fsizes_app]
   simp only [fsizes]
   push_cast
   rw [hyn]
   omega
  rw [hna]
  exact heldForm_loop rec ks k h0 hb H r (a ++ [F.mk k1 n1 kk]) m (by simp [e]) (by simpa using hm)

theorem heldFormS_ev (ks : List F) (hk : ∀ t ∈ ks, Ev fun n => ∀ k, 0 ≤ k → k + 2 * (fsizes t.kids : Int) ≤ 9223372036854775807 → w_heldFormS n (fmarks t.kids k).1 k = some (k + 2 * (fsizes t.kids : Int))) :
  Ev fun n => ∀ k, 0 ≤ k → k + 2 * (fsizes ks : Int) ≤ 9223372036854775807 → w_heldFormS n (fmarks ks k).1 k = some (k + 2 * (fsizes ks : Int)) := by
 refine (Ev.all hk).up (ks.length + 1) fun n hn H k h0 hb => ?_
 rw [w_heldFormS]
 have := heldForm_loop (w_heldFormS n) ks k h0 hb H ks [] n rfl (by omega)
 simpa [fsizes] using this

theorem heldForms_ev (ks : List F) : Ev fun n => ∀ k, 0 ≤ k → k + 2 * (fsizes ks : Int) ≤ 9223372036854775807 → w_heldFormS n (fmarks ks k).1 k = some (k + 2 * (fsizes ks : Int)) := by
 refine heldFormS_ev ks fun t ht => ?_
 clear ht
 induction t using F.ind with
 | _ k n kk ih => exact heldFormS_ev kk ih


theorem psizes_app : ∀ (a b : List Pf), psizes (a ++ b) = psizes a + psizes b
 | [], b => by simp [psizes]
 | x :: a, b => by simp only [List.cons_append, psizes, psizes_app a b]; omega
theorem pmarks_app : ∀ (a b : List Pf) (k : Int), pmarks (a ++ b) k = ((pmarks a k).1 ++ (pmarks b (pmarks a k).2).1, (pmarks b (pmarks a k).2).2)
 | [], b, k => rfl
 | x :: a, b, k => by simp only [List.cons_append, pmarks, pmarks_app a b]
theorem pmarks_len : ∀ (a : List Pf) (k : Int), (pmarks a k).1.length = a.length
 | [], _ => rfl
 | x :: a, k => by simp only [pmarks, List.length_cons, pmarks_len a]
theorem psizes_len : ∀ a : List Pf, a.length ≤ psizes a
 | [] => Nat.le_refl _
 | x :: a => by have := psizes_len a; have := psize_pos x; simp only [List.length_cons, psizes]; omega

theorem heldProof_loop (rec : List Pf → Int → Option Int) (nn : Nat) (ks : List Pf) (k : Int) (h0 : 0 ≤ k) (hb : k + 2 * (psizes ks : Int) ≤ 9223372036854775807)
  (HF : ∀ y ∈ ks, ∀ k, 0 ≤ k → k + 2 * (fsizes y.forms : Int) ≤ 9223372036854775807 → w_heldFormS nn (fmarks y.forms k).1 k = some (k + 2 * (fsizes y.forms : Int)))
  (H : ∀ y ∈ ks, ∀ k, 0 ≤ k → k + 2 * (psizes y.kids : Int) ≤ 9223372036854775807 → rec (pmarks y.kids k).1 k = some (k + 2 * (psizes y.kids : Int))) :
  ∀ (r a : List Pf) (m : Nat), ks = a ++ r → r.length < m → w_heldProofS_L1 rec nn (pmarks ks k).1 m (k + 2 * (psizes a : Int)) a.length = some (k + 2 * (psizes ks : Int))
 | [], a, m, e, hm => by
  obtain ⟨m, rfl⟩ : ∃ k, m = k + 1 := ⟨m - 1, by omega⟩
  rw [List.append_nil] at e
  subst e
  rw [w_heldProofS_L1, if_neg (by rw [pmarks_len]; omega)]
 | y :: r, a, m, e, hm => by
  obtain ⟨m, rfl⟩ : ∃ k, m = k + 1 := ⟨m - 1, by omega⟩
  have hb' := hb
  rw [e, psizes_app] at hb'
  simp only [psizes] at hb'
  push_cast at hb'
  have hsa := pmarks_snd a k h0 (by omega)
  have hl1 : (pmarks ks k).1 = (pmarks a k).1 ++ (Pf.mark y (k + 2 * (psizes a : Int))).1 :: (pmarks r (Pf.mark y (k + 2 * (psizes a : Int))).2).1 := by
   rw [e, pmarks_app, hsa]; simp only [pmarks]
  have hal := pmarks_len a k
  have hy : y ∈ ks := by rw [e]; simp
  have hlt : (a.length : Int) < ((pmarks ks k).1.length : Int) := by rw [pmarks_len, e]; exact lt_mid a y r
  have hix : idx (pmarks ks k).1 (a.length : Int) = some (Pf.mark y (k + 2 * (psizes a : Int))).1 := by rw [hl1, ← hal]; exact idx_mid _ _ _
  have hw : IntKind.i64.wrap ((a.length : Int) + 1) = ((a ++ [y]).length : Int) := by
   have := psizes_len ks
   rw [e] at this
   refine w64_mid a y r ?_
   rw [← e] at this ⊢
   omega
  obtain ⟨k1, n1, ff, kk⟩ := y
  have hyn : ((Pf.mk k1 n1 ff kk).size : Int) = 1 + (fsizes ff : Int) + (psizes kk : Int) := by unfold Pf.size; push_cast; rfl
  rw [hyn] at hb'
  have hF : w_heldFormS nn (fmarks ff (k + 2 * (psizes a : Int) + 1 + 1)).1 (k + 2 * (psizes a : Int) + 1 + 1) = some (k + 2 * (psizes a : Int) + 1 + 1 + 2 * (fsizes ff : Int)) :=
   HF _ hy (k + 2 * (psizes a : Int) + 1 + 1) (by omega) (by show _ + 2 * (fsizes ff : Int) ≤ _; omega)
  have hfs := fmarks_snd ff (k + 2 * (psizes a : Int) + 1 + 1) (by omega) (by omega)
  have hH : rec (pmarks kk (k + 2 * (psizes a : Int) + 1 + 1 + 2 * (fsizes ff : Int))).1 (k + 2 * (psizes a : Int) + 1 + 1 + 2 * (fsizes ff : Int)) = some (k + 2 * (psizes a : Int) + 1 + 1 + 2 * (fsizes ff : Int) + 2 * (psizes kk : Int)) :=
   H _ hy (k + 2 * (psizes a : Int) + 1 + 1 + 2 * (fsizes ff : Int)) (by omega) (by show _ + 2 * (psizes kk : Int) ≤ _; omega)
  have hmk : (Pf.mark (Pf.mk k1 n1 ff kk) (k + 2 * (psizes a : Int))).1 = Pf.mk (k + 2 * (psizes a : Int)) (k + 2 * (psizes a : Int) + 1) (fmarks ff (k + 2 * (psizes a : Int) + 1 + 1)).1 (pmarks kk (k + 2 * (psizes a : Int) + 1 + 1 + 2 * (fsizes ff : Int))).1 := by
   simp only [Pf.mark]
   rw [nx_in' (k := k + 2 * (psizes a : Int)) (by omega) (by omega), nx_in' (k := k + 2 * (psizes a : Int) + 1) (by omega) (by omega), hfs]
  rw [hmk] at hix
  have w1 : IntKind.i64.wrap (k + 2 * (psizes a : Int) + 1) = k + 2 * (psizes a : Int) + 1 := w64_eq (by omega) (by omega)
  have w2 : IntKind.i64.wrap (k + 2 * (psizes a : Int) + 1 + 1) = k + 2 * (psizes a : Int) + 1 + 1 := w64_eq (by omega) (by omega)
  have hneg1 : ¬ k + 2 * (psizes a : Int) + 1 + 1 + 2 * (fsizes ff : Int) < 0 := by omega
  have hneg : ¬ k + 2 * (psizes a : Int) + 1 + 1 + 2 * (fsizes ff : Int) + 2 * (psizes kk : Int) < 0 := by omega
  rw [w_heldProofS_L1, if_pos hlt, hix]
  simp only [bind_some', show ∀ (a b : Int) (c : List F) (d : List Pf), (Pf.mk a b c d).kind = a from fun _ _ _ _ => rfl, show ∀ (a b : Int) (c : List F) (d : List Pf), (Pf.mk a b c d).n = b from fun _ _ _ _ => rfl, show ∀ (a b : Int) (c : List F) (d : List Pf), (Pf.mk a b c d).kids = d from fun _ _ _ _ => rfl, show ∀ (a b : Int) (c : List F) (d : List Pf), (Pf.mk a b c d).forms = c from fun _ _ _ _ => rfl, bne_self_eq_false, Bool.false_eq_true, if_false, w1, w2, hF, hH, if_neg hneg1, if_neg hneg, hw]
  have hna : k + 2 * (psizes a : Int) + 1 + 1 + 2 * (fsizes ff : Int) + 2 * (psizes kk : Int) = k + 2 * (psizes (a ++ [Pf.mk k1 n1 ff kk]) : Int) := by
   rw [psizes_app]
   simp only [psizes]
   push_cast
   rw [hyn]
   omega
  rw [hna]
  exact heldProof_loop rec nn ks k h0 hb HF H r (a ++ [Pf.mk k1 n1 ff kk]) m (by simp [e]) (by simpa using hm)

theorem heldProofS_ev (ks : List Pf) (hk : ∀ t ∈ ks, Ev fun n => ∀ k, 0 ≤ k → k + 2 * (psizes t.kids : Int) ≤ 9223372036854775807 → w_heldProofS n (pmarks t.kids k).1 k = some (k + 2 * (psizes t.kids : Int))) :
  Ev fun n => ∀ k, 0 ≤ k → k + 2 * (psizes ks : Int) ≤ 9223372036854775807 → w_heldProofS n (pmarks ks k).1 k = some (k + 2 * (psizes ks : Int)) := by
 have hf : Ev fun n => ∀ t ∈ ks, ∀ k, 0 ≤ k → k + 2 * (fsizes t.forms : Int) ≤ 9223372036854775807 → w_heldFormS n (fmarks t.forms k).1 k = some (k + 2 * (fsizes t.forms : Int)) := Ev.all fun t _ => heldForms_ev t.forms
 refine ((Ev.all hk).and hf).up (ks.length + 1) fun n hn H k h0 hb => ?_
 rw [w_heldProofS]
 have := heldProof_loop (w_heldProofS n) n ks k h0 hb H.2 H.1 ks [] n rfl (by omega)
 simpa [psizes] using this

theorem heldProofs_ev (ks : List Pf) : Ev fun n => ∀ k, 0 ≤ k → k + 2 * (psizes ks : Int) ≤ 9223372036854775807 → w_heldProofS n (pmarks ks k).1 k = some (k + 2 * (psizes ks : Int)) := by
 refine heldProofS_ev ks fun t ht => ?_
 clear ht
 induction t using Pf.ind with
 | _ k n ff kk ih => exact heldProofS_ev kk ih

theorem heldProof_ev (t : Pf) (hb : t.size ≤ 2097152) : Ev fun n => w_markProof t 1 = some (((fmarks t.forms 1).1, (pmarks t.kids (1 + 2 * (fsizes t.forms : Int))).1), 1 + 2 * ((t.size : Int) - 1)) ∧
  w_heldProof n (Pf.mk t.kind t.n (fmarks t.forms 1).1 (pmarks t.kids (1 + 2 * (fsizes t.forms : Int))).1) 1 = some (1 + 2 * ((t.size : Int) - 1)) := by
 have hend := pmarks_end t (by omega)
 obtain ⟨k, n, fs, ks⟩ := t
 have hs : ((Pf.mk k n fs ks).size : Int) = 1 + (fsizes fs : Int) + (psizes ks : Int) := by unfold Pf.size; push_cast; rfl
 have hfs := fmarks_snd fs 1 (by omega) (by omega)
 refine ((heldForms_ev fs).and (heldProofs_ev ks)).mp fun m ⟨h1, h2⟩ => ⟨?_, ?_⟩
 ·unfold w_markProof
  refine congrArg some (Prod.ext ?_ hend)
  show ((fmarks fs 1).1, (pmarks ks (fmarks fs 1).2).1) = _
  rw [hfs]; rfl
 unfold w_heldProof
 have e1 := h1 1 (by omega) (by omega)
 have e2 := h2 (1 + 2 * (fsizes fs : Int)) (by omega) (by omega)
 show (w_heldFormS m (fmarks fs 1).1 1).bind (fun r3 => if r3 < 0 then some (-1) else (w_heldProofS m (pmarks ks (1 + 2 * (fsizes fs : Int))).1 r3).bind fun r11 => if r11 < 0 then some (-1) else some r11) = _
 rw [e1, bind_some', if_neg (by omega), e2, bind_some', if_neg (by omega)]
 exact congrArg some (by omega)

end Go.Am.Ytpkeophkdemcpaa
