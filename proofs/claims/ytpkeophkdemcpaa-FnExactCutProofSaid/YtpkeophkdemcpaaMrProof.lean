/- How a law marks a list of Proofs in place (proofs, expressions: Form their forms or types). -/
import Derived.Test.YtpkeophkdemcpaaMrForm
-- packed
namespace Go.Am.Ytpkeophkdemcpaa
open Go Go.Am

set_option maxRecDepth 100000 in
theorem markProofS_st (ks : List LP) (ih : ∀ t ∈ ks, ∀ (q : Nat) (f : Bool) (k : Int) (tk : Nat), (∀ x ∈ pstoks q t.kids, 2 ≤ x) → (pstoks q t.kids).Nodup →
   MCalls Go.Proofs.Try.prog 105 [.imm q 4 f (pcellss t.kids), .int .i64 k] tk (fun x => x ∈ pstoks q t.kids) (PMarked tk q f t.kids k)) :
  ∀ (q : Nat) (f : Bool) (k : Int) (tk : Nat), (∀ x ∈ pstoks q ks, 2 ≤ x) → (pstoks q ks).Nodup →
   MCalls Go.Proofs.Try.prog 105 [.imm q 4 f (pcellss ks), .int .i64 k] tk (fun x => x ∈ pstoks q ks) (PMarked tk q f ks k) := by
 intro q f k tk h2 hnd
 refine mcalls_of_run Go.Proofs.Try.func105 rfl rfl [(0, .imm q 4 f (pcellss ks)), (1, .int .i64 k)] (.cons (entS rfl) (.cons (entS rfl) (.nil _))) rfl (leb rfl) (fun S0 htk => ?_)
 refine run_sr ?_
 refine mvR rfl rfl rfl rfl (ltb rfl) ?_
 refine run_ops_nil ?_
 refine run_seq ?_
 refine run_sr ?_
 refine mvR rfl rfl rfl rfl (ltb rfl) ?_
 refine run_ops_nil ?_
 refine run_lenb (i := 0) (q := q) (sz := 4) (f := f) (es := pcellss ks) rfl fun hlen => ?_
 rw [pcellss_length] at hlen
 refine run_block ?_
 refine run_rounds (fun m σ => ∃ (a r : List LP) (tk1 : Nat), ks = a ++ r ∧ m = r.length ∧ tk ≤ tk1 ∧ σ = ⟨[(0, .imm q 4 f (pcellss ((lpmarks a k).1 ++ r))), (1, .int .i64 (lpmarks a k).2), (4, .int .i64 0), (5, .int .i64 (((lpmarks a k).1).length : Int))], [], [], fun _ => none, tk1⟩) ks.length
  (Sub.env [(0, .imm q 4 f (pcellss ks)), (1, .int .i64 k), (4, .int .i64 0), (5, .int .i64 0)] ⟨rfl, rfl, rfl, rfl, trivial⟩) ⟨[], ks, tk, rfl, rfl, Nat.le_refl _, rfl⟩ (fun m σ hI => ?_)
 obtain ⟨a, r, tk1, hks, hm, hle, rfl⟩ := hI
 have hal := lpmarks_len a k
 refine run_seq ?_
 refine run_sr ?_
 refine mvL rfl rfl rfl rfl (ltb rfl) ?_
 refine mvL rfl rfl rfl rfl (ltb rfl) ?_
 refine run_pu rfl (lenImm_step hG rfl rfl rfl rfl (pcellss_length _)) rfl (ltb rfl) ?_
 refine run_bin rfl rfl rfl rfl rfl rfl rfl (ltb rfl) ?_
 refine run_ops_nil ?_
 refine run_ifd rfl rfl (fun hb => ?_) (fun hb => ?_)
 ·obtain _ | ⟨t, r⟩ := r
  ·exact absurd hb (by simp)
  obtain ⟨k0, n0, p1, e1, fs1, q1, f1, ks1⟩ := t
  have hT : ∀ (b : LP), b.toks = fstoks p1 fs1 ++ pstoks q1 ks1 → ∀ p : Nat → Prop, (∀ x ∈ pstoks q ks, p x) → ∀ x ∈ ptoks ((lpmarks a k).1 ++ b :: r), p x := by
   intro b hb p hp x hx
   refine hp x ?_
   rw [hks]
   rw [ptoks_app, lpmarks_toks] at hx
   have : x ∈ ptoks (a ++ LP.mk k0 n0 p1 e1 fs1 q1 f1 ks1 :: r) := by
    rw [ptoks_app]
    simp only [ptoks, LP.toks_eq] at hx ⊢
    rw [hb] at hx
    exact hx
   cases hq : a ++ LP.mk k0 n0 p1 e1 fs1 q1 f1 ks1 :: r with
   | nil => simp at hq
   | cons t r => rw [hq] at this; exact List.mem_cons_of_mem _ this
  have hqin : q ∈ pstoks q ks := by rw [hks]; cases a <;> exact List.mem_cons_self ..
  have hne : ∀ x ∈ ptoks (a ++ LP.mk k0 n0 p1 e1 fs1 q1 f1 ks1 :: r), x ≠ q := by
   intro x hx e
   subst e
   have : (x :: ptoks (a ++ LP.mk k0 n0 p1 e1 fs1 q1 f1 ks1 :: r)).Nodup := by rw [hks] at hnd; cases a <;> exact hnd
   exact (List.nodup_cons.1 this).1 hx
  have hnd1 : (ptoks (a ++ LP.mk k0 n0 p1 e1 fs1 q1 f1 ks1 :: r)).Nodup := by
   have : (q :: ptoks (a ++ LP.mk k0 n0 p1 e1 fs1 q1 f1 ks1 :: r)).Nodup := by rw [hks] at hnd; cases a <;> exact hnd
   exact (List.nodup_cons.1 this).2
  have hfree : ∀ (b : LP), b.toks = fstoks p1 fs1 ++ pstoks q1 ks1 → ∀ (i : Nat) (e : List AV) (j : Nat) (x : AV), (pcellss ((lpmarks a k).1 ++ b :: r))[i]? = some e → e[j]? = some x → AvP (fun t => 2 ≤ t ∧ t ≠ q) x := fun b hb =>
   pcellss_av _ fun x hx => ⟨hT b hb _ h2 x hx, hne x (by
    rw [ptoks_app] at hx ⊢
    rw [lpmarks_toks] at hx
    simp only [ptoks, LP.toks_eq] at hx ⊢
    rw [hb] at hx
    exact hx)⟩
  refine run_skip ?_
  refine run_seq ?_
  refine run_block ?_
  -- the kind
  refine run_sr ?_
  refine mvL rfl rfl rfl rfl (ltb rfl) ?_
  refine mvL rfl rfl rfl rfl (ltb rfl) ?_
  refine mvL rfl rfl rfl rfl (ltb rfl) ?_
  refine run_fst hG rfl rfl rfl rfl rfl (ltb rfl) rfl rfl (ltb rfl) rfl rfl (n := (lpmarks a k).1.length) rfl rfl rfl rfl rfl rfl rfl rfl rfl rfl rfl rfl (h2 q hqin) (pget_mid _ r _) (show 0 < 4 by decide) (hfree _ (LP.toks_eq ..)) rfl rfl (.inl hqin)
   (env' := [(0, .imm q 4 f (pcellss ((lpmarks a k).1 ++ LP.mk (lpmarks a k).2 n0 p1 e1 fs1 q1 f1 ks1 :: r))), (1, .int .i64 (lpmarks a k).2), (4, .int .i64 0), (5, .int .i64 (((lpmarks a k).1).length : Int))]) (l' := [])
   (pset_mid (lpmarks a k).1 r (.mk k0 n0 p1 e1 fs1 q1 f1 ks1) (.mk (lpmarks a k).2 n0 p1 e1 fs1 q1 f1 ks1)).symm (.cons _ _ _ _ rfl (Tn.turn ⟨rfl, rfl⟩) (.cons _ _ _ _ rfl (Tn.av (.int _ _)) (.cons _ _ _ _ rfl (Tn.av (.int _ _)) (.cons _ _ _ _ rfl (Tn.av (.int _ _)) .nil)))) .nil ?_
  refine run_ops_nil ?_
  refine run_sr ?_
  refine mvL rfl rfl rfl rfl (ltb rfl) ?_
  refine run_bin rfl rfl rfl rfl rfl rfl rfl (ltb rfl) ?_
  refine mvR rfl rfl rfl rfl (ltb rfl) ?_
  refine run_ops_nil ?_
  -- the number
  refine run_sr ?_
  refine mvL rfl rfl rfl rfl (ltb rfl) ?_
  refine mvL rfl rfl rfl rfl (ltb rfl) ?_
  refine mvL rfl rfl rfl rfl (ltb rfl) ?_
  refine run_fst hG rfl rfl rfl rfl rfl (ltb rfl) rfl rfl (ltb rfl) rfl rfl (n := (lpmarks a k).1.length) rfl rfl rfl rfl rfl rfl rfl rfl rfl rfl rfl rfl (h2 q hqin) (pget_mid _ r _) (show 1 < 4 by decide) (hfree _ (LP.toks_eq ..)) rfl rfl (.inl hqin)
   (env' := [(0, .imm q 4 f (pcellss ((lpmarks a k).1 ++ LP.mk (lpmarks a k).2 (nx (lpmarks a k).2) p1 e1 fs1 q1 f1 ks1 :: r))), (1, .int .i64 (nx (lpmarks a k).2)), (4, .int .i64 0), (5, .int .i64 (((lpmarks a k).1).length : Int))]) (l' := [])
   (pset_mid (lpmarks a k).1 r (.mk (lpmarks a k).2 n0 p1 e1 fs1 q1 f1 ks1) (.mk (lpmarks a k).2 (nx (lpmarks a k).2) p1 e1 fs1 q1 f1 ks1)).symm (.cons _ _ _ _ rfl (Tn.turn ⟨rfl, rfl⟩) (.cons _ _ _ _ rfl (Tn.av (.int _ _)) (.cons _ _ _ _ rfl (Tn.av (.int _ _)) (.cons _ _ _ _ rfl (Tn.av (.int _ _)) .nil)))) .nil ?_
  refine run_ops_nil ?_
  refine run_sr ?_
  refine mvL rfl rfl rfl rfl (ltb rfl) ?_
  refine run_bin rfl rfl rfl rfl rfl rfl rfl (ltb rfl) ?_
  refine mvR rfl rfl rfl rfl (ltb rfl) ?_
  refine run_ops_nil ?_
  refine run_sr ?_
  refine mvL rfl rfl rfl rfl (ltb rfl) ?_
  refine mvL rfl rfl rfl rfl (ltb rfl) ?_
  refine run_pu rfl (indexImm_step hG rfl rfl rfl rfl rfl rfl rfl rfl (pget_mid _ r _)) rfl (ltb rfl) ?_
  refine run_pu rfl (fieldAddr_step hG rfl rfl rfl rfl rfl) rfl (ltb rfl) ?_
  refine run_ld hG rfl rfl rfl rfl rfl (ltb rfl) ?_
  refine mvL rfl rfl rfl rfl (ltb rfl) ?_
  have hall : ∀ x, x ∈ fstoks p1 fs1 ∨ x ∈ pstoks q1 ks1 ∨ x ∈ ptoks a ∨ x ∈ ptoks r → x ∈ pstoks q ks := by
   intro x hx
   have hx' : x ∈ ptoks (a ++ LP.mk k0 n0 p1 e1 fs1 q1 f1 ks1 :: r) := by
    rw [ptoks_app]
    simp only [ptoks, LP.toks_eq, List.mem_append]
    rcases hx with hx | hx | hx | hx
    ·exact .inr (.inl (.inl hx))
    ·exact .inr (.inl (.inr hx))
    ·exact .inl hx
    exact .inr (.inr hx)
   rw [hks]
   cases hq : a ++ LP.mk k0 n0 p1 e1 fs1 q1 f1 ks1 :: r with
   | nil => simp at hq
   | cons t r => rw [hq] at hx'; exact List.mem_cons_of_mem _ hx'
  have hnq : ∀ x, x ∈ fstoks p1 fs1 ∨ x ∈ pstoks q1 ks1 → x ≠ q := by
   intro x hx
   refine hne x ?_
   rw [ptoks_app]
   simp only [ptoks, LP.toks_eq, List.mem_append]
   rcases hx with hx | hx
   ·exact .inr (.inl (.inl hx))
   exact .inr (.inl (.inr hx))
  have hndd : (ptoks a ++ ((fstoks p1 fs1 ++ pstoks q1 ks1) ++ ptoks r)).Nodup := by
   rw [ptoks_app] at hnd1
   simpa only [ptoks, LP.toks_eq] using hnd1
  obtain ⟨m1, m2, m3⟩ := List.nodup_append.1 hndd
  obtain ⟨m4, m5, m6⟩ := List.nodup_append.1 m2
  obtain ⟨m7, m8, m9⟩ := List.nodup_append.1 m4
  have hrestF : ∀ x ∈ ptoks a ++ ptoks r, ¬ x ∈ fstoks p1 fs1 ∧ ¬ x ∈ pstoks q1 ks1 := by
   intro x hx
   rcases List.mem_append.1 hx with hx | hx
   ·exact ⟨fun h => m3 x hx x (List.mem_append.2 (.inl (List.mem_append.2 (.inl h)))) rfl, fun h => m3 x hx x (List.mem_append.2 (.inl (List.mem_append.2 (.inr h)))) rfl⟩
   exact ⟨fun h => m6 x (List.mem_append.2 (.inl h)) x hx rfl, fun h => m6 x (List.mem_append.2 (.inr h)) x hx rfl⟩
  have hrow : ∀ (b : LP) (T : Nat → Prop), (∀ x ∈ ptoks a ++ ptoks r, ¬ T x) → ∀ (i : Nat) (e : List AV) (j : Nat) (x : AV), i ≠ (lpmarks a k).1.length → (pcellss ((lpmarks a k).1 ++ b :: r))[i]? = some e → e[j]? = some x → AvC T x := by
   intro b T hT' i e j x hin hi hj
   rw [pcellss_map, List.getElem?_map] at hi
   obtain ⟨t, ht, rfl⟩ := Option.map_eq_some_iff.1 hi
   have hmem : t ∈ (lpmarks a k).1 ∨ t ∈ r := by
    rw [List.getElem?_append] at ht
    split at ht
    ·exact .inl (List.mem_of_getElem? ht)
    rename_i hlt
    obtain ⟨m, hm⟩ : ∃ m, i - (lpmarks a k).1.length = m + 1 := ⟨i - (lpmarks a k).1.length - 1, by omega⟩
    rw [hm] at ht
    exact .inr (List.mem_of_getElem? (by simpa using ht))
   refine LP.av t (fun y hy => ?_) j x hj
   have hy' : y ∈ ptoks a ∨ y ∈ ptoks r := by
    rcases hmem with h | h
    ·rw [← lpmarks_toks a k]; exact .inl (mem_ptoks h hy)
    exact .inr (mem_ptoks h hy)
   exact .inr ⟨h2 y (hall y (hy'.elim (fun h => .inr (.inr (.inl h))) (fun h => .inr (.inr (.inr h))))), hT' y (List.mem_append.2 hy')⟩
  -- the forms
  refine run_callM rfl rfl rfl (ltb rfl) rfl rfl rfl rfl rfl (fun x hx _ _ => .inl (hall x (.inl hx))) (markFormS_ok fs1 p1 e1 (nx (nx (lpmarks a k).2)) tk1 (fun x hx => h2 x (hall x (.inl hx))) m7) (fun out S1 hR htk1 => ?_)
  obtain ⟨rfl, _, hR⟩ := hR
  refine ⟨_, rfl, rfl, fun v v' => fs1 ≠ [] ∧ v = .imm p1 3 e1 (fcellss fs1) ∧ v' = .imm p1 3 e1 (fcellss (lfmarks fs1 (nx (nx (lpmarks a k).2))).1), ?_,
   [(0, .imm q 4 f (pcellss ((lpmarks a k).1 ++ LP.mk (lpmarks a k).2 (nx (lpmarks a k).2) p1 e1 (lfmarks fs1 (nx (nx (lpmarks a k).2))).1 q1 f1 ks1 :: r))), (4, .int .i64 0), (5, .int .i64 (((lpmarks a k).1).length : Int))], [],
   .cons _ _ _ _ rfl (.clo _ _ ?_) (.cons _ _ _ _ rfl (Tn.av (.int _ _)) (.cons _ _ _ _ rfl (Tn.av (.int _ _)) .nil)), .nil, ?_⟩
  ·rintro v v' ⟨hne1, rfl, rfl⟩
   refine ⟨p1, 3, e1, _, _, rfl, rfl, by rw [fcellss_length, fcellss_length, lfmarks_len], ?_, fs_av fun x hx => ?_, hR⟩
   ·refine h2 p1 (hall p1 (.inl ?_))
    cases fs1 with
    | nil => exact absurd rfl hne1
    | cons t r => exact List.mem_cons_self ..
   rw [lfmarks_stoks] at hx; exact h2 x (hall x (.inl hx))
  ·rw [← pset_mid (lpmarks a k).1 r (.mk (lpmarks a k).2 (nx (lpmarks a k).2) p1 e1 fs1 q1 f1 ks1) (.mk (lpmarks a k).2 (nx (lpmarks a k).2) p1 e1 (lfmarks fs1 (nx (nx (lpmarks a k).2))).1 q1 f1 ks1)]
   refine TnC.row (pget_mid _ r _) (.inr ⟨h2 q hqin, fun hin => hnq q (.inl hin) rfl⟩) rfl ?_ (hrow _ _ fun x hx => (hrestF x hx).1) (fun j x x' hj hj' => ?_)
   ·rw [pset_mid]; exact pcellss_d1s _
   match j, hj, hj' with
   | 0, hj, hj' => cases hj; cases hj'; exact .av _ (.int _ _)
   | 1, hj, hj' => cases hj; cases hj'; exact .av _ (.int _ _)
   | 2, hj, hj' =>
    cases hj; cases hj'
    cases hk1 : fs1 with
    | nil => exact .av _ (.imm _ _ _ _ (fun h => absurd rfl h) (fun i e j x hi => by simp [fcellss] at hi))
    | cons t1 r1 => rw [← hk1]; exact .turn _ _ ⟨(by rw [hk1]; exact List.cons_ne_nil _ _), rfl, rfl⟩
   | 3, hj, hj' => cases hj; cases hj'; exact .av _ (ps_av fun x hx => .inr ⟨h2 x (hall x (.inr (.inl hx))), fun h => m9 x h x hx rfl⟩)
   | j + 4, hj, _ => simp [LP.cells] at hj
  refine mvR rfl rfl rfl rfl (ltb rfl) ?_
  refine run_ops_nil ?_
  -- the kids
  refine run_region ?_
  refine mvL rfl rfl rfl rfl (ltb rfl) ?_
  refine mvL rfl rfl rfl rfl (ltb rfl) ?_
  refine run_pu rfl (indexImm_step hG rfl rfl rfl rfl rfl rfl rfl rfl (pget_mid _ r _)) rfl (ltb rfl) ?_
  refine run_pu rfl (fieldAddr_step hG rfl rfl rfl rfl rfl) rfl (ltb rfl) ?_
  refine run_ld hG rfl rfl rfl rfl rfl (ltb rfl) ?_
  refine mvL rfl rfl rfl rfl (ltb rfl) ?_
  refine run_callM rfl rfl rfl (ltb rfl) rfl rfl rfl rfl rfl (fun x hx _ _ => .inl (hall x (.inr (.inl hx)))) (ih (.mk k0 n0 p1 e1 fs1 q1 f1 ks1) (by rw [hks]; simp) q1 f1 (lfmarks fs1 (nx (nx (lpmarks a k).2))).2 S1.tk (fun x hx => h2 x (hall x (.inr (.inl hx)))) m8) (fun out S' hR htk2 => ?_)
  obtain ⟨rfl, _, hR⟩ := hR
  have hmk : ∀ b : LP, b = LP.mk (lpmarks a k).2 (nx (lpmarks a k).2) p1 e1 (lfmarks fs1 (nx (nx (lpmarks a k).2))).1 q1 f1 (lpmarks ks1 (lfmarks fs1 (nx (nx (lpmarks a k).2))).2).1 → lpmarks (a ++ [LP.mk k0 n0 p1 e1 fs1 q1 f1 ks1]) k = ((lpmarks a k).1 ++ [b], (lpmarks ks1 (lfmarks fs1 (nx (nx (lpmarks a k).2))).2).2) := by
   intro b hb
   rw [lpmarks_app]
   subst hb
   simp only [lpmarks, LP.mark]
  refine ⟨_, rfl, rfl, fun v v' => ks1 ≠ [] ∧ v = .imm q1 4 f1 (pcellss ks1) ∧ v' = .imm q1 4 f1 (pcellss (lpmarks ks1 (lfmarks fs1 (nx (nx (lpmarks a k).2))).2).1), ?_,
   [(0, .imm q 4 f (pcellss ((lpmarks a k).1 ++ LP.mk (lpmarks a k).2 (nx (lpmarks a k).2) p1 e1 (lfmarks fs1 (nx (nx (lpmarks a k).2))).1 q1 f1 (lpmarks ks1 (lfmarks fs1 (nx (nx (lpmarks a k).2))).2).1 :: r))), (4, .int .i64 0), (5, .int .i64 (((lpmarks a k).1).length : Int))], [],
   .cons _ _ _ _ rfl (.clo _ _ ?_) (.cons _ _ _ _ rfl (Tn.av (.int _ _)) (.cons _ _ _ _ rfl (Tn.av (.int _ _)) .nil)), .nil, ?_⟩
  ·rintro v v' ⟨hne1, rfl, rfl⟩
   refine ⟨q1, 4, f1, _, _, rfl, rfl, by rw [pcellss_length, pcellss_length, lpmarks_len], ?_, ps_av fun x hx => ?_, hR⟩
   ·refine h2 q1 (hall q1 (.inr (.inl ?_)))
    cases ks1 with
    | nil => exact absurd rfl hne1
    | cons t r => exact List.mem_cons_self ..
   rw [lpmarks_stoks] at hx; exact h2 x (hall x (.inr (.inl hx)))
  ·rw [← pset_mid (lpmarks a k).1 r (.mk (lpmarks a k).2 (nx (lpmarks a k).2) p1 e1 (lfmarks fs1 (nx (nx (lpmarks a k).2))).1 q1 f1 ks1) (.mk (lpmarks a k).2 (nx (lpmarks a k).2) p1 e1 (lfmarks fs1 (nx (nx (lpmarks a k).2))).1 q1 f1 (lpmarks ks1 (lfmarks fs1 (nx (nx (lpmarks a k).2))).2).1)]
   refine TnC.row (pget_mid _ r _) (.inr ⟨h2 q hqin, fun hin => hnq q (.inr hin) rfl⟩) rfl ?_ (hrow _ _ fun x hx => (hrestF x hx).2) (fun j x x' hj hj' => ?_)
   ·rw [pset_mid]; exact pcellss_d1s _
   match j, hj, hj' with
   | 0, hj, hj' => cases hj; cases hj'; exact .av _ (.int _ _)
   | 1, hj, hj' => cases hj; cases hj'; exact .av _ (.int _ _)
   | 2, hj, hj' => cases hj; cases hj'; exact .av _ (fs_av fun x hx => by
     rw [lfmarks_stoks] at hx
     exact .inr ⟨h2 x (hall x (.inl hx)), fun h => m9 x hx x h rfl⟩)
   | 3, hj, hj' =>
    cases hj; cases hj'
    cases hk1 : ks1 with
    | nil => exact .av _ (.imm _ _ _ _ (fun h => absurd rfl h) (fun i e j x hi => by simp [pcellss] at hi))
    | cons t1 r1 => rw [← hk1]; exact .turn _ _ ⟨(by rw [hk1]; exact List.cons_ne_nil _ _), rfl, rfl⟩
   | j + 4, hj, _ => simp [LP.cells] at hj
  refine mvR rfl rfl rfl rfl (ltb rfl) ?_
  refine run_ops_nil ?_
  refine run_blk ?_
  refine run_region ?_
  refine mvL rfl rfl rfl rfl (ltb rfl) ?_
  refine run_bin rfl rfl rfl rfl rfl rfl rfl (ltb rfl) ?_
  refine mvR rfl rfl rfl rfl (ltb rfl) ?_
  refine run_ops_nil ?_
  have hw : IntKind.i64.wrap ((((lpmarks a k).1).length : Int) + 1) = (((lpmarks (a ++ [LP.mk k0 n0 p1 e1 fs1 q1 f1 ks1]) k).1).length : Int) := by
   rw [lpmarks_len, lpmarks_len]
   rw [hks] at hlen
   simp only [List.length_append, List.length_cons] at hlen
   rw [IntWalk.i64_in _ (by omega)]
   simp
  refine run_loop_end ⟨r.length, _, by rw [hm]; exact Nat.lt_succ_self _, ⟨a ++ [LP.mk k0 n0 p1 e1 fs1 q1 f1 ks1], r, S'.tk, by rw [hks]; simp, rfl, Nat.le_trans hle (Nat.le_trans htk1 htk2), rfl⟩, ?_⟩
  rw [← hw, hmk _ rfl, List.append_assoc]
  exact Sub.env _ ⟨rfl, rfl, rfl, rfl, trivial⟩
 have hr : r = [] := by
  cases r with
  | nil => rfl
  | cons t r => exact absurd (by simp only [List.length_append, List.length_cons]; omega) hb
 subst hr
 rw [List.append_nil] at hks
 subst hks
 refine run_exit_to rfl ?_
 refine run_sr ?_
 refine mvL rfl rfl rfl rfl (ltb rfl) ?_
 refine mvR rfl rfl rfl rfl (ltb rfl) ?_
 refine run_ops_nil ?_
 refine run_ret_to ?_
 refine fin_m hG rfl rfl rfl fun S' hS hv => ⟨rfl, by rw [hS]; exact hle, ?_⟩
 obtain ⟨u, hu⟩ := hv 0 _ rfl rfl
 rw [List.append_nil] at hu
 exact ⟨u, hu⟩

theorem markProofS_ok (ks : List LP) : ∀ (q : Nat) (f : Bool) (k : Int) (tk : Nat), (∀ x ∈ pstoks q ks, 2 ≤ x) → (pstoks q ks).Nodup →
  MCalls Go.Proofs.Try.prog 105 [.imm q 4 f (pcellss ks), .int .i64 k] tk (fun x => x ∈ pstoks q ks) (PMarked tk q f ks k) := by
 have key : ∀ t : LP, ∀ (q : Nat) (f : Bool) (k : Int) (tk : Nat), (∀ x ∈ pstoks q t.kids, 2 ≤ x) → (pstoks q t.kids).Nodup →
   MCalls Go.Proofs.Try.prog 105 [.imm q 4 f (pcellss t.kids), .int .i64 k] tk (fun x => x ∈ pstoks q t.kids) (PMarked tk q f t.kids k) := by
  intro t
  induction t using LP.ind with
  | _ k n q1 f1 fs q f ks ih => exact markProofS_st ks ih
 exact markProofS_st ks fun t _ => key t

end Go.Am.Ytpkeophkdemcpaa
