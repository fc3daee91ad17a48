/- How a law marks a list of Forms in place. -/
import Derived.Test.YtpkeophkdemcpaaMi2
import Derived.Test.YtpkeophkdemcpaaTypes
-- packed
namespace Go.Am.Ytpkeophkdemcpaa
open Go Go.Am

set_option maxRecDepth 100000 in
theorem markFormS_st (ks : List LF) (ih : ∀ t ∈ ks, ∀ (q : Nat) (f : Bool) (k : Int) (tk : Nat), (∀ x ∈ fstoks q t.kids, 2 ≤ x) → (fstoks q t.kids).Nodup →
   MCalls Go.Proofs.Try.prog 38 [.imm q 3 f (fcellss t.kids), .int .i64 k] tk (fun x => x ∈ fstoks q t.kids) (FMarked tk q f t.kids k)) :
  ∀ (q : Nat) (f : Bool) (k : Int) (tk : Nat), (∀ x ∈ fstoks q ks, 2 ≤ x) → (fstoks q ks).Nodup →
   MCalls Go.Proofs.Try.prog 38 [.imm q 3 f (fcellss ks), .int .i64 k] tk (fun x => x ∈ fstoks q ks) (FMarked tk q f ks k) := by
 intro q f k tk h2 hnd
 refine mcalls_of_run Go.Proofs.Try.func38 rfl rfl [(0, .imm q 3 f (fcellss ks)), (1, .int .i64 k)] (.cons (entS rfl) (.cons (entS rfl) (.nil _))) rfl (leb rfl) (fun S0 htk => ?_)
 refine run_sr ?_
 refine mvR rfl rfl rfl rfl (ltb rfl) ?_
 refine run_ops_nil ?_
 refine run_seq ?_
 refine run_sr ?_
 refine mvR rfl rfl rfl rfl (ltb rfl) ?_
 refine run_ops_nil ?_
 refine run_lenb (i := 0) (q := q) (sz := 3) (f := f) (es := fcellss ks) rfl fun hlen => ?_
 rw [fcellss_length] at hlen
 refine run_block ?_
 refine run_rounds (fun m σ => ∃ (a r : List LF) (tk1 : Nat), ks = a ++ r ∧ m = r.length ∧ tk ≤ tk1 ∧ σ = ⟨[(0, .imm q 3 f (fcellss ((lfmarks a k).1 ++ r))), (1, .int .i64 (lfmarks a k).2), (4, .int .i64 0), (5, .int .i64 (((lfmarks a k).1).length : Int))], [], [], fun _ => none, tk1⟩) ks.length
  (Sub.env [(0, .imm q 3 f (fcellss ks)), (1, .int .i64 k), (4, .int .i64 0), (5, .int .i64 0)] ⟨rfl, rfl, rfl, rfl, trivial⟩) ⟨[], ks, tk, rfl, rfl, Nat.le_refl _, rfl⟩ (fun m σ hI => ?_)
 obtain ⟨a, r, tk1, hks, hm, hle, rfl⟩ := hI
 have hal := lfmarks_len a k
 refine run_seq ?_
 refine run_sr ?_
 refine mvL rfl rfl rfl rfl (ltb rfl) ?_
 refine mvL rfl rfl rfl rfl (ltb rfl) ?_
 refine run_pu rfl (lenImm_step hG rfl rfl rfl rfl (fcellss_length _)) rfl (ltb rfl) ?_
 refine run_bin rfl rfl rfl rfl rfl rfl rfl (ltb rfl) ?_
 refine run_ops_nil ?_
 refine run_ifd rfl rfl (fun hb => ?_) (fun hb => ?_)
 ·obtain _ | ⟨t, r⟩ := r
  ·exact absurd hb (by simp)
  obtain ⟨k0, n0, q1, f1, ks1⟩ := t
  have hT : ∀ (b : LF), b.toks = fstoks q1 ks1 → ∀ p : Nat → Prop, (∀ x ∈ fstoks q ks, p x) → ∀ x ∈ ftoks ((lfmarks a k).1 ++ b :: r), p x := by
   intro b hb p hp x hx
   refine hp x ?_
   rw [hks]
   rw [ftoks_app, lfmarks_toks] at hx
   have : x ∈ ftoks (a ++ LF.mk k0 n0 q1 f1 ks1 :: r) := by
    rw [ftoks_app]
    simp only [ftoks, LF.toks_eq] at hx ⊢
    rw [hb] at hx
    exact hx
   cases hq : a ++ LF.mk k0 n0 q1 f1 ks1 :: r with
   | nil => simp at hq
   | cons t r => rw [hq] at this; exact List.mem_cons_of_mem _ this
  have hqin : q ∈ fstoks q ks := by rw [hks]; cases a <;> exact List.mem_cons_self ..
  have hne : ∀ x ∈ ftoks (a ++ LF.mk k0 n0 q1 f1 ks1 :: r), x ≠ q := by
   intro x hx e
   subst e
   have : (x :: ftoks (a ++ LF.mk k0 n0 q1 f1 ks1 :: r)).Nodup := by rw [hks] at hnd; cases a <;> exact hnd
   exact (List.nodup_cons.1 this).1 hx
  have hnd1 : (ftoks (a ++ LF.mk k0 n0 q1 f1 ks1 :: r)).Nodup := by
   have : (q :: ftoks (a ++ LF.mk k0 n0 q1 f1 ks1 :: r)).Nodup := by rw [hks] at hnd; cases a <;> exact hnd
   exact (List.nodup_cons.1 this).2
  have hfree : ∀ (b : LF), b.toks = fstoks q1 ks1 → ∀ (i : Nat) (e : List AV) (j : Nat) (x : AV), (fcellss ((lfmarks a k).1 ++ b :: r))[i]? = some e → e[j]? = some x → AvP (fun t => 2 ≤ t ∧ t ≠ q) x := fun b hb =>
   fcellss_av _ fun x hx => ⟨hT b hb _ h2 x hx, hne x (by
    rw [ftoks_app] at hx ⊢
    rw [lfmarks_toks] at hx
    simp only [ftoks, LF.toks_eq] at hx ⊢
    rw [hb] at hx
    exact hx)⟩
  refine run_skip ?_
  refine run_seq ?_
  refine run_block ?_
  -- the kind
  refine run_sr ?_
  refine mvL rfl rfl rfl rfl (ltb rfl) ?_
  refine mvL rfl rfl rfl rfl (ltb rfl) ?_
  refine mvL rfl rfl rfl rfl (ltb rfl) ?_
  refine run_fst hG rfl rfl rfl rfl rfl (ltb rfl) rfl rfl (ltb rfl) rfl rfl (n := (lfmarks a k).1.length) rfl rfl rfl rfl rfl rfl rfl rfl rfl rfl rfl rfl (h2 q hqin) (fget_mid _ r _) (show 0 < 3 by decide) (hfree _ (LF.toks_eq ..)) rfl rfl (.inl hqin)
   (env' := [(0, .imm q 3 f (fcellss ((lfmarks a k).1 ++ LF.mk (lfmarks a k).2 n0 q1 f1 ks1 :: r))), (1, .int .i64 (lfmarks a k).2), (4, .int .i64 0), (5, .int .i64 (((lfmarks a k).1).length : Int))]) (l' := [])
   (fset_mid (lfmarks a k).1 r (.mk k0 n0 q1 f1 ks1) (.mk (lfmarks a k).2 n0 q1 f1 ks1)).symm (.cons _ _ _ _ rfl (Tn.turn ⟨rfl, rfl⟩) (.cons _ _ _ _ rfl (Tn.av (.int _ _)) (.cons _ _ _ _ rfl (Tn.av (.int _ _)) (.cons _ _ _ _ rfl (Tn.av (.int _ _)) .nil)))) .nil ?_
  refine run_ops_nil ?_
  refine run_sr ?_
  refine mvL rfl rfl rfl rfl (ltb rfl) ?_
  refine run_bin rfl rfl rfl rfl rfl rfl rfl (ltb rfl) ?_
  refine mvR rfl rfl rfl rfl (ltb rfl) ?_
  refine run_ops_nil ?_
  -- the number
  refine run_sr ?_
  refine mvL rfl rfl rfl rfl (ltb rfl) ?_
  refine mvL rfl rfl rfl rfl (ltb rfl) ?_
  refine mvL rfl rfl rfl rfl (ltb rfl) ?_
  refine run_fst hG rfl rfl rfl rfl rfl (ltb rfl) rfl rfl (ltb rfl) rfl rfl (n := (lfmarks a k).1.length) rfl rfl rfl rfl rfl rfl rfl rfl rfl rfl rfl rfl (h2 q hqin) (fget_mid _ r _) (show 1 < 3 by decide) (hfree _ (LF.toks_eq ..)) rfl rfl (.inl hqin)
   (env' := [(0, .imm q 3 f (fcellss ((lfmarks a k).1 ++ LF.mk (lfmarks a k).2 (nx (lfmarks a k).2) q1 f1 ks1 :: r))), (1, .int .i64 (nx (lfmarks a k).2)), (4, .int .i64 0), (5, .int .i64 (((lfmarks a k).1).length : Int))]) (l' := [])
   (fset_mid (lfmarks a k).1 r (.mk (lfmarks a k).2 n0 q1 f1 ks1) (.mk (lfmarks a k).2 (nx (lfmarks a k).2) q1 f1 ks1)).symm (.cons _ _ _ _ rfl (Tn.turn ⟨rfl, rfl⟩) (.cons _ _ _ _ rfl (Tn.av (.int _ _)) (.cons _ _ _ _ rfl (Tn.av (.int _ _)) (.cons _ _ _ _ rfl (Tn.av (.int _ _)) .nil)))) .nil ?_
  refine run_ops_nil ?_
  refine run_sr ?_
  refine mvL rfl rfl rfl rfl (ltb rfl) ?_
  refine run_bin rfl rfl rfl rfl rfl rfl rfl (ltb rfl) ?_
  refine mvR rfl rfl rfl rfl (ltb rfl) ?_
  refine run_ops_nil ?_
  -- the kids
  refine run_region ?_
  refine mvL rfl rfl rfl rfl (ltb rfl) ?_
  refine mvL rfl rfl rfl rfl (ltb rfl) ?_
  refine run_pu rfl (indexImm_step hG rfl rfl rfl rfl rfl rfl rfl rfl (fget_mid _ r _)) rfl (ltb rfl) ?_
  refine run_pu rfl (fieldAddr_step hG rfl rfl rfl rfl rfl) rfl (ltb rfl) ?_
  refine run_ld hG rfl rfl rfl rfl rfl (ltb rfl) ?_
  refine mvL rfl rfl rfl rfl (ltb rfl) ?_
  have hsub : ∀ x ∈ fstoks q1 ks1, x ∈ ftoks (a ++ LF.mk k0 n0 q1 f1 ks1 :: r) := by
   intro x hx
   rw [ftoks_app]
   simp only [ftoks, LF.toks_eq, List.mem_append]
   exact .inr (.inl hx)
  have hsub2 : ∀ x ∈ fstoks q1 ks1, x ∈ fstoks q ks := by
   intro x hx
   have := hsub x hx
   rw [hks]
   cases hq : a ++ LF.mk k0 n0 q1 f1 ks1 :: r with
   | nil => simp at hq
   | cons t r => rw [hq] at this; exact List.mem_cons_of_mem _ this
  have hnd2 : (fstoks q1 ks1).Nodup := by
   rw [ftoks_app] at hnd1
   simp only [ftoks, LF.toks_eq] at hnd1
   exact (List.nodup_append.1 (List.nodup_append.1 hnd1).2.1).1
  have hout : ∀ (j : Nat), ∀ x ∈ ftoks a ++ ftoks r, x = 0 ∨ (2 ≤ x ∧ ¬ x ∈ fstoks q1 ks1) := by
   intro _ x hx
   have hx' : x ∈ ftoks (a ++ LF.mk k0 n0 q1 f1 ks1 :: r) := by
    rw [ftoks_app]
    simp only [ftoks, LF.toks_eq, List.mem_append] at hx ⊢
    rcases hx with hx | hx
    ·exact .inl hx
    exact .inr (.inr hx)
   refine .inr ⟨h2 x (by
    rw [hks]
    cases hq : a ++ LF.mk k0 n0 q1 f1 ks1 :: r with
    | nil => simp at hq
    | cons t r => rw [hq] at hx'; exact List.mem_cons_of_mem _ hx'), fun hin => ?_⟩
   rw [ftoks_app] at hnd1
   simp only [ftoks, LF.toks_eq] at hnd1
   obtain ⟨n1, n2, n3⟩ := List.nodup_append.1 hnd1
   rcases List.mem_append.1 hx with hx | hx
   ·exact n3 x hx x (List.mem_append.2 (.inl hin)) rfl
   exact (List.nodup_append.1 n2).2.2 x hin x hx rfl
  refine run_callM rfl rfl rfl (ltb rfl) rfl rfl rfl rfl rfl (fun x hx _ _ => .inl (hsub2 x hx)) (ih (.mk k0 n0 q1 f1 ks1) (by rw [hks]; simp) q1 f1 (nx (nx (lfmarks a k).2)) tk1 (fun x hx => h2 x (hsub2 x hx)) hnd2) (fun out S' hR htk1 => ?_)
  obtain ⟨rfl, _, hR⟩ := hR
  have hmk : ∀ b : LF, b = LF.mk (lfmarks a k).2 (nx (lfmarks a k).2) q1 f1 (lfmarks ks1 (nx (nx (lfmarks a k).2))).1 → lfmarks (a ++ [LF.mk k0 n0 q1 f1 ks1]) k = ((lfmarks a k).1 ++ [b], (lfmarks ks1 (nx (nx (lfmarks a k).2))).2) := by
   intro b hb
   rw [lfmarks_app]
   subst hb
   simp only [lfmarks, LF.mark]
  refine ⟨_, rfl, rfl, fun v v' => ks1 ≠ [] ∧ v = .imm q1 3 f1 (fcellss ks1) ∧ v' = .imm q1 3 f1 (fcellss (lfmarks ks1 (nx (nx (lfmarks a k).2))).1), ?_,
   [(0, .imm q 3 f (fcellss ((lfmarks a k).1 ++ LF.mk (lfmarks a k).2 (nx (lfmarks a k).2) q1 f1 (lfmarks ks1 (nx (nx (lfmarks a k).2))).1 :: r))), (4, .int .i64 0), (5, .int .i64 (((lfmarks a k).1).length : Int))], [],
   .cons _ _ _ _ rfl (.clo _ _ ?_) (.cons _ _ _ _ rfl (Tn.av (.int _ _)) (.cons _ _ _ _ rfl (Tn.av (.int _ _)) .nil)), .nil, ?_⟩
  ·rintro v v' ⟨hne1, rfl, rfl⟩
   refine ⟨q1, 3, f1, _, _, rfl, rfl, by rw [fcellss_length, fcellss_length, lfmarks_len], ?_, fs_av fun x hx => ?_, hR⟩
   ·refine h2 q1 (hsub2 q1 ?_)
    cases ks1 with
    | nil => exact absurd rfl hne1
    | cons t r => exact List.mem_cons_self ..
   rw [lfmarks_stoks] at hx; exact h2 x (hsub2 x hx)
  ·rw [← fset_mid (lfmarks a k).1 r (.mk (lfmarks a k).2 (nx (lfmarks a k).2) q1 f1 ks1) (.mk (lfmarks a k).2 (nx (lfmarks a k).2) q1 f1 (lfmarks ks1 (nx (nx (lfmarks a k).2))).1)]
   refine TnC.row (fget_mid _ r _) (.inr ⟨h2 q hqin, fun hin => hne q (hsub q hin) rfl⟩) rfl ?_ (fun i e j x hin hi hj => ?_) (fun j x x' hj hj' => ?_)
   ·rw [fset_mid]; exact fcellss_d1s _
   ·rw [fcellss_map, List.getElem?_map] at hi
    obtain ⟨t, ht, rfl⟩ := Option.map_eq_some_iff.1 hi
    refine LF.av t (fun y hy => hout 0 y ?_) j x hj
    have : t ∈ (lfmarks a k).1 ∨ t ∈ r := by
     rw [List.getElem?_append] at ht
     split at ht
     ·exact .inl (List.mem_of_getElem? ht)
     rename_i hlt
     obtain ⟨m, hm⟩ : ∃ m, i - (lfmarks a k).1.length = m + 1 := ⟨i - (lfmarks a k).1.length - 1, by omega⟩
     rw [hm] at ht
     exact .inr (List.mem_of_getElem? (by simpa using ht))
    rw [List.mem_append]
    rcases this with h | h
    ·rw [← lfmarks_toks a k]; exact .inl (mem_ftoks h hy)
    exact .inr (mem_ftoks h hy)
   match j, hj, hj' with
   | 0, hj, hj' => cases hj; cases hj'; exact .av _ (.int _ _)
   | 1, hj, hj' => cases hj; cases hj'; exact .av _ (.int _ _)
   | 2, hj, hj' =>
    cases hj; cases hj'
    cases hk1 : ks1 with
    | nil => exact .av _ (.imm _ _ _ _ (fun h => absurd rfl h) (fun i e j x hi => by simp [fcellss] at hi))
    | cons t1 r1 => rw [← hk1]; exact .turn _ _ ⟨(by rw [hk1]; exact List.cons_ne_nil _ _), rfl, rfl⟩
   | j + 3, hj, _ => simp [LF.cells] at hj
  refine mvR rfl rfl rfl rfl (ltb rfl) ?_
  refine run_ops_nil ?_
  refine run_blk ?_
  refine run_region ?_
  refine mvL rfl rfl rfl rfl (ltb rfl) ?_
  refine run_bin rfl rfl rfl rfl rfl rfl rfl (ltb rfl) ?_
  refine mvR rfl rfl rfl rfl (ltb rfl) ?_
  refine run_ops_nil ?_
  have hw : IntKind.i64.wrap ((((lfmarks a k).1).length : Int) + 1) = (((lfmarks (a ++ [LF.mk k0 n0 q1 f1 ks1]) k).1).length : Int) := by
   rw [lfmarks_len, lfmarks_len]
   rw [hks] at hlen
   simp only [List.length_append, List.length_cons] at hlen
   rw [IntWalk.i64_in _ (by omega)]
   simp
  refine run_loop_end ⟨r.length, _, by rw [hm]; exact Nat.lt_succ_self _, ⟨a ++ [LF.mk k0 n0 q1 f1 ks1], r, S'.tk, by rw [hks]; simp, rfl, Nat.le_trans hle htk1, rfl⟩, ?_⟩
  rw [← hw, hmk _ rfl, List.append_assoc]
  exact Sub.env _ ⟨rfl, rfl, rfl, rfl, trivial⟩
 have hr : r = [] := by
  cases r with
  | nil => rfl
  | cons t r => exact absurd (by simp only [List.length_append, List.length_cons]; omega) hb
 subst hr
 rw [List.append_nil] at hks
 subst hks
 refine run_exit_to rfl ?_
 refine run_sr ?_
 refine mvL rfl rfl rfl rfl (ltb rfl) ?_
 refine mvR rfl rfl rfl rfl (ltb rfl) ?_
 refine run_ops_nil ?_
 refine run_ret_to ?_
 refine fin_m hG rfl rfl rfl fun S' hS hv => ⟨rfl, by rw [hS]; exact hle, ?_⟩
 obtain ⟨u, hu⟩ := hv 0 _ rfl rfl
 rw [List.append_nil] at hu
 exact ⟨u, hu⟩

theorem markFormS_ok (ks : List LF) : ∀ (q : Nat) (f : Bool) (k : Int) (tk : Nat), (∀ x ∈ fstoks q ks, 2 ≤ x) → (fstoks q ks).Nodup →
  MCalls Go.Proofs.Try.prog 38 [.imm q 3 f (fcellss ks), .int .i64 k] tk (fun x => x ∈ fstoks q ks) (FMarked tk q f ks k) := by
 have key : ∀ t : LF, ∀ (q : Nat) (f : Bool) (k : Int) (tk : Nat), (∀ x ∈ fstoks q t.kids, 2 ≤ x) → (fstoks q t.kids).Nodup →
   MCalls Go.Proofs.Try.prog 38 [.imm q 3 f (fcellss t.kids), .int .i64 k] tk (fun x => x ∈ fstoks q t.kids) (FMarked tk q f t.kids k) := by
  intro t
  induction t using LF.ind with
  | _ k n q f ks ih => exact markFormS_st ks ih
 exact markFormS_st ks fun t _ => key t

end Go.Am.Ytpkeophkdemcpaa
