/- How a law marks a list of trees in place. -/
import Derived.Test.YtaedacibojpfkaaMi2
import Derived.Test.YtaedacibojpfkaaMhTree
import Derived.Test.YtaedacibojpfkaaPuA
import Derived.Test.YtaedacibojpfkaaMz
-- packed
namespace Go.Am.Ytaedacibojpfkaa
open Go Go.Am

/-- The text that stands for k. -/
def mtx (k : Int) : ByteArray := (w_markText 20 k).getD ⟨#[]⟩

theorem markText_loop : ∀ (m : Nat) (i : Int) (t : ByteArray), i < 10 ^ m → t.size + m ≤ 1000 → ∃ r, w_markText_L1 (m + 1) i t = some r
 | 0, i, t, hi, ht => by
  rw [w_markText_L1, if_neg (by simp at hi; omega), chk_of (by have : (⟨#[109]⟩ : ByteArray).size = 1 := rfl; omega)]
  exact ⟨_, rfl⟩
 | m + 1, i, t, hi, ht => by
  rw [w_markText_L1]
  by_cases h0 : i > 0
  ·have hs : (bytesOf [(IntKind.u8.wrap (IntKind.i64.wrap (48 + (Int.tmod i 10))))]).size = 1 := rfl
   rw [if_pos h0, chk_of (by rw [hs]; omega)]
   have hd : Int.tdiv i 10 = i / 10 := Int.tdiv_eq_ediv_of_nonneg (by omega)
   have hw : IntKind.i64.wrap (Int.tdiv i 10) ≤ Int.tdiv i 10 := by
    rw [hd]
    by_cases hbig : i / 10 ≤ 9223372036854775807
    ·rw [w64_eq (by omega) hbig]; exact Int.le_refl _
    have := nx_le' (i / 10); omega
   refine markText_loop m _ _ ?_ (by rw [ByteArray.size_append, hs]; omega)
   rw [hd] at hw ⊢
   have : i / 10 < 10 ^ m := by rw [Int.pow_succ] at hi; omega
   omega
  rw [if_neg h0, chk_of (by have : (⟨#[109]⟩ : ByteArray).size = 1 := rfl; omega)]
  exact ⟨_, rfl⟩

theorem mtx_ok {k : Int} (h : k ≤ 9223372036854775807) : w_markText 20 k = some (mtx k) := by
 have : ∃ r, w_markText 20 k = some r := by
  unfold w_markText
  split
  ·exact ⟨_, rfl⟩
  exact markText_loop 19 k _ (by have e : (10 : Int) ^ 19 = 10000000000000000000 := (by decide); omega) (by decide)
 obtain ⟨r, hr⟩ := this
 rw [mtx, hr]; rfl

set_option maxHeartbeats 20000000 in
set_option maxRecDepth 100000 in
theorem markTreeS_st (ks : List LT) (ih : ∀ t ∈ ks, ∀ (q : Nat) (f : Bool) (k : Int) (tk : Nat), (∀ x ∈ tstoks q t.kids, 2 ≤ x) → (tstoks q t.kids).Nodup →
   MCalls Go.Proofs.Try.prog 118 [.imm q 4 f (cellss t.kids), .int .i64 k] tk (fun x => x ∈ tstoks q t.kids) (TMarked mtx tk q f t.kids k)) :
  ∀ (q : Nat) (f : Bool) (k : Int) (tk : Nat), (∀ x ∈ tstoks q ks, 2 ≤ x) → (tstoks q ks).Nodup →
   MCalls Go.Proofs.Try.prog 118 [.imm q 4 f (cellss ks), .int .i64 k] tk (fun x => x ∈ tstoks q ks) (TMarked mtx tk q f ks k) := by
 intro q f k tk h2 hnd
 refine mcalls_of_run Go.Proofs.Try.func118 rfl rfl [(0, .imm q 4 f (cellss ks)), (1, .int .i64 k)] (.cons (entS rfl) (.cons (entS rfl) (.nil _))) rfl (leb rfl) (fun S0 htk => ?_)
 refine run_sr ?_
 refine yR rfl ?_
 refine run_ops_nil ?_
 refine run_seq ?_
 refine run_sr ?_
 refine yR rfl ?_
 refine run_ops_nil ?_
 refine run_lenb (i := 0) (q := q) (sz := 4) (f := f) (es := cellss ks) rfl fun hlen => ?_
 rw [cellss_length] at hlen
 refine run_block ?_
 refine run_rounds (fun m σ => ∃ (a r : List LT) (tk1 : Nat), ks = a ++ r ∧ m = r.length ∧ tk ≤ tk1 ∧ σ = ⟨[(0, .imm q 4 f (cellss ((ltmarks mtx a k).1 ++ r))), (1, .int .i64 (ltmarks mtx a k).2), (4, .int .i64 0), (5, .int .i64 (((ltmarks mtx a k).1).length : Int))], [], [], fun _ => none, tk1⟩) ks.length
  (Sub.pk [0, 1, 4, 5] rfl) ⟨[], ks, tk, rfl, rfl, Nat.le_refl _, rfl⟩ (fun m σ hI => ?_)
 obtain ⟨a, r, tk1, hks, hm, hle, rfl⟩ := hI
 have hal := ltmarks_len mtx a k
 refine run_seq ?_
 refine run_sr ?_
 refine yL rfl ?_
 refine yL rfl ?_
 refine run_pu rfl (lenImm_step hG rfl rfl rfl rfl (cellss_length _)) rfl (ltb rfl) ?_
 refine yB rfl ?_
 refine run_ops_nil ?_
 refine run_ifd rfl rfl (fun hb => ?_) (fun hb => ?_)
 ·obtain _ | ⟨t, r⟩ := r
  ·exact absurd hb (by simp)
  obtain ⟨k0, n0, s0, q1, f1, ks1⟩ := t
  have hT : ∀ (b : LT), b.toks = tstoks q1 ks1 → ∀ p : Nat → Prop, (∀ x ∈ tstoks q ks, p x) → ∀ x ∈ ttoks ((ltmarks mtx a k).1 ++ b :: r), p x := by
   intro b hb p hp x hx
   refine hp x ?_
   rw [hks]
   rw [ttoks_app, ltmarks_toks] at hx
   have : x ∈ ttoks (a ++ LT.mk k0 n0 s0 q1 f1 ks1 :: r) := by
    rw [ttoks_app]
    simp only [ttoks, LT.toks_eq] at hx ⊢
    rw [hb] at hx
    exact hx
   cases hq : a ++ LT.mk k0 n0 s0 q1 f1 ks1 :: r with
   | nil => simp at hq
   | cons t r => rw [hq] at this; exact List.mem_cons_of_mem _ this
  have hqin : q ∈ tstoks q ks := by rw [hks]; cases a <;> exact List.mem_cons_self ..
  have hne : ∀ x ∈ ttoks (a ++ LT.mk k0 n0 s0 q1 f1 ks1 :: r), x ≠ q := by
   intro x hx e
   subst e
   have : (x :: ttoks (a ++ LT.mk k0 n0 s0 q1 f1 ks1 :: r)).Nodup := by rw [hks] at hnd; cases a <;> exact hnd
   exact (List.nodup_cons.1 this).1 hx
  have hnd1 : (ttoks (a ++ LT.mk k0 n0 s0 q1 f1 ks1 :: r)).Nodup := by
   have : (q :: ttoks (a ++ LT.mk k0 n0 s0 q1 f1 ks1 :: r)).Nodup := by rw [hks] at hnd; cases a <;> exact hnd
   exact (List.nodup_cons.1 this).2
  have hfree : ∀ (b : LT), b.toks = tstoks q1 ks1 → ∀ (i : Nat) (e : List AV) (j : Nat) (x : AV), (cellss ((ltmarks mtx a k).1 ++ b :: r))[i]? = some e → e[j]? = some x → AvP (fun t => 2 ≤ t ∧ t ≠ q) x := fun b hb =>
   cellss_av _ fun x hx => ⟨hT b hb _ h2 x hx, hne x (by
    rw [ttoks_app] at hx ⊢
    rw [ltmarks_toks] at hx
    simp only [ttoks, LT.toks_eq] at hx ⊢
    rw [hb] at hx
    exact hx)⟩
  refine run_skip ?_
  refine run_seq ?_
  refine run_block ?_
  -- the kind
  refine run_sr ?_
  refine yL rfl ?_
  refine yL rfl ?_
  refine yL rfl ?_
  refine run_fst hG rfl rfl rfl rfl rfl (ltb rfl) rfl rfl (ltb rfl) rfl rfl (n := (ltmarks mtx a k).1.length) rfl rfl rfl rfl rfl rfl rfl rfl rfl rfl rfl rfl (h2 q hqin) (tget_mid _ r _) (show 0 < 4 by decide) (hfree _ (LT.toks_eq ..)) rfl rfl (.inl hqin)
   (env' := [(0, .imm q 4 f (cellss ((ltmarks mtx a k).1 ++ LT.mk (ltmarks mtx a k).2 n0 s0 q1 f1 ks1 :: r))), (1, .int .i64 (ltmarks mtx a k).2), (4, .int .i64 0), (5, .int .i64 (((ltmarks mtx a k).1).length : Int))]) (l' := [])
   (tset_mid (ltmarks mtx a k).1 r (.mk k0 n0 s0 q1 f1 ks1) (.mk (ltmarks mtx a k).2 n0 s0 q1 f1 ks1)).symm (.cons _ _ _ _ rfl (Tn.turn ⟨rfl, rfl⟩) (.cons _ _ _ _ rfl (Tn.av (.int _ _)) (.cons _ _ _ _ rfl (Tn.av (.int _ _)) (.cons _ _ _ _ rfl (Tn.av (.int _ _)) .nil)))) .nil ?_
  refine run_ops_nil ?_
  refine run_sr ?_
  refine yL rfl ?_
  refine yB rfl ?_
  refine yR rfl ?_
  refine run_ops_nil ?_
  -- the number
  refine run_sr ?_
  refine yL rfl ?_
  refine yL rfl ?_
  refine yL rfl ?_
  refine run_fst hG rfl rfl rfl rfl rfl (ltb rfl) rfl rfl (ltb rfl) rfl rfl (n := (ltmarks mtx a k).1.length) rfl rfl rfl rfl rfl rfl rfl rfl rfl rfl rfl rfl (h2 q hqin) (tget_mid _ r _) (show 1 < 4 by decide) (hfree _ (LT.toks_eq ..)) rfl rfl (.inl hqin)
   (env' := [(0, .imm q 4 f (cellss ((ltmarks mtx a k).1 ++ LT.mk (ltmarks mtx a k).2 (nx (ltmarks mtx a k).2) s0 q1 f1 ks1 :: r))), (1, .int .i64 (nx (ltmarks mtx a k).2)), (4, .int .i64 0), (5, .int .i64 (((ltmarks mtx a k).1).length : Int))]) (l' := [])
   (tset_mid (ltmarks mtx a k).1 r (.mk (ltmarks mtx a k).2 n0 s0 q1 f1 ks1) (.mk (ltmarks mtx a k).2 (nx (ltmarks mtx a k).2) s0 q1 f1 ks1)).symm (.cons _ _ _ _ rfl (Tn.turn ⟨rfl, rfl⟩) (.cons _ _ _ _ rfl (Tn.av (.int _ _)) (.cons _ _ _ _ rfl (Tn.av (.int _ _)) (.cons _ _ _ _ rfl (Tn.av (.int _ _)) .nil)))) .nil ?_
  refine run_ops_nil ?_
  refine run_sr ?_
  refine yL rfl ?_
  refine yB rfl ?_
  refine yR rfl ?_
  refine run_ops_nil ?_
  -- the name
  refine run_sr ?_
  refine yL rfl ?_
  refine yL rfl ?_
  refine yL rfl ?_
  refine yK rfl (w_markText_ok 20 (nx (nx (ltmarks mtx a k).2)) (mtx_ok (nx_le _)) _ _) (callK_retX (fun v tk2 (hle2 : tk1 ≤ tk2) hv => ?_))
  subst hv
  refine run_fst hG rfl rfl rfl rfl rfl (ltb rfl) rfl rfl (ltb rfl) rfl rfl (n := (ltmarks mtx a k).1.length) rfl rfl rfl rfl rfl rfl rfl rfl rfl rfl rfl rfl (h2 q hqin) (tget_mid _ r _) (show 2 < 4 by decide) (hfree _ (LT.toks_eq ..)) rfl rfl (.inl hqin)
   (env' := [(0, .imm q 4 f (cellss ((ltmarks mtx a k).1 ++ LT.mk (ltmarks mtx a k).2 (nx (ltmarks mtx a k).2) (mtx (nx (nx (ltmarks mtx a k).2))) q1 f1 ks1 :: r))), (1, .int .i64 (nx (nx (ltmarks mtx a k).2))), (4, .int .i64 0), (5, .int .i64 (((ltmarks mtx a k).1).length : Int))]) (l' := [])
   (tset_mid (ltmarks mtx a k).1 r (.mk (ltmarks mtx a k).2 (nx (ltmarks mtx a k).2) s0 q1 f1 ks1) (.mk (ltmarks mtx a k).2 (nx (ltmarks mtx a k).2) (mtx (nx (nx (ltmarks mtx a k).2))) q1 f1 ks1)).symm (.cons _ _ _ _ rfl (Tn.turn ⟨rfl, rfl⟩) (.cons _ _ _ _ rfl (Tn.av (.int _ _)) (.cons _ _ _ _ rfl (Tn.av (.int _ _)) (.cons _ _ _ _ rfl (Tn.av (.int _ _)) .nil)))) .nil ?_
  refine run_ops_nil ?_
  refine run_sr ?_
  refine yL rfl ?_
  refine yB rfl ?_
  refine yR rfl ?_
  refine run_ops_nil ?_
  -- the kids
  refine run_region ?_
  refine yL rfl ?_
  refine yL rfl ?_
  refine run_pu rfl (indexImm_step hG rfl rfl rfl rfl rfl rfl rfl rfl (tget_mid _ r _)) rfl (ltb rfl) ?_
  refine yF hG rfl ?_
  refine yD hG rfl ?_
  refine yL rfl ?_
  have hsub : ∀ x ∈ tstoks q1 ks1, x ∈ ttoks (a ++ LT.mk k0 n0 s0 q1 f1 ks1 :: r) := by
   intro x hx
   rw [ttoks_app]
   simp only [ttoks, LT.toks_eq, List.mem_append]
   exact .inr (.inl hx)
  have hsub2 : ∀ x ∈ tstoks q1 ks1, x ∈ tstoks q ks := by
   intro x hx
   have := hsub x hx
   rw [hks]
   cases hq : a ++ LT.mk k0 n0 s0 q1 f1 ks1 :: r with
   | nil => simp at hq
   | cons t r => rw [hq] at this; exact List.mem_cons_of_mem _ this
  have hnd2 : (tstoks q1 ks1).Nodup := by
   rw [ttoks_app] at hnd1
   simp only [ttoks, LT.toks_eq] at hnd1
   exact (List.nodup_append.1 (List.nodup_append.1 hnd1).2.1).1
  have hout : ∀ (j : Nat), ∀ x ∈ ttoks a ++ ttoks r, x = 0 ∨ (2 ≤ x ∧ ¬ x ∈ tstoks q1 ks1) := by
   intro _ x hx
   have hx' : x ∈ ttoks (a ++ LT.mk k0 n0 s0 q1 f1 ks1 :: r) := by
    rw [ttoks_app]
    simp only [ttoks, LT.toks_eq, List.mem_append] at hx ⊢
    rcases hx with hx | hx
    ·exact .inl hx
    exact .inr (.inr hx)
   refine .inr ⟨h2 x (by
    rw [hks]
    cases hq : a ++ LT.mk k0 n0 s0 q1 f1 ks1 :: r with
    | nil => simp at hq
    | cons t r => rw [hq] at hx'; exact List.mem_cons_of_mem _ hx'), fun hin => ?_⟩
   rw [ttoks_app] at hnd1
   simp only [ttoks, LT.toks_eq] at hnd1
   obtain ⟨n1, n2, n3⟩ := List.nodup_append.1 hnd1
   rcases List.mem_append.1 hx with hx | hx
   ·exact n3 x hx x (List.mem_append.2 (.inl hin)) rfl
   exact (List.nodup_append.1 n2).2.2 x hin x hx rfl
  refine run_callM rfl rfl rfl (ltb rfl) rfl rfl rfl rfl rfl (fun x hx _ _ => .inl (hsub2 x hx)) (ih (.mk k0 n0 s0 q1 f1 ks1) (by rw [hks]; simp) q1 f1 (nx (nx (nx (ltmarks mtx a k).2))) tk2 (fun x hx => h2 x (hsub2 x hx)) hnd2) (fun out S' hR htk1 => ?_)
  obtain ⟨rfl, _, hR⟩ := hR
  have hmk : ∀ b : LT, b = LT.mk (ltmarks mtx a k).2 (nx (ltmarks mtx a k).2) (mtx (nx (nx (ltmarks mtx a k).2))) q1 f1 (ltmarks mtx ks1 (nx (nx (nx (ltmarks mtx a k).2)))).1 → ltmarks mtx (a ++ [LT.mk k0 n0 s0 q1 f1 ks1]) k = ((ltmarks mtx a k).1 ++ [b], (ltmarks mtx ks1 (nx (nx (nx (ltmarks mtx a k).2)))).2) := by
   intro b hb
   rw [ltmarks_app]
   subst hb
   simp only [ltmarks, LT.mark]
  refine ⟨_, rfl, rfl, fun v v' => ks1 ≠ [] ∧ v = .imm q1 4 f1 (cellss ks1) ∧ v' = .imm q1 4 f1 (cellss (ltmarks mtx ks1 (nx (nx (nx (ltmarks mtx a k).2)))).1), ?_,
   [(0, .imm q 4 f (cellss ((ltmarks mtx a k).1 ++ LT.mk (ltmarks mtx a k).2 (nx (ltmarks mtx a k).2) (mtx (nx (nx (ltmarks mtx a k).2))) q1 f1 (ltmarks mtx ks1 (nx (nx (nx (ltmarks mtx a k).2)))).1 :: r))), (4, .int .i64 0), (5, .int .i64 (((ltmarks mtx a k).1).length : Int))], [],
   .cons _ _ _ _ rfl (.clo _ _ ?_) (.cons _ _ _ _ rfl (Tn.av (.int _ _)) (.cons _ _ _ _ rfl (Tn.av (.int _ _)) .nil)), .nil, ?_⟩
  ·rintro v v' ⟨hne1, rfl, rfl⟩
   refine ⟨q1, 4, f1, _, _, rfl, rfl, by rw [cellss_length, cellss_length, ltmarks_len], ?_, ts_av fun x hx => ?_, hR⟩
   ·refine h2 q1 (hsub2 q1 ?_)
    cases ks1 with
    | nil => exact absurd rfl hne1
    | cons t r => exact List.mem_cons_self ..
   rw [ltmarks_stoks] at hx; exact h2 x (hsub2 x hx)
  ·rw [← tset_mid (ltmarks mtx a k).1 r (.mk (ltmarks mtx a k).2 (nx (ltmarks mtx a k).2) (mtx (nx (nx (ltmarks mtx a k).2))) q1 f1 ks1) (.mk (ltmarks mtx a k).2 (nx (ltmarks mtx a k).2) (mtx (nx (nx (ltmarks mtx a k).2))) q1 f1 (ltmarks mtx ks1 (nx (nx (nx (ltmarks mtx a k).2)))).1)]
   refine TnC.row (tget_mid _ r _) (.inr ⟨h2 q hqin, fun hin => hne q (hsub q hin) rfl⟩) rfl ?_ (fun i e j x hin hi hj => ?_) (fun j x x' hj hj' => ?_)
   ·rw [tset_mid]; exact cellss_d1s _
   ·rw [cellss_map, List.getElem?_map] at hi
    obtain ⟨t, ht, rfl⟩ := Option.map_eq_some_iff.1 hi
    refine LT.av t (fun y hy => hout 0 y ?_) j x hj
    have : t ∈ (ltmarks mtx a k).1 ∨ t ∈ r := by
     rw [List.getElem?_append] at ht
     split at ht
     ·exact .inl (List.mem_of_getElem? ht)
     rename_i hlt
     obtain ⟨m, hm⟩ : ∃ m, i - (ltmarks mtx a k).1.length = m + 1 := ⟨i - (ltmarks mtx a k).1.length - 1, by omega⟩
     rw [hm] at ht
     exact .inr (List.mem_of_getElem? (by simpa using ht))
    rw [List.mem_append]
    rcases this with h | h
    ·rw [← ltmarks_toks mtx a k]; exact .inl (mem_ttoks h hy)
    exact .inr (mem_ttoks h hy)
   match j, hj, hj' with
   | 0, hj, hj' => cases hj; cases hj'; exact .av _ (.int _ _)
   | 1, hj, hj' => cases hj; cases hj'; exact .av _ (.int _ _)
   | 2, hj, hj' => cases hj; cases hj'; exact .av _ (.str _)
   | 3, hj, hj' =>
    cases hj; cases hj'
    cases hk1 : ks1 with
    | nil => exact .av _ (.imm _ _ _ _ (fun h => absurd rfl h) (fun i e j x hi => by simp [cellss] at hi))
    | cons t1 r1 => rw [← hk1]; exact .turn _ _ ⟨(by rw [hk1]; exact List.cons_ne_nil _ _), rfl, rfl⟩
   | j + 4, hj, _ => simp [LT.cells] at hj
  refine yR rfl ?_
  refine run_ops_nil ?_
  refine run_blk ?_
  refine run_region ?_
  refine yL rfl ?_
  refine yB rfl ?_
  refine yR rfl ?_
  refine run_ops_nil ?_
  have hw : IntKind.i64.wrap ((((ltmarks mtx a k).1).length : Int) + 1) = (((ltmarks mtx (a ++ [LT.mk k0 n0 s0 q1 f1 ks1]) k).1).length : Int) := by
   rw [ltmarks_len, ltmarks_len]
   rw [hks] at hlen
   simp only [List.length_append, List.length_cons] at hlen
   rw [IntWalk.i64_in _ (by omega)]
   simp
  refine run_loop_end ⟨r.length, _, by rw [hm]; exact Nat.lt_succ_self _, ⟨a ++ [LT.mk k0 n0 s0 q1 f1 ks1], r, S'.tk, by rw [hks]; simp, rfl, Nat.le_trans hle (Nat.le_trans hle2 htk1), rfl⟩, ?_⟩
  rw [← hw, hmk _ rfl, List.append_assoc]
  exact Sub.env _ ⟨rfl, rfl, rfl, rfl, trivial⟩
 have hr : r = [] := by
  cases r with
  | nil => rfl
  | cons t r => exact absurd (by simp only [List.length_append, List.length_cons]; omega) hb
 subst hr
 rw [List.append_nil] at hks
 subst hks
 refine run_exit_to rfl ?_
 refine run_sr ?_
 refine yL rfl ?_
 refine yR rfl ?_
 refine run_ops_nil ?_
 refine run_ret_to ?_
 refine fin_m hG rfl rfl rfl fun S' hS hv => ⟨rfl, by rw [hS]; exact hle, ?_⟩
 obtain ⟨u, hu⟩ := hv 0 _ rfl rfl
 rw [List.append_nil] at hu
 exact ⟨u, hu⟩

theorem markTreeS_ok (ks : List LT) : ∀ (q : Nat) (f : Bool) (k : Int) (tk : Nat), (∀ x ∈ tstoks q ks, 2 ≤ x) → (tstoks q ks).Nodup →
  MCalls Go.Proofs.Try.prog 118 [.imm q 4 f (cellss ks), .int .i64 k] tk (fun x => x ∈ tstoks q ks) (TMarked mtx tk q f ks k) := by
 have key : ∀ t : LT, ∀ (q : Nat) (f : Bool) (k : Int) (tk : Nat), (∀ x ∈ tstoks q t.kids, 2 ≤ x) → (tstoks q t.kids).Nodup →
   MCalls Go.Proofs.Try.prog 118 [.imm q 4 f (cellss t.kids), .int .i64 k] tk (fun x => x ∈ tstoks q t.kids) (TMarked mtx tk q f t.kids k) := by
  intro t
  induction t using LT.ind with
  | _ k n s q f ks ih => exact markTreeS_st ks ih
 exact markTreeS_st ks fun t _ => key t

end Go.Am.Ytaedacibojpfkaa
