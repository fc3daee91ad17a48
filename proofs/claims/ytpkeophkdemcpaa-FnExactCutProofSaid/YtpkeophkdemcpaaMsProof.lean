/- How a law marks a proof in place. -/
import Derived.Test.YtpkeophkdemcpaaMrProof
import Derived.Test.YtpkeophkdemcpaaMsForm
import Derived.Test.YtpkeophkdemcpaaMi4
namespace Go.Am.Ytpkeophkdemcpaa
open Go Go.Am

set_option maxRecDepth 100000 in
theorem markProof_ok (k0 n0 : Int) (p : Nat) (e : Bool) (fs : List LF) (q : Nat) (f : Bool) (ks : List LP) (k : Int) (tk : Nat) (h2 : ∀ x ∈ fstoks p fs ++ pstoks q ks, 2 ≤ x) (hnd : (fstoks p fs ++ pstoks q ks).Nodup) :
  MCalls Go.Proofs.Try.prog 39 [.agg [.int .i64 k0, .int .i64 n0, .imm p 3 e (fcellss fs), .imm q 4 f (pcellss ks)], .int .i64 k] tk (fun x => x ∈ fstoks p fs ++ pstoks q ks) (QMarked tk p e fs q f ks k) := by
 have hF : ∀ x ∈ fstoks p fs, 2 ≤ x := fun x hx => h2 x (List.mem_append.2 (.inl hx))
 have hP : ∀ x ∈ pstoks q ks, 2 ≤ x := fun x hx => h2 x (List.mem_append.2 (.inr hx))
 obtain ⟨n1, n2, n3⟩ := List.nodup_append.1 hnd
 refine mcalls_of_run Go.Proofs.Try.func39 rfl rfl [(0, .agg [.int .i64 k0, .int .i64 n0, .imm p 3 e (fcellss fs), .imm q 4 f (pcellss ks)]), (1, .int .i64 k)] (.cons (.agg _) (.cons (entS rfl) (.nil _))) rfl (leb rfl) (fun S0 htk => ?_)
 refine run_seq ?_
 refine run_region ?_
 refine run_op rfl (box_step (d := 2) rfl rfl rfl rfl rfl) rfl (ltb rfl) ?_
 refine run_pu rfl (move_step (.inr rfl) rfl) rfl (ltb rfl) ?_
 refine run_ops_nil ?_
 refine run_seq ?_
 refine run_region ?_
 refine run_pu rfl (fieldAddr_step hG rfl rfl rfl rfl rfl) rfl (ltb rfl) ?_
 refine run_rd rfl (aload_rd hG rfl rfl rfl (by simp [ldok])) rfl (ltb rfl) ?_
 refine run_pu rfl (move_step (.inl rfl) rfl) rfl (ltb rfl) ?_
 refine run_callM rfl rfl rfl (ltb rfl) rfl rfl rfl rfl rfl (fun x hx _ _ => .inl (List.mem_append.2 (.inl hx))) (markFormS_ok fs p e k tk hF n1) (fun out S1 hR htk1 => ?_)
 obtain ⟨rfl, _, hR⟩ := hR
 refine ⟨_, rfl, rfl, GF p e fs (lfmarks fs k).1, GF.turned hF (lfmarks_stoks ..) (lfmarks_len ..) hR,
  [(2, .optr (.loc 2) 0 0), (4, .int .i64 0), (6, .imm p 3 e (fcellss (lfmarks fs k).1))], [(2, ⟨_, _, true, [[.int .i64 k0, .int .i64 n0, .jnk, .imm q 4 f (pcellss ks)]]⟩)],
  .cons _ _ _ _ rfl (.optr _ _ _) (.cons _ _ _ _ rfl (Tn.av (.int _ _)) (.cons _ _ _ _ rfl (GF.tn (lfmarks_len ..)) .nil)), .cons _ _ _ _ _ (TnCs.box (.cons _ _ _ _ (Tn.av (.int _ _)) (.cons _ _ _ _ (Tn.av (.int _ _)) (.cons _ _ _ _ (.jnk _ rfl) (.cons _ _ _ _ (Tn.av (ps_av fun x hx => .inr ⟨hP x hx, fun h => n3 x h x hx rfl⟩)) .nil)))) rfl) .nil, ?_⟩
 refine run_pu rfl (move_step (.inr rfl) rfl) rfl (ltb rfl) ?_
 refine run_ops_nil ?_
 refine run_seq ?_
 refine run_region ?_
 refine run_pu rfl (fieldAddr_step hG rfl rfl rfl rfl rfl) rfl (ltb rfl) ?_
 refine run_rd rfl (aload_rd hG rfl rfl rfl (by simp [ldok])) rfl (ltb rfl) ?_
 refine run_pu rfl (move_step (.inl rfl) rfl) rfl (ltb rfl) ?_
 refine run_callM rfl rfl rfl (ltb rfl) rfl rfl rfl rfl rfl (fun x hx _ _ => .inl (List.mem_append.2 (.inr hx))) (markProofS_ok ks q f (lfmarks fs k).2 S1.tk hP n2) (fun out S2 hR2 htk2 => ?_)
 obtain ⟨rfl, _, hR2⟩ := hR2
 refine ⟨_, rfl, rfl, GP q f ks (lpmarks ks (lfmarks fs k).2).1, GP.turned hP (lpmarks_stoks ..) (lpmarks_len ..) hR2,
  [(4, .int .i64 0), (6, .imm p 3 e (fcellss (lfmarks fs k).1)), (10, .imm q 4 f (pcellss (lpmarks ks (lfmarks fs k).2).1))], [(2, ⟨_, _, true, [[.int .i64 k0, .int .i64 n0, .jnk, .jnk]]⟩)],
  .cons _ _ _ _ rfl (Tn.av (.int _ _)) (.cons _ _ _ _ rfl (Tn.av (fs_av fun x hx => by
   rw [lfmarks_stoks] at hx
   exact .inr ⟨hF x hx, fun h => n3 x hx x h rfl⟩)) (.cons _ _ _ _ rfl (GP.tn (lpmarks_len ..)) .nil)), .cons _ _ _ _ _ (TnCs.box (.cons _ _ _ _ (Tn.av (.int _ _)) (.cons _ _ _ _ (Tn.av (.int _ _)) (.cons _ _ _ _ (.jnk _ rfl) (.cons _ _ _ _ (.jnk _ rfl) .nil)))) rfl) .nil, ?_⟩
 refine run_pu rfl (move_step (.inr rfl) rfl) rfl (ltb rfl) ?_
 refine run_ops_nil ?_
 refine run_seq ?_
 refine run_region ?_
 refine run_pu rfl (move_step (.inl rfl) rfl) rfl (ltb rfl) ?_
 refine run_pu rfl (move_step (.inr rfl) rfl) rfl (ltb rfl) ?_
 refine run_ops_nil ?_
 refine run_ret_to ?_
 refine fin_m hG rfl rfl rfl fun S'' hS hv => ⟨rfl, by rw [hS]; exact Nat.le_trans htk1 htk2, hv 6 _ rfl rfl, hv 10 _ rfl rfl⟩

def w_markProof (x : Pf) (k : Int) : Option ((List F × List Pf) × Int) := some (Pf.marks x k)
theorem w_markProof_m (k0 n0 : Int) (p : Nat) (e : Bool) (fs : List LF) (q : Nat) (f : Bool) (ks : List LP) (k : Int) (tk : Nat) (h2 : ∀ x ∈ fstoks p fs ++ pstoks q ks, 2 ≤ x) (hnd : (fstoks p fs ++ pstoks q ks).Nodup) {r : (List F × List Pf) × Int} (hr : w_markProof (Pf.mk k0 n0 (fers fs) (pers ks)) k = some r) :
  MCalls Go.Proofs.Try.prog 39 [.agg [.int .i64 k0, .int .i64 n0, .imm p 3 e (fcellss fs), .imm q 4 f (pcellss ks)], .int .i64 k] tk (fun x => x ∈ fstoks p fs ++ pstoks q ks) (QMk tk p e fs q f ks r) :=
 (markProof_ok k0 n0 p e fs q f ks k tk h2 hnd).mono fun _ _ h => h.mk hr

end Go.Am.Ytpkeophkdemcpaa
