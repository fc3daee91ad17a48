/- How a law marks a tree in place. -/
import Derived.Test.YtaedacibojpfkaaMrTree
import Derived.Test.YtaedacibojpfkaaMi2
namespace Go.Am.Ytaedacibojpfkaa
open Go Go.Am

set_option maxRecDepth 100000 in
theorem markTree_ok (k0 n0 : Int) (s0 : ByteArray) (q : Nat) (f : Bool) (ks : List LT) (k : Int) (tk : Nat) (h2 : ∀ x ∈ tstoks q ks, 2 ≤ x) (hnd : (tstoks q ks).Nodup) :
  MCalls Go.Proofs.Try.prog 47 [.agg [.int .i64 k0, .int .i64 n0, .str s0, .imm q 4 f (cellss ks)], .int .i64 k] tk (fun x => x ∈ tstoks q ks) (TMarked mtx tk q f ks k) := by
 refine mcalls_of_run Go.Proofs.Try.func47 rfl rfl [(0, .agg [.int .i64 k0, .int .i64 n0, .str s0, .imm q 4 f (cellss ks)]), (1, .int .i64 k)] (.cons (.agg _) (.cons (entS rfl) (.nil _))) rfl (leb rfl) (fun S0 htk => ?_)
 refine run_seq ?_
 refine run_region ?_
 refine run_op rfl (box_step (d := 2) rfl rfl rfl rfl rfl) rfl (ltb rfl) ?_
 refine run_pu rfl (move_step (.inr rfl) rfl) rfl (ltb rfl) ?_
 refine run_ops_nil ?_
 refine run_seq ?_
 refine run_region ?_
 refine run_pu rfl (fieldAddr_step hG rfl rfl rfl rfl rfl) rfl (ltb rfl) ?_
 refine run_rd rfl (aload_rd hG rfl rfl rfl (by simp [ldok])) rfl (ltb rfl) ?_
 refine run_pu rfl (move_step (.inl rfl) rfl) rfl (ltb rfl) ?_
 refine run_callM rfl rfl rfl (ltb rfl) rfl rfl rfl rfl rfl (fun x hx _ _ => .inl hx) (markTreeS_ok ks q f k tk h2 hnd) (fun out S' hR htk1 => ?_)
 obtain ⟨rfl, _, hR⟩ := hR
 refine ⟨_, rfl, rfl, fun v v' => ks ≠ [] ∧ v = .imm q 4 f (cellss ks) ∧ v' = .imm q 4 f (cellss (ltmarks mtx ks k).1), ?_,
  [(4, .int .i64 0), (6, .imm q 4 f (cellss (ltmarks mtx ks k).1))], [(2, ⟨_, _, true, [[.int .i64 k0, .int .i64 n0, .str s0, .jnk]]⟩)],
  .cons _ _ _ _ rfl (Tn.av (.int _ _)) (.cons _ _ _ _ rfl ?_ .nil), .cons _ _ _ _ _ (TnO.one rfl rfl fun j x x' hj hj' => ?_) .nil, ?_⟩
 ·rintro v v' ⟨hne1, rfl, rfl⟩
  refine ⟨q, 4, f, _, _, rfl, rfl, by rw [cellss_length, cellss_length, ltmarks_len], ?_, ts_av fun x hx => ?_, hR⟩
  ·refine h2 q ?_
   cases ks with
   | nil => exact absurd rfl hne1
   | cons t r => exact List.mem_cons_self ..
  rw [ltmarks_stoks] at hx; exact h2 x hx
 ·cases hk1 : ks with
  | nil => exact Tn.av (.imm _ _ _ _ (fun h => absurd rfl h) (fun i e j x hi => by simp [cellss] at hi))
  | cons t1 r1 => rw [← hk1]; exact Tn.turn ⟨(by rw [hk1]; exact List.cons_ne_nil _ _), rfl, rfl⟩
 ·match j, hj, hj' with
  | 0, hj, hj' => cases hj; cases hj'; exact Tn.av (.int _ _)
  | 1, hj, hj' => cases hj; cases hj'; exact Tn.av (.int _ _)
  | 2, hj, hj' => cases hj; cases hj'; exact Tn.av (.str _)
  | 3, hj, hj' => cases hj; cases hj'; exact .jnk _ rfl
  | j + 4, hj, _ => simp at hj
 refine run_pu rfl (move_step (.inr rfl) rfl) rfl (ltb rfl) ?_
 refine run_ops_nil ?_
 refine run_seq ?_
 refine run_region ?_
 refine run_pu rfl (move_step (.inl rfl) rfl) rfl (ltb rfl) ?_
 refine run_pu rfl (move_step (.inr rfl) rfl) rfl (ltb rfl) ?_
 refine run_ops_nil ?_
 refine run_ret_to ?_
 refine fin_m hG rfl rfl rfl fun S'' hS hv => ⟨rfl, by rw [hS]; exact htk1, hv 6 _ rfl rfl⟩

def w_markTree (x : T) (k : Int) : Option (List T × Int) := some (tmarks mtx x.kids k)
theorem w_markTree_m (k0 n0 : Int) (s0 : ByteArray) (q : Nat) (f : Bool) (ks : List LT) (k : Int) (tk : Nat) (h2 : ∀ x ∈ tstoks q ks, 2 ≤ x) (hnd : (tstoks q ks).Nodup) {r : List T × Int} (hr : w_markTree (T.mk k0 n0 s0 (ers ks)) k = some r) :
  MCalls Go.Proofs.Try.prog 47 [.agg [.int .i64 k0, .int .i64 n0, .str s0, .imm q 4 f (cellss ks)], .int .i64 k] tk (fun x => x ∈ tstoks q ks) (TMk tk q f ks r) :=
 (markTree_ok k0 n0 s0 q f ks k tk h2 hnd).mono fun _ _ h => h.mk hr

end Go.Am.Ytaedacibojpfkaa
