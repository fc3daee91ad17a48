/- The contracts of fresh, (*looker).node, in. -/
import Derived.Test.YtklchmkanhpeeaaSz
import Derived.Test.YtklchmkanhpeeaaAmW
namespace Go.Am.Ytklchmkanhpeeaa
open Go Go.Am

def lookO (left : Int) (om : Bool) : Obj := ⟨101, 2, true, [[.int .i64 left, .bool om]]⟩

set_option maxRecDepth 100000 in
theorem fresh_ok : ∀ O tk, ACalls Go.Proofs.Try.prog 42 [] O tk (fun out _ _ => out = .box (lookO 150 false)) := by
  intro O tk
  refine acalls_of_run Go.Proofs.Try.func42 rfl rfl [] [] (Bor.nil _) [] (.nil _) (leb rfl) (fun _ h => by cases h) (fun S0 hO htk hfz => ?_)
  refine run_seq ?_
  refine run_region ?_
  refine run_pu rfl (move_step (.inr rfl) rfl) rfl (ltb rfl) ?_   -- t0 = assign (const (pointer none))
  refine run_ops_nil ?_
  refine run_seq ?_
  refine run_region ?_
  refine run_pu rfl (build_step hG rfl (by rfl) rfl (fun h => by cases h) (by rfl)) rfl (ltb rfl) ?_   -- t1 = build 101 #[(0, const (int i64 150))]
  refine run_op rfl (box_step (d := 2) rfl rfl rfl rfl rfl) rfl (ltb rfl) ?_   -- t2 = box 101 t1
  refine run_pu rfl (move_step (.inr rfl) rfl) rfl (ltb rfl) ?_   -- t0 = assign t2
  refine run_ops_nil ?_
  refine run_ret_to ?_
  unfold Fin
  refine fin_box (t := 0) (o := lookO 150 false) rfl (k := 2) (by rfl) (by rfl) rfl (fun e he v hv => by
    simp only [lookO, List.mem_singleton] at he
    subst he
    simp only [List.mem_cons, List.not_mem_nil, or_false] at hv
    rcases hv with rfl | rfl <;> rfl) ?_
  rfl

set_option maxRecDepth 100000 in
theorem node_ok (x : ID) (left : Int) (om : Bool) (h0 : -1000000 ≤ left) (h1 : left ≤ 1000000) : ∀ O tk, O x = some (lookO left om) →
    ACalls Go.Proofs.Try.prog 63 [.optr x 0 0] O tk (RetU O x tk (fun v o => v = .bool (left - 1 ≥ 0) ∧ o = lookO (left - 1) om)) := by
  intro O tk hx
  refine acalls_of_run Go.Proofs.Try.func63 rfl rfl [x] [lookO left om] (Bor.one hx rfl) [(0, .optr (.bor 0) 0 0)] (.cons (.bor 0 _ _ _ rfl) (.nil _)) (leb rfl)
    (fun y h => by rw [List.mem_singleton] at h; subst h; exact List.mem_singleton.2 rfl) (fun S0 hO htk hfz => ?_)
  refine run_seq ?_
  refine run_region ?_
  refine run_pu rfl (move_step (.inr rfl) rfl) rfl (ltb rfl) ?_   -- t2 = assign (const (bool false))
  refine run_ops_nil ?_
  refine run_seq ?_
  refine run_region ?_
  refine run_pu rfl (move_step (.inl rfl) rfl) rfl (ltb rfl) ?_   -- t3 = move t0
  refine run_pu rfl (nilCheck_step rfl rfl ⟨_, rfl⟩) rfl (ltb rfl) ?_   -- t4 = nilCheck t3
  refine run_pu rfl (fieldAddr_step hG rfl rfl rfl rfl rfl) rfl (ltb rfl) ?_   -- t5 = fieldAddr 101 t4 0
  refine run_rd rfl (aload_rd hG rfl rfl rfl (by simp [ldok])) rfl (ltb rfl) ?_   -- t6 = load 3 t5
  refine run_pu rfl (abin_step rfl rfl rfl rfl (fun _ h => by cases h)) rfl (ltb rfl) ?_   -- t7 = binOp sub 3 t6 1 3
  rw [show IntKind.i64.wrap (left - 1) = left - 1 from IntWalk.i64_in _ (by omega)]
  refine run_pu rfl (nilCheck_step rfl rfl ⟨_, rfl⟩) rfl (ltb rfl) ?_   -- t8 = nilCheck t3
  refine run_pu rfl (fieldAddr_step hG rfl rfl rfl rfl rfl) rfl (ltb rfl) ?_   -- t9 = fieldAddr 101 t8 0
  refine run_op0 rfl (store_step hG rfl rfl rfl rfl rfl rfl rfl rfl) rfl ?_   -- none = store 3 t9 t7
  refine run_ops_nil ?_
  refine run_seq ?_
  refine run_region ?_
  refine run_pu rfl (move_step (.inl rfl) rfl) rfl (ltb rfl) ?_   -- t10 = move t0
  refine run_pu rfl (nilCheck_step rfl rfl ⟨_, rfl⟩) rfl (ltb rfl) ?_   -- t11 = nilCheck t10
  refine run_pu rfl (fieldAddr_step hG rfl rfl rfl rfl rfl) rfl (ltb rfl) ?_   -- t12 = fieldAddr 101 t11 0
  refine run_rd rfl (aload_rd hG rfl rfl rfl (by simp [ldok])) rfl (ltb rfl) ?_   -- t13 = load 3 t12
  refine run_pu rfl (abin_step rfl rfl rfl rfl (fun _ h => by cases h)) rfl (ltb rfl) ?_   -- t14 = binOp geq 3 t13 0 3
  refine run_pu rfl (move_step (.inr rfl) rfl) rfl (ltb rfl) ?_   -- t2 = assign t14
  refine run_ops_nil ?_
  refine run_ret_to ?_
  exact fin_ret hG rfl rfl rfl ⟨_, _, rfl, rfl, rfl, rfl, rfl⟩

set_option maxRecDepth 100000 in
theorem in_ok (a b c : Int) : ∀ O tk, ACalls Go.Proofs.Try.prog 64 [.int .i64 a, .int .i64 b, .int .i64 c] O tk (RetN O (.bool (decide (a ≥ b) && decide (a ≤ c))) tk) := by
  intro O tk
  refine acalls_of_run Go.Proofs.Try.func64 rfl rfl [] [] (Bor.nil _) [(0, .int .i64 a), (1, .int .i64 b), (2, .int .i64 c)] (.cons (ent0 rfl) (.cons (ent0 rfl) (.cons (ent0 rfl) (.nil _)))) (leb rfl) (fun _ h => by cases h) (fun S0 hO htk hfz => ?_)
  refine run_seq ?_
  refine run_region ?_
  refine run_pu rfl (move_step (.inr rfl) rfl) rfl (ltb rfl) ?_   -- t6 = assign (const (bool false))
  refine run_ops_nil ?_
  refine run_seq ?_
  refine run_region ?_
  refine run_pu rfl (move_step (.inl rfl) rfl) rfl (ltb rfl) ?_   -- t7 = move t0
  refine run_pu rfl (move_step (.inl rfl) rfl) rfl (ltb rfl) ?_   -- t8 = move t1
  refine run_pu rfl (abin_step rfl rfl rfl rfl (fun _ h => by cases h)) rfl (ltb rfl) ?_   -- t9 = binOp geq 3 t7 t8 3
  refine run_pu rfl (move_step (.inl rfl) rfl) rfl (ltb rfl) ?_   -- t10 = move t9
  refine run_split (i := 10) rfl (fun hb => ?_) (fun hb => ?_)
  · refine run_puG (on_of rfl rfl rfl rfl) (move_step (.inl rfl) rfl) rfl (ltb rfl) ?_   -- t11 = move t0
    refine run_puG (on_of rfl rfl rfl rfl) (move_step (.inl rfl) rfl) rfl (ltb rfl) ?_   -- t12 = move t2
    refine run_puG (on_of rfl rfl rfl rfl) (abin_step rfl rfl rfl rfl (fun _ h => by cases h)) rfl (ltb rfl) ?_   -- t13 = binOp leq 3 t11 t12 3
    refine run_pu rfl (pick_step rfl rfl rfl) rfl (ltb rfl) ?_   -- t14 = pick t10 t13 (const (bool false))
    refine run_pu rfl (move_step (.inr rfl) rfl) rfl (ltb rfl) ?_   -- t6 = assign t14
    refine run_ops_nil ?_
    refine run_ret_to ?_
    refine fin_ret hG rfl rfl rfl ⟨rfl, ?_, rfl⟩
    rw [hb]; rfl
  · refine run_off (on_of rfl rfl rfl rfl) rfl (ltb rfl) ?_   -- t11 = move t0
    refine run_off (on_of rfl rfl rfl rfl) rfl (ltb rfl) ?_   -- t12 = move t2
    refine run_off (on_of rfl rfl rfl rfl) rfl (ltb rfl) ?_   -- t13 = binOp leq 3 t11 t12 3
    refine run_pu rfl (pick_step rfl rfl rfl) rfl (ltb rfl) ?_   -- t14 = pick t10 t13 (const (bool false))
    refine run_pu rfl (move_step (.inr rfl) rfl) rfl (ltb rfl) ?_   -- t6 = assign t14
    refine run_ops_nil ?_
    refine run_ret_to ?_
    refine fin_ret hG rfl rfl rfl ⟨rfl, ?_, rfl⟩
    rw [hb]; rfl

end Go.Am.Ytklchmkanhpeeaa
