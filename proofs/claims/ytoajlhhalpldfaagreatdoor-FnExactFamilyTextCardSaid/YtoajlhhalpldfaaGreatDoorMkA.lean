/- Printed by a program of ours: Lean functions that do what the Go functions do, and the contracts. -/
import Derived.Test.YtoajlhhalpldfaaGreatDoorMi3
import Derived.Test.YtoajlhhalpldfaaGreatDoorTypes
import Derived.Test.YtoajlhhalpldfaaGreatDoorMz
-- packed
namespace Go.Am.YtoajlhhalpldfaaGreatDoor
open Go Go.Am

set_option maxRecDepth 100000 in
theorem i_fresh_box (O : Heap) (tk : Nat) : ACalls Go.Proofs.Tryz.prog 60 [] O tk (fun out _ _ => out = .box ⟨100, 2, true, [[.int .i64 150, .bool false]]⟩) := by
 refine acalls_of_run Go.Proofs.Tryz.func60 rfl rfl [] [] (Bor.nil _) [] (.nil _) (leb rfl) (fun _ h => by cases h) (fun S0 hO htk hfz => ?_)
 refine run_sr ?_
 refine yR rfl ?_
 refine yN ?_
 refine run_sr ?_
 refine run_pu rfl (build_step hG rfl (by rfl) rfl (fun h => by cases h) (by rfl)) rfl (ltb rfl) ?_
 refine run_op rfl (box_step (d := 2) rfl rfl rfl rfl rfl) rfl (ltb rfl) ?_
 refine yR rfl ?_
 refine yN ?_
 refine run_ret_to ?_
 unfold Fin
 refine fin_box (t := 0) (o := ⟨100, 2, true, [[.int .i64 150, .bool false]]⟩) rfl (k := 2) (by rfl) (by rfl) rfl (fun e he v hv => by
  simp only [List.mem_singleton] at he
  subst he
  simp only [List.mem_cons, List.not_mem_nil, or_false] at hv
  rcases hv with rfl | rfl <;> rfl) ?_
 rfl

def i_looker_node (z1 : (Int × Bool)) : Option (Bool × (Int × Bool)) :=
 some ((decide ((IntKind.i64.wrap (z1.1 - 1)) ≥ 0)), ((IntKind.i64.wrap (z1.1 - 1)), z1.2))

set_option maxRecDepth 100000 in
theorem i_looker_node_ok : ∀ (X0 : ID) (i2 : Int) (b3 : Bool) {r : (Bool × (Int × Bool))}, i_looker_node (i2, b3) = some r → ∀ (O : Heap) (tk : Nat), O X0 = some ⟨100, 2, true, [[.int .i64 i2, .bool b3]]⟩ → ACalls Go.Proofs.Tryz.prog 91 [.optr X0 0 0] O tk (RetV O X0 tk (fun v o' tk' => ∃ r0', ∃ (c0 : Int) (c1 : Bool) , r = (r0', (c0, c1)) ∧ o' = ⟨100, 2, true, [[.int .i64 c0, .bool c1]]⟩ ∧ v = .bool r0')) := by
 intro X0 i2 b3 r hM O tk hX0
 unfold i_looker_node at hM
 refine acalls_of_run Go.Proofs.Tryz.func91 rfl rfl [X0] [⟨100, 2, true, [[.int .i64 i2, .bool b3]]⟩] (Bor.one hX0 rfl) [(0, .optr (.bor 0) 0 0)] (.cons (.bor 0 _ _ _ rfl) (.nil _)) (leb rfl) (by intro y h; simp only [List.mem_cons, List.not_mem_nil, or_false] at h; rcases h with rfl <;> simp [tch, tch0]) (fun S0 hO htk hfz => ?_)
 refine run_sr ?_
 refine yR rfl ?_
 refine yN ?_
 refine run_sr ?_
 refine yL rfl ?_
 refine run_pu rfl (nilCheck_step rfl rfl ⟨_, rfl⟩) rfl (ltb rfl) ?_
 refine yF hG rfl ?_
 refine yD hG rfl ?_
 refine yB rfl ?_
 refine run_pu rfl (nilCheck_step rfl rfl ⟨_, rfl⟩) rfl (ltb rfl) ?_
 refine yF hG rfl ?_
 refine yS hG rfl ?_
 refine yN ?_
 refine run_sr ?_
 refine yL rfl ?_
 refine run_pu rfl (nilCheck_step rfl rfl ⟨_, rfl⟩) rfl (ltb rfl) ?_
 refine yF hG rfl ?_
 refine yD hG rfl ?_
 refine yB rfl ?_
 refine yR rfl ?_
 refine yN ?_
 refine run_ret_to ?_
 replace hM := some_t hM
 subst hM
 refine fin_x hG rfl rfl rfl (v' := .bool (decide ((IntKind.i64.wrap (i2 - 1)) ≥ 0))) (by rfl) ⟨_, ⟨100, 2, true, [[.int .i64 (IntKind.i64.wrap (i2 - 1)), .bool b3]]⟩, rfl, rfl, (show tk ≤ tk by omega), ⟨_, (IntKind.i64.wrap (i2 - 1)), b3, rfl, rfl, rfl⟩⟩

def i_in (i1 : Int) (i2 : Int) (i3 : Int) : Option Bool :=
 if i1 ≥ i2 then
  some (decide (i1 ≤ i3))
 else
  some false

set_option maxRecDepth 100000 in
theorem i_in_ok : ∀ (i1 : Int) (i2 : Int) (i3 : Int) {r : Bool}, i_in i1 i2 i3 = some r → ∀ (O : Heap) (tk : Nat), ACalls Go.Proofs.Tryz.prog 75 [.int .i64 i1, .int .i64 i2, .int .i64 i3] O tk (RetX O tk (fun v tk' => v = .bool r)) := by
 intro i1 i2 i3 r hM O tk
 unfold i_in at hM
 refine acalls_of_run Go.Proofs.Tryz.func75 rfl rfl [] [] (Bor.nil _) [(0, .int .i64 i1), (1, .int .i64 i2), (2, .int .i64 i3)] (.cons (entS rfl) (.cons (entS rfl) (.cons (entS rfl) (.nil _)))) (leb rfl) (fun _ h => by cases h) (fun S0 hO htk hfz => ?_)
 refine run_sr ?_
 refine yR rfl ?_
 refine yN ?_
 refine run_sr ?_
 refine yL rfl ?_
 refine yL rfl ?_
 refine yB rfl ?_
 refine yL rfl ?_
 refine run_splitd (i := 10) rfl (fun hb4 => ?_) (fun hb4 => ?_)
 ·replace hM := ite_t hb4 hM
  refine run_puG (on_of rfl rfl rfl rfl) (move_step (.inl rfl) rfl) rfl (ltb rfl) ?_
  refine run_puG (on_of rfl rfl rfl rfl) (move_step (.inl rfl) rfl) rfl (ltb rfl) ?_
  refine run_puG (on_of rfl rfl rfl rfl) (abin_step rfl rfl rfl rfl (fun _ h => by cases h)) rfl (ltb rfl) ?_
  refine yP rfl ?_
  refine yR rfl ?_
  refine yN ?_
  refine run_ret_to ?_
  replace hM := some_t hM
  subst hM
  refine fin_x hG rfl rfl rfl (v' := .bool (decide (i1 ≤ i3))) (by rfl) ⟨rfl, (show tk ≤ tk by omega), _, rfl, rfl⟩
 replace hM := ite_f hb4 hM
 refine yO rfl ?_
 refine yO rfl ?_
 refine yO rfl ?_
 refine yP rfl ?_
 refine yR rfl ?_
 refine yN ?_
 refine run_ret_to ?_
 replace hM := some_t hM
 subst hM
 refine fin_x hG rfl rfl rfl (v' := .bool false) (by rfl) ⟨rfl, (show tk ≤ tk by omega), _, rfl, rfl⟩

end Go.Am.YtoajlhhalpldfaaGreatDoor
