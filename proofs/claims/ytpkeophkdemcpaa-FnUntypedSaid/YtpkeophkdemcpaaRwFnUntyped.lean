/- The law FnUntyped answers true, whatever its arguments: the row. -/
import Derived.Test.YtpkeophkdemcpaaRows
import Derived.WalkKit
import Derived.ProofKit
import Derived.OpenShut
import Derived.Carry
import Derived.Test.YtpkeophkdemcpaaPvUnt
namespace Go.Proofs.Ytpkeophkdemcpaa.fnUntyped
open Go.ChangeShapes Go.WideShapes Go.ChangeAt Go.RowKit

theorem own : ownKnob Try.prog.godebug = none := by kernel_rfl
theorem laidOut : laidOutB Try.prog = true := by kernel_rfl

theorem walk (W : World) (l0 : List Int) (hl0 : ∀ b ∈ l0, 0 ≤ b ∧ b ≤ 255) (c0 : Value) (hr0 : Go.Am.RepC (Go.Am.start W) (.imm 0 1 false (l0.map fun n => [Go.Am.AV.int .u8 n])) c0) :
  Calls Try.prog 5 #[c0] W fun e w' => e = .returned (.bool true) ∧ Below W.heap.size W w' := by
 refine Go.Am.calls_of_law (args := [.imm 0 1 false (l0.map fun n => [Go.Am.AV.int .u8 n])]) (Go.Am.Ytpkeophkdemcpaa.lawFnUntyped_ok l0 hl0) rfl (fun j v hj => ?_) (by rfl) (Go.Am.Inv.any _ _)
 match j, hj with
 | 0, hj =>
  cases hj
  exact hr0
 | j + 1, hj => simp at hj

set_option maxRecDepth 100000 in
theorem lifted (os : Os) (started : os.Started) (H : Type) (enc : TypeId × Value → H) :
  ReturnsInHanded {} Try.checked os 5 .any (Rows.fnUntypedSpec.pre6 enc Try.prog Try.f5 Rows.fnUntypedRow.domain false) (Rows.fnUntypedSpec.post enc Try.prog Try.f5 false true false false) := by
 refine returnsInHanded_of_change (C := Try.checked) own started (by kernel_rfl) Try.func5
  (ChangeSpec.witness6 (enc := enc) (C := Try.checked) false ⟨#[], #[.slice none 0 0], []⟩ 8 (by kernel_rfl) (by kernel_rfl) (by kernel_rfl) (by kernel_rfl)) ?_
 intro W base args ds gs before hval0 hW hcnd _
 have hval : ∀ (j : Nat) t v, Try.f5.params[j]? = some t → args[j]? = some v → Value.okWide Try.prog W .any base t v := hval0
 have hW' := hW
 obtain ⟨p, q, hA0, hV, rfl, hfz, hnd⟩ := hW
 have hA : DataW.TrodAll enc Try.prog W 0 (fun _ => true) true Try.f5.params.toList args.toList ds p := hA0
 rw [Try.params5] at hA hval
 obtain ⟨v0, d0, rfl, rfl, h0⟩ := trodAll_one hA
 obtain ⟨rfl, rfl⟩ := trodVars_none hV
 clear hA0
 simp only [List.append_nil] at hW'
 have h0k := h0
 obtain ⟨a0, len0, cap0, rfl⟩ := okWide_slice Try.underlying22 (hval 0 22 v0 rfl rfl)
 obtain ⟨fuel0, hf0⟩ := h0
 obtain ⟨c0, hc0, ks0, hks0, hkl0, hr0⟩ := Go.Am.read_bytes Try.underlying22 Try.underlying5 rfl hf0
 have hcc0 : Value.slice a0 len0 cap0 = c0 := by simpa [Value.cells] using hc0
 subst hcc0
 refine (walk W ks0 hks0 _ hr0).mono fun e W' ⟨he, hb⟩ => ?_
 subst he
 have hlt : ∀ x ∈ p, x.block < W.heap.size := fun x hx => by simpa using hW'.lt x hx
 refine ⟨_, rfl, _, _, _, [], p, [], hW', trodAll_mk1 (shut_bool Try.underlying4 _), ?_, rfl, hb.frame _, fun h => by cases h⟩
 exact trodAll_mk1 (Below.trod laidOut (by kernel_rfl) (of_decide_eq_true (by kernel_rfl)) h0k hb hlt)

theorem over : Rows.fnUntypedRow.holds Try.pinned (OpenSpec.ofChange Rows.fnUntypedSpec) :=
 OpenClaim.holds_of_wide 5 Try.f5 rfl rfl rfl rfl rfl rfl rfl ⟨rfl, rfl, rfl, rfl, rfl⟩ rfl rfl rfl rfl rfl (by kernel_rfl) Try.func5 (by kernel_rfl)
  (of_decide_eq_true (by kernel_rfl)) (by unfold Func.isWrapper; first | (rw [if_pos (by decide +kernel)]; kernel_rfl) | (rw [if_neg (by decide +kernel)]; exact ⟨rfl, rfl⟩))
  (fun os started H enc _ => lifted os started H enc)

theorem proved : Rows.FnUntypedSaid :=
 over
#print axioms proved
end Go.Proofs.Ytpkeophkdemcpaa.fnUntyped
