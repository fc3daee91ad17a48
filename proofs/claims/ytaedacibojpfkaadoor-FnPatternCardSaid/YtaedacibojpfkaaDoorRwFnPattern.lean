/- The law FnPattern answers true, whatever its arguments: the row. -/
import Derived.Test.YtaedacibojpfkaaDoorRows
import Derived.Test.YtaedacibojpfkaaDoorCards
import Derived.Test.YtaedacibojpfkaaDoorTie
import Derived.Lib.LaidIn
import Derived.Lib.LaidU8
import Derived.LaidLaws
import Derived.LaidHandle
import Derived.ChangeSame
import Derived.ChangeVars
import Derived.SevenTiedAt
import Derived.WalkKit
import Derived.ProofKit
import Derived.Handed
import Derived.OpenShut
import Derived.Carry
import Derived.Test.YtaedacibojpfkaaDoorPvPattern
namespace Go.Proofs.YtaedacibojpfkaaDoor.fnPattern
open Go.ChangeShapes Go.WideShapes Go.ChangeAt Go.RowKit

theorem own : ownKnob Tryd.prog.godebug = none := by kernel_rfl
theorem laidOut : laidOutB Tryd.prog = true := by kernel_rfl

theorem walk (W : World) (l0 : List Int) (hl0 : ∀ b ∈ l0, 0 ≤ b ∧ b ≤ 255) (c0 : Value) (hr0 : Go.Am.RepC (Go.Am.start W) (.imm 0 1 false (l0.map fun n => [Go.Am.AV.int .u8 n])) c0) (l1 : List Int) (hl1 : ∀ b ∈ l1, 0 ≤ b ∧ b ≤ 255) (c1 : Value) (hr1 : Go.Am.RepC (Go.Am.start W) (.imm 0 1 false (l1.map fun n => [Go.Am.AV.int .u8 n])) c1) :
    Calls Tryd.prog 5 #[c0, c1] W fun e w' => e = .returned (.bool true) ∧ Below W.heap.size W w' := by
  refine Go.Am.calls_of_law (args := [.imm 0 1 false (l0.map fun n => [Go.Am.AV.int .u8 n]), .imm 0 1 false (l1.map fun n => [Go.Am.AV.int .u8 n])]) (Go.Am.YtaedacibojpfkaaDoor.lawFnPattern_ok l0 l1 hl0 hl1) rfl (fun j v hj => ?_) (by rfl) (Go.Am.Inv.any _ _)
  match j, hj with
  | 0, hj =>
    cases hj
    exact hr0
  | 1, hj =>
    cases hj
    exact hr1
  | j + 2, hj => simp at hj

noncomputable def laidWorld (os : Os) : World :=
  let w0 := World.holding Tryd.prog os ⟨#[], #[], []⟩
  let put (h : Array Obj) (g : Nat) (cs : Array Value) : Array Obj := h.modify g fun
    | .cells _ t frozen => .cells cs t frozen
    | o => o
  let h1 := put w0.heap 2 (Lib.firstTab.map fun z => Value.int .u8 z).toArray
  let h2 := put h1 3 ((List.range 16).flatMap fun i => [Value.int .u8 (Lib.accLo i), Value.int .u8 (Lib.accHi i)]).toArray
  { w0 with heap := h2 }
theorem laid_met (os : Os) (args : Array Value) : laidMet Tryd.prog Rows.fnPatternRow.laid ((laidWorld os).forCall (fun _ _ => 0) ⟨#[], args, []⟩).memory :=
  (LaidIn.of_run (l := Rows.fnPatternRow.laid) [3, 2] 8 (by kernel_rfl) (by kernel_rfl) (by kernel_rfl) (by kernel_rfl)).met
theorem laid_metH (os : Os) (args : Array Value) : laidMetH Tryd.prog Rows.fnPatternRow.laid ((laidWorld os).forCall (fun _ _ => 0) ⟨#[], args, []⟩).memory :=
  laidMetH_of_parts (laid_met os args) (by kernel_rfl)

set_option maxRecDepth 100000 in
set_option maxHeartbeats 2000000 in
theorem lifted (os : Os) (started : os.Started) (H : Type) (enc : TypeId × Value → H) :
    ReturnsInHanded {} Tryd.checked os 5 .any (fun w args => (Rows.fnPatternSpec.pre enc Tryd.prog Tryd.f5 Rows.fnPatternRow.domain false w args ∧ laidMetH Tryd.prog Rows.fnPatternRow.laid w) ∧ sizedMet enc Tryd.prog Tryd.f5 (OpenSpec.ofChange Rows.fnPatternSpec) false w args) (Rows.fnPatternSpec.post enc Tryd.prog Tryd.f5 false true false false) := by
  refine returnsInHanded_of_change_and (C := Tryd.checked) (X := fun w _ => laidMetH Tryd.prog Rows.fnPatternRow.laid w) (fun _ _ _ hh h => h.of_heap hh) own started (by kernel_rfl) Tryd.func5
    (ChangeSpec.witness_at (enc := enc) (C := Tryd.checked) (os := os) (X := fun w _ => laidMetH Tryd.prog Rows.fnPatternRow.laid w) false (laidWorld os) #[.slice none 0 0, .slice none 0 0] 8 rfl (by kernel_rfl) (by kernel_rfl) (by kernel_rfl) (by kernel_rfl) (by kernel_rfl) (laid_metH os _)) ?_
  intro W base args ds gs before hval0 hW hcnd _ hL _
  have hval : ∀ (j : Nat) t v, Tryd.f5.params[j]? = some t → args[j]? = some v → Value.okWide Tryd.prog W .any base t v := hval0
  have hW' := hW
  obtain ⟨p, q, hA0, hV, rfl, hfz, hnd⟩ := hW
  have hA : DataW.TrodAll enc Tryd.prog W 0 (fun _ => true) true Tryd.f5.params.toList args.toList ds p := hA0
  rw [Tryd.params5] at hA hval
  obtain ⟨v0, v1, d0, d1, p0, p1, rfl, rfl, rfl, h0, h1⟩ := trodAll_two hA
  obtain ⟨rfl, rfl⟩ := trodVars_none hV
  clear hA0
  simp only [List.append_nil] at hW'
  have h0k := h0
  have h1k := h1
  obtain ⟨a0, len0, cap0, rfl⟩ := okWide_slice Tryd.underlying22 (hval 0 22 v0 rfl rfl)
  obtain ⟨fuel0, hf0⟩ := h0
  obtain ⟨c0, hc0, ks0, hks0, hkl0, hr0⟩ := Go.Am.read_bytes Tryd.underlying22 Tryd.underlying5 rfl hf0
  have hcc0 : Value.slice a0 len0 cap0 = c0 := by simpa [Value.cells] using hc0
  subst hcc0
  obtain ⟨a1, len1, cap1, rfl⟩ := okWide_slice Tryd.underlying22 (hval 1 22 v1 rfl rfl)
  obtain ⟨fuel1, hf1⟩ := h1
  obtain ⟨c1, hc1, ks1, hks1, hkl1, hr1⟩ := Go.Am.read_bytes Tryd.underlying22 Tryd.underlying5 rfl hf1
  have hcc1 : Value.slice a1 len1 cap1 = c1 := by simpa [Value.cells] using hc1
  subst hcc1
  refine (walk W ks0 hks0 _ hr0 ks1 hks1 _ hr1).mono fun e W' ⟨he, hb⟩ => ?_
  subst he
  have hlt : ∀ x ∈ (p0 ++ p1), x.block < W.heap.size := fun x hx => by simpa using hW'.lt x hx
  refine ⟨_, rfl, _, _, _, [], (p0 ++ p1), [], hW', trodAll_mk1 (shut_bool Tryd.underlying4 _), ?_, rfl, hb.frame _, fun h => by cases h⟩
  have e0 := Below.trod laidOut (by kernel_rfl) (of_decide_eq_true (by kernel_rfl)) h0k hb (fun x hx => hlt x (by simp [hx]))
  have e1 := Below.trod laidOut (by kernel_rfl) (of_decide_eq_true (by kernel_rfl)) h1k hb (fun x hx => hlt x (by simp [hx]))
  exact trodAll_mk2 e0 e1

theorem over : Rows.fnPatternRow.holds Tryd.pinned (OpenSpec.ofChange Rows.fnPatternSpec) :=
  OpenClaim.holds_of_wide 5 Tryd.f5 rfl rfl rfl rfl rfl rfl rfl ⟨rfl, rfl, rfl, rfl, rfl⟩ rfl rfl rfl rfl rfl (by kernel_rfl) Tryd.func5 (by kernel_rfl)
    (of_decide_eq_true (by kernel_rfl)) (by unfold Func.isWrapper; first | (rw [if_pos (by decide +kernel)]; kernel_rfl) | (rw [if_neg (by decide +kernel)]; exact ⟨rfl, rfl⟩))
    (fun os started H enc _ => lifted os started H enc)

/-- ████ THE STATEMENT ████ -/
theorem proved : Rows.FnPatternCardSaid :=
  Claim7.holds_tied_plain_at .later [] [.data, .pinned] true (true, "3dee77b2478178212c499f5906ffb2c870cefee0fe85643239ce98fa24bd1278") true over (fun _ h => by cases h) (by kernel_rfl) (fun _ h => by cases h) fnPattern_row_tie rfl ⟨rfl, rfl⟩ (by kernel_rfl) rfl
    (fun f fn hf hfn => by
      obtain rfl : f = 5 := Option.some.inj ((show Tryd.prog.funcNamed "loop.example/g00091/laws.FnPattern" = some 5 by kernel_rfl).symm.trans hf) |>.symm
      obtain rfl : fn = Tryd.f5 := (Option.some.inj (Tryd.func5.symm.trans hfn)).symm
      exact ⟨by kernel_rfl, fun j t ht => by
        have hall : (Tryd.f5.params.toList.all fun t => !(Tryd.prog.wantsStandIn t)) = true := by kernel_rfl
        have := List.all_eq_true.1 hall t (by
          obtain ⟨hj, rfl⟩ := Array.getElem?_eq_some_iff.1 ht
          exact Array.mem_toList_iff.2 (Array.getElem_mem hj))
        have e : (Tryd.prog.wantsStandIn t) = false := by simpa using this
        exact e⟩)
    (by kernel_rfl)
#print axioms proved
end Go.Proofs.YtaedacibojpfkaaDoor.fnPattern
