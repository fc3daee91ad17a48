/- The law FnExactSubst answers true, whatever its arguments: the row. -/
import Derived.Test.YtiobknkpdkkikabDoorRows
import Derived.Test.YtiobknkpdkkikabDoorCards
import Derived.Test.YtiobknkpdkkikabDoorTie
import Derived.Lib.LaidIn
import Derived.Lib.LaidU8
import Derived.LaidLaws
import Derived.LaidHandle
import Derived.ChangeSame
import Derived.ChangeVars
import Derived.SevenTiedAt
import Derived.WalkKit
import Derived.ProofKit
import Derived.Handed
import Derived.OpenShut
import Derived.Carry
import Derived.Test.YtiobknkpdkkikabDoorEvSubst
namespace Go.Proofs.YtiobknkpdkkikabDoor.fnExactSubst
open Go.ChangeShapes Go.WideShapes Go.ChangeAt Go.RowKit

theorem own : ownKnob Tryd.prog.godebug = none := by kernel_rfl
theorem laidOut : laidOutB Tryd.prog = true := by kernel_rfl

theorem walk (W : World) (t0 : Go.Am.LT) (hok0 : t0.er.ok) (hold0 : Go.Am.old t0.toks) (cs0 : Array Value) (hl0 : cs0.size = 4) (hr0 : ∀ j v, t0.cells[j]? = some v → Go.Am.RepC (Go.Am.start W) v (cs0.getD j undef)) (t1 : Go.Am.LT) (hok1 : t1.er.ok) (hold1 : Go.Am.old t1.toks) (cs1 : Array Value) (hl1 : cs1.size = 4) (hr1 : ∀ j v, t1.cells[j]? = some v → Go.Am.RepC (Go.Am.start W) v (cs1.getD j undef)) (t2 : Go.Am.LT) (hok2 : t2.er.ok) (hold2 : Go.Am.old t2.toks) (cs2 : Array Value) (hl2 : cs2.size = 4) (hr2 : ∀ j v, t2.cells[j]? = some v → Go.Am.RepC (Go.Am.start W) v (cs2.getD j undef)) :
    Calls Tryd.prog 4 #[.agg cs0, .agg cs1, .agg cs2] W fun e w' => e = .returned (.bool true) ∧ Below W.heap.size W w' := by
  refine Go.Am.calls_of_law (args := [.agg t0.cells, .agg t1.cells, .agg t2.cells]) (Go.Am.YtiobknkpdkkikabDoor.lawSubst_ok t0 hok0 hold0 t1 hok1 hold1 t2 hok2 hold2) rfl (fun j v hj => ?_) (by cases t0; cases t1; cases t2; rfl)
  match j, hj with
  | 0, hj =>
    cases hj
    exact .agg _ _ (by rw [Go.Am.tcells_len]; exact hl0) (fun j x hj => Go.Am.alld1_at (Go.Am.tcells_d1 t0) j x hj) hr0
  | 1, hj =>
    cases hj
    exact .agg _ _ (by rw [Go.Am.tcells_len]; exact hl1) (fun j x hj => Go.Am.alld1_at (Go.Am.tcells_d1 t1) j x hj) hr1
  | 2, hj =>
    cases hj
    exact .agg _ _ (by rw [Go.Am.tcells_len]; exact hl2) (fun j x hj => Go.Am.alld1_at (Go.Am.tcells_d1 t2) j x hj) hr2
  | j + 3, hj => simp at hj

noncomputable def laidWorld (os : Os) : World :=
  let w0 := World.holding Tryd.prog os ⟨#[], #[], []⟩
  let put (h : Array Obj) (g : Nat) (cs : Array Value) : Array Obj := h.modify g fun
    | .cells _ t frozen => .cells cs t frozen
    | o => o
  let h1 := put w0.heap 1 (Lib.firstTab.map fun z => Value.int .u8 z).toArray
  let h2 := put h1 2 ((List.range 16).flatMap fun i => [Value.int .u8 (Lib.accLo i), Value.int .u8 (Lib.accHi i)]).toArray
  { w0 with heap := h2 }
theorem laid_met (os : Os) (args : Array Value) : laidMet Tryd.prog Rows.fnExactSubstRow.laid ((laidWorld os).forCall (fun _ _ => 0) ⟨#[], args, []⟩).memory :=
  (LaidIn.of_run (l := Rows.fnExactSubstRow.laid) [2, 1] 8 (by kernel_rfl) (by kernel_rfl) (by kernel_rfl) (by kernel_rfl)).met
theorem laid_metH (os : Os) (args : Array Value) : laidMetH Tryd.prog Rows.fnExactSubstRow.laid ((laidWorld os).forCall (fun _ _ => 0) ⟨#[], args, []⟩).memory :=
  laidMetH_of_parts (laid_met os args) (by kernel_rfl)

set_option maxRecDepth 100000 in
set_option maxHeartbeats 2000000 in
theorem lifted (os : Os) (started : os.Started) (H : Type) (enc : TypeId × Value → H) :
    ReturnsInHanded {} Tryd.checked os 4 .any (fun w args => (Rows.fnExactSubstSpec.pre enc Tryd.prog Tryd.f4 Rows.fnExactSubstRow.domain false w args ∧ laidMetH Tryd.prog Rows.fnExactSubstRow.laid w) ∧ sizedMet enc Tryd.prog Tryd.f4 (OpenSpec.ofChange Rows.fnExactSubstSpec) false w args) (Rows.fnExactSubstSpec.post enc Tryd.prog Tryd.f4 false true false false) := by
  refine returnsInHanded_of_change_and (C := Tryd.checked) (X := fun w _ => laidMetH Tryd.prog Rows.fnExactSubstRow.laid w) (fun _ _ _ hh h => h.of_heap hh) own started (by kernel_rfl) Tryd.func4
    (ChangeSpec.witness_at (enc := enc) (C := Tryd.checked) (os := os) (X := fun w _ => laidMetH Tryd.prog Rows.fnExactSubstRow.laid w) false (laidWorld os) #[.agg #[.int .i64 0, .int .i64 0, .string ⟨#[]⟩, .slice none 0 0], .agg #[.int .i64 0, .int .i64 0, .string ⟨#[]⟩, .slice none 0 0], .agg #[.int .i64 0, .int .i64 0, .string ⟨#[]⟩, .slice none 0 0]] 8 rfl (by kernel_rfl) (by kernel_rfl) (by kernel_rfl) (by kernel_rfl) (by kernel_rfl) (laid_metH os _)) ?_
  intro W base args ds gs before hval0 hW hcnd _ hL _
  have hval : ∀ (j : Nat) t v, Tryd.f4.params[j]? = some t → args[j]? = some v → Value.okWide Tryd.prog W .any base t v := hval0
  have hW' := hW
  obtain ⟨p, q, hA0, hV, rfl, hfz, hnd⟩ := hW
  have hA : DataW.TrodAll enc Tryd.prog W 0 (fun _ => true) true Tryd.f4.params.toList args.toList ds p := hA0
  rw [Tryd.params4] at hA hval
  obtain ⟨v0, v1, v2, d0, d1, d2, p0, p1, p2, rfl, rfl, rfl, h0, h1, h2⟩ := trodAll_three hA
  obtain ⟨rfl, rfl⟩ := trodVars_none hV
  clear hA0
  simp only [List.append_nil] at hW'
  have h0k := h0
  have h1k := h1
  have h2k := h2
  obtain ⟨cs0, rfl, _⟩ := okWide_struct Tryd.underlying24 (hval 0 24 v0 rfl rfl)
  obtain ⟨fuel0, hf0⟩ := h0
  obtain ⟨t0, ⟨hok0, hold0⟩, hl0, hr0⟩ := Go.Am.read_t Tryd.underlying24 rfl ⟨Tryd.underlying3, rfl, rfl⟩ ⟨Tryd.underlying3, rfl, rfl⟩ ⟨Tryd.underlying9, rfl, rfl⟩ ⟨Tryd.underlying22, rfl, rfl⟩ fuel0 _ _ hf0
  have hcells0 : (Value.agg cs0).cells.toList = cs0.toList := rfl
  rw [hcells0] at hl0 hr0
  obtain ⟨cs1, rfl, _⟩ := okWide_struct Tryd.underlying24 (hval 1 24 v1 rfl rfl)
  obtain ⟨fuel1, hf1⟩ := h1
  obtain ⟨t1, ⟨hok1, hold1⟩, hl1, hr1⟩ := Go.Am.read_t Tryd.underlying24 rfl ⟨Tryd.underlying3, rfl, rfl⟩ ⟨Tryd.underlying3, rfl, rfl⟩ ⟨Tryd.underlying9, rfl, rfl⟩ ⟨Tryd.underlying22, rfl, rfl⟩ fuel1 _ _ hf1
  have hcells1 : (Value.agg cs1).cells.toList = cs1.toList := rfl
  rw [hcells1] at hl1 hr1
  obtain ⟨cs2, rfl, _⟩ := okWide_struct Tryd.underlying24 (hval 2 24 v2 rfl rfl)
  obtain ⟨fuel2, hf2⟩ := h2
  obtain ⟨t2, ⟨hok2, hold2⟩, hl2, hr2⟩ := Go.Am.read_t Tryd.underlying24 rfl ⟨Tryd.underlying3, rfl, rfl⟩ ⟨Tryd.underlying3, rfl, rfl⟩ ⟨Tryd.underlying9, rfl, rfl⟩ ⟨Tryd.underlying22, rfl, rfl⟩ fuel2 _ _ hf2
  have hcells2 : (Value.agg cs2).cells.toList = cs2.toList := rfl
  rw [hcells2] at hl2 hr2
  refine (walk W t0 hok0 hold0 cs0 (by simpa using hl0) (fun j x hj => by have := hr0 j x hj; simpa [Array.getD_eq_getD_getElem?, List.getD_eq_getElem?_getD] using this) t1 hok1 hold1 cs1 (by simpa using hl1) (fun j x hj => by have := hr1 j x hj; simpa [Array.getD_eq_getD_getElem?, List.getD_eq_getElem?_getD] using this) t2 hok2 hold2 cs2 (by simpa using hl2) (fun j x hj => by have := hr2 j x hj; simpa [Array.getD_eq_getD_getElem?, List.getD_eq_getElem?_getD] using this)).mono fun e W' ⟨he, hb⟩ => ?_
  subst he
  have hlt : ∀ x ∈ (p0 ++ p1 ++ p2), x.block < W.heap.size := fun x hx => by simpa using hW'.lt x hx
  refine ⟨_, rfl, _, _, _, [], (p0 ++ p1 ++ p2), [], hW', trodAll_mk1 (shut_bool Tryd.underlying4 _), ?_, rfl, hb.frame _, fun h => by cases h⟩
  have e0 := Below.trod laidOut (by kernel_rfl) (of_decide_eq_true (by kernel_rfl)) h0k hb (fun x hx => hlt x (by simp [hx]))
  have e1 := Below.trod laidOut (by kernel_rfl) (of_decide_eq_true (by kernel_rfl)) h1k hb (fun x hx => hlt x (by simp [hx]))
  have e2 := Below.trod laidOut (by kernel_rfl) (of_decide_eq_true (by kernel_rfl)) h2k hb (fun x hx => hlt x (by simp [hx]))
  simp only [List.append_assoc]
  exact trodAll_mk3 e0 e1 e2

theorem over : Rows.fnExactSubstRow.holds Tryd.pinned (OpenSpec.ofChange Rows.fnExactSubstSpec) :=
  OpenClaim.holds_of_wide 4 Tryd.f4 rfl rfl rfl rfl rfl rfl rfl ⟨rfl, rfl, rfl, rfl, rfl⟩ rfl rfl rfl rfl rfl (by kernel_rfl) Tryd.func4 (by kernel_rfl)
    (of_decide_eq_true (by kernel_rfl)) (by unfold Func.isWrapper; first | (rw [if_pos (by decide +kernel)]; kernel_rfl) | (rw [if_neg (by decide +kernel)]; exact ⟨rfl, rfl⟩))
    (fun os started H enc _ => lifted os started H enc)

/-- ████ THE STATEMENT ████ -/
theorem proved : Rows.FnExactSubstCardSaid :=
  Claim7.holds_tied_plain_at .later [] [.data, .pinned] true (true, "8071d36084648d7052085f42eaff20f1ac07342244346f51337bcf7d28e7b8e3") true over (fun _ h => by cases h) (by kernel_rfl) (fun _ h => by cases h) fnExactSubst_row_tie rfl ⟨rfl, rfl⟩ (by kernel_rfl) rfl
    (fun f fn hf hfn => by
      obtain rfl : f = 4 := Option.some.inj ((show Tryd.prog.funcNamed "loop.example/g00091/laws.FnExactSubst" = some 4 by kernel_rfl).symm.trans hf) |>.symm
      obtain rfl : fn = Tryd.f4 := (Option.some.inj (Tryd.func4.symm.trans hfn)).symm
      exact ⟨by kernel_rfl, fun j t ht => by
        have hall : (Tryd.f4.params.toList.all fun t => !(Tryd.prog.wantsStandIn t)) = true := by kernel_rfl
        have := List.all_eq_true.1 hall t (by
          obtain ⟨hj, rfl⟩ := Array.getElem?_eq_some_iff.1 ht
          exact Array.mem_toList_iff.2 (Array.getElem_mem hj))
        have e : (Tryd.prog.wantsStandIn t) = false := by simpa using this
        exact e⟩)
    (by kernel_rfl)
#print axioms proved
end Go.Proofs.YtiobknkpdkkikabDoor.fnExactSubst
