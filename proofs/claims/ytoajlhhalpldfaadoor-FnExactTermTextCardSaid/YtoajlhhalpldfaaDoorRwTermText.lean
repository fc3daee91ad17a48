/- The law FnExactTermText answers true, whatever its arguments: the row. -/
import Derived.Test.YtoajlhhalpldfaaDoorRows
import Derived.Test.YtoajlhhalpldfaaDoorCards
import Derived.Test.YtoajlhhalpldfaaDoorTie
import Derived.Lib.LaidIn
import Derived.Lib.LaidU8
import Derived.LaidLaws
import Derived.LaidHandle
import Derived.MakeChecks
import Derived.Stop.LaidErr
import Derived.Lib.TrailingZeros
import Derived.Lib.AppendIntMem
import Derived.ChangeSame
import Derived.ChangeVars
import Derived.SevenTiedAt
import Derived.WalkKit
import Derived.ProofKit
import Derived.Handed
import Derived.OpenShut
import Derived.Carry
import Derived.Test.YtoajlhhalpldfaaDoorPvTermText
namespace Go.Proofs.YtoajlhhalpldfaaDoor.fnExactTermText
open Go.ChangeShapes Go.WideShapes Go.ChangeAt Go.RowKit

theorem own : ownKnob Tryd.prog.godebug = none := by kernel_rfl
theorem laidOut : laidOutB Tryd.prog = true := by kernel_rfl

theorem walk (W : World) (hI : Go.Am.Inv W.heap.size W) (t0 : Go.Am.LT) (hok0 : t0.er.ok) (hold0 : Go.Am.old t0.toks) (cs0 : Array Value) (hl0 : cs0.size = 4) (hr0 : ∀ j v, t0.cells[j]? = some v → Go.Am.RepC (Go.Am.start W) v (cs0.getD j undef)) (n1 : Int) (hn1 : -9223372036854775808 ≤ n1 ∧ n1 ≤ 9223372036854775807) :
  Calls Tryd.prog 3 #[.agg cs0, .int .i64 n1] W fun e w' => e = .returned (.bool true) ∧ Below W.heap.size W w' := by
 refine Go.Am.calls_of_law (args := [.agg t0.cells, .int .i64 n1]) (Go.Am.YtoajlhhalpldfaaDoor.lawTermText_ok t0 hok0 hold0 n1 hn1) rfl (fun j v hj => ?_) (by cases t0; rfl) hI
 match j, hj with
 | 0, hj =>
  cases hj
  exact .agg _ _ (by rw [Go.Am.tcells_len]; exact hl0) (fun j x hj => Go.Am.alld1_at (Go.Am.tcells_d1 t0) j x hj) hr0
 | 1, hj =>
  cases hj
  exact .int _ _
 | j + 2, hj => simp at hj

noncomputable def laidWorld (os : Os) : World :=
 let w0 := World.holding Tryd.prog os ⟨#[], #[], []⟩
 let put (h : Array Obj) (g : Nat) (cs : Array Value) : Array Obj := h.modify g fun
  | .cells _ t frozen => .cells cs t frozen
  | o => o
 let h1 := put w0.heap 2 (Lib.firstTab.map fun z => Value.int .u8 z).toArray
 let h2 := put h1 3 ((List.range 16).flatMap fun i => [Value.int .u8 (Lib.accLo i), Value.int .u8 (Lib.accHi i)]).toArray
 let h3 := put h2 0 (Lib.pow10Tab.map fun z => Value.int .u64 z).toArray
 let h4 := put h3 5 (Lib.deBruijn64tab.map fun (z : Nat) => Value.int .u8 (z : Int)).toArray
 let h5 := put h4 4 (Lib.deBruijn32tab.map fun (z : Nat) => Value.int .u8 (z : Int)).toArray
 { w0 with heap := h5 }
theorem laid_met (os : Os) (args : Array Value) : laidMet Tryd.prog Rows.fnExactTermTextRow.laid ((laidWorld os).forCall (fun _ _ => 0) ⟨#[], args, []⟩).memory :=
 (LaidIn.of_run (l := Rows.fnExactTermTextRow.laid) [4, 5, 0, 3, 2] 8 (by kernel_rfl) (by kernel_rfl) (by kernel_rfl) (by kernel_rfl)).met
theorem laid_metH (os : Os) (args : Array Value) : laidMetH Tryd.prog Rows.fnExactTermTextRow.laid ((laidWorld os).forCall (fun _ _ => 0) ⟨#[], args, []⟩).memory :=
 laidMetH_of_parts (laid_met os args) (by kernel_rfl)

theorem pow_of {W : World} (h : laidMetH Tryd.prog Rows.fnExactTermTextRow.laid W) : Go.Am.Inv W.heap.size W := by
 have h1 : laidMet Tryd.prog Rows.fnExactTermTextRow.laid W := by
  rw [Go.MakeChecks.laidMetH_plain _ _ _ (by kernel_rfl)] at h
  exact h
 have e : Rows.fnExactTermTextRow.laid = [("math/bits.deBruijn32tab", Rows.laid_math_bits_deBruijn32tab), ("math/bits.deBruijn64tab", Rows.laid_math_bits_deBruijn64tab)] ++ ("internal/strconv.uint64pow10", Lib.tabData .u64 Lib.pow10Tab) :: [("unicode/utf8.acceptRanges", Rows.laid_unicode_utf8_acceptRanges), ("unicode/utf8.first", Rows.laid_unicode_utf8_first)] := by kernel_rfl
 rw [e] at h1
 exact Lib.tabBelow_of_tabIs (Lib.tabIs_of_head (g := 0) (t := 87) (e := 77) (n := 20) (by kernel_rfl) (by kernel_rfl) Tryd.underlying87 Tryd.underlying77 (by kernel_rfl) (by kernel_rfl) h1.tail.tail)

set_option maxRecDepth 100000 in
set_option maxHeartbeats 2000000 in
theorem lifted (os : Os) (started : os.Started) (H : Type) (enc : TypeId × Value → H) :
  ReturnsInHanded {} Tryd.checked os 3 .any (fun w args => (Rows.fnExactTermTextSpec.pre enc Tryd.prog Tryd.f3 Rows.fnExactTermTextRow.domain false w args ∧ laidMetH Tryd.prog Rows.fnExactTermTextRow.laid w) ∧ sizedMet enc Tryd.prog Tryd.f3 (OpenSpec.ofChange Rows.fnExactTermTextSpec) false w args) (Rows.fnExactTermTextSpec.post enc Tryd.prog Tryd.f3 false true false false) := by
 refine returnsInHanded_of_change_and (C := Tryd.checked) (X := fun w _ => laidMetH Tryd.prog Rows.fnExactTermTextRow.laid w) (fun _ _ _ hh h => h.of_heap hh) own started (by kernel_rfl) Tryd.func3
  (ChangeSpec.witness_at (enc := enc) (C := Tryd.checked) (os := os) (X := fun w _ => laidMetH Tryd.prog Rows.fnExactTermTextRow.laid w) false (laidWorld os) #[.agg #[.int .i64 0, .int .i64 0, .string ⟨#[]⟩, .slice none 0 0], .int .i64 0] 8 rfl (by kernel_rfl) (by kernel_rfl) (by kernel_rfl) (by kernel_rfl) (by kernel_rfl) (laid_metH os _)) ?_
 intro W base args ds gs before hval0 hW hcnd _ hL _
 have hval : ∀ (j : Nat) t v, Tryd.f3.params[j]? = some t → args[j]? = some v → Value.okWide Tryd.prog W .any base t v := hval0
 have hW' := hW
 obtain ⟨p, q, hA0, hV, rfl, hfz, hnd⟩ := hW
 have hA : DataW.TrodAll enc Tryd.prog W 0 (fun _ => true) true Tryd.f3.params.toList args.toList ds p := hA0
 rw [Tryd.params3] at hA hval
 obtain ⟨v0, v1, d0, d1, p0, p1, rfl, rfl, rfl, h0, h1⟩ := trodAll_two hA
 obtain ⟨rfl, rfl⟩ := trodVars_none hV
 clear hA0
 simp only [List.append_nil] at hW'
 have h0k := h0
 have h1k := h1
 obtain ⟨cs0, rfl, _⟩ := okWide_struct Tryd.underlying24 (hval 0 24 v0 rfl rfl)
 obtain ⟨fuel0, hf0⟩ := h0
 obtain ⟨t0, ⟨hok0, hold0⟩, hl0, hr0⟩ := Go.Am.read_t Tryd.underlying24 rfl ⟨Tryd.underlying3, rfl, rfl⟩ ⟨Tryd.underlying3, rfl, rfl⟩ ⟨Tryd.underlying9, rfl, rfl⟩ ⟨Tryd.underlying22, rfl, rfl⟩ fuel0 _ _ hf0
 have hcells0 : (Value.agg cs0).cells.toList = cs0.toList := rfl
 rw [hcells0] at hl0 hr0
 obtain ⟨n1, rfl⟩ := okWide_int Tryd.underlying3 (hval 1 3 v1 rfl rfl)
 obtain ⟨fuel1, hf1⟩ := h1
 obtain ⟨m1, hm1, _, wm1⟩ := DataW.trod_int Tryd.underlying3 hf1
 have hmm1 : n1 = m1 := by simpa [Value.cells] using hm1
 subst hmm1
 refine (walk W (pow_of hL) t0 hok0 hold0 cs0 (by simpa using hl0) (fun j x hj => by have := hr0 j x hj; simpa [Array.getD_eq_getD_getElem?, List.getD_eq_getElem?_getD] using this) n1 (Go.Am.wf_range wm1)).mono fun e W' ⟨he, hb⟩ => ?_
 subst he
 have hlt : ∀ x ∈ (p0 ++ p1), x.block < W.heap.size := fun x hx => by simpa using hW'.lt x hx
 refine ⟨_, rfl, _, _, _, [], (p0 ++ p1), [], hW', trodAll_mk1 (shut_bool Tryd.underlying4 _), ?_, rfl, hb.frame _, fun h => by cases h⟩
 have e0 := Below.trod laidOut (by kernel_rfl) (of_decide_eq_true (by kernel_rfl)) h0k hb (fun x hx => hlt x (by simp [hx]))
 have e1 := Below.trod laidOut (by kernel_rfl) (of_decide_eq_true (by kernel_rfl)) h1k hb (fun x hx => hlt x (by simp [hx]))
 exact trodAll_mk2 e0 e1

theorem over : Rows.fnExactTermTextRow.holds Tryd.pinned (OpenSpec.ofChange Rows.fnExactTermTextSpec) :=
 OpenClaim.holds_of_wide 3 Tryd.f3 rfl rfl rfl rfl rfl rfl rfl ⟨rfl, rfl, rfl, rfl, rfl⟩ rfl rfl rfl rfl rfl (by kernel_rfl) Tryd.func3 (by kernel_rfl)
  (of_decide_eq_true (by kernel_rfl)) (by unfold Func.isWrapper; first | (rw [if_pos (by decide +kernel)]; kernel_rfl) | (rw [if_neg (by decide +kernel)]; exact ⟨rfl, rfl⟩))
  (fun os started H enc _ => lifted os started H enc)

theorem proved : Rows.FnExactTermTextCardSaid :=
 Claim7.holds_tied_plain_at .later [] [.data, .data, .data, .data, .pinned] true (true, "dcdf4fde9f6e3983cf40bd489f55567dfa5f2d52da54e3923e462115cb85b092") true over (fun _ h => by cases h) (by kernel_rfl) (fun _ h => by cases h) fnExactTermText_row_tie rfl ⟨rfl, rfl⟩ (by kernel_rfl) rfl
  (fun f fn hf hfn => by
   obtain rfl : f = 3 := Option.some.inj ((show Tryd.prog.funcNamed "loop.example/g00091/laws.FnExactTermText" = some 3 by kernel_rfl).symm.trans hf) |>.symm
   obtain rfl : fn = Tryd.f3 := (Option.some.inj (Tryd.func3.symm.trans hfn)).symm
   exact ⟨by kernel_rfl, fun j t ht => by
    have hall : (Tryd.f3.params.toList.all fun t => !(Tryd.prog.wantsStandIn t)) = true := by kernel_rfl
    have := List.all_eq_true.1 hall t (by
     obtain ⟨hj, rfl⟩ := Array.getElem?_eq_some_iff.1 ht
     exact Array.mem_toList_iff.2 (Array.getElem_mem hj))
    have e : (Tryd.prog.wantsStandIn t) = false := by simpa using this
    exact e⟩)
  (by kernel_rfl)
#print axioms proved
end Go.Proofs.YtoajlhhalpldfaaDoor.fnExactTermText
