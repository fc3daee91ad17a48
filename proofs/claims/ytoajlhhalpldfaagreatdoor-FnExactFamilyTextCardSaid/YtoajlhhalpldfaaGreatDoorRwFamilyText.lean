/- The law FnExactFamilyText answers true, whatever its arguments: the row. -/
import Derived.Test.YtoajlhhalpldfaaGreatDoorRows
import Derived.Test.YtoajlhhalpldfaaGreatDoorCards
import Derived.Test.YtoajlhhalpldfaaGreatDoorTie
import Derived.Lib.LaidIn
import Derived.Lib.LaidU8
import Derived.LaidLaws
import Derived.LaidHandle
import Derived.MakeChecks
import Derived.Stop.LaidErr
import Derived.Lib.TrailingZeros
import Derived.Lib.AppendIntMem
import Derived.ChangeSame
import Derived.ChangeVars
import Derived.SevenTiedAt
import Derived.WalkKit
import Derived.ProofKit
import Derived.Handed
import Derived.OpenShut
import Derived.Carry
import Derived.Test.YtoajlhhalpldfaaGreatDoorPvFamText
namespace Go.Proofs.YtoajlhhalpldfaaGreatDoor.fnExactFamilyText
open Go.ChangeShapes Go.WideShapes Go.ChangeAt Go.RowKit

theorem own : ownKnob Tryz.prog.godebug = none := by kernel_rfl
theorem laidOut : laidOutB Tryz.prog = true := by kernel_rfl

theorem walk (W : World) (hI : Go.Am.Inv W.heap.size W) (t0 : Go.Am.LT) (hok0 : t0.er.ok) (hold0 : Go.Am.old t0.toks) (cs0 : Array Value) (hl0 : cs0.size = 4) (hr0 : ∀ j v, t0.cells[j]? = some v → Go.Am.RepC (Go.Am.start W) v (cs0.getD j undef)) (n1 : Int) (hn1 : -9223372036854775808 ≤ n1 ∧ n1 ≤ 9223372036854775807) :
  Calls Tryz.prog 4 #[.agg cs0, .int .i64 n1] W fun e w' => e = .returned (.bool true) ∧ Below W.heap.size W w' := by
 refine Go.Am.calls_of_law (args := [.agg t0.cells, .int .i64 n1]) (Go.Am.YtoajlhhalpldfaaGreatDoor.lawFamilyText_ok t0 hok0 hold0 n1 hn1) rfl (fun j v hj => ?_) (by cases t0; rfl) hI
 match j, hj with
 | 0, hj =>
  cases hj
  exact .agg _ _ (by rw [Go.Am.tcells_len]; exact hl0) (fun j x hj => Go.Am.alld1_at (Go.Am.tcells_d1 t0) j x hj) hr0
 | 1, hj =>
  cases hj
  exact .int _ _
 | j + 2, hj => simp at hj

noncomputable def laidWorld (os : Os) : World :=
 let w0 := World.holding Tryz.prog os ⟨#[], #[], []⟩
 let put (h : Array Obj) (g : Nat) (cs : Array Value) : Array Obj := h.modify g fun
  | .cells _ t frozen => .cells cs t frozen
  | o => o
 let h1 := put w0.heap 2 (Lib.firstTab.map fun z => Value.int .u8 z).toArray
 let h2 := put h1 3 ((List.range 16).flatMap fun i => [Value.int .u8 (Lib.accLo i), Value.int .u8 (Lib.accHi i)]).toArray
 let h3 := put h2 0 (Lib.pow10Tab.map fun z => Value.int .u64 z).toArray
 let h4 := put h3 5 (Lib.deBruijn64tab.map fun (z : Nat) => Value.int .u8 (z : Int)).toArray
 let h5 := put h4 4 (Lib.deBruijn32tab.map fun (z : Nat) => Value.int .u8 (z : Int)).toArray
 { w0 with heap := h5 }
theorem laid_met (os : Os) (args : Array Value) : laidMet Tryz.prog Rows.fnExactFamilyTextRow.laid ((laidWorld os).forCall (fun _ _ => 0) ⟨#[], args, []⟩).memory :=
 (LaidIn.of_run (l := Rows.fnExactFamilyTextRow.laid) [4, 5, 0, 3, 2] 8 (by kernel_rfl) (by kernel_rfl) (by kernel_rfl) (by kernel_rfl)).met
theorem laid_metH (os : Os) (args : Array Value) : laidMetH Tryz.prog Rows.fnExactFamilyTextRow.laid ((laidWorld os).forCall (fun _ _ => 0) ⟨#[], args, []⟩).memory :=
 laidMetH_of_parts (laid_met os args) (by kernel_rfl)

theorem pow_of {W : World} (h : laidMetH Tryz.prog Rows.fnExactFamilyTextRow.laid W) : Go.Am.Inv W.heap.size W := by
 have h1 : laidMet Tryz.prog Rows.fnExactFamilyTextRow.laid W := by
  rw [Go.MakeChecks.laidMetH_plain _ _ _ (by kernel_rfl)] at h
  exact h
 have e : Rows.fnExactFamilyTextRow.laid = [("math/bits.deBruijn32tab", Rows.laid_math_bits_deBruijn32tab), ("math/bits.deBruijn64tab", Rows.laid_math_bits_deBruijn64tab)] ++ ("internal/strconv.uint64pow10", Lib.tabData .u64 Lib.pow10Tab) :: [("unicode/utf8.acceptRanges", Rows.laid_unicode_utf8_acceptRanges), ("unicode/utf8.first", Rows.laid_unicode_utf8_first)] := by kernel_rfl
 rw [e] at h1
 exact Lib.tabBelow_of_tabIs (Lib.tabIs_of_head (g := 0) (t := 133) (e := 124) (n := 20) (by kernel_rfl) (by kernel_rfl) Tryz.underlying133 Tryz.underlying124 (by kernel_rfl) (by kernel_rfl) h1.tail.tail)

set_option maxRecDepth 100000 in
set_option maxHeartbeats 2000000 in
theorem lifted (os : Os) (started : os.Started) (H : Type) (enc : TypeId × Value → H) :
  ReturnsInHanded {} Tryz.checked os 4 .any (fun w args => (Rows.fnExactFamilyTextSpec.pre enc Tryz.prog Tryz.f4 Rows.fnExactFamilyTextRow.domain false w args ∧ laidMetH Tryz.prog Rows.fnExactFamilyTextRow.laid w) ∧ sizedMet enc Tryz.prog Tryz.f4 (OpenSpec.ofChange Rows.fnExactFamilyTextSpec) false w args) (Rows.fnExactFamilyTextSpec.post enc Tryz.prog Tryz.f4 false true false false) := by
 refine returnsInHanded_of_change_and (C := Tryz.checked) (X := fun w _ => laidMetH Tryz.prog Rows.fnExactFamilyTextRow.laid w) (fun _ _ _ hh h => h.of_heap hh) own started (by kernel_rfl) Tryz.func4
  (ChangeSpec.witness_at (enc := enc) (C := Tryz.checked) (os := os) (X := fun w _ => laidMetH Tryz.prog Rows.fnExactFamilyTextRow.laid w) false (laidWorld os) #[.agg #[.int .i64 0, .int .i64 0, .string ⟨#[]⟩, .slice none 0 0], .int .i64 0] 8 rfl (by kernel_rfl) (by kernel_rfl) (by kernel_rfl) (by kernel_rfl) (by kernel_rfl) (laid_metH os _)) ?_
 intro W base args ds gs before hval0 hW hcnd _ hL _
 have hval : ∀ (j : Nat) t v, Tryz.f4.params[j]? = some t → args[j]? = some v → Value.okWide Tryz.prog W .any base t v := hval0
 have hW' := hW
 obtain ⟨p, q, hA0, hV, rfl, hfz, hnd⟩ := hW
 have hA : DataW.TrodAll enc Tryz.prog W 0 (fun _ => true) true Tryz.f4.params.toList args.toList ds p := hA0
 rw [Tryz.params4] at hA hval
 obtain ⟨v0, v1, d0, d1, p0, p1, rfl, rfl, rfl, h0, h1⟩ := trodAll_two hA
 obtain ⟨rfl, rfl⟩ := trodVars_none hV
 clear hA0
 simp only [List.append_nil] at hW'
 have h0k := h0
 have h1k := h1
 obtain ⟨cs0, rfl, _⟩ := okWide_struct Tryz.underlying38 (hval 0 38 v0 rfl rfl)
 obtain ⟨fuel0, hf0⟩ := h0
 obtain ⟨t0, ⟨hok0, hold0⟩, hl0, hr0⟩ := Go.Am.read_t Tryz.underlying38 rfl ⟨Tryz.underlying3, rfl, rfl⟩ ⟨Tryz.underlying3, rfl, rfl⟩ ⟨Tryz.underlying9, rfl, rfl⟩ ⟨Tryz.underlying36, rfl, rfl⟩ fuel0 _ _ hf0
 have hcells0 : (Value.agg cs0).cells.toList = cs0.toList := rfl
 rw [hcells0] at hl0 hr0
 obtain ⟨n1, rfl⟩ := okWide_int Tryz.underlying3 (hval 1 3 v1 rfl rfl)
 obtain ⟨fuel1, hf1⟩ := h1
 obtain ⟨m1, hm1, _, wm1⟩ := DataW.trod_int Tryz.underlying3 hf1
 have hmm1 : n1 = m1 := by simpa [Value.cells] using hm1
 subst hmm1
 refine (walk W (pow_of hL) t0 hok0 hold0 cs0 (by simpa using hl0) (fun j x hj => by have := hr0 j x hj; simpa [Array.getD_eq_getD_getElem?, List.getD_eq_getElem?_getD] using this) n1 (Go.Am.wf_range wm1)).mono fun e W' ⟨he, hb⟩ => ?_
 subst he
 have hlt : ∀ x ∈ (p0 ++ p1), x.block < W.heap.size := fun x hx => by simpa using hW'.lt x hx
 refine ⟨_, rfl, _, _, _, [], (p0 ++ p1), [], hW', trodAll_mk1 (shut_bool Tryz.underlying4 _), ?_, rfl, hb.frame _, fun h => by cases h⟩
 have e0 := Below.trod laidOut (by kernel_rfl) (of_decide_eq_true (by kernel_rfl)) h0k hb (fun x hx => hlt x (by simp [hx]))
 have e1 := Below.trod laidOut (by kernel_rfl) (of_decide_eq_true (by kernel_rfl)) h1k hb (fun x hx => hlt x (by simp [hx]))
 exact trodAll_mk2 e0 e1

theorem over : Rows.fnExactFamilyTextRow.holds Tryz.pinned (OpenSpec.ofChange Rows.fnExactFamilyTextSpec) :=
 OpenClaim.holds_of_wide 4 Tryz.f4 rfl rfl rfl rfl rfl rfl rfl ⟨rfl, rfl, rfl, rfl, rfl⟩ rfl rfl rfl rfl rfl (by kernel_rfl) Tryz.func4 (by kernel_rfl)
  (of_decide_eq_true (by kernel_rfl)) (by unfold Func.isWrapper; first | (rw [if_pos (by decide +kernel)]; kernel_rfl) | (rw [if_neg (by decide +kernel)]; exact ⟨rfl, rfl⟩))
  (fun os started H enc _ => lifted os started H enc)

theorem proved : Rows.FnExactFamilyTextCardSaid :=
 Claim7.holds_tied_plain_at .later [] [.data, .data, .data, .data, .pinned] true (true, "eb9f06c0f976d7b703a1d3b1f69b1780f85ba48c43ff68c4a6a8df40144509c0") true over (fun _ h => by cases h) (by kernel_rfl) (fun _ h => by cases h) fnExactFamilyText_row_tie rfl ⟨rfl, rfl⟩ (by kernel_rfl) rfl
  (fun f fn hf hfn => by
   obtain rfl : f = 4 := Option.some.inj ((show Tryz.prog.funcNamed "loop.example/g00091/laws.FnExactFamilyText" = some 4 by kernel_rfl).symm.trans hf) |>.symm
   obtain rfl : fn = Tryz.f4 := (Option.some.inj (Tryz.func4.symm.trans hfn)).symm
   exact ⟨by kernel_rfl, fun j t ht => by
    have hall : (Tryz.f4.params.toList.all fun t => !(Tryz.prog.wantsStandIn t)) = true := by kernel_rfl
    have := List.all_eq_true.1 hall t (by
     obtain ⟨hj, rfl⟩ := Array.getElem?_eq_some_iff.1 ht
     exact Array.mem_toList_iff.2 (Array.getElem_mem hj))
    have e : (Tryz.prog.wantsStandIn t) = false := by simpa using this
    exact e⟩)
  (by kernel_rfl)
#print axioms proved
end Go.Proofs.YtoajlhhalpldfaaGreatDoor.fnExactFamilyText
