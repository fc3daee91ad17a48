/- The deferred closure of 'caught': what it does where the call returns, and where it has ended by the program's own stop. -/
import Derived.Test.YtoajlhhalpldfaaGreatDoorProg
import Derived.Test.YtoajlhhalpldfaaGreatDoorTypes
import Derived.Tactics
import Derived.Tactics2
import Derived.Defers
import Derived.Recover
import Derived.Laws.Pointers
import Derived.Laws.Tables
namespace Go.Proofs.YtoajlhhalpldfaaGreatDoor.Caught
open Go

theorem idle (p : Addr) (w : World) :
  CallsD Tryz.prog 89 #[.pointer (some p)] .returning w fun e u' w' => e = .returned (.tuple #[]) ∧ u' = .returning ∧ w' = w := by
 refine callsD_of_wpS Tryz.func89 rfl fun c₀ cs hu => ?_
 apply wpS_seq
 apply wpS_region
 simp [wpOpsS, go_sem, recoverD, hu, Tryz.ntmps89, Exit.thenS]
 refine wpS_of_wp ?_
 go_wp2
 cases c₀
 simp_all [bodyPostS, results, Tryz.results89]

theorem setTwo (w : World) (b : Nat) (x y c q : Value) (T : TypeId) (fr : Nat × Nat) (h : w.heap[b]? = some (.cells #[x, y] T fr)) : (w.setCell ⟨b, 0, none⟩ c).setCell ⟨b, 1, none⟩ q = w.setRow b #[c, q] := by
 unfold World.setCell World.setRow
 congr 1
 apply Array.ext_getElem?
 intro i
 simp only [Array.getElem?_modify]
 by_cases hi : b = i
 ·subst hi
  simp [h]
 simp [hi]

theorem assert_ok (v : Value) (xT : TypeId) (w : World) : (Instr.typeAssert (.iface 77 v) xT 77 true).run Tryz.prog w = .ok (.tuple #[v, .bool true]) w := by
 simp [Instr.typeAssert, run_underlying Tryz.underlying77]

set_option maxRecDepth 100000 in
theorem pan (b : Nat) (x y : Value) (c q : Int) (w : World) (hc : w.heap[b]? = some (.cells #[x, y] 77 (0, 0))) :
  CallsD Tryz.prog 89 #[.pointer (some ⟨b, 0, none⟩)] (.panicking [{ v := .iface 77 (.agg #[.int .i64 c, .int .i64 q]), recovered := false }]) w fun e u' w' =>
   e = .returned (.tuple #[]) ∧ u' = .panicking [{ v := .iface 77 (.agg #[.int .i64 c, .int .i64 q]), recovered := true }] ∧ w' = (w.setRow b #[.int .i64 c, .int .i64 q]).alloc (.cells #[.int .i64 c, .int .i64 q] 77) := by
 refine callsD_of_wpS Tryz.func89 rfl fun c₀ cs hu => ?_
 apply wpS_seq
 apply wpS_region
 simp [wpOpsS, go_sem, recoverD, hu, Tryz.ntmps89, Exit.thenS]
 have hta := assert_ok
 have hb : b < w.heap.size := (Array.getElem?_eq_some_iff.1 hc).1
 have hz0 : w.cell? ⟨b, 0, none⟩ = some x := by simp [World.cell?, hc]
 have hz1 : w.cell? ⟨b, 1, none⟩ = some y := by simp [World.cell?, hc]
 rw [show (#[Value.pointer (some { block := b, off := 0, spot := none })] ++ (Array.replicate 10 undef).setIfInBounds 3 (Value.iface 77 (Value.agg #[Value.int IntKind.i64 c, Value.int IntKind.i64 q])) : Array Value) = #[Value.pointer (some { block := b, off := 0, spot := none }), undef, undef, undef, Value.iface 77 (Value.agg #[Value.int IntKind.i64 c, Value.int IntKind.i64 q]), undef, undef, undef, undef, undef, undef] from rfl]
 have hy0 : w.frozen? ⟨b, 0, none⟩ = false := by simp [World.frozen?, hc]
 have hy1 : w.frozen? ⟨b, 1, none⟩ = false := by simp [World.frozen?, hc]
 refine wpS_of_wp ?_
 go_wp2
 rw [setTwo w b x y _ _ _ _ hc]
 simp [bodyPostS, results, Tryz.results89]
end Go.Proofs.YtoajlhhalpldfaaGreatDoor.Caught
