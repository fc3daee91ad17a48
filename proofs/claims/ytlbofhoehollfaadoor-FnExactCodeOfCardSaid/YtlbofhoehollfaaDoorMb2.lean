/- A contract of the kit's that hands back a new row of texts, turned into one of ours; strings.Split at a separator of one byte. -/
import Derived.Test.YtlbofhoehollfaaDoorMb0
import Derived.Shelf.Strings.Split
namespace Go.Proofs
open Go.Shelf Go.RowKit Go.Lib
variable {P : Program} {ρ : Ren}
theorem index_one_byte (s : ByteArray) (c : UInt8) : Lib.indexB s ⟨#[c]⟩ = Lib.indexByte s.data.toList c := by
  show Lib.index _ [c] = _
  exact Lib.index_one _ c
set_option maxHeartbeats 1000000 in
theorem split_one (L : Lays.n146 P ρ) (hi9 : (P.info? (ρ.t 9)).map (fun i => (i.zero, i.size, i.bytes)) = some (some (.string ByteArray.empty), 1, 16)) (s : ByteArray) (b : UInt8) (w : World) (hs : s.size < 4294967281) :
    Calls P (ρ.f 146) #[.string s, .string ⟨#[b]⟩] w fun e w' =>
      e = .returned (.slice (some ⟨w.heap.size, 0, none⟩) (Lib.countB s ⟨#[b]⟩ + 1) (Lib.countB s ⟨#[b]⟩ + 1)) ∧ w' = w.alloc (.cells ((Lib.splitB ⟨#[b]⟩ 0 (Lib.countB s ⟨#[b]⟩) s).map Value.string).toArray (ρ.t 9)) := by
  have h1 : 1 ≤ (⟨#[b]⟩ : ByteArray).size := Nat.le_refl 1
  have hle := Lib.countB_le (⟨#[b]⟩ : ByteArray) h1 s.size s (Nat.le_refl _)
  have hlen := Lib.splitB_all (⟨#[b]⟩ : ByteArray) h1 0 _ s rfl
  have c := Any.strings_genSplit_core { L with } hi9 s ⟨#[b]⟩ 0 (-1) (Lib.countB s ⟨#[b]⟩ + 1) w hs h1 (Nat.zero_le _)
    (fun x cs hx => (Any.strings_Index_one { L with } x b _).mono fun e w' ⟨he, hw⟩ => ⟨by rw [he, index_one_byte], hw⟩)
    ((Any.strings_Count_one { L with } s b w).mono fun e w' ⟨he, hw⟩ => ⟨by
      rw [he]
      show _ = Ending.returned (Value.int .i64 ((Lib.count s.data.toList [b] : Nat) : Int))
      rw [Lib.count_one]; rfl, hw⟩)
    (by decide) (by decide) (by rw [if_pos (by decide)]; omega)
  rw [Nat.add_sub_cancel, hlen] at c
  have e2 : Lib.cellsOf (Lib.splitB ⟨#[b]⟩ 0 (Lib.countB s ⟨#[b]⟩) s) (Lib.countB s ⟨#[b]⟩ + 1) = ((Lib.splitB ⟨#[b]⟩ 0 (Lib.countB s ⟨#[b]⟩) s).map Value.string).toArray := by rw [← hlen]; exact Lib.cellsOf_full _
  rw [e2] at c
  have t3 := L.t3; have t9 := L.t9; have t31 := L.t31
  have a3 := L.a3; have a9 := L.a9; have a31 := L.a31
  have z3 := L.z3; have v3 := L.v3; have z9 := L.z9; have v9 := L.v9; have z31 := L.z31; have v31 := L.v31
  have e221 : ∀ args w, (callFunc (ρ.f 221) args).run P w = .ok (.enter (ρ.f 221) args) w := enters_of L.f221 (by kernel_rfl) rfl
  go_enter L.f146, Body.n146_ntmps ρ
  go_wp2_with (go_at_fn (ρ.f 221); refine c.mono ?_; rintro e w' ⟨rfl, hw⟩; rw [hw])
  go_ret
  exact ⟨rfl, rfl⟩
end Go.Proofs
namespace Go.Am
open Go Go.RowKit

/-- A new row of texts. -/
theorem acalls_texts {P : Program} {f : FuncId} {args : List AV} {O : Heap} {tk : Nat} {us0 : Array Value} {T : TypeId} {ls : List ByteArray} (hne : ls ≠ []) (hlm : ls.length ≤ maxLen)
    (hb : ∃ fn c, P.funcs[f]? = some fn ∧ (fn.name == "runtime.NumGoroutine") = false ∧ fn.body = some c)
    (ha : ∀ (S : Sit) (us : Array Value), us.size = args.length → (∀ j v, args[j]? = some v → Arg S v (us.getD j undef)) → us = us0)
    (h : ∀ w : World, Calls P f us0 w fun e w' => e = .returned (.slice (some ⟨w.heap.size, 0, none⟩) ls.length ls.length) ∧ w' = w.alloc (.cells (ls.map Value.string).toArray T)) :
    ACalls P f args O tk (RetN O (.imm 1 1 false (ls.map fun s => [.str s])) tk) := by
  refine ⟨hb, fun S us h1 h2 h3 _ h4 h5 => ?_⟩
  rw [ha S us h4 h5]
  refine (h S.w).mono fun e w' ⟨q1, q2⟩ => ?_
  have hbel : Below S.w.heap.size S.w w' := by rw [q2]; exact (Below.refl _ _).alloc (Nat.le_refl _) _
  obtain ⟨k1, k2⟩ := below_ext h3 hbel
  have hcell : w'.heap[S.w.heap.size]? = some (.cells (ls.map Value.string).toArray T (0, 0)) := by rw [q2]; exact Array.getElem?_push_size
  refine ⟨.ret (.imm 1 1 false (ls.map fun s => [.str s])), { S with w := w' }, rfl, k1, k2, ⟨_, q1, ?_⟩, h1, rfl, h2⟩
  have hl : (ls.map fun s => [AV.str s]).length = ls.length := by simp
  rw [show (ls.length : Nat) = (ls.map fun s => [AV.str s]).length from hl.symm]
  refine .imm 1 1 false _ S.w.heap.size 0 _ (fun i _ => .string (ls.getD i ⟨#[]⟩)) (by simpa using hne) ⟨?_, ?_⟩ (Nat.le_refl _) (by rw [hl]; exact hlm) (fun q => by cases q) (fun q => absurd q (by decide)) (fun q => by cases q) ?_ ?_ ?_ ?_
  · exact (Array.getElem?_eq_some_iff.1 hcell).1
  · rintro ⟨x, hx, hxb⟩
    have := h3.lt (x := x) (o := (S.O x).get hx) (Option.eq_some_of_isSome hx)
    have hxb : S.β x = S.w.heap.size := hxb
    omega
  · intro e he
    obtain ⟨s, _, rfl⟩ := List.mem_map.1 he
    rfl
  · intro i e j x hi hj
    rw [List.getElem?_map] at hi
    obtain ⟨s, _, rfl⟩ := Option.map_eq_some_iff.1 hi
    match j, hj with
    | 0, hj => cases hj; rfl
  · intro i e j x hi hj
    rw [List.getElem?_map] at hi
    obtain ⟨s, hs, rfl⟩ := Option.map_eq_some_iff.1 hi
    match j, hj with
    | 0, hj =>
      unfold World.cell?
      rw [hcell]
      simp [hs, List.getD_eq_getElem?_getD]
  · intro i e j x hi hj
    rw [List.getElem?_map] at hi
    obtain ⟨s, hs, rfl⟩ := Option.map_eq_some_iff.1 hi
    match j, hj with
    | 0, hj =>
      cases hj
      rw [show ls.getD i ⟨#[]⟩ = s by rw [List.getD_eq_getElem?_getD, hs]; rfl]
      exact .str _

end Go.Am
