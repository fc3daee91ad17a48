/- How arguments of laws are read: trees, forms, types, proofs, expressions and lists of these, in old memory. -/
import Derived.Test.YtpkeophkdemcpaaAm4
import Derived.Test.YtpkeophkdemcpaaPuB
namespace Go.Am
open Go

instance : Inhabited LF := ⟨zF⟩
instance : Inhabited LP := ⟨zP⟩

def old (l : List Nat) : Prop := ∀ x ∈ l, x = 0
theorem old.nil : old [] := fun x h => by cases h
theorem old.app {a b : List Nat} (h : old a) (k : old b) : old (a ++ b) := fun x hx => (List.mem_append.1 hx).elim (h x) (k x)
theorem old.cons {a : List Nat} (h : old a) : old (0 :: a) := fun x hx => (List.mem_cons.1 hx).elim id (h x)
section
open Go.ChangeShapes
variable {H : Type} {enc : TypeId × Value → H} {P : Program} {w : World} {sp : Nat → Bool} {held : Bool}

theorem read_slice {α : Type} [Inhabited α] {T TE : TypeId} (hT : P.underlying T = some (.slice TE)) {sz : Nat} (hC : P.cellsOf TE = sz) (hs0 : 0 < sz) {cells : α → List AV} {ok : α → Prop} (hlen : ∀ t, (cells t).length = sz) (hd1 : ∀ t, alld1 (cells t) = true)
  {fuel : Nat} {cs : List Value} {x : DataW H × List MemPlace} (h : DataW.trod enc P w 0 sp held fuel T cs = some x)
  (rd : ∀ m, m < fuel → ∀ (cs : List Value) (x : DataW H × List MemPlace), DataW.trod enc P w 0 sp held m TE cs = some x → ∃ t : α, ok t ∧ cs.length = sz ∧ ∀ j v, (cells t)[j]? = some v → RepC (start w) v (cs.getD j undef)) :
  ∃ c, cs = [c] ∧ ∃ ks : List α, (∀ t ∈ ks, ok t) ∧ ks.length ≤ maxLen ∧ RepC (start w) (.imm 0 sz false (ks.map cells)) c := by
 rcases DataW.trod_slice hT h with ⟨hc3, _⟩ | ⟨a, len, cap, elems, rest, m', rfl, hc3, _, _, hlc, hcm, hel, hget, _, _⟩
 ·exact ⟨_, hc3, [], (fun t ht => by cases ht), Nat.zero_le _, .imm0 _ _ _ _ _ (fun h => by cases h) (Nat.zero_le _)⟩
 refine ⟨_, hc3, ?_⟩
 have each : ∀ i : Nat, ∃ p : α × List Value, i < len → ok p.1 ∧ w.cells? 0 (a.add (i * sz)) sz = some p.2 ∧ p.2.length = sz ∧ ∀ j v, (cells p.1)[j]? = some v → RepC (start w) v (p.2.getD j undef) := by
  intro i
  by_cases hi : i < len
  ·have g := hget i hi
   rw [List.getElem?_eq_getElem (by omega), hC] at g
   obtain ⟨cs', g1, g2⟩ := Option.bind_eq_some_iff.1 g
   obtain ⟨t, t1, t2, t3⟩ := rd m' (by omega) cs' _ g2
   exact ⟨(t, cs'), fun _ => ⟨t1, g1, t2, t3⟩⟩
  exact ⟨default, fun h => absurd h hi⟩
 let pf : Nat → α × List Value := fun i => Classical.choose (each i)
 have hpf : ∀ i, i < len → ok (pf i).1 ∧ w.cells? 0 (a.add (i * sz)) sz = some (pf i).2 ∧ (pf i).2.length = sz ∧ ∀ j v, (cells (pf i).1)[j]? = some v → RepC (start w) v ((pf i).2.getD j undef) := fun i => Classical.choose_spec (each i)
 clear_value pf
 have hcell : ∀ i, i < len → ∀ j, j < sz → w.cell? ((a.add (i * sz)).add j) = some ((pf i).2.getD j undef) := by
  intro i hi j hj
  obtain ⟨_, g1, g2, _⟩ := hpf i hi
  obtain ⟨_, _, g3⟩ := World.cells?_some g1
  have := g3 j hj
  rw [this]
  simp [List.getD_eq_getElem?_getD, List.getElem?_eq_getElem (show j < (pf i).2.length by omega)]
 let ks : List α := (List.range len).map fun i => (pf i).1
 have hkl : ks.length = len := by simp [ks]
 have hkg : ∀ i, i < len → ks[i]? = some (pf i).1 := fun i hi => by simp [ks, hi]
 refine ⟨ks, fun t ht => ?_, by rw [hkl]; omega, ?_⟩
 ·obtain ⟨i, hi, rfl⟩ := List.mem_map.1 ht
  exact (hpf i (List.mem_range.1 hi)).1
 by_cases hl0 : len = 0
 ·have : ks = [] := List.length_eq_zero_iff.1 (by omega)
  rw [this, hl0]
  exact .imm0 _ _ _ _ _ (fun h => by cases h) hcm
 have hspot : a.spot = none := by
  have h00 := hcell 0 (by omega) 0 hs0
  have := spot_of_cell h00
  obtain ⟨b, o, s⟩ := a
  cases s with
  | none => rfl
  | some s => simp [Addr.add] at this
 obtain ⟨b, o, s⟩ := a
 subst hspot
 have hb : b < w.heap.size := by
  have h00 := hcell 0 (by omega) 0 hs0
  rw [add_off, add_off] at h00
  unfold World.cell? at h00
  split at h00
  ·rename_i hh; exact (Array.getElem?_eq_some_iff.1 hh).1
  cases h00
 have hcl : (ks.map cells).length = len := by rw [List.length_map, hkl]
 rw [← hcl]
 have hgetc : ∀ (i : Nat) (e : List AV), (ks.map cells)[i]? = some e → i < len ∧ e = cells (pf i).1 := by
  intro i e he
  have hi : i < len := by rw [← hcl]; exact (List.getElem?_eq_some_iff.1 he).1
  rw [List.getElem?_map, hkg i hi] at he
  exact ⟨hi, (Option.some.inj he).symm⟩
 refine .imm 0 sz false (ks.map cells) b o cap (fun i j => (pf i).2.getD j undef) (fun h => hl0 (by rw [← hcl, h]; rfl)) (start_con hb) (by rw [hcl]; exact hlc) hcm (fun h => by cases h) (fun h => absurd h (by omega)) (fun _ => hb)
  (fun e he => ?_) (fun i e j v hi hj => ?_) (fun i e j v hi hj => ?_) (fun i e j v hi hj => ?_)
 ·obtain ⟨i, hi⟩ := List.mem_iff_getElem?.1 he
  rw [(hgetc i e hi).2]; exact hlen _
 ·obtain ⟨_, rfl⟩ := hgetc i e hi
  exact alld1_at (hd1 _) j v hj
 ·obtain ⟨hi', rfl⟩ := hgetc i e hi
  have hj4 : j < sz := by rw [← hlen (pf i).1]; exact (List.getElem?_eq_some_iff.1 hj).1
  have := hcell i hi' j hj4
  rw [add_off, add_off, Nat.add_assoc] at this
  exact this
 obtain ⟨hi', rfl⟩ := hgetc i e hi
 exact (hpf i hi').2.2.2 j v hj

end

section
open Go.ChangeShapes
theorem read_bytes {H : Type} {enc : TypeId × Value → H} {P : Program} {w : World} {sp : Nat → Bool} {held : Bool} {T TE : TypeId} (hT : P.underlying T = some (.slice TE)) (hTE : P.underlying TE = some (.int .u8)) (hC : P.cellsOf TE = 1)
  {fuel : Nat} {cs : List Value} {x : DataW H × List MemPlace} (h : DataW.trod enc P w 0 sp held fuel T cs = some x) :
  ∃ c, cs = [c] ∧ ∃ ks : List Int, (∀ t ∈ ks, 0 ≤ t ∧ t ≤ 255) ∧ ks.length ≤ maxLen ∧ RepC (start w) (.imm 0 1 false (ks.map fun n => [AV.int .u8 n])) c := by
 refine read_slice (cells := fun (n : Int) => [AV.int .u8 n]) hT hC (by decide) (fun t => rfl) (fun t => rfl) h (fun m _ cs x hx => ?_)
 obtain ⟨k, rfl, _, wk⟩ := DataW.trod_int hTE hx
 refine ⟨k, ?_, rfl, fun j v hj => ?_⟩
 ·simp [Lit.wf, IntKind.min, IntKind.max, IntKind.signed, IntKind.bits] at wk
  omega
 match j, hj with
 | 0, hj => cases hj; exact .int _ _
end

theorem calls_of_law {P : Program} {f : FuncId} {args : List AV} (h : ∀ tk, 2 ≤ tk → ACalls P f args (fun _ => none) tk (RetX (fun _ => none) tk (fun v _ => v = .bool true))) {us : Array Value} {w : World} (hl : us.size = args.length)
  (ha : ∀ j v, args[j]? = some v → RepC (start w) v (us.getD j undef)) (hk : args.all (fun v => argok v) = true) (hi : Inv w.heap.size w) :
  Calls P f us w fun e w' => e = .returned (.bool true) ∧ RowKit.Below w.heap.size w w' := by
 refine ((h 2 (Nat.le_refl _)).2 (start w) us rfl rfl (start_sim w) hi (fun x _ => rfl) hl (fun j v hj => argok_arg (.clo (ha j v hj)) (List.all_eq_true.1 hk v (List.mem_of_getElem? hj)))).mono fun e w' ⟨out, S', q1, q2, q3, q4, q5⟩ => ?_
 obtain ⟨_, _, v, rfl, rfl⟩ := q5
 subst q1
 obtain ⟨u, rfl, hu⟩ := q4
 cases hu
 exact ⟨rfl, start_below q3⟩

end Go.Am
